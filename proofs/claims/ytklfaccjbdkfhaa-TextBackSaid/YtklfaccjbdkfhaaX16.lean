/- The reference's lexeme that begins a string. No condition. -/
import Derived.Test.YtklfaccjbdkfhaaX15
namespace Go.Proofs.Ytklfaccjbdkfhaa
open Go.RowKit
theorem is95 (b : UInt8) : ((b.toNat : Int) == 95) = decide (cl b = 3) := by
  unfold cl clsN
  rw [Bool.eq_iff_iff, beq_iff_eq, decide_eq_true_eq]
  repeat' split
  all_goals omega
theorem put3 {w W : World} {g : Nat} {T : TypeId} {a b c : Value} (h : Blk W g T #[a, b, c]) (hB : Below w.heap.size w W) (hg : w.heap.size ≤ g) (x y z : Value) :
    Blk (((W.setCell ⟨g, 0, none⟩ x).setCell ⟨g, 1, none⟩ y).setCell ⟨g, 2, none⟩ z) g T #[x, y, z] ∧
    Below w.heap.size w (((W.setCell ⟨g, 0, none⟩ x).setCell ⟨g, 1, none⟩ y).setCell ⟨g, 2, none⟩ z) :=
  ⟨((h.set 0 x).set 1 y).set 2 z, ((hB.setCell (p := ⟨g, 0, none⟩) hg x).setCell (p := ⟨g, 1, none⟩) hg y).setCell (p := ⟨g, 2, none⟩) hg z⟩
set_option maxRecDepth 100000 in
set_option maxHeartbeats 3200000 in
theorem rbegins_any (l : List UInt8) (w : World) (hl : l.length ≤ 30000) (h0 : 0 < l.length) :
    Calls Try.prog 35 #[.string ⟨l.toArray⟩] w fun e w' => e = .returned (.agg #[.int .i64 (lexB l).1, .string ⟨(l.take (lexB l).2).toArray⟩, .int .i64 0]) ∧ Below w.heap.size w w' := by
  have hlz : (l.length : Int) ≤ 30000 := by omega
  have hlz0 : (0 : Int) < l.length := by omega
  have HL := Lib.hid (fun (b : UInt8) W => rletter_any b.toNat (UInt8.toNat_lt b) W)
  have HD := Lib.hid (fun (b : UInt8) W => rdigit_any b.toNat (UInt8.toNat_lt b) W)
  have HS := Lib.hid (fun (b : UInt8) W => rsign_any b.toNat (UInt8.toNat_lt b) W)
  have hbl := Blk.new w 31 #[.int .i64 0, .string ⟨#[]⟩, .int .i64 0]
  have hbw := (Below.refl w.heap.size w).alloc (Nat.le_refl _) (.cells #[.int .i64 0, .string ⟨#[]⟩, .int .i64 0] 31)
  have HR := Lib.hid (And.intro hbl hbw)
  have hh : hd l = cl l[0] := by cases l with
    | nil => simp at h0
    | cons b t => rfl
  have hh0 : l.head? = some l[0] := by cases l with
    | nil => simp at h0
    | cons b t => rfl
  have hst : ∀ K, hd l ∈ K → passN K l = 1 + passN K (l.drop 1) := fun K hK => by
    have := passN_in (K := K) (s := l) (m := 0) h0 (by rw [hh] at hK; exact hK)
    simpa using this
  clear hbl hbw
  by_cases c4 : hd l = 4
  · have e : lexB l = (3, 1) := by unfold lexB; rw [if_neg (by omega), if_neg (by omega), if_pos c4]
    have Hs := Lib.hid (HS.out l[0])
    rw [isC_cl, decide_eq_true (by omega)] at Hs
    rw [e]
    clear e hh0 hst HL HD HS hl hh c4
    simp only
    go_enter Try.func35, Try.ntmps35
    go_wp2_with fail
    refine (Hs.out _).mono ?_
    rintro e w1 ⟨rfl, rfl⟩
    obtain ⟨hbl, hbw⟩ := HR.out
    clear HR
    generalize w.alloc (.cells #[.int .i64 0, .string ⟨#[]⟩, .int .i64 0] 31) = W1 at *
    obtain ⟨x0, x1, x2, y0, y1, y2⟩ := cells3 hbl
    have HP := Lib.hid (put3 hbl hbw (Nat.le_refl _) (.int .i64 3) (.string ⟨(l.take 1).toArray⟩) (.int .i64 0))
    clear hbl hbw
    go_wp2_with fail
    refine bodyPost_ret (results_cell_blk rfl _ _ _ _ _ _ rfl HP.out.1 Try.underlying31 rfl (by kernel_rfl)) rfl ?_
    exact ⟨rfl, HP.out.2⟩
  · have Hs := Lib.hid (HS.out l[0])
    rw [isC_cl, decide_eq_false (by omega)] at Hs
    by_cases c1 : hd l = 1
    · obtain ⟨N, hN⟩ : ∃ N, passN [1, 2, 3] l = N := ⟨_, rfl⟩
      have e : lexB l = (1, N) := by unfold lexB; rw [if_pos c1, hN]
      have HN := Lib.hid (show 1 + passN [1, 2, 3] (l.drop 1) = N by rw [← hst _ (by rw [c1]; decide)]; exact hN)
      have hNl : N ≤ l.length := by rw [← hN]; exact passN_le _ _
      have Hl := Lib.hid (HL.out l[0])
      rw [isC_cl, decide_eq_true (by omega)] at Hl
      rw [e]
      clear e hh0 hst HS hl hh c4 c1 hN
      simp only
      go_enter Try.func35, Try.ntmps35
      go_wp2_with fail
      refine (Hs.out _).mono ?_
      rintro e w1 ⟨rfl, rfl⟩
      obtain ⟨hbl, hbw⟩ := HR.out
      clear HR
      generalize w.alloc (.cells #[.int .i64 0, .string ⟨#[]⟩, .int .i64 0] 31) = W1 at *
      obtain ⟨x0, x1, x2, y0, y1, y2⟩ := cells3 hbl
      have HP := Lib.hid (put3 hbl hbw (Nat.le_refl _) (.int .i64 1) (.string ⟨(l.take N).toArray⟩) (.int .i64 0))
      clear hbl hbw
      go_wp2_with fail
      refine (Hl.out _).mono ?_
      rintro e w1 ⟨rfl, rfl⟩
      clear Hs Hl
      go_wp2_with fail
      go_loop [3] (fun a => ∃ m : Nat, 1 ≤ m ∧ m ≤ l.length ∧ a = .int .i64 m ∧ m + passN [1, 2, 3] (l.drop m) = N) (fun a => l.length - (intOf a).toNat)
      case atStart => exact ⟨1, Nat.le_refl _, h0, rfl, HN.out⟩
      case round =>
        obtain ⟨m, h1m, hm, rfl, hmN⟩ := hrel
        have HmN := Lib.hid hmN
        clear hmN HN
        by_cases hlt : m < l.length
        · have HLm := Lib.hid (HL.out l[m])
          have HDm := Lib.hid (HD.out l[m])
          have h95 := is95 l[m]
          rw [isC_cl] at HLm HDm
          have hin : cl l[m] = 1 ∨ cl l[m] = 2 ∨ cl l[m] = 3 → m + 1 + passN [1, 2, 3] (l.drop (m + 1)) = N := fun h => by
            have h2 := passN_in (K := [1, 2, 3]) hlt (by rcases h with h | h | h <;> (rw [show clsN l[m].toNat = cl l[m] from rfl, h]; decide))
            have h3 := HmN.out
            omega
          have hout : ¬ (cl l[m] = 1 ∨ cl l[m] = 2 ∨ cl l[m] = 3) → m = N := fun h => by
            have h2 := passN_out (K := [1, 2, 3]) hlt (by rw [show clsN l[m].toNat = cl l[m] from rfl]; simp; omega)
            have h3 := HmN.out
            omega
          have Hin := Lib.hid hin
          have Hout := Lib.hid hout
          clear hin hout
          by_cases q1 : cl l[m] = 1
          · rw [decide_eq_true q1] at HLm
            have HN2 := Lib.hid (Hin.out (.inl q1))
            clear q1 h95 HDm Hin Hout
            go_wp2_with fail
            refine (HLm.out _).mono ?_
            rintro e w1 ⟨rfl, rfl⟩
            go_wp2_with fail
            go_round
            case rel => exact ⟨m + 1, by omega, by omega, by go_num, HN2.out⟩
            case measure => simp [intOf]; omega
          · rw [decide_eq_false q1] at HLm
            by_cases q2 : cl l[m] = 2
            · rw [decide_eq_true q2] at HDm
              have HN2 := Lib.hid (Hin.out (.inr (.inl q2)))
              clear q1 q2 h95 Hin Hout
              go_wp2_with fail
              refine (HLm.out _).mono ?_
              rintro e w1 ⟨rfl, rfl⟩
              go_wp2_with fail
              refine (HDm.out _).mono ?_
              rintro e w1 ⟨rfl, rfl⟩
              go_wp2_with fail
              go_round
              case rel => exact ⟨m + 1, by omega, by omega, by go_num, HN2.out⟩
              case measure => simp [intOf]; omega
            · rw [decide_eq_false q2] at HDm
              by_cases q3 : cl l[m] = 3
              · rw [decide_eq_true q3] at h95
                have HN2 := Lib.hid (Hin.out (.inr (.inr q3)))
                clear q1 q2 q3 Hin Hout
                go_wp2_with fail
                refine (HLm.out _).mono ?_
                rintro e w1 ⟨rfl, rfl⟩
                go_wp2_with fail
                refine (HDm.out _).mono ?_
                rintro e w1 ⟨rfl, rfl⟩
                go_wp2_with fail
                go_round
                case rel => exact ⟨m + 1, by omega, by omega, by go_num, HN2.out⟩
                case measure => simp [intOf]; omega
              · rw [decide_eq_false q3] at h95
                obtain rfl := Hout.out (by omega)
                clear q1 q2 q3 Hin Hout HmN
                go_wp2_with fail
                refine (HLm.out _).mono ?_
                rintro e w1 ⟨rfl, rfl⟩
                go_wp2_with fail
                refine (HDm.out _).mono ?_
                rintro e w1 ⟨rfl, rfl⟩
                go_wp2_with fail
                refine bodyPost_ret (results_cell_blk rfl _ _ _ _ _ _ rfl HP.out.1 Try.underlying31 rfl (by kernel_rfl)) rfl ?_
                exact ⟨rfl, HP.out.2⟩
        · obtain rfl : m = l.length := by omega
          obtain rfl : l.length = N := by
            have := HmN.out
            rw [List.drop_length] at this
            exact this
          rw [List.take_length] at HP
          clear HmN
          go_wp2_with fail
          refine bodyPost_ret (results_cell_blk rfl _ _ _ _ _ _ rfl HP.out.1 Try.underlying31 rfl (by kernel_rfl)) rfl ?_
          exact ⟨rfl, HP.out.2⟩
    · have Hl := Lib.hid (HL.out l[0])
      rw [isC_cl, decide_eq_false (by omega)] at Hl
      by_cases c2 : hd l = 2
      · obtain ⟨N, hN⟩ : ∃ N, passN [2] l = N := ⟨_, rfl⟩
        have HN := Lib.hid (show 1 + passN [2] (l.drop 1) = N by rw [← hst _ (by rw [c2]; decide)]; exact hN)
        have hNl : N ≤ l.length := by rw [← hN]; exact passN_le _ _
        have EZ : ((l[0].toNat : Int) = 48 ∧ 1 < N) ∨ hd (l.drop N) = 1 ∨ hd (l.drop N) = 3 → lexB l = (0, 0) := fun h => by
          unfold lexB
          rw [if_neg (by omega), if_pos c2, hN, if_pos]
          refine h.imp (fun ⟨h1, h2⟩ => ⟨?_, h2⟩) id
          rw [hh0, show l[0] = 48 from UInt8.toNat_inj.1 (by rw [show (48 : UInt8).toNat = 48 from rfl]; omega)]
        have EN : ¬ (((l[0].toNat : Int) = 48 ∧ 1 < N) ∨ hd (l.drop N) = 1 ∨ hd (l.drop N) = 3) → lexB l = (2, N) := fun h => by
          unfold lexB
          rw [if_neg (by omega), if_pos c2, hN, if_neg]
          intro h2
          refine h (h2.imp (fun ⟨h1, h3⟩ => ⟨?_, h3⟩) id)
          rw [hh0] at h1
          rw [Option.some.inj h1]
          rfl
        have hE := Lib.hid EZ
        have hF := Lib.hid EN
        have Hd := Lib.hid (HD.out l[0])
        rw [isC_cl, decide_eq_true (by omega)] at Hd
        clear EZ EN hh0 hst HS hl hh c4 c1 c2 hN
        go_enter Try.func35, Try.ntmps35
        go_wp2_with fail
        refine (Hs.out _).mono ?_
        rintro e w1 ⟨rfl, rfl⟩
        obtain ⟨hbl, hbw⟩ := HR.out
        clear HR
        generalize w.alloc (.cells #[.int .i64 0, .string ⟨#[]⟩, .int .i64 0] 31) = W1 at *
        obtain ⟨x0, x1, x2, y0, y1, y2⟩ := cells3 hbl
        have HP := Lib.hid (put3 hbl hbw (Nat.le_refl _) (.int .i64 2) (.string ⟨(l.take N).toArray⟩) (.int .i64 0))
        have HZ := Lib.hid (put3 hbl hbw (Nat.le_refl _) (.int .i64 0) (.string ⟨#[]⟩) (.int .i64 0))
        clear hbl hbw
        go_wp2_with fail
        refine (Hl.out _).mono ?_
        rintro e w1 ⟨rfl, rfl⟩
        go_wp2_with fail
        refine (Hd.out _).mono ?_
        rintro e w1 ⟨rfl, rfl⟩
        clear Hs Hl Hd
        go_wp2_with fail
        go_loop [3] (fun a => ∃ m : Nat, 1 ≤ m ∧ m ≤ l.length ∧ a = .int .i64 m ∧ m + passN [2] (l.drop m) = N) (fun a => l.length - (intOf a).toNat)
        case atStart => exact ⟨1, Nat.le_refl _, h0, rfl, HN.out⟩
        case round =>
          obtain ⟨m, h1m, hm, rfl, hmN⟩ := hrel
          have HmN := Lib.hid hmN
          clear hmN HN
          by_cases hlt : m < l.length
          · have HLm := Lib.hid (HL.out l[m])
            have HDm := Lib.hid (HD.out l[m])
            have h95 := is95 l[m]
            rw [isC_cl] at HLm HDm
            have hdm : hd (l.drop m) = cl l[m] := hd_at hlt
            have hin : cl l[m] = 2 → m + 1 + passN [2] (l.drop (m + 1)) = N := fun h => by
              have h2 := passN_in (K := [2]) hlt (by rw [show clsN l[m].toNat = cl l[m] from rfl, h]; decide)
              have h3 := HmN.out
              omega
            have hout : cl l[m] ≠ 2 → m = N := fun h => by
              have h2 := passN_out (K := [2]) hlt (by rw [show clsN l[m].toNat = cl l[m] from rfl]; simp; omega)
              have h3 := HmN.out
              omega
            have Hin := Lib.hid hin
            have Hout := Lib.hid hout
            clear hin hout
            by_cases q2 : cl l[m] = 2
            · rw [decide_eq_true q2] at HDm
              have HN2 := Lib.hid (Hin.out q2)
              clear q2 h95 HLm Hin Hout hdm
              go_wp2_with fail
              refine (HDm.out _).mono ?_
              rintro e w1 ⟨rfl, rfl⟩
              go_wp2_with fail
              go_round
              case rel => exact ⟨m + 1, by omega, by omega, by go_num, HN2.out⟩
              case measure => simp [intOf]; omega
            · rw [decide_eq_false q2] at HDm
              obtain rfl := Hout.out q2
              clear Hin Hout HmN
              by_cases z : (l[0].toNat : Int) = 48 ∧ 1 < m
              · have hz1 : ((l[0].toNat : Int) == 48) = true := by rw [beq_iff_eq]; exact z.1
                have hz2 : (1 : Int) < m := by omega
                have HE := Lib.hid (hE.out (.inl z))
                clear z h95 hdm q2 hE hF
                go_wp2_with fail
                refine (HDm.out _).mono ?_
                rintro e w1 ⟨rfl, rfl⟩
                go_wp2_with fail
                refine bodyPost_ret (results_cell_blk rfl _ _ _ _ _ _ rfl HZ.out.1 Try.underlying31 rfl (by kernel_rfl)) rfl ?_
                rw [HE.out]
                exact ⟨rfl, HZ.out.2⟩
              · have hzc : ((l[0].toNat : Int) == 48) = false ∨ ((l[0].toNat : Int) == 48) = true ∧ m = 1 := by
                  by_cases h : (l[0].toNat : Int) = 48
                  · exact .inr ⟨by rw [beq_iff_eq]; exact h, by omega⟩
                  · exact .inl (by rw [beq_eq_false_iff_ne]; exact h)
                by_cases q1 : cl l[m] = 1
                · rw [decide_eq_true q1] at HLm
                  have HE := Lib.hid (hE.out (.inr (.inl (by omega))))
                  clear z h95 hdm q1 q2 hE hF
                  rcases hzc with hz1 | ⟨hz1, rfl⟩
                  all_goals
                    go_wp2_with fail
                    refine (HDm.out _).mono ?_
                    rintro e w1 ⟨rfl, rfl⟩
                    go_wp2_with fail
                    refine (HLm.out _).mono ?_
                    rintro e w1 ⟨rfl, rfl⟩
                    go_wp2_with fail
                    refine bodyPost_ret (results_cell_blk rfl _ _ _ _ _ _ rfl HZ.out.1 Try.underlying31 rfl (by kernel_rfl)) rfl ?_
                    rw [HE.out]
                    exact ⟨rfl, HZ.out.2⟩
                · rw [decide_eq_false q1] at HLm
                  by_cases q3 : cl l[m] = 3
                  · rw [decide_eq_true q3] at h95
                    have HE := Lib.hid (hE.out (.inr (.inr (by omega))))
                    clear z hdm q1 q2 q3 hE hF
                    rcases hzc with hz1 | ⟨hz1, rfl⟩
                    all_goals
                      go_wp2_with fail
                      refine (HDm.out _).mono ?_
                      rintro e w1 ⟨rfl, rfl⟩
                      go_wp2_with fail
                      refine (HLm.out _).mono ?_
                      rintro e w1 ⟨rfl, rfl⟩
                      go_wp2_with fail
                      refine bodyPost_ret (results_cell_blk rfl _ _ _ _ _ _ rfl HZ.out.1 Try.underlying31 rfl (by kernel_rfl)) rfl ?_
                      rw [HE.out]
                      exact ⟨rfl, HZ.out.2⟩
                  · rw [decide_eq_false q3] at h95
                    have HE := Lib.hid (hF.out (by omega))
                    clear z hdm q1 q2 q3 hE hF
                    rcases hzc with hz1 | ⟨hz1, rfl⟩
                    all_goals
                      go_wp2_with fail
                      refine (HDm.out _).mono ?_
                      rintro e w1 ⟨rfl, rfl⟩
                      go_wp2_with fail
                      refine (HLm.out _).mono ?_
                      rintro e w1 ⟨rfl, rfl⟩
                      go_wp2_with fail
                      refine bodyPost_ret (results_cell_blk rfl _ _ _ _ _ _ rfl HP.out.1 Try.underlying31 rfl (by kernel_rfl)) rfl ?_
                      rw [HE.out]
                      exact ⟨rfl, HP.out.2⟩
          · obtain rfl : m = l.length := by omega
            obtain rfl : l.length = N := by
              have := HmN.out
              rw [List.drop_length] at this
              exact this
            rw [List.take_length] at HP
            have hdm : hd (l.drop l.length) = 0 := by rw [List.drop_length]; rfl
            clear HmN
            by_cases z : (l[0].toNat : Int) = 48 ∧ 1 < l.length
            · have hz1 : ((l[0].toNat : Int) == 48) = true := by rw [beq_iff_eq]; exact z.1
              have hz2 : (1 : Int) < l.length := by omega
              have HE := Lib.hid (hE.out (.inl z))
              clear z hdm hE hF
              go_wp2_with fail
              refine bodyPost_ret (results_cell_blk rfl _ _ _ _ _ _ rfl HZ.out.1 Try.underlying31 rfl (by kernel_rfl)) rfl ?_
              rw [HE.out]
              exact ⟨rfl, HZ.out.2⟩
            · have hzc : ((l[0].toNat : Int) == 48) = false ∨ ((l[0].toNat : Int) == 48) = true ∧ (l.length : Int) ≤ 1 := by
                by_cases h : (l[0].toNat : Int) = 48
                · exact .inr ⟨by rw [beq_iff_eq]; exact h, by omega⟩
                · exact .inl (by rw [beq_eq_false_iff_ne]; exact h)
              have HE := Lib.hid (hF.out (by omega))
              clear z hdm hE hF
              rcases hzc with hz1 | ⟨hz1, hz2⟩
              all_goals
                go_wp2_with fail
                refine bodyPost_ret (results_cell_blk rfl _ _ _ _ _ _ rfl HP.out.1 Try.underlying31 rfl (by kernel_rfl)) rfl ?_
                rw [HE.out]
                simp only
                rw [List.take_length]
                exact ⟨rfl, HP.out.2⟩
      · have e : lexB l = (0, 0) := by unfold lexB; rw [if_neg (by omega), if_neg (by omega), if_neg (by omega)]
        have Hd := Lib.hid (HD.out l[0])
        rw [isC_cl, decide_eq_false (by omega)] at Hd
        rw [e]
        clear e hh0 hst HS hl hh c4 c1 c2
        simp only
        go_enter Try.func35, Try.ntmps35
        go_wp2_with fail
        refine (Hs.out _).mono ?_
        rintro e w1 ⟨rfl, rfl⟩
        obtain ⟨hbl, hbw⟩ := HR.out
        clear HR
        generalize w.alloc (.cells #[.int .i64 0, .string ⟨#[]⟩, .int .i64 0] 31) = W1 at *
        obtain ⟨x0, x1, x2, y0, y1, y2⟩ := cells3 hbl
        have HZ := Lib.hid (put3 hbl hbw (Nat.le_refl _) (.int .i64 0) (.string ⟨#[]⟩) (.int .i64 0))
        clear hbl hbw
        go_wp2_with fail
        refine (Hl.out _).mono ?_
        rintro e w1 ⟨rfl, rfl⟩
        go_wp2_with fail
        refine (Hd.out _).mono ?_
        rintro e w1 ⟨rfl, rfl⟩
        go_wp2_with fail
        refine bodyPost_ret (results_cell_blk rfl _ _ _ _ _ _ rfl HZ.out.1 Try.underlying31 rfl (by kernel_rfl)) rfl ?_
        exact ⟨rfl, HZ.out.2⟩
end Go.Proofs.Ytklfaccjbdkfhaa
