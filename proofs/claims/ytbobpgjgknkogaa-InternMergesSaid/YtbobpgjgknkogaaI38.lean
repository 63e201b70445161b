/- law06: InternMerges. No condition. -/
import Derived.Test.YtbobpgjgknkogaaI37
namespace Go.Proofs.Ytbobpgjgknkogaa
open Go.RowKit Go.Maps
section
variable {v : World} {gX : Nat} {A Ab Aw : Option Addr} {cap capb capw D : Nat} {a b : List (List UInt8)} {ws : List Int}
theorem own1 (hX : TA v gX A cap a) (hn : a.length ≤ 1000) (X : World) (zs : List Nat) (hz : ZB v X zs) : Calls Try.prog 11 #[.agg #[.slice A a.length cap]] X fun e w' => ∃ A7 c7, e = .returned (.agg #[.slice A7 a.length c7]) ∧ P1 v w' zs a A7 c7 := by
  refine (lown_any A cap X.heap.size a X (hX.2.upon hz.below) (Nat.le_refl _) hn).mono ?_
  rintro e w' ⟨⟨A7, c7, rfl, s7⟩, hb⟩
  exact ⟨A7, c7, rfl, hz.step hb, s7⟩
theorem own2 (hX : TA v gX Ab capb b) (hn : b.length ≤ 1000) (X : World) (zs : List Nat) (A7 : Option Addr) (c7 : Nat) (hp : P1 v X zs a A7 c7) : Calls Try.prog 11 #[.agg #[.slice Ab b.length capb]] X fun e w' => ∃ A8 c8, e = .returned (.agg #[.slice A8 b.length c8]) ∧ P2 v w' zs a b A7 c7 A8 c8 := by
  refine (lown_any Ab capb X.heap.size b X (hX.2.upon hp.1.below) (Nat.le_refl _) hn).mono ?_
  rintro e w' ⟨⟨A8, c8, rfl, s8⟩, hb⟩
  exact ⟨A8, c8, rfl, hp.step hb, s8⟩
theorem own3 (hS : Sl v v.heap.size 1 Aw ws.length capw (ws.map intV)) (hn : ws.length ≤ 1000) (X : World) (zs : List Nat) (A7 : Option Addr) (c7 : Nat) (A8 : Option Addr) (c8 : Nat) (hp : P2 v X zs a b A7 c7 A8 c8) : Calls Try.prog 25 #[.slice Aw ws.length capw] X fun e w' => ∃ A9 c9, e = .returned (.slice A9 ws.length c9) ∧ P3 v w' zs a b ws A7 c7 A8 c8 A9 c9 := by
  refine (OwnInts_any Aw capw X.heap.size ws X (hS.upon hp.1.1.below) (Nat.le_refl _) (by omega)).mono ?_
  rintro e w' ⟨⟨A9, c9, rfl, s9⟩, hb⟩
  exact ⟨A9, c9, rfl, hp.step hb, s9⟩
end
theorem sameI (A1 A2 : Option Addr) (c1 c2 : Nat) (xs : List Int) (hl : xs.length ≤ 1000) (W : World) (h1 : Sl W W.heap.size 1 A1 xs.length c1 (xs.map intV)) (h2 : Sl W W.heap.size 1 A2 xs.length c2 (xs.map intV)) :
    Calls Try.prog 28 #[.slice A1 xs.length c1, .slice A2 xs.length c2] W fun e w' => e = .returned (.bool true) ∧ Below W.heap.size W w' := by
  refine (SameInts_any A1 A2 c1 c2 W.heap.size xs xs W h1 h2 (by omega) (by omega)).mono ?_
  rintro e w' ⟨rfl, n, rfl⟩
  exact ⟨by rw [decide_eq_true (rfl : xs = xs)], rfl, rfl, rfl, Nat.le_refl _, fun _ _ => rfl⟩
theorem slFar {w : World} {n cap g : Nat} {A A' : Option Addr} {n' c' : Nat} {xs : List Int} (h : Sl w w.heap.size 1 A n cap (xs.map intV)) (hb : Blk w g 24 #[.slice A' n' c']) (u : Value) : Sl (w.setCell ⟨g, 0, none⟩ u) (w.setCell ⟨g, 0, none⟩ u).heap.size 1 A n cap (xs.map intV) := by
  rw [World.size_setCell]
  exact h.farG hb (tab_int xs) 0 u
theorem mergeR_len (l b : List (List UInt8)) : (mergeR l b).1.length ≤ l.length + b.length ∧ (mergeR l b).2.1.length ≤ b.length := by
  have h : ∀ (b l : List (List UInt8)) (er : Int), (mrg l er b).1.length ≤ l.length + b.length ∧ (mrg l er b).2.1.length ≤ b.length := by
    intro b
    induction b with
    | nil => intro l er; exact ⟨by simp [mrg], by simp [mrg]⟩
    | cons s b ih =>
      intro l er
      have h1 := ih (putL l s) (putEr l er s)
      have h2 : (putL l s).length ≤ l.length + 1 := by
        unfold putL
        split
        · omega
        · split
          · omega
          · simp
      refine ⟨?_, ?_⟩
      · show (mrg (putL l s) (putEr l er s) b).1.length ≤ _
        simp only [List.length_cons]
        omega
      · show (putN l s :: (mrg (putL l s) (putEr l er s) b).2.1).length ≤ _
        simp only [List.length_cons]
        omega
  unfold mergeR
  split
  · exact ⟨Nat.zero_le _, Nat.zero_le _⟩
  split
  · exact ⟨Nat.zero_le _, Nat.zero_le _⟩
  split
  · exact ⟨Nat.zero_le _, Nat.zero_le _⟩
  · exact h b l 0
theorem keepR_len (l : List (List UInt8)) (ws : List Int) : (keepR l ws).1.length ≤ ws.length := by
  unfold keepR
  split
  · exact Nat.zero_le _
  split
  · exact Nat.zero_le _
  split
  · exact Nat.zero_le _
  · exact Nat.le_of_eq (keepL_len l ws)
set_option maxRecDepth 100000 in
set_option maxHeartbeats 51200000 in
theorem InternMerges_any (A Ab Aw : Option Addr) (cap capb capw : Nat) (a b : List (List UInt8)) (ws : List Int) (w : World) (hS : Sl w w.heap.size 1 A a.length cap (a.map strV)) (hSb : Sl w w.heap.size 1 Ab b.length capb (b.map strV)) (hSw : Sl w w.heap.size 1 Aw ws.length capw (ws.map intV)) (hl : ∀ s ∈ a, s.length ≤ maxLen) (hlb : ∀ s ∈ b, s.length ≤ maxLen) :
    Calls Try.prog 4 #[.agg #[.slice A a.length cap], .agg #[.slice Ab b.length capb], .slice Aw ws.length capw] w fun e w' => e = .returned (.bool true) ∧ Below w.heap.size w w' := by
  have hwm : ws.length ≤ 9223372036854775807 := by have h1 := hSw.2.1; have h2 := hSw.2.2.1; simp only [maxLen] at h2; omega
  have hb1 := (Below.refl w.heap.size w).alloc (Nat.le_refl _) (.cells #[.slice A a.length cap] 24)
  have hb2 := hb1.alloc hb1.size (.cells #[.slice Ab b.length capb] 24)
  have hX : TA ((w.alloc (.cells #[.slice A a.length cap] 24)).alloc (.cells #[.slice Ab b.length capb] 24)) w.heap.size A cap a := ⟨(Blk.new w _ _).alloc _, hS.upon hb2⟩
  have hY : TA ((w.alloc (.cells #[.slice A a.length cap] 24)).alloc (.cells #[.slice Ab b.length capb] 24)) (w.heap.size + 1) Ab capb b := ⟨Blk.newAt _ _ _ (by simp), hSb.upon hb2⟩
  have HL1 := Lib.hid (light_any A cap _ a _ hX.2 (Nat.le_refl _) hl)
  have HL2 := Lib.hid (fun W h => light_any Ab capb W.heap.size b W h (Nat.le_refl _) hlb)
  have HAw := Lib.hid awake_any
  have hq := light_yes (l := a)
  have hq2 := light_yes (l := b)
  generalize lightB a = q at *
  generalize lightB b = q2 at *
  have HX := Lib.hid hX
  have HY := Lib.hid hY
  have HW := Lib.hid (hSw.upon hb2)
  have HB := Lib.hid hb2
  clear hS hSb hSw hX hY hb1 hb2 hl hlb
  go_enter Try.func4, Try.ntmps4
  have qHX := HX.out.cell
  go_wp2_with fail
  clear qHX
  refine HL1.out.mono ?_
  rintro e w1 ⟨rfl, hb1⟩
  have HXn := Lib.hid (HX.out.on hb1)
  clear HX
  have HX := HXn
  clear HXn
  have HYn := Lib.hid (HY.out.on hb1)
  clear HY
  have HY := HYn
  clear HYn
  have HWn := Lib.hid (HW.out.upon hb1)
  clear HW
  have HW := HWn
  clear HWn
  have HBn := Lib.hid (below_on HB.out hb1 (Nat.le_refl _))
  clear HB
  have HB := HBn
  clear HBn
  clear hb1 HL1
  cases q
  · clear hq hq2 HL2
    go_wp2_with fail
    refine (HAw.out _).mono ?_
    rintro e w9 ⟨rfl, hb9⟩
    have HB9 := Lib.hid (below_on HB.out hb9 (Nat.le_refl _))
    clear hb9
    go_wp2_with fail
    go_ret
    exact ⟨rfl, HB9.out⟩
  · obtain ⟨ha40, ha30⟩ := hq rfl
    clear hq
    have qHY := HY.out.cell
    go_wp2_with fail
    clear qHY
    refine (HL2.out _ HY.out.2).mono ?_
    rintro e w2 ⟨rfl, hb2⟩
    have HXn := Lib.hid (HX.out.on hb2)
    clear HX
    have HX := HXn
    clear HXn
    have HYn := Lib.hid (HY.out.on hb2)
    clear HY
    have HY := HYn
    clear HYn
    have HWn := Lib.hid (HW.out.upon hb2)
    clear HW
    have HW := HWn
    clear HWn
    have HBn := Lib.hid (below_on HB.out hb2 (Nat.le_refl _))
    clear HB
    have HB := HBn
    clear HBn
    clear hb2 HL2
    cases q2
    · clear hq2
      go_wp2_with fail
      refine (HAw.out _).mono ?_
      rintro e w9 ⟨rfl, hb9⟩
      have HB9 := Lib.hid (below_on HB.out hb9 (Nat.le_refl _))
      clear hb9
      go_wp2_with fail
      go_ret
      exact ⟨rfl, HB9.out⟩
    · obtain ⟨hb40, hb30⟩ := hq2 rfl
      clear hq2
      by_cases hw40 : 40 < ws.length
      · have hz : (40 : Int) < ws.length := by omega
        go_wp2_with fail
        refine (HAw.out _).mono ?_
        rintro e w9 ⟨rfl, hb9⟩
        have HB9 := Lib.hid (below_on HB.out hb9 (Nat.le_refl _))
        clear hb9
        go_wp2_with fail
        go_ret
        exact ⟨rfl, HB9.out⟩
      · have hz : ¬ (40 : Int) < ws.length := by omega
        have ha1 : a.length ≤ 1000 := by omega
        have hb1 : b.length ≤ 1000 := by omega
        have hw1 : ws.length ≤ 1000 := by omega
        have ham : ∀ s ∈ a, s.length ≤ maxLen := fun x hx => Nat.le_trans (ha30 x hx) (by decide)
        have hbm : ∀ s ∈ b, s.length ≤ maxLen := fun x hx => Nat.le_trans (hb30 x hx) (by decide)
        have K1 := Lib.hid (fun A Ab c cb W h h2 => Merge_any A Ab c cb W.heap.size a b W h h2 (Nat.le_refl _) ha1 hb1 ham hbm)
        have K2 := Lib.hid (fun A Ab c cb W h h2 => rMerge_any A Ab c cb W.heap.size a b W h h2 (Nat.le_refl _) ha1 hb1 ham hbm)
        have K3 := Lib.hid (fun A Aw c cw W h h2 => Keep_any A Aw c cw W.heap.size a ws W h h2 (Nat.le_refl _) ha1 hw1 ham)
        have K4 := Lib.hid (fun A Aw c cw W h h2 => rKeep_any A Aw c cw W.heap.size a ws W h h2 (Nat.le_refl _) ha1 hw1 ham)
        have e1 := mergeR_len a b
        have e2 := keepR_len a ws
        unfold mergePost at K1 K2
        unfold tab2Post at K3 K4
        generalize mergeR a b = RM at *
        generalize keepR a ws = RK at *
        have z1 : RM.1.length ≤ 1000 := by omega
        have z2 : RM.2.1.length ≤ 1000 := by omega
        have z3 : RK.1.length ≤ 1000 := by omega
        clear e1 e2 ha40 ha30 hb40 hb30 ham hbm hw40
        go_upto_region 3 with fail
        clear hz
        go_cut [7, 8, 9] from 16 to 35 (fun s7 s8 s9 wx => ∃ g7 A7 c7 g8 A8 c8 A9 c9, s7 = .pointer (some ⟨g7, 0, none⟩) ∧ s8 = .pointer (some ⟨g8, 0, none⟩) ∧ s9 = .slice A9 ws.length c9 ∧ OUT w2 wx g7 g8 a b ws A7 c7 A8 c8 A9 c9)
        case first =>
          have E1 := Lib.hid (own1 HX.out ha1)
          have E2 := Lib.hid (fun X zs A7 c7 (h : P1 w2 X zs a A7 c7) => own2 HY.out hb1 X zs A7 c7 h)
          have E3 := Lib.hid (fun X zs A7 c7 A8 c8 (h : P2 w2 X zs a b A7 c7 A8 c8) => own3 HW.out hw1 X zs A7 c7 A8 c8 h)
          have hgx := HX.out.1.lt
          have hgy := HY.out.1.lt
          have qx := HX.out.cell
          have qy := HY.out.cell
          have F2 := Lib.hid (fun X (hX : Below w2.heap.size w2 X) => And.intro ((hX.cell (p := ⟨w.heap.size, 0, none⟩) hgx).trans qx) ((hX.cell (p := ⟨w.heap.size + 1, 0, none⟩) hgy).trans qy))
          have hz0 : ZB w2 w2.drew [] := (Below.refl w2.heap.size w2).drew
          have hz1 : ZB w2 (w2.drew.alloc (.cells #[.slice none 0 0] 24)) [w2.heap.size] := hz0.alloc
          have hz2 : ZB w2 ((w2.drew.alloc (.cells #[.slice none 0 0] 24)).alloc (.cells #[.slice none 0 0] 24)) [w2.heap.size + 1, w2.heap.size] := hz0.alloc2
          clear HX HY HW HB hgx hgy qx qy K1 K2 K3 K4 HAw
          go_wp2_with fail
          go_region_held3 (fun X => X.cell? ⟨w.heap.size, 0, none⟩ = some (.slice A a.length cap) ∧ X.cell? ⟨w.heap.size + 1, 0, none⟩ = some (.slice Ab b.length capb))
            (exact F2.out _ (by repeat (first | exact hp3.1.1.1.below | exact hp2.1.1.below | exact hp1.1.below | exact hz0.below | exact Below.refl _ _ | refine Below.drew ?_ | refine bel_alloc ?_ _ | (refine bel_set ?_ _ ?_; rotate_left; (first | assumption | (have := hp3.1.1.1.below.size; omega))))))
            (first
              | (go_at_call 11; (first | refine (E1.out _ _ hz0).mono ?_ | refine (E1.out _ _ hz1).mono ?_ | refine (E1.out _ _ hz2).mono ?_); rintro e x1 ⟨A7, c7, rfl, hp1⟩)
              | (go_at_call 11; (first | refine (E2.out _ _ _ _ hp1).mono ?_ | refine (E2.out _ _ _ _ hp1.alloc).mono ?_ | refine (E2.out _ _ _ _ hp1.alloc2).mono ?_); rintro e x2 ⟨A8, c8, rfl, hp2⟩)
              | (go_at_call 25; (first | refine (E3.out _ _ _ _ _ _ hp2).mono ?_ | refine (E3.out _ _ _ _ _ _ hp2.alloc).mono ?_ | refine (E3.out _ _ _ _ _ _ hp2.alloc2).mono ?_); rintro e x3 ⟨A9, c9, rfl, hp3⟩; (first | (obtain ⟨⟨yy1, yy2, yy3, yy4⟩, ⟨yy5, yy6, yy7, yy8⟩, ⟨yy9, yy10⟩, ⟨yy11, yy12⟩, yy13⟩ := ZB.two hp3.1.1.1 (.slice A7 a.length c7)) | (obtain ⟨yy1, yy2, yy3, yy4⟩ := ZB.one hp3.1.1.1) | (have hnil : ZB w2 x3 [] := hp3.1.1.1))))
          all_goals have HP3 := Lib.hid hp3
          all_goals clear hp3 hp2 hp1 hz0 hz1 hz2
          all_goals try clear yy5 yy6 yy7 yy8 yy9 yy10 yy11 yy12 yy13
          all_goals try clear yy1 yy2 yy3 yy4
          all_goals try clear hnil
          all_goals go_wp2_with fail
          all_goals go_meet
          · exact ⟨_, _, _, _, _, _, _, _, rfl, rfl, rfl, out2a HP3.out⟩
          · exact ⟨_, _, _, _, _, _, _, _, rfl, rfl, rfl, out2b HP3.out⟩
          · exact ⟨_, _, _, _, _, _, _, _, rfl, rfl, rfl, out1a HP3.out⟩
          · exact ⟨_, _, _, _, _, _, _, _, rfl, rfl, rfl, out0b HP3.out⟩
          · exact ⟨_, _, _, _, _, _, _, _, rfl, rfl, rfl, out1b HP3.out⟩
          · exact ⟨_, _, _, _, _, _, _, _, rfl, rfl, rfl, out0a HP3.out⟩
          · exact ⟨_, _, _, _, _, _, _, _, rfl, rfl, rfl, out1a HP3.out⟩
          · exact ⟨_, _, _, _, _, _, _, _, rfl, rfl, rfl, out0b HP3.out⟩
          · exact ⟨_, _, _, _, _, _, _, _, rfl, rfl, rfl, out0b HP3.out⟩
          · exact ⟨_, _, _, _, _, _, _, _, rfl, rfl, rfl, out1b HP3.out⟩
          · exact ⟨_, _, _, _, _, _, _, _, rfl, rfl, rfl, out0a HP3.out⟩
          · exact ⟨_, _, _, _, _, _, _, _, rfl, rfl, rfl, out0a HP3.out⟩
          · exact ⟨_, _, _, _, _, _, _, _, rfl, rfl, rfl, out1a HP3.out⟩
          · exact ⟨_, _, _, _, _, _, _, _, rfl, rfl, rfl, out0b HP3.out⟩
          · exact ⟨_, _, _, _, _, _, _, _, rfl, rfl, rfl, out0b HP3.out⟩
          · exact ⟨_, _, _, _, _, _, _, _, rfl, rfl, rfl, out0b HP3.out⟩
          · exact ⟨_, _, _, _, _, _, _, _, rfl, rfl, rfl, out1b HP3.out⟩
          · exact ⟨_, _, _, _, _, _, _, _, rfl, rfl, rfl, out0a HP3.out⟩
          · exact ⟨_, _, _, _, _, _, _, _, rfl, rfl, rfl, out0a HP3.out⟩
          · exact ⟨_, _, _, _, _, _, _, _, rfl, rfl, rfl, out0a HP3.out⟩
        case rest =>
        obtain ⟨g7, A7, c7, g8, A8, c8, A9, c9, rfl, rfl, rfl, hO⟩ := hcut
        have hw3 := HX.out.1.lt
        have hw4 := HY.out.1.lt
        have HOut := Lib.hid hO
        have hbo := hO.2.2.2.1
        clear hO
        have HXn := Lib.hid (HX.out.on hbo)
        clear HX
        have HX := HXn
        clear HXn
        have HYn := Lib.hid (HY.out.on hbo)
        clear HY
        have HY := HYn
        clear HYn
        have HWn := Lib.hid (HW.out.upon hbo)
        clear HW
        have HW := HWn
        clear HWn
        have HBn := Lib.hid (below_on HB.out hbo (Nat.le_refl _))
        clear HB
        have HB := HBn
        clear HBn
        have HH := Lib.hid HOut.out.1
        have HK := Lib.hid HOut.out.2.1
        have HN := Lib.hid HOut.out.2.2.1
        have ne_HX_HY : w.heap.size ≠ w.heap.size + 1 := by omega
        have ne_HX_HH : w.heap.size ≠ g7 := by have := HOut.out.2.2.2.2.1; omega
        have ne_HX_HK : w.heap.size ≠ g8 := by have := HOut.out.2.2.2.2.2.1; omega
        have ne_HY_HH : w.heap.size + 1 ≠ g7 := by have := HOut.out.2.2.2.2.1; omega
        have ne_HY_HK : w.heap.size + 1 ≠ g8 := by have := HOut.out.2.2.2.2.2.1; omega
        have ne_HH_HK : g7 ≠ g8 := HOut.out.2.2.2.2.2.2
        clear hbo HOut hw3 hw4
        have qHH := HH.out.cell
        have qHK := HK.out.cell
        go_wp2_with fail
        clear qHH qHK
        have Q := Lib.hid (K1.out _ _ _ _ _ HH.out.2 HK.out.2)
        refine Q.out.mono ?_
        rintro e w21 ⟨⟨A21, c21, B21, d21, rfl, s21, i21⟩, hb21⟩
        clear Q
        have HXn := Lib.hid (HX.out.on hb21)
        clear HX
        have HX := HXn
        clear HXn
        have HYn := Lib.hid (HY.out.on hb21)
        clear HY
        have HY := HYn
        clear HYn
        have HHn := Lib.hid (HH.out.on hb21)
        clear HH
        have HH := HHn
        clear HHn
        have HKn := Lib.hid (HK.out.on hb21)
        clear HK
        have HK := HKn
        clear HKn
        have HWn := Lib.hid (HW.out.upon hb21)
        clear HW
        have HW := HWn
        clear HWn
        have HNn := Lib.hid (HN.out.upon hb21)
        clear HN
        have HN := HNn
        clear HNn
        have HBn := Lib.hid (below_on HB.out hb21 (Nat.le_refl _))
        clear HB
        have HB := HBn
        clear HBn
        clear hb21
        have HI := Lib.hid i21
        clear i21
        have hbt := (Below.refl w21.heap.size w21).alloc (Nat.le_refl _) (.cells #[.slice A21 RM.1.length c21] 24)
        have hgeHA : w.heap.size ≤ w21.heap.size := HB.out.size
        have ne_HX_HA : w.heap.size ≠ w21.heap.size := Nat.ne_of_lt HX.out.1.lt
        have ne_HY_HA : (w.heap.size + 1) ≠ w21.heap.size := Nat.ne_of_lt HY.out.1.lt
        have ne_HH_HA : g7 ≠ w21.heap.size := Nat.ne_of_lt HH.out.1.lt
        have ne_HK_HA : g8 ≠ w21.heap.size := Nat.ne_of_lt HK.out.1.lt
        have HXn := Lib.hid (HX.out.on hbt)
        clear HX
        have HX := HXn
        clear HXn
        have HYn := Lib.hid (HY.out.on hbt)
        clear HY
        have HY := HYn
        clear HYn
        have HHn := Lib.hid (HH.out.on hbt)
        clear HH
        have HH := HHn
        clear HHn
        have HKn := Lib.hid (HK.out.on hbt)
        clear HK
        have HK := HKn
        clear HKn
        have HWn := Lib.hid (HW.out.upon hbt)
        clear HW
        have HW := HWn
        clear HWn
        have HNn := Lib.hid (HN.out.upon hbt)
        clear HN
        have HN := HNn
        clear HNn
        have HIn := Lib.hid (HI.out.upon hbt)
        clear HI
        have HI := HIn
        clear HIn
        have HBn := Lib.hid (below_on HB.out hbt (Nat.le_refl _))
        clear HB
        have HB := HBn
        clear HBn
        clear hbt
        have HA := Lib.hid (TA.new s21)
        clear s21
        have qHX := HX.out.cell
        have qHY := HY.out.cell
        go_wp2_with fail
        clear qHX qHY
        have Q := Lib.hid (K2.out _ _ _ _ _ HX.out.2 HY.out.2)
        refine Q.out.mono ?_
        rintro e w22 ⟨⟨A22, c22, B22, d22, rfl, s22, i22⟩, hb22⟩
        clear Q
        have HXn := Lib.hid (HX.out.on hb22)
        clear HX
        have HX := HXn
        clear HXn
        have HYn := Lib.hid (HY.out.on hb22)
        clear HY
        have HY := HYn
        clear HYn
        have HHn := Lib.hid (HH.out.on hb22)
        clear HH
        have HH := HHn
        clear HHn
        have HKn := Lib.hid (HK.out.on hb22)
        clear HK
        have HK := HKn
        clear HKn
        have HWn := Lib.hid (HW.out.upon hb22)
        clear HW
        have HW := HWn
        clear HWn
        have HNn := Lib.hid (HN.out.upon hb22)
        clear HN
        have HN := HNn
        clear HNn
        have HIn := Lib.hid (HI.out.upon hb22)
        clear HI
        have HI := HIn
        clear HIn
        have HAn := Lib.hid (HA.out.on hb22)
        clear HA
        have HA := HAn
        clear HAn
        have HBn := Lib.hid (below_on HB.out hb22 (Nat.le_refl _))
        clear HB
        have HB := HBn
        clear HBn
        clear hb22
        have HJ := Lib.hid i22
        clear i22
        have hbt := (Below.refl w22.heap.size w22).alloc (Nat.le_refl _) (.cells #[.slice A22 RM.1.length c22] 24)
        have hgeHE : w.heap.size ≤ w22.heap.size := HB.out.size
        have ne_HX_HE : w.heap.size ≠ w22.heap.size := Nat.ne_of_lt HX.out.1.lt
        have ne_HY_HE : (w.heap.size + 1) ≠ w22.heap.size := Nat.ne_of_lt HY.out.1.lt
        have ne_HH_HE : g7 ≠ w22.heap.size := Nat.ne_of_lt HH.out.1.lt
        have ne_HK_HE : g8 ≠ w22.heap.size := Nat.ne_of_lt HK.out.1.lt
        have ne_HA_HE : w21.heap.size ≠ w22.heap.size := Nat.ne_of_lt HA.out.1.lt
        have HXn := Lib.hid (HX.out.on hbt)
        clear HX
        have HX := HXn
        clear HXn
        have HYn := Lib.hid (HY.out.on hbt)
        clear HY
        have HY := HYn
        clear HYn
        have HHn := Lib.hid (HH.out.on hbt)
        clear HH
        have HH := HHn
        clear HHn
        have HKn := Lib.hid (HK.out.on hbt)
        clear HK
        have HK := HKn
        clear HKn
        have HWn := Lib.hid (HW.out.upon hbt)
        clear HW
        have HW := HWn
        clear HWn
        have HNn := Lib.hid (HN.out.upon hbt)
        clear HN
        have HN := HNn
        clear HNn
        have HIn := Lib.hid (HI.out.upon hbt)
        clear HI
        have HI := HIn
        clear HIn
        have HAn := Lib.hid (HA.out.on hbt)
        clear HA
        have HA := HAn
        clear HAn
        have HJn := Lib.hid (HJ.out.upon hbt)
        clear HJ
        have HJ := HJn
        clear HJn
        have HBn := Lib.hid (below_on HB.out hbt (Nat.le_refl _))
        clear HB
        have HB := HBn
        clear HBn
        clear hbt
        have HE := Lib.hid (TA.new s22)
        clear s22
        have qHA := HA.out.cell
        have qHE := HE.out.cell
        go_wp2_with fail
        clear qHA qHE
        have Q := Lib.hid (eqT_any _ _ _ _ RM.1 z1 _ HA.out.2 HE.out.2)
        refine Q.out.mono ?_
        rintro e w23 ⟨rfl, hb23⟩
        clear Q
        have HXn := Lib.hid (HX.out.on hb23)
        clear HX
        have HX := HXn
        clear HXn
        have HYn := Lib.hid (HY.out.on hb23)
        clear HY
        have HY := HYn
        clear HYn
        have HHn := Lib.hid (HH.out.on hb23)
        clear HH
        have HH := HHn
        clear HHn
        have HKn := Lib.hid (HK.out.on hb23)
        clear HK
        have HK := HKn
        clear HKn
        have HWn := Lib.hid (HW.out.upon hb23)
        clear HW
        have HW := HWn
        clear HWn
        have HNn := Lib.hid (HN.out.upon hb23)
        clear HN
        have HN := HNn
        clear HNn
        have HIn := Lib.hid (HI.out.upon hb23)
        clear HI
        have HI := HIn
        clear HIn
        have HAn := Lib.hid (HA.out.on hb23)
        clear HA
        have HA := HAn
        clear HAn
        have HJn := Lib.hid (HJ.out.upon hb23)
        clear HJ
        have HJ := HJn
        clear HJn
        have HEn := Lib.hid (HE.out.on hb23)
        clear HE
        have HE := HEn
        clear HEn
        have HBn := Lib.hid (below_on HB.out hb23 (Nat.le_refl _))
        clear HB
        have HB := HBn
        clear HBn
        clear hb23
        go_wp2_with fail
        have Q := Lib.hid (sameI _ _ _ _ RM.2.1 z2 _ HI.out HJ.out)
        refine Q.out.mono ?_
        rintro e w24 ⟨rfl, hb24⟩
        clear Q
        have HXn := Lib.hid (HX.out.on hb24)
        clear HX
        have HX := HXn
        clear HXn
        have HYn := Lib.hid (HY.out.on hb24)
        clear HY
        have HY := HYn
        clear HYn
        have HHn := Lib.hid (HH.out.on hb24)
        clear HH
        have HH := HHn
        clear HHn
        have HKn := Lib.hid (HK.out.on hb24)
        clear HK
        have HK := HKn
        clear HKn
        have HWn := Lib.hid (HW.out.upon hb24)
        clear HW
        have HW := HWn
        clear HWn
        have HNn := Lib.hid (HN.out.upon hb24)
        clear HN
        have HN := HNn
        clear HNn
        have HIn := Lib.hid (HI.out.upon hb24)
        clear HI
        have HI := HIn
        clear HIn
        have HAn := Lib.hid (HA.out.on hb24)
        clear HA
        have HA := HAn
        clear HAn
        have HJn := Lib.hid (HJ.out.upon hb24)
        clear HJ
        have HJ := HJn
        clear HJn
        have HEn := Lib.hid (HE.out.on hb24)
        clear HE
        have HE := HEn
        clear HEn
        have HBn := Lib.hid (below_on HB.out hb24 (Nat.le_refl _))
        clear HB
        have HB := HBn
        clear HBn
        clear hb24
        clear HI HJ
        have qHH := HH.out.cell
        go_wp2_with fail
        clear qHH
        have Q := Lib.hid (K3.out _ _ _ _ _ HH.out.2 HN.out)
        refine Q.out.mono ?_
        rintro e w25 ⟨⟨A25, c25, rfl, s25⟩, hb25⟩
        clear Q
        have HXn := Lib.hid (HX.out.on hb25)
        clear HX
        have HX := HXn
        clear HXn
        have HYn := Lib.hid (HY.out.on hb25)
        clear HY
        have HY := HYn
        clear HYn
        have HHn := Lib.hid (HH.out.on hb25)
        clear HH
        have HH := HHn
        clear HHn
        have HKn := Lib.hid (HK.out.on hb25)
        clear HK
        have HK := HKn
        clear HKn
        have HWn := Lib.hid (HW.out.upon hb25)
        clear HW
        have HW := HWn
        clear HWn
        have HNn := Lib.hid (HN.out.upon hb25)
        clear HN
        have HN := HNn
        clear HNn
        have HAn := Lib.hid (HA.out.on hb25)
        clear HA
        have HA := HAn
        clear HAn
        have HEn := Lib.hid (HE.out.on hb25)
        clear HE
        have HE := HEn
        clear HEn
        have HBn := Lib.hid (below_on HB.out hb25 (Nat.le_refl _))
        clear HB
        have HB := HBn
        clear HBn
        clear hb25
        obtain ⟨qs, fs⟩ := cells1 HA.out.1
        have HXn := Lib.hid (HX.out.far HA.out ne_HX_HA (.slice A25 RK.1.length c25))
        have HYn := Lib.hid (HY.out.far HA.out ne_HY_HA (.slice A25 RK.1.length c25))
        have HHn := Lib.hid (HH.out.far HA.out ne_HH_HA (.slice A25 RK.1.length c25))
        have HKn := Lib.hid (HK.out.far HA.out ne_HK_HA (.slice A25 RK.1.length c25))
        have HWn := Lib.hid (slFar HW.out HA.out.1 (.slice A25 RK.1.length c25))
        have HNn := Lib.hid (slFar HN.out HA.out.1 (.slice A25 RK.1.length c25))
        have HEn := Lib.hid (HE.out.far HA.out ne_HA_HE.symm (.slice A25 RK.1.length c25))
        have HAn := Lib.hid (HA.out.again s25)
        have HBn := Lib.hid (HB.out.setCell (p := ⟨w21.heap.size, 0, none⟩) hgeHA (.slice A25 RK.1.length c25))
        clear HX HY HH HK HW HN HA HE HB s25
        have HX := HXn
        clear HXn
        have HY := HYn
        clear HYn
        have HH := HHn
        clear HHn
        have HK := HKn
        clear HKn
        have HW := HWn
        clear HWn
        have HN := HNn
        clear HNn
        have HA := HAn
        clear HAn
        have HE := HEn
        clear HEn
        have HB := HBn
        clear HBn
        have qHX := HX.out.cell
        go_wp2_with fail
        clear qHX
        clear qs fs
        have Q := Lib.hid (K4.out _ _ _ _ _ HX.out.2 HW.out)
        refine Q.out.mono ?_
        rintro e w26 ⟨⟨A26, c26, rfl, s26⟩, hb26⟩
        clear Q
        have HXn := Lib.hid (HX.out.on hb26)
        clear HX
        have HX := HXn
        clear HXn
        have HYn := Lib.hid (HY.out.on hb26)
        clear HY
        have HY := HYn
        clear HYn
        have HHn := Lib.hid (HH.out.on hb26)
        clear HH
        have HH := HHn
        clear HHn
        have HKn := Lib.hid (HK.out.on hb26)
        clear HK
        have HK := HKn
        clear HKn
        have HWn := Lib.hid (HW.out.upon hb26)
        clear HW
        have HW := HWn
        clear HWn
        have HNn := Lib.hid (HN.out.upon hb26)
        clear HN
        have HN := HNn
        clear HNn
        have HAn := Lib.hid (HA.out.on hb26)
        clear HA
        have HA := HAn
        clear HAn
        have HEn := Lib.hid (HE.out.on hb26)
        clear HE
        have HE := HEn
        clear HEn
        have HBn := Lib.hid (below_on HB.out hb26 (Nat.le_refl _))
        clear HB
        have HB := HBn
        clear HBn
        clear hb26
        obtain ⟨qs, fs⟩ := cells1 HE.out.1
        have HXn := Lib.hid (HX.out.far HE.out ne_HX_HE (.slice A26 RK.1.length c26))
        have HYn := Lib.hid (HY.out.far HE.out ne_HY_HE (.slice A26 RK.1.length c26))
        have HHn := Lib.hid (HH.out.far HE.out ne_HH_HE (.slice A26 RK.1.length c26))
        have HKn := Lib.hid (HK.out.far HE.out ne_HK_HE (.slice A26 RK.1.length c26))
        have HWn := Lib.hid (slFar HW.out HE.out.1 (.slice A26 RK.1.length c26))
        have HNn := Lib.hid (slFar HN.out HE.out.1 (.slice A26 RK.1.length c26))
        have HAn := Lib.hid (HA.out.far HE.out ne_HA_HE (.slice A26 RK.1.length c26))
        have HEn := Lib.hid (HE.out.again s26)
        have HBn := Lib.hid (HB.out.setCell (p := ⟨w22.heap.size, 0, none⟩) hgeHE (.slice A26 RK.1.length c26))
        clear HX HY HH HK HW HN HA HE HB s26
        have HX := HXn
        clear HXn
        have HY := HYn
        clear HYn
        have HH := HHn
        clear HHn
        have HK := HKn
        clear HKn
        have HW := HWn
        clear HWn
        have HN := HNn
        clear HNn
        have HA := HAn
        clear HAn
        have HE := HEn
        clear HEn
        have HB := HBn
        clear HBn
        clear K1 K2 K3 K4
        go_upto_region 10 with fail
        clear qs fs
        generalize w26.setCell ⟨w22.heap.size, 0, none⟩ (.slice A26 RK.1.length c26) = v at *
        generalize w21.heap.size = gA at *
        generalize w22.heap.size = gE at *
        have qHX := HX.out.cell
        have tHX := HX.out.1.lt
        have qHY := HY.out.cell
        have tHY := HY.out.1.lt
        have qHH := HH.out.cell
        have tHH := HH.out.1.lt
        have qHK := HK.out.cell
        have tHK := HK.out.1.lt
        have qHA := HA.out.cell
        have tHA := HA.out.1.lt
        have qHE := HE.out.cell
        have tHE := HE.out.1.lt
        have F6 := Lib.hid (show ∀ X, Below v.heap.size v X → X.cell? ⟨w.heap.size, 0, none⟩ = some (.slice A a.length cap) ∧ X.cell? ⟨w.heap.size + 1, 0, none⟩ = some (.slice Ab b.length capb) ∧ X.cell? ⟨g7, 0, none⟩ = some (.slice A7 a.length c7) ∧ X.cell? ⟨g8, 0, none⟩ = some (.slice A8 b.length c8) ∧ X.cell? ⟨gA, 0, none⟩ = some (.slice A25 RK.1.length c25) ∧ X.cell? ⟨gE, 0, none⟩ = some (.slice A26 RK.1.length c26) from fun X hX => ⟨(hX.cell (p := ⟨w.heap.size, 0, none⟩) tHX).trans qHX, (hX.cell (p := ⟨w.heap.size + 1, 0, none⟩) tHY).trans qHY, (hX.cell (p := ⟨g7, 0, none⟩) tHH).trans qHH, (hX.cell (p := ⟨g8, 0, none⟩) tHK).trans qHK, (hX.cell (p := ⟨gA, 0, none⟩) tHA).trans qHA, (hX.cell (p := ⟨gE, 0, none⟩) tHE).trans qHE⟩)
        have hz0 := (Below.refl v.heap.size v).drew
        generalize hqq : decide (a = b) = qq
        have E1 := Lib.hid (fun X (hb : Below v.heap.size v X) => eqT_any A25 A26 c25 c26 RK.1 z3 X (HA.out.2.upon hb) (HE.out.2.upon hb))
        have E2 := Lib.hid (fun X (hb : Below v.heap.size v X) => Same_any A7 A8 c7 c8 X.heap.size a b X (HH.out.2.upon hb) (HK.out.2.upon hb) (Nat.le_refl _) (by omega) (by omega))
        have E3 := Lib.hid (fun X (hb : Below v.heap.size v X) => rSame_any A Ab cap capb X.heap.size a b X (HX.out.2.upon hb) (HY.out.2.upon hb) (Nat.le_refl _) (by omega) (by omega))
        have E4 := Lib.hid (fun X (hb : Below v.heap.size v X) => eqT_any A7 A c7 cap a ha1 X (HH.out.2.upon hb) (HX.out.2.upon hb))
        have E5 := Lib.hid (fun X (hb : Below v.heap.size v X) => eqT_any A8 Ab c8 capb b hb1 X (HK.out.2.upon hb) (HY.out.2.upon hb))
        have E6 := Lib.hid (fun X (hb : Below v.heap.size v X) => sameI A9 Aw c9 capw ws hw1 X (HN.out.upon hb) (HW.out.upon hb))
        rw [hqq] at E2 E3
        clear hqq HX HY HH HK HA HE HW HN qHX qHY qHH qHK qHA qHE tHX tHY tHH tHK tHA tHE ne_HX_HY ne_HX_HH ne_HX_HK ne_HY_HH ne_HY_HK ne_HH_HK ne_HX_HA ne_HY_HA ne_HH_HA ne_HK_HA ne_HX_HE ne_HY_HE ne_HH_HE ne_HK_HE ne_HA_HE hgeHA hgeHE
        go_region_held3 (fun X => Below v.heap.size v X ∧ X.cell? ⟨w.heap.size, 0, none⟩ = some (.slice A a.length cap) ∧ X.cell? ⟨w.heap.size + 1, 0, none⟩ = some (.slice Ab b.length capb) ∧ X.cell? ⟨g7, 0, none⟩ = some (.slice A7 a.length c7) ∧ X.cell? ⟨g8, 0, none⟩ = some (.slice A8 b.length c8) ∧ X.cell? ⟨gA, 0, none⟩ = some (.slice A25 RK.1.length c25) ∧ X.cell? ⟨gE, 0, none⟩ = some (.slice A26 RK.1.length c26))
          (exact ⟨by assumption, F6.out _ (by assumption)⟩)
          (first
            | (go_at_call 16; refine (E1.out _ (by assumption : _ ∧ _).1).mono ?_; rintro e x1 ⟨rfl, hx1⟩; have hz1 : Below v.heap.size v x1 := below_on (by assumption : _ ∧ _).1 hx1 (Nat.le_refl _))
            | (go_at_call 16; refine (E4.out _ (by assumption : _ ∧ _).1).mono ?_; rintro e x4 ⟨rfl, hx4⟩; have hz4 : Below v.heap.size v x4 := below_on (by assumption : _ ∧ _).1 hx4 (Nat.le_refl _))
            | (go_at_call 16; refine (E5.out _ (by assumption : _ ∧ _).1).mono ?_; rintro e x5 ⟨rfl, hx5⟩; have hz5 : Below v.heap.size v x5 := below_on (by assumption : _ ∧ _).1 hx5 (Nat.le_refl _))
            | (go_at_call 31; refine (E2.out _ (by assumption : _ ∧ _).1).mono ?_; rintro e x2 ⟨rfl, hx2⟩; have hz2 : Below v.heap.size v x2 := below_on (by assumption : _ ∧ _).1 hx2 (Nat.le_refl _))
            | (go_at_call 32; refine (E3.out _ (by assumption : _ ∧ _).1).mono ?_; rintro e x3 ⟨rfl, hx3⟩; have hz3 : Below v.heap.size v x3 := below_on (by assumption : _ ∧ _).1 hx3 (Nat.le_refl _))
            | (go_at_call 28; refine (E6.out _ (by assumption : _ ∧ _).1).mono ?_; rintro e x6 ⟨rfl, hx6⟩; have hz6 : Below v.heap.size v x6 := below_on (by assumption : _ ∧ _).1 hx6 (Nat.le_refl _))
            | (go_at_call 10; refine (HAw.out _).mono ?_; rintro e x7 ⟨rfl, hx7⟩; have hz7 : Below v.heap.size v x7 := below_on (by assumption : _ ∧ _).1 hx7 (Nat.le_refl _)))
        have HBf := Lib.hid (below_on HB.out hz7 (Nat.le_refl _))
        clear hz0 hz1 hz2 hz3 hz4 hz5 hz6 hz7 hx1 hx2 hx3 hx4 hx5 hx6 hx7 HB E1 E2 E3 E4 E5 E6 F6 HAw
        go_wp2_with fail
        go_ret
        exact ⟨rfl, HBf.out⟩
end Go.Proofs.Ytbobpgjgknkogaa
