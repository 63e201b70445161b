/- The gap. No condition. -/
import Derived.Test.YtklfaccjbdkfhaaX5
namespace Go.Proofs.Ytklfaccjbdkfhaa
open Go.RowKit
theorem sl_cls (w : World) (cs : Array Value) (K : List Nat) (h : cs.toList = K.map natV) (hm : K.length ≤ maxLen) : Sl (w.alloc (.cells cs 67)) (w.heap.size + 1) 1 (some ⟨w.heap.size, 0, none⟩) K.length K.length (K.map natV) := by
  have := sl_row w cs 67 K.length (by have := congrArg List.length h; simpa using this) hm
  rw [h] at this
  exact this
/-- A call of pass with classes in a new slice. -/
theorem pass_new (s : List UInt8) (k g : Nat) (w : World) (cs : Array Value) (K : List Nat) (h : cs.toList = K.map natV) (hb : Cu w g s k) (hk : k ≤ s.length) (hl : s.length ≤ 30000) (hK : K.length ≤ 10) :
    Calls Try.prog 40 #[.pointer (some ⟨g, 0, none⟩), .slice (some ⟨w.heap.size, 0, none⟩) K.length K.length] (w.alloc (.cells cs 67)) fun e w' => (∃ v, e = .returned v) ∧ Cu w' g s (k + passN K (s.drop k)) ∧ Gb w w' g :=
  (pass_any s k g _ K (some ⟨w.heap.size, 0, none⟩) K.length (w.heap.size + 1) (Blk.alloc hb _) hk hl (sl_cls w cs K h (by unfold maxLen; omega)) (fun b o e _ => by cases e; have := hb.lt; omega) hK).mono
    fun e w' ⟨h1, h2, h3⟩ => ⟨h1, h2, (Gb.of_below ((Below.refl _ w).alloc (Nat.le_refl _) _)).trans h3⟩
set_option maxRecDepth 100000 in
set_option maxHeartbeats 3200000 in
theorem gap_any (s : List UInt8) (k g : Nat) (w : World) (hb : Cu w g s k) (hk : k ≤ s.length) (hl : s.length ≤ 30000) :
    Calls Try.prog 38 #[.pointer (some ⟨g, 0, none⟩)] w fun e w' => (∃ v, e = .returned v) ∧ Cu w' g s (k + skipF false (s.drop k)) ∧ Gb w w' g := by
  have hlz : (s.length : Int) ≤ 30000 := by omega
  have HC := Lib.hid (fun m W (h : Cu W g s m) hm => class_any s m g W h hm)
  have HP := Lib.hid (fun m W (h : Cu W g s m) hm => pass_new s m g W #[.int .i64 5] [5] rfl h hm hl (by decide))
  have hple : ∀ m, m ≤ s.length → m + passN [5] (s.drop m) ≤ s.length := fun m hm => by have := passN_le [5] (s.drop m); rw [List.length_drop] at this; omega
  have hpeq : ∀ m, m + passN [5] (s.drop m) + skipF false (s.drop (m + passN [5] (s.drop m))) = m + skipF false (s.drop m) := fun m => by
    have := skip_split (s.drop m)
    rw [List.drop_drop] at this
    omega
  have hphd : ∀ m, hd (s.drop (m + passN [5] (s.drop m))) ≠ 5 := fun m => by
    have := hd_pass [5] (by decide) (s.drop m)
    rw [List.drop_drop] at this
    simpa using this
  have Hple := Lib.hid hple
  have Hpeq := Lib.hid hpeq
  have Hphd := Lib.hid hphd
  clear hple hpeq hphd
  obtain ⟨N, hN⟩ : ∃ N, k + skipF false (s.drop k) = N := ⟨_, rfl⟩
  rw [hN]
  have HN := Lib.hid hN
  clear hN
  go_enter Try.func38, Try.ntmps38
  go_wp2_with fail
  refine (HP.out k w hb hk).mono ?_
  rintro e w1 ⟨⟨v, rfl⟩, hC1, hG1⟩
  have hle1 := Hple.out k hk
  have heq1 := (Hpeq.out k).trans HN.out
  have hhd1 := Hphd.out k
  generalize k + passN [5] (s.drop k) = m1 at *
  clear hb
  go_wp2_with fail
  go_loopw [10] (fun _ W => ∃ m : Nat, m ≤ s.length ∧ m + skipF false (s.drop m) = N ∧ hd (s.drop m) ≠ 5 ∧ Cu W g s m ∧ Gb w W g) (fun _ W => s.length - curAt W g)
  case atStart => exact ⟨m1, hle1, heq1, hhd1, hC1, hG1⟩
  case round =>
    clear hC1 hG1 hle1 heq1 hhd1
    obtain ⟨m, hm, hmN, hm5, hC, hG⟩ := hrel
    have hcur := Lib.hid hC.curAt
    have HmN := Lib.hid hmN
    have HCm := Lib.hid (HC.out m wr hC hm)
    clear hmN hk
    by_cases h6 : hd (s.drop m) = 6
    · have hmlt : m < s.length := by
        rcases Nat.lt_or_ge m s.length with h | h
        · exact h
        · rw [List.drop_of_length_le h] at h6; cases h6
      have hrem := (skip_rem _ h6)
      have H10 : s[m] ≠ 10 := fun e => by
        have := hd_at hmlt
        rw [h6, e] at this
        exact absurd this (by decide)
      rw [h6] at HCm
      go_wp2_with fail
      refine HCm.out.mono ?_
      rintro e w2 ⟨rfl, hb2⟩
      have hC2 := hC.on hb2
      have hG2 := hG.trans (Gb.of_below hb2)
      have HmT := Lib.hid (show m + skipF true (s.drop m) = N by rw [hrem]; exact HmN.out)
      have HH10 := Lib.hid H10
      clear hC hG hb2 HCm h6 hrem hm5 H10
      go_wp2_with fail
      go_loopw [48] (fun _ W => ∃ j : Nat, m ≤ j ∧ j ≤ s.length ∧ j + skipF true (s.drop j) = N ∧ Cu W g s j ∧ Gb w W g) (fun _ W => s.length - curAt W g)
      case atStart => exact ⟨m, Nat.le_refl _, hm, HmT.out, hC2, hG2⟩
      case round =>
        obtain ⟨j, hmj, hj, hjN, hC3, hG3⟩ := hrel
        have hcur3 := Lib.hid hC3.curAt
        have HjN := Lib.hid hjN
        obtain ⟨c0, c1, f0, f1⟩ := hC3.cells
        have hlt3 := hC3.lt
        clear hC2 hG2 HmT hjN
        by_cases hjl : j < s.length
        · by_cases hj10 : s[j] = 10
          · have hz : (s[j].toNat : Int) = 10 := by rw [hj10]; rfl
            have hend : skipF true (s.drop j) = skipF false (s.drop j) := skip_end _ (by rw [drop_get hjl, hj10]; rfl)
            have HEND := Lib.hid (show j + skipF false (s.drop j) = N by rw [← hend]; exact HjN.out)
            have hmj2 : m < j := by
              rcases Nat.lt_or_eq_of_le hmj with h | h
              · exact h
              · subst h; exact absurd hj10 HH10.out
            clear hend hj10
            go_wp2_with fail
            go_quiet (fail)
            have hHP := Lib.hid (HP.out j (wr.drewN nq) hC3 hj)
            have hG4 := hG3.trans (Gb.drewN wr nq g)
            go_wp2_with fail
            refine hHP.out.mono ?_
            rintro e w5 ⟨⟨v2, rfl⟩, hC5, hG5⟩
            have hle5 := Hple.out j hj
            have heq5 := (Hpeq.out j).trans HEND.out
            have hhd5 := Hphd.out j
            have hge5 : j ≤ j + passN [5] (s.drop j) := Nat.le_add_right _ _
            generalize j + passN [5] (s.drop j) = m5 at *
            go_wp2_with fail
            go_roundw
            case rel => exact ⟨m5, hle5, heq5, hhd5, hC5, hG4.trans hG5⟩
            case measure =>
              have h1 := hC5.curAt
              have h2 := hcur.out
              rw [h1, h2]
              omega
          · have hz : ((s[j].toNat : Int) == 10) = false := by
              rw [beq_eq_false_iff_ne]
              intro e
              exact hj10 (UInt8.toNat_inj.1 (by rw [show (10 : UInt8).toNat = 10 from rfl]; omega))
            have HN1 := Lib.hid (show j + 1 + skipF true (s.drop (j + 1)) = N by
              have h1 := HjN.out
              rw [drop_get hjl, skip_t _ hj10] at h1
              omega)
            have hG4 := (hG3.trans (Gb.drewN wr 0 g))
            have hC4 : ∀ q, Cu ((wr.drewN q).setCell ⟨g, 1, none⟩ (.int .i64 ((j + 1 : Nat) : Int))) g s (j + 1) := fun q => Blk.set (show Cu (wr.drewN q) g s j from hC3) 1 _
            have hG5 : ∀ q, Gb w ((wr.drewN q).setCell ⟨g, 1, none⟩ (.int .i64 ((j + 1 : Nat) : Int))) g := fun q => (hG3.trans (Gb.drewN wr q g)).trans (Gb.set _ g 1 _)
            have HC4 := Lib.hid hC4
            have HG5 := Lib.hid hG5
            clear hC4 hG5 hG4 hj10
            go_wp2_with fail
            go_quiet (fail)
            go_wp2_with fail
            go_roundw
            case rel => exact ⟨j + 1, by omega, by omega, HN1.out, HC4.out _, HG5.out _⟩
            case measure =>
              have h1 := (HC4.out nq).curAt
              have h2 := hcur3.out
              rw [show ((j + 1 : Nat) : Int) = (j : Int) + 1 by omega] at h1
              rw [h1, h2]
              omega
        · obtain rfl : j = s.length := by omega
          have HEND := Lib.hid (show s.length + skipF false (s.drop s.length) = N by
            have h1 := HjN.out
            rw [List.drop_length] at h1 ⊢
            exact h1)
          have hmj2 : m < s.length := hmlt
          go_wp2_with fail
          go_quiet (fail)
          have hHP := Lib.hid (HP.out s.length (wr.drewN nq) hC3 hj)
          have hG4 := hG3.trans (Gb.drewN wr nq g)
          go_wp2_with fail
          refine hHP.out.mono ?_
          rintro e w5 ⟨⟨v2, rfl⟩, hC5, hG5⟩
          have hle5 := Hple.out s.length hj
          have heq5 := (Hpeq.out s.length).trans HEND.out
          have hhd5 := Hphd.out s.length
          have hge5 : s.length ≤ s.length + passN [5] (s.drop s.length) := Nat.le_add_right _ _
          generalize s.length + passN [5] (s.drop s.length) = m5 at *
          go_wp2_with fail
          go_roundw
          case rel => exact ⟨m5, hle5, heq5, hhd5, hC5, hG4.trans hG5⟩
          case measure =>
            have h1 := hC5.curAt
            have h2 := hcur.out
            rw [h1, h2]
            omega
    · have hz : ((hd (s.drop m) : Int) == 6) = false := by rw [beq_eq_false_iff_ne]; omega
      have h0 := skip_zero _ hm5 h6
      have e0 : m = N := by have := HmN.out; omega
      subst e0
      clear h0 hm5 h6
      generalize hd (s.drop m) = c at *
      go_wp2_with fail
      refine HCm.out.mono ?_
      rintro e w2 ⟨rfl, hb2⟩
      go_wp2_with fail
      exact ⟨rfl, _, results_none rfl _ _ _, ⟨_, rfl⟩, hC.on hb2, hG.trans (Gb.of_below hb2)⟩
end Go.Proofs.Ytklfaccjbdkfhaa
