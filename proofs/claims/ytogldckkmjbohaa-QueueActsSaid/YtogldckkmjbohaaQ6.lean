/- queue: Take. No condition. -/
import Derived.Test.YtogldckkmjbohaaQ5
namespace Go.Proofs.Ytogldckkmjbohaa
open Go.RowKit
def takeE (q : Int) (l : List Ev) (n : Int) : Int := if chkQ q l = 0 then (if n < 1 ∨ 64 < n then 2 else 0) else chkQ q l
def takeR (q : Int) (l : List Ev) (n : Int) : List Ev × List Ev × Int := if takeE q l n = 0 then (l.drop n.toNat, l.take n.toNat, 0) else ([], [], takeE q l n)
def takePost (R : List Ev × List Ev × Int) (e : Ending) (w' : World) : Prop := ∃ A1 c1 A2 c2, e = .returned (.tuple #[.slice A1 R.1.length c1, .slice A2 R.2.1.length c2, .int .i64 R.2.2]) ∧ Sl w' w'.heap.size 7 A1 R.1.length c1 (evC R.1) ∧ Sl w' w'.heap.size 7 A2 R.2.1.length c2 (evC R.2.1)
theorem evC_take (l : List Ev) (k : Nat) : (evC l).take (k * 7) = evC (l.take k) := by
  induction k generalizing l with
  | zero => simp [evC]
  | succ k ih =>
    cases l with
    | nil => simp [evC]
    | cons x l =>
      rw [evC_cons, List.take_succ_cons, evC_cons, ← ih l]
      have hx : x.cs.length = 7 := rfl
      rw [show (k + 1) * 7 = x.cs.length + k * 7 by omega, List.take_length_add_append]
theorem evC_drop (l : List Ev) (k : Nat) : (evC l).drop (k * 7) = evC (l.drop k) := by
  induction k generalizing l with
  | zero => simp
  | succ k ih =>
    cases l with
    | nil => simp [evC]
    | cons x l =>
      rw [evC_cons, List.drop_succ_cons, ← ih l]
      have hx : x.cs.length = 7 := rfl
      rw [show (k + 1) * 7 = x.cs.length + k * 7 by omega, List.drop_length_add_append]
set_option maxRecDepth 100000 in
set_option maxHeartbeats 3200000 in
theorem qTake_any (q n : Int) (A : Option Addr) (cap D : Nat) (l : List Ev) (w : World) (hS : Sl w D 7 A l.length cap (evC l)) (hD : D ≤ w.heap.size) (hn : l.length ≤ 1000) (hl : ∀ t ∈ l, t.text.length ≤ maxLen) :
    Calls Try.prog 17 #[.int .i64 q, .slice A l.length cap, .int .i64 n] w fun e w' => takePost (takeR q l n) e w' ∧ Below w.heap.size w w' := by
  have HC := Lib.hid (qCheck_any q A cap D l w hS hD hn hl)
  have HB := Lib.hid (fun W hS hD => begun_any q A cap D l W hS hD hn)
  have HS := Lib.hid hS
  have hE : takeE q l n = if chkQ q l = 0 then (if n < 1 ∨ 64 < n then 2 else 0) else chkQ q l := rfl
  have hR : takeR q l n = if takeE q l n = 0 then (l.drop n.toNat, l.take n.toNat, 0) else ([], [], takeE q l n) := rfl
  generalize takeR q l n = R at *
  generalize takeE q l n = E at *
  generalize chkQ q l = c at *
  have fail : ∀ (E : Int) (w' : World), takePost ([], [], E) (.returned (.tuple #[.slice none 0 0, .slice none 0 0, .int .i64 E])) w' := fun E w' => ⟨none, 0, none, 0, rfl, Sl.nil _ _ _, Sl.nil _ _ _⟩
  have HFail := Lib.hid fail
  clear hS hl fail
  by_cases hc : c = 0
  · rw [if_pos hc] at hE
    subst hc
    by_cases hr : n < 1 ∨ 64 < n
    · rw [if_pos hr] at hE
      subst hE
      rw [if_neg (by decide)] at hR
      subst hR
      rcases (show n < 1 ∨ (¬ n < 1 ∧ 64 < n) by omega) with h | ⟨h, h2⟩
      all_goals
        clear hr
        go_enter Try.func17, Try.ntmps17
        go_wp2_with fail
        refine HC.out.mono ?_
        rintro e w1 ⟨rfl, hb1⟩
        go_wp2_with fail
        go_ret3
        exact ⟨HFail.out _ _, hb1⟩
    · rw [if_neg hr] at hE
      subst hE
      rw [if_pos rfl] at hR
      obtain ⟨k, rfl⟩ := Int.eq_ofNat_of_zero_le (show 0 ≤ n by omega)
      rw [Int.toNat_natCast] at hR
      have h1 : (1 : Int) ≤ k := by omega
      have h2 : (k : Int) ≤ 64 := by omega
      have HR := Lib.hid hR
      clear hr hR
      by_cases hkl : k < l.length
      · have hklz : (k : Int) < l.length := by omega
        have hkz2 : (k : Int) ≤ l.length := by omega
        go_enter Try.func17, Try.ntmps17
        go_wp2_with fail
        refine HC.out.mono ?_
        rintro e w1 ⟨rfl, hb1⟩
        have HB1 := Lib.hid (HB.out w1 (HS.out.below hb1 hD) (Nat.le_trans hD hb1.size))
        go_wp2_with fail
        refine HB1.out.mono ?_
        rintro e w2 ⟨⟨A2, g, hg1, hg2, rfl, hw, hs⟩, hb2⟩
        obtain ⟨c0, c1, _, _⟩ := cells2 hw
        obtain ⟨b, o, rfl, hbg, _⟩ := hs.2.2.2 (by omega)
        have HB2 := Lib.hid (below_on hb1 hb2 (Nat.le_refl _))
        have hsm := hs.more (show g ≤ w2.heap.size by omega)
        have hcut := hsm.cut (Nat.le_of_lt hkl)
        rw [if_neg (by omega), evC_drop] at hcut
        have htk := hsm.take (Nat.le_of_lt hkl)
        rw [evC_take] at htk
        have hk1 : (l.drop k).length = l.length - k := List.length_drop
        have hk2 : (l.take k).length = k := by rw [List.length_take]; omega
        have hcut' : Sl w2 w2.heap.size 7 (some ⟨b, o + k * 7, none⟩) (l.length - k) (l.length - k) (evC (l.drop k)) := by have hk0 : ¬ k * 7 = 0 := (by omega); simpa [Addr.add, hk0] using hcut
        have htk' : Sl w2 w2.heap.size 7 (some ⟨b, o, none⟩) k k (evC (l.take k)) := ⟨htk.1, Nat.le_refl _, by simp only [maxLen]; omega, htk.2.2.2⟩
        have HSl := Lib.hid (And.intro hcut' (And.intro htk' (And.intro hk1 hk2)))
        clear hw hs hsm hcut htk hb2 hcut' htk' hk1 hk2
        go_wp2_with fail
        go_quiet (fail)
        go_wp2_with fail
        go_ret3
        obtain ⟨s1, s2, hk1, hk2⟩ := HSl.out
        refine ⟨?_, HB2.out.trans ⟨rfl, rfl, rfl, Nat.le_refl _, fun _ _ => rfl⟩⟩
        rw [HR.out]
        refine ⟨some ⟨b, o + k * 7, none⟩, l.length - k, some ⟨b, o, none⟩, k, ?_, ?_, ?_⟩
        · simp only [hk1, hk2]; rfl
        · rw [hk1]; exact s1.drewN _
        · rw [hk2]; exact s2.drewN _
      · have hge : k = l.length ∨ l.length < k := by omega
        clear hkl
        rcases hge with rfl | hgt
        · have hkz : (l.length : Int) ≤ l.length := by omega
          have hd : l.drop l.length = [] := List.drop_of_length_le (by omega)
          have ht : l.take l.length = l := List.take_of_length_le (by omega)
          have HDT := Lib.hid (And.intro hd ht)
          clear hd ht
          go_enter Try.func17, Try.ntmps17
          go_wp2_with fail
          refine HC.out.mono ?_
          rintro e w1 ⟨rfl, hb1⟩
          have HB1 := Lib.hid (HB.out w1 (HS.out.below hb1 hD) (Nat.le_trans hD hb1.size))
          go_wp2_with fail
          refine HB1.out.mono ?_
          rintro e w2 ⟨⟨A2, g, hg1, hg2, rfl, hw, hs⟩, hb2⟩
          obtain ⟨c0, c1, _, _⟩ := cells2 hw
          have HB2 := Lib.hid (below_on hb1 hb2 (Nat.le_refl _))
          have HSl := Lib.hid (hs.more (show g ≤ w2.heap.size by omega))
          clear hw hs hb2
          have hle : l.length ≤ l.length := by omega
          go_wp2_with fail
          go_quiet (fail)
          go_wp2_with fail
          go_ret3
          refine ⟨?_, HB2.out.trans ⟨rfl, rfl, rfl, Nat.le_refl _, fun _ _ => rfl⟩⟩
          rw [HR.out, HDT.out.1, HDT.out.2]
          exact ⟨_, 0, A2, l.length, rfl, Sl.empty _ _ _ _ (Nat.zero_le _), HSl.out.drewN _⟩
        · have hkz : (l.length : Int) ≤ k := by omega
          have hd : l.drop k = [] := List.drop_of_length_le (by omega)
          have ht : l.take k = l := List.take_of_length_le (by omega)
          have HDT := Lib.hid (And.intro hd ht)
          clear hd ht
          go_enter Try.func17, Try.ntmps17
          go_wp2_with fail
          refine HC.out.mono ?_
          rintro e w1 ⟨rfl, hb1⟩
          have HB1 := Lib.hid (HB.out w1 (HS.out.below hb1 hD) (Nat.le_trans hD hb1.size))
          go_wp2_with fail
          refine HB1.out.mono ?_
          rintro e w2 ⟨⟨A2, g, hg1, hg2, rfl, hw, hs⟩, hb2⟩
          obtain ⟨c0, c1, _, _⟩ := cells2 hw
          have HB2 := Lib.hid (below_on hb1 hb2 (Nat.le_refl _))
          have HSl := Lib.hid (hs.more (show g ≤ w2.heap.size by omega))
          clear hw hs hb2
          have hle : l.length ≤ k := by omega
          go_wp2_with fail
          go_quiet (fail)
          go_wp2_with fail
          go_ret3
          refine ⟨?_, HB2.out.trans ⟨rfl, rfl, rfl, Nat.le_refl _, fun _ _ => rfl⟩⟩
          rw [HR.out, HDT.out.1, HDT.out.2]
          exact ⟨_, 0, A2, l.length, rfl, Sl.empty _ _ _ _ (Nat.zero_le _), HSl.out.drewN _⟩
  · rw [if_neg hc] at hE
    rw [hE, if_neg hc] at hR
    subst hR
    clear hE
    have hcb : (c != 0) = true := bne_iff_ne.2 hc
    have hcb2 : (c == 0) = false := by simpa using hc
    clear hc
    go_enter Try.func17, Try.ntmps17
    go_wp2_with fail
    refine HC.out.mono ?_
    rintro e w1 ⟨rfl, hb1⟩
    go_wp2_with fail
    go_ret3
    exact ⟨HFail.out _ _, hb1⟩
end Go.Proofs.Ytogldckkmjbohaa
