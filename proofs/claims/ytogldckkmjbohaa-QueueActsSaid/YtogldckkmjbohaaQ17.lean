/- queue: Take of a right queue: what is left lies in a block of its own. No condition. -/
import Derived.Test.YtogldckkmjbohaaQ16
namespace Go.Proofs.Ytogldckkmjbohaa
open Go.RowKit
set_option maxRecDepth 100000 in
theorem begun2_any (q : Int) (A : Option Addr) (cap D : Nat) (l : List Ev) (w : World) (hS : Sl w D 7 A l.length cap (evC l)) (hD : D ≤ w.heap.size) (hn : l.length ≤ 1000) :
    Calls Try.prog 31 #[.int .i64 q, .slice A l.length cap] w fun e w' => (∃ A2 g, w.heap.size ≤ g ∧ w'.heap.size = g + 1 ∧ e = .returned (.pointer (some ⟨g, 0, none⟩)) ∧ Blk w' g 57 #[.int .i64 q, .slice A2 l.length l.length] ∧
      Sl w' g 7 A2 l.length l.length (evC l) ∧ (0 < l.length → ∃ b o, A2 = some ⟨b, o, none⟩ ∧ w.heap.size ≤ b)) ∧ Below w.heap.size w w' := by
  have HC := Lib.hid (clone_any A cap D l w hS hD hn)
  clear hS
  have hlm : l.length ≤ maxLen := by simp only [maxLen]; omega
  go_enter Try.func31, Try.ntmps31
  go_wp2_with fail
  refine HC.out.mono ?_
  rintro e w1 ⟨⟨A2, cap2, rfl, hO⟩, hb1⟩
  have hs := hO.sl
  have hfr : 0 < l.length → ∃ b o, A2 = some ⟨b, o, none⟩ ∧ w.heap.size ≤ b := fun h => by
    rcases hO.2.2.2 with h0 | ⟨g, cur, e, hB, _, _, _⟩
    · have := hO.2.1; omega
    · exact ⟨g, 0, e, hB⟩
  have HFr := Lib.hid hfr
  have hle := hs.2.1
  have hlez : (l.length : Int) ≤ cap2 := by omega
  have HB := Lib.hid (And.intro hs hb1)
  clear hs hO hb1 HC hfr
  go_wp2_with fail
  go_ret
  obtain ⟨hs, hb1⟩ := HB.out
  have hs' : Sl w1 w1.heap.size 7 A2 l.length l.length (evC l) := ⟨hs.1, Nat.le_refl _, hlm, hs.2.2.2⟩
  exact ⟨⟨A2, w1.heap.size, hb1.size, by simp, rfl, Blk.new _ _ _, hs'.alloc (Nat.le_refl _) _, HFr.out⟩, hb1.alloc hb1.size _⟩
set_option maxRecDepth 100000 in
set_option maxHeartbeats 3200000 in
theorem qTake2_any (q : Int) (k : Nat) (A : Option Addr) (cap D : Nat) (l : List Ev) (w : World) (hS : Sl w D 7 A l.length cap (evC l)) (hD : D ≤ w.heap.size) (hn : l.length ≤ 1000) (hl : ∀ t ∈ l, t.text.length ≤ maxLen) (hc : chkQ q l = 0) (h1 : (1 : Int) ≤ k) (h2 : (k : Int) ≤ 64) :
    Calls Try.prog 17 #[.int .i64 q, .slice A l.length cap, .int .i64 k] w fun e w' => (∃ A1 c1 A2 c2, e = .returned (.tuple #[.slice A1 (l.drop k).length c1, .slice A2 (l.take k).length c2, .int .i64 0]) ∧ Sl w' w'.heap.size 7 A1 (l.drop k).length c1 (evC (l.drop k)) ∧ Sl w' w'.heap.size 7 A2 (l.take k).length c2 (evC (l.take k)) ∧ (0 < (l.drop k).length → ∃ b o, A1 = some ⟨b, o, none⟩ ∧ w.heap.size ≤ b)) ∧ Below w.heap.size w w' := by
  have HC := Lib.hid (qCheck_any q A cap D l w hS hD hn hl)
  have HB := Lib.hid (fun W hS hD => begun2_any q A cap D l W hS hD hn)
  have HS := Lib.hid hS
  rw [hc] at HC
  clear hS hl hc
  by_cases hkl : k < l.length
  · have hklz : (k : Int) < l.length := by omega
    have hkz2 : (k : Int) ≤ l.length := by omega
    go_enter Try.func17, Try.ntmps17
    go_wp2_with fail
    refine HC.out.mono ?_
    rintro e w1 ⟨rfl, hb1⟩
    have HB1 := Lib.hid (HB.out w1 (HS.out.below hb1 hD) (Nat.le_trans hD hb1.size))
    go_wp2_with fail
    refine HB1.out.mono ?_
    rintro e w2 ⟨⟨A2, g, hg1, hg2, rfl, hw, hs, hfr⟩, hb2⟩
    obtain ⟨c0, c1, _, _⟩ := cells2 hw
    obtain ⟨bf, of_, hef, hbf⟩ := hfr (by omega)
    obtain ⟨b, o, rfl, hbg, _⟩ := hs.2.2.2 (by omega)
    have HBW := Lib.hid (show w.heap.size ≤ b by injection hef with e1; injection e1 with e2; have := hb1.size; omega)
    clear hef hbf hfr
    have HB2 := Lib.hid (below_on hb1 hb2 (Nat.le_refl _))
    have hsm := hs.more (show g ≤ w2.heap.size by omega)
    have hcut := hsm.cut (Nat.le_of_lt hkl)
    rw [if_neg (by omega), evC_drop] at hcut
    have htk := hsm.take (Nat.le_of_lt hkl)
    rw [evC_take] at htk
    have hk1 : (l.drop k).length = l.length - k := List.length_drop
    have hk2 : (l.take k).length = k := by rw [List.length_take]; omega
    have hcut' : Sl w2 w2.heap.size 7 (some ⟨b, o + k * 7, none⟩) (l.length - k) (l.length - k) (evC (l.drop k)) := by have hk0 : ¬ k * 7 = 0 := (by omega); simpa [Addr.add, hk0] using hcut
    have htk' : Sl w2 w2.heap.size 7 (some ⟨b, o, none⟩) k k (evC (l.take k)) := ⟨htk.1, Nat.le_refl _, by simp only [maxLen]; omega, htk.2.2.2⟩
    have HSl := Lib.hid (And.intro hcut' (And.intro htk' (And.intro hk1 hk2)))
    clear hw hs hsm hcut htk hb2 hcut' htk' hk1 hk2
    go_wp2_with fail
    go_quiet (fail)
    go_wp2_with fail
    go_ret3
    obtain ⟨s1, s2, hk1, hk2⟩ := HSl.out
    refine ⟨?_, HB2.out.trans ⟨rfl, rfl, rfl, Nat.le_refl _, fun _ _ => rfl⟩⟩
    refine ⟨some ⟨b, o + k * 7, none⟩, l.length - k, some ⟨b, o, none⟩, k, ?_, ?_, ?_, fun _ => ⟨b, _, rfl, HBW.out⟩⟩
    · simp only [hk1, hk2]; rfl
    · rw [hk1]; exact s1.drewN _
    · rw [hk2]; exact s2.drewN _
  · have hge : k = l.length ∨ l.length < k := by omega
    clear hkl
    rcases hge with rfl | hgt
    · have hkz : (l.length : Int) ≤ l.length := by omega
      have hd : l.drop l.length = [] := List.drop_of_length_le (by omega)
      have ht : l.take l.length = l := List.take_of_length_le (by omega)
      have HDT := Lib.hid (And.intro hd ht)
      clear hd ht
      go_enter Try.func17, Try.ntmps17
      go_wp2_with fail
      refine HC.out.mono ?_
      rintro e w1 ⟨rfl, hb1⟩
      have HB1 := Lib.hid (HB.out w1 (HS.out.below hb1 hD) (Nat.le_trans hD hb1.size))
      go_wp2_with fail
      refine HB1.out.mono ?_
      rintro e w2 ⟨⟨A2, g, hg1, hg2, rfl, hw, hs, hfr⟩, hb2⟩
      clear hfr
      obtain ⟨c0, c1, _, _⟩ := cells2 hw
      have HB2 := Lib.hid (below_on hb1 hb2 (Nat.le_refl _))
      have HSl := Lib.hid (hs.more (show g ≤ w2.heap.size by omega))
      clear hw hs hb2
      have hle : l.length ≤ l.length := by omega
      go_wp2_with fail
      go_quiet (fail)
      go_wp2_with fail
      go_ret3
      refine ⟨?_, HB2.out.trans ⟨rfl, rfl, rfl, Nat.le_refl _, fun _ _ => rfl⟩⟩
      rw [HDT.out.1, HDT.out.2]
      exact ⟨_, 0, A2, l.length, rfl, Sl.empty _ _ _ _ (Nat.zero_le _), HSl.out.drewN _, fun h => by simp at h⟩
    · have hkz : (l.length : Int) ≤ k := by omega
      have hd : l.drop k = [] := List.drop_of_length_le (by omega)
      have ht : l.take k = l := List.take_of_length_le (by omega)
      have HDT := Lib.hid (And.intro hd ht)
      clear hd ht
      go_enter Try.func17, Try.ntmps17
      go_wp2_with fail
      refine HC.out.mono ?_
      rintro e w1 ⟨rfl, hb1⟩
      have HB1 := Lib.hid (HB.out w1 (HS.out.below hb1 hD) (Nat.le_trans hD hb1.size))
      go_wp2_with fail
      refine HB1.out.mono ?_
      rintro e w2 ⟨⟨A2, g, hg1, hg2, rfl, hw, hs, hfr⟩, hb2⟩
      clear hfr
      obtain ⟨c0, c1, _, _⟩ := cells2 hw
      have HB2 := Lib.hid (below_on hb1 hb2 (Nat.le_refl _))
      have HSl := Lib.hid (hs.more (show g ≤ w2.heap.size by omega))
      clear hw hs hb2
      have hle : l.length ≤ k := by omega
      go_wp2_with fail
      go_quiet (fail)
      go_wp2_with fail
      go_ret3
      refine ⟨?_, HB2.out.trans ⟨rfl, rfl, rfl, Nat.le_refl _, fun _ _ => rfl⟩⟩
      rw [HDT.out.1, HDT.out.2]
      exact ⟨_, 0, A2, l.length, rfl, Sl.empty _ _ _ _ (Nat.zero_le _), HSl.out.drewN _, fun h => by simp at h⟩
theorem Sl.grownF {w w' : World} {A : Option Addr} {n cap : Nat} {xs : List Value} {row : Option Nat} (h : Sl w w.heap.size 7 A n cap xs) (hf : 0 < n → ∃ b o, A = some ⟨b, o, none⟩ ∧ some b ≠ row) (hg : w.grownBy w' row) : Sl w' w'.heap.size 7 A n cap xs := by
  refine ⟨h.1, h.2.1, h.2.2.1, fun hn => ?_⟩
  obtain ⟨b, o, rfl, hb, hc⟩ := h.2.2.2 hn
  obtain ⟨b', o', e, hne⟩ := hf hn
  have hbb : b = b' := by injection e with e1; injection e1
  subst hbb
  refine ⟨b, o, rfl, Nat.lt_of_lt_of_le hb hg.size, fun j u hu => ?_⟩
  rw [← hc j u hu]
  unfold World.cell?
  rw [hg.block b hb hne]
end Go.Proofs.Ytogldckkmjbohaa
