/- equal, Same. No condition. -/
import Derived.Test.YtbobpgjgknkogaaI11
namespace Go.Proofs.Ytbobpgjgknkogaa
open Go.RowKit Go.Maps
set_option maxRecDepth 100000 in
set_option maxHeartbeats 1600000 in
theorem equal_any (A1 A2 : Option Addr) (cap1 cap2 D : Nat) (l k : List (List UInt8)) (w : World) (hS1 : Sl w D 1 A1 l.length cap1 (l.map strV)) (hS2 : Sl w D 1 A2 k.length cap2 (k.map strV)) (hD : D ≤ w.heap.size) (hn : l.length ≤ 100000) (hn2 : k.length ≤ 100000) :
    Calls Try.prog 16 #[.agg #[.slice A1 l.length cap1], .agg #[.slice A2 k.length cap2]] w fun e w' => e = .returned (.bool (decide (l = k))) ∧ Below w.heap.size w w' := by
  have hB := (((Below.refl w.heap.size w).alloc (Nat.le_refl _) (.cells #[.slice A1 l.length cap1] 24)).alloc (by simp) (.cells #[.slice A2 k.length cap2] 24))
  have HC := Lib.hid (SameTexts_any A1 A2 cap1 cap2 D l k _ (hS1.below hB hD) (hS2.below hB hD) hn hn2)
  generalize decide (l = k) = r at *
  have HB := Lib.hid hB
  clear hS1 hS2 hB
  go_enter Try.func16, Try.ntmps16
  go_wp2_with fail
  refine HC.out.mono ?_
  rintro e w1 ⟨rfl, hb1⟩
  have HB1 := Lib.hid (below_on HB.out hb1 (Nat.le_refl _))
  clear hb1
  go_wp2_with fail
  go_ret
  exact ⟨rfl, HB1.out⟩
set_option maxRecDepth 100000 in
set_option maxHeartbeats 1600000 in
theorem Same_any (A1 A2 : Option Addr) (cap1 cap2 D : Nat) (l k : List (List UInt8)) (w : World) (hS1 : Sl w D 1 A1 l.length cap1 (l.map strV)) (hS2 : Sl w D 1 A2 k.length cap2 (k.map strV)) (hD : D ≤ w.heap.size) (hn : l.length ≤ 100000) (hn2 : k.length ≤ 100000) :
    Calls Try.prog 31 #[.agg #[.slice A1 l.length cap1], .agg #[.slice A2 k.length cap2]] w fun e w' => e = .returned (.bool (decide (l = k))) ∧ Below w.heap.size w w' := by
  have hB := (((Below.refl w.heap.size w).alloc (Nat.le_refl _) (.cells #[.slice A1 l.length cap1] 24)).alloc (by simp) (.cells #[.slice A2 k.length cap2] 24))
  have HC := Lib.hid (sEqual_any A1 A2 cap1 cap2 D l k _ (hS1.below hB hD) (hS2.below hB hD) hn hn2)
  generalize decide (l = k) = r at *
  have HB := Lib.hid hB
  clear hS1 hS2 hB
  go_enter Try.func31, Try.ntmps31
  go_wp2_with fail
  refine HC.out.mono ?_
  rintro e w1 ⟨rfl, hb1⟩
  have HB1 := Lib.hid (below_on HB.out hb1 (Nat.le_refl _))
  clear hb1
  go_wp2_with fail
  go_ret
  exact ⟨rfl, HB1.out⟩
end Go.Proofs.Ytbobpgjgknkogaa
