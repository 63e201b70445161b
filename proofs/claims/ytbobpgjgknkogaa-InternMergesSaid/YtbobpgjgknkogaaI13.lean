/- law06: shown, finds. No condition. -/
import Derived.Test.YtbobpgjgknkogaaI12
namespace Go.Proofs.Ytbobpgjgknkogaa
open Go.RowKit Go.Maps
def shownL : List (List UInt8) := [[97], [66], [99, 49]]
set_option maxRecDepth 100000 in
theorem shown_any (w : World) : Calls Try.prog 33 #[] w fun e w' => (∃ A, e = .returned (.agg #[.slice A 3 3]) ∧ Sl w' w'.heap.size 1 A 3 3 (shownL.map strV)) ∧ Below w.heap.size w w' := by
  have b1 := (Blk.new w 24 #[.slice (some ⟨w.heap.size + 1, 0, none⟩) 3 3]).alloc (.cells (shownL.map strV).toArray 9)
  have hz2 : (w.alloc (.cells #[.slice (some ⟨w.heap.size + 1, 0, none⟩) 3 3] 24)).heap.size = w.heap.size + 1 := by simp
  have s1 := sl_row (w.alloc (.cells #[.slice (some ⟨w.heap.size + 1, 0, none⟩) 3 3] 24)) (shownL.map strV).toArray 9 3 rfl (by decide)
  rw [hz2] at s1
  have hB := ((Below.refl w.heap.size w).alloc (Nat.le_refl _) (.cells #[.slice (some ⟨w.heap.size + 1, 0, none⟩) 3 3] 24)).alloc (by simp) (.cells (shownL.map strV).toArray 9)
  have HH := Lib.hid (And.intro b1 (And.intro s1 hB))
  clear b1 s1 hB hz2
  go_enter Try.func33, Try.ntmps33
  go_wp2_with fail
  exact bodyPost_ret (results_cell_blk rfl _ _ w.heap.size _ _ _ rfl HH.out.1 Try.underlying24 rfl (by kernel_rfl)) rfl ⟨⟨_, rfl, HH.out.2.1.more (by simp)⟩, HH.out.2.2⟩
end Go.Proofs.Ytbobpgjgknkogaa
