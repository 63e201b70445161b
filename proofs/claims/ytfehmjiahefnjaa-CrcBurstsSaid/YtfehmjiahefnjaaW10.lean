/- Walk: the chapter's examples of awake hold. -/
import Derived.Test.YtfehmjiahefnjaaW9
namespace Go.Proofs.Ytfehmjiahefnjaa
open Go.RowKit
theorem ab_seal (w : World) : Calls Try.prog 23 #[.string ⟨#[97, 98]⟩] w fun e w' => e = .returned (.tuple #[.string ⟨(sealS [97, 98]).toArray⟩, .int .i64 0]) ∧ Below w.heap.size w w' := by
  have h := Seal_any [97, 98] w (by decide)
  rw [show sealE [97, 98] = 0 by decide +kernel] at h
  exact h
theorem ab_open (w : World) : Calls Try.prog 25 #[.string ⟨(sealS [97, 98]).toArray⟩] w fun e w' => e = .returned (.tuple #[.string ⟨#[97, 98]⟩, .int .i64 0]) ∧ Below w.heap.size w w' := by
  have h := Open_any (sealS [97, 98]) w (by decide +kernel)
  rw [show openE (sealS [97, 98]) = 0 by decide +kernel, show openS (sealS [97, 98]) = [97, 98] by decide +kernel] at h
  exact h
theorem abcd_opens (w : World) : Calls Try.prog 33 #[.string ⟨#[97, 98, 99, 100]⟩] w fun e w' => e = .returned (.int .i64 13) ∧ Below w.heap.size w w' := by
  have h := opens_any [97, 98, 99, 100] w (by decide)
  rw [show openE [97, 98, 99, 100] = 13 by decide +kernel] at h
  exact h
theorem of_none (w : World) : Calls Try.prog 16 #[.slice none 0 0] w fun e w' => e = .returned (.int .u32 0) ∧ Below w.heap.size w w' := by
  have h := of_any none 0 w.heap.size [] w (Sl.nil _ _ _) (Nat.le_refl _) (by simp) (by simp)
  exact h
theorem of_digits (w : World) : Calls Try.prog 16 #[.slice (some ⟨w.heap.size, 0, none⟩) 1 1] (w.alloc (.cells #[.string ⟨#[49, 50, 51, 52, 53, 54, 55, 56, 57]⟩] 9)) fun e w' => e = .returned (.int .u32 3421780262) ∧ Below w.heap.size w w' := by
  have h := of_any (some ⟨w.heap.size, 0, none⟩) 1 (w.heap.size + 1) [[49, 50, 51, 52, 53, 54, 55, 56, 57]] _ (sl_one w (strV [49, 50, 51, 52, 53, 54, 55, 56, 57]) 9) (by simp) (by simp) (by simp)
  rw [show endc (ofs 4294967295 [[49, 50, 51, 52, 53, 54, 55, 56, 57]]) = 3421780262 by decide +kernel] at h
  exact h.mono fun e w' ⟨he, hb⟩ => ⟨he, ((Below.refl _ w).alloc (Nat.le_refl _) _).trans (hb.mono (by simp))⟩
set_option maxHeartbeats 1600000 in
theorem awake_any (w : World) : Calls Try.prog 10 #[] w fun e w' => e = .returned (.bool true) ∧ Below w.heap.size w w' := by
  go_enter Try.func10, Try.ntmps10
  go_wp2_with fail
  refine (ab_seal _).mono ?_
  rintro e w1 ⟨rfl, hb1⟩
  go_wp2_with fail
  refine (ab_open _).mono ?_
  rintro e w2 ⟨rfl, hb2⟩
  have hB2 := hb1.trans (hb2.mono hb1.size)
  go_wp2_with fail
  refine (of_none _).mono ?_
  rintro e w3 ⟨rfl, hb3⟩
  have hB3 := hB2.trans (hb3.mono hB2.size)
  go_wp2_with fail
  refine (of_digits w3).mono ?_
  rintro e w4 ⟨rfl, hb4⟩
  have hB4 := hB3.trans (hb4.mono hB3.size)
  go_wp2_with fail
  refine (abcd_opens _).mono ?_
  rintro e w5 ⟨rfl, hb5⟩
  have hB5 := hB4.trans (hb5.mono hB4.size)
  go_wp2_with fail
  go_ret
  exact ⟨rfl, hB5⟩
end Go.Proofs.Ytfehmjiahefnjaa
