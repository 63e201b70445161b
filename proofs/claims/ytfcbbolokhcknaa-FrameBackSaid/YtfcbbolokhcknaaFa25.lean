/- FrameBack: the reference's Bytes of a good token, for three terminals. -/
import Derived.Test.YtfcbbolokhcknaaFa24
namespace Go.Proofs.Ytfcbbolokhcknaa
open Go.RowKit
theorem terminals3 (w : World) : Calls Try.prog 43 #[.int .i64 3] w fun e w' => e = .returned (.int .i64 0) ∧ w = w' := by
  go_enter Try.func43, Try.ntmps43
  go_wp2
  go_ret
  exact ⟨rfl, rfl⟩
set_option maxRecDepth 100000 in
set_option maxHeartbeats 3200000 in
theorem refCheck3 (s : Nat) (x : List UInt8) (w : World) (hs : s ≤ 3) (hx : x.length ≤ 24) : Calls Try.prog 38 #[.agg #[.int .i64 s, .string ⟨x.toArray⟩, .int .i64 0], .int .i64 3] w fun e w' => e = .returned (.int .i64 0) ∧ Below w.heap.size w w' := by
  have hB := (Below.refl w.heap.size w).alloc (Nat.le_refl _) (.cells #[.int .i64 s, .string ⟨x.toArray⟩, .int .i64 0] 29)
  have H1' := Lib.hid (fun W => terminals3 W)
  go_enter Try.func38, Try.ntmps38
  go_wp2_with (go_at_call 43; refine (H1'.out _).mono ?_; rintro e w1 ⟨rfl, rfl⟩)
  go_ret
  exact ⟨rfl, hB⟩
set_option maxRecDepth 100000 in
set_option maxHeartbeats 3200000 in
theorem refBytes3 (s : Nat) (x : List UInt8) (w : World) (hs : s ≤ 3) (hx : x.length ≤ 24) : Calls Try.prog 26 #[.agg #[.int .i64 s, .string ⟨x.toArray⟩, .int .i64 0], .int .i64 3] w fun e w' => e = .returned (.tuple #[.string ⟨(frB ⟨s, x, 0⟩).toArray⟩, .int .i64 0]) ∧ Below w.heap.size w w' := by
  have H1 := Lib.hid (fun W => refCheck3 s x W hs hx)
  have hb := Blk.new w 29 #[.int .i64 s, .string ⟨x.toArray⟩, .int .i64 0]
  have hB := (Below.refl w.heap.size w).alloc (Nat.le_refl _) (.cells #[.int .i64 s, .string ⟨x.toArray⟩, .int .i64 0] 29)
  rw [show frB ⟨s, x, 0⟩ = [UInt8.ofNat s, UInt8.ofNat x.length] ++ x from rfl]
  have hcv := fun W => run_bytes2_str W s x.length (by omega) (by omega)
  have hs9 : s < 256 := by omega
  go_enter Try.func26, Try.ntmps26
  go_wp2_with (go_at_call 38; refine (H1.out _).mono ?_; rintro e w1 ⟨rfl, hb1⟩; obtain ⟨c0, c1, c2, f0, f1, f2⟩ := cells3 (hb.below hb1 (by simp)); have hB1 := hB.trans (hb1.mono (by simp)); have c1' := fun o => ((hb.below hb1 (by simp)).alloc o).cell 1)
  go_ret2
  exact ⟨rfl, hB1.alloc hB1.size _⟩
end Go.Proofs.Ytfcbbolokhcknaa
