/- A string made of one byte. -/
import Derived.Test.YtbobpgjgknkogaaBy
namespace Go.Proofs.Ytbobpgjgknkogaa
open Go.RowKit
theorem sl_byte (w : World) (b : UInt8) : Sl (w.alloc (.cells #[.int .u8 b.toNat] 5)) (w.heap.size + 1) 1 (some ⟨w.heap.size, 0, none⟩) 1 1 ([b].map byteV) := sl_row w #[.int .u8 b.toNat] 5 1 rfl (by decide)
theorem run_byte_str (W : World) (k : Nat) (hk : k < 256) : (convert 73 9 (.slice (some ⟨W.heap.size, 0, none⟩) 1 1)).run Try.prog (W.alloc (.cells #[.int .u8 k] 5)) = .ok (.string ⟨[UInt8.ofNat k].toArray⟩) (W.alloc (.cells #[.int .u8 k] 5)) := by
  have h := run_bytes_back (P := Try.prog) 73 9 5 Try.underlying73 Try.underlying5 Try.underlying9 (n := 1) (l := [UInt8.ofNat k]) rfl (sl_byte W (UInt8.ofNat k))
  rw [show (UInt8.ofNat k).toNat = k from Nat.mod_eq_of_lt hk] at h
  exact h
end Go.Proofs.Ytbobpgjgknkogaa
