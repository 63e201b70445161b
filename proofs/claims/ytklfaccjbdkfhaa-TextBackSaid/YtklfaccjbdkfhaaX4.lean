/- The class of a byte: what text.of answers. No condition. -/
import Derived.Test.YtklfaccjbdkfhaaX3
import Derived.Test.YtklfaccjbdkfhaaBy
import Derived.ChangeKeysEq
namespace Go.Proofs.Ytklfaccjbdkfhaa
open Go.RowKit
theorem idx4 (a b c d : Value) (w : World) (i : Int) (v : Value) (h0 : 0 ≤ i) (h : i < 4) (hv : #[a, b, c, d][i.toNat]? = some v) : (Instr.index 85 (.agg #[a, b, c, d]) (.int .i64 i)).run Try.prog w = .ok v w := by
  have hp := run_part_plain (P := Try.prog) w (e := 5) (by kernel_rfl) (xs := #[a, b, c, d]) hv
  have hs : Try.prog.cellsOf 5 = 1 := by kernel_rfl
  have hz : (sizeOf 5).run Try.prog w = .ok 1 w := by exact Try.sizeOf5 w
  have hi : 0 ≤ i ∧ i < 4 := ⟨h0, h⟩
  simp [Instr.index, run_underlying Try.underlying85, asIntOf, hi, hz, hp]
set_option maxRecDepth 100000 in
set_option maxHeartbeats 1600000 in
theorem of_61 (w : World) : Calls Try.prog 48 #[.int .u8 61] w fun e w' => e = .returned (.int .i64 4) ∧ Below w.heap.size w w' := by
  have hB0 := (Below.refl w.heap.size w).alloc (Nat.le_refl _) (.cells #[.int .u8 61, .int .u8 124, .int .u8 59, .int .u8 44] 85)
  have j0 := fun W => idx4 (.int .u8 61) (.int .u8 124) (.int .u8 59) (.int .u8 44) W 0 (.int .u8 61) (by decide) (by decide) rfl
  have j1 := fun W => idx4 (.int .u8 61) (.int .u8 124) (.int .u8 59) (.int .u8 44) W 1 (.int .u8 124) (by decide) (by decide) rfl
  have j2 := fun W => idx4 (.int .u8 61) (.int .u8 124) (.int .u8 59) (.int .u8 44) W 2 (.int .u8 59) (by decide) (by decide) rfl
  have j3 := fun W => idx4 (.int .u8 61) (.int .u8 124) (.int .u8 59) (.int .u8 44) W 3 (.int .u8 44) (by decide) (by decide) rfl
  go_enter Try.func48, Try.ntmps48
  go_wp2_with fail
  go_step3
  go_wp2_with fail
  go_step3
  go_wp2_with fail
  go_loopw [8] (fun i W => (i = .int .i64 0) ∧ Below w.heap.size w W) (fun i _ => 5 - (intOf i).toNat)
  case atStart => exact ⟨rfl, hB0⟩
  case round =>
    obtain ⟨hk, hB⟩ := hrel
    clear hB0
    rcases hk with rfl
    · go_wp2_with fail
      try rw [Exit.noGoto_ret]
      go_ret
      exact ⟨rfl, hB⟩
set_option maxRecDepth 100000 in
set_option maxHeartbeats 1600000 in
theorem of_124 (w : World) : Calls Try.prog 48 #[.int .u8 124] w fun e w' => e = .returned (.int .i64 4) ∧ Below w.heap.size w w' := by
  have hB0 := (Below.refl w.heap.size w).alloc (Nat.le_refl _) (.cells #[.int .u8 61, .int .u8 124, .int .u8 59, .int .u8 44] 85)
  have j0 := fun W => idx4 (.int .u8 61) (.int .u8 124) (.int .u8 59) (.int .u8 44) W 0 (.int .u8 61) (by decide) (by decide) rfl
  have j1 := fun W => idx4 (.int .u8 61) (.int .u8 124) (.int .u8 59) (.int .u8 44) W 1 (.int .u8 124) (by decide) (by decide) rfl
  have j2 := fun W => idx4 (.int .u8 61) (.int .u8 124) (.int .u8 59) (.int .u8 44) W 2 (.int .u8 59) (by decide) (by decide) rfl
  have j3 := fun W => idx4 (.int .u8 61) (.int .u8 124) (.int .u8 59) (.int .u8 44) W 3 (.int .u8 44) (by decide) (by decide) rfl
  go_enter Try.func48, Try.ntmps48
  go_wp2_with fail
  go_step3
  go_wp2_with fail
  go_step3
  go_wp2_with fail
  go_loopw [8] (fun i W => (i = .int .i64 0 ∨ i = .int .i64 1) ∧ Below w.heap.size w W) (fun i _ => 5 - (intOf i).toNat)
  case atStart => exact ⟨.inl rfl, hB0⟩
  case round =>
    obtain ⟨hk, hB⟩ := hrel
    clear hB0
    rcases hk with rfl | rfl
    · go_wp2_with fail
      go_roundw
      case rel => exact ⟨.inr (rfl), hB⟩
      case measure => decide
    · go_wp2_with fail
      try rw [Exit.noGoto_ret]
      go_ret
      exact ⟨rfl, hB⟩
set_option maxRecDepth 100000 in
set_option maxHeartbeats 1600000 in
theorem of_59 (w : World) : Calls Try.prog 48 #[.int .u8 59] w fun e w' => e = .returned (.int .i64 4) ∧ Below w.heap.size w w' := by
  have hB0 := (Below.refl w.heap.size w).alloc (Nat.le_refl _) (.cells #[.int .u8 61, .int .u8 124, .int .u8 59, .int .u8 44] 85)
  have j0 := fun W => idx4 (.int .u8 61) (.int .u8 124) (.int .u8 59) (.int .u8 44) W 0 (.int .u8 61) (by decide) (by decide) rfl
  have j1 := fun W => idx4 (.int .u8 61) (.int .u8 124) (.int .u8 59) (.int .u8 44) W 1 (.int .u8 124) (by decide) (by decide) rfl
  have j2 := fun W => idx4 (.int .u8 61) (.int .u8 124) (.int .u8 59) (.int .u8 44) W 2 (.int .u8 59) (by decide) (by decide) rfl
  have j3 := fun W => idx4 (.int .u8 61) (.int .u8 124) (.int .u8 59) (.int .u8 44) W 3 (.int .u8 44) (by decide) (by decide) rfl
  go_enter Try.func48, Try.ntmps48
  go_wp2_with fail
  go_step3
  go_wp2_with fail
  go_step3
  go_wp2_with fail
  go_loopw [8] (fun i W => (i = .int .i64 0 ∨ i = .int .i64 1 ∨ i = .int .i64 2) ∧ Below w.heap.size w W) (fun i _ => 5 - (intOf i).toNat)
  case atStart => exact ⟨.inl rfl, hB0⟩
  case round =>
    obtain ⟨hk, hB⟩ := hrel
    clear hB0
    rcases hk with rfl | rfl | rfl
    · go_wp2_with fail
      go_roundw
      case rel => exact ⟨.inr (.inl rfl), hB⟩
      case measure => decide
    · go_wp2_with fail
      go_roundw
      case rel => exact ⟨.inr (.inr (rfl)), hB⟩
      case measure => decide
    · go_wp2_with fail
      try rw [Exit.noGoto_ret]
      go_ret
      exact ⟨rfl, hB⟩
set_option maxRecDepth 100000 in
set_option maxHeartbeats 1600000 in
theorem of_44 (w : World) : Calls Try.prog 48 #[.int .u8 44] w fun e w' => e = .returned (.int .i64 4) ∧ Below w.heap.size w w' := by
  have hB0 := (Below.refl w.heap.size w).alloc (Nat.le_refl _) (.cells #[.int .u8 61, .int .u8 124, .int .u8 59, .int .u8 44] 85)
  have j0 := fun W => idx4 (.int .u8 61) (.int .u8 124) (.int .u8 59) (.int .u8 44) W 0 (.int .u8 61) (by decide) (by decide) rfl
  have j1 := fun W => idx4 (.int .u8 61) (.int .u8 124) (.int .u8 59) (.int .u8 44) W 1 (.int .u8 124) (by decide) (by decide) rfl
  have j2 := fun W => idx4 (.int .u8 61) (.int .u8 124) (.int .u8 59) (.int .u8 44) W 2 (.int .u8 59) (by decide) (by decide) rfl
  have j3 := fun W => idx4 (.int .u8 61) (.int .u8 124) (.int .u8 59) (.int .u8 44) W 3 (.int .u8 44) (by decide) (by decide) rfl
  go_enter Try.func48, Try.ntmps48
  go_wp2_with fail
  go_step3
  go_wp2_with fail
  go_step3
  go_wp2_with fail
  go_loopw [8] (fun i W => (i = .int .i64 0 ∨ i = .int .i64 1 ∨ i = .int .i64 2 ∨ i = .int .i64 3) ∧ Below w.heap.size w W) (fun i _ => 5 - (intOf i).toNat)
  case atStart => exact ⟨.inl rfl, hB0⟩
  case round =>
    obtain ⟨hk, hB⟩ := hrel
    clear hB0
    rcases hk with rfl | rfl | rfl | rfl
    · go_wp2_with fail
      go_roundw
      case rel => exact ⟨.inr (.inl rfl), hB⟩
      case measure => decide
    · go_wp2_with fail
      go_roundw
      case rel => exact ⟨.inr (.inr (.inl rfl)), hB⟩
      case measure => decide
    · go_wp2_with fail
      go_roundw
      case rel => exact ⟨.inr (.inr (.inr (rfl))), hB⟩
      case measure => decide
    · go_wp2_with fail
      try rw [Exit.noGoto_ret]
      go_ret
      exact ⟨rfl, hB⟩
set_option maxRecDepth 100000 in
set_option maxHeartbeats 1600000 in
theorem of_0 (w : World) : Calls Try.prog 48 #[.int .u8 0] w fun e w' => e = .returned (.int .i64 0) ∧ Below w.heap.size w w' := by
  have hB0 := (Below.refl w.heap.size w).alloc (Nat.le_refl _) (.cells #[.int .u8 61, .int .u8 124, .int .u8 59, .int .u8 44] 85)
  have j0 := fun W => idx4 (.int .u8 61) (.int .u8 124) (.int .u8 59) (.int .u8 44) W 0 (.int .u8 61) (by decide) (by decide) rfl
  have j1 := fun W => idx4 (.int .u8 61) (.int .u8 124) (.int .u8 59) (.int .u8 44) W 1 (.int .u8 124) (by decide) (by decide) rfl
  have j2 := fun W => idx4 (.int .u8 61) (.int .u8 124) (.int .u8 59) (.int .u8 44) W 2 (.int .u8 59) (by decide) (by decide) rfl
  have j3 := fun W => idx4 (.int .u8 61) (.int .u8 124) (.int .u8 59) (.int .u8 44) W 3 (.int .u8 44) (by decide) (by decide) rfl
  go_enter Try.func48, Try.ntmps48
  go_wp2_with fail
  go_step3
  go_wp2_with fail
  go_step3
  go_wp2_with fail
  go_loopw [8] (fun i W => (i = .int .i64 0) ∧ Below w.heap.size w W) (fun i _ => 5 - (intOf i).toNat)
  case atStart => exact ⟨rfl, hB0⟩
  case round =>
    obtain ⟨hk, hB⟩ := hrel
    clear hB0
    rcases hk with rfl
    · go_wp2_with fail
      try rw [Exit.noGoto_ret]
      go_ret
      exact ⟨rfl, hB⟩
set_option maxRecDepth 100000 in
set_option maxHeartbeats 1600000 in
theorem of_95 (w : World) : Calls Try.prog 48 #[.int .u8 95] w fun e w' => e = .returned (.int .i64 3) ∧ Below w.heap.size w w' := by
  have hB0 := (Below.refl w.heap.size w).alloc (Nat.le_refl _) (.cells #[.int .u8 61, .int .u8 124, .int .u8 59, .int .u8 44] 85)
  have j0 := fun W => idx4 (.int .u8 61) (.int .u8 124) (.int .u8 59) (.int .u8 44) W 0 (.int .u8 61) (by decide) (by decide) rfl
  have j1 := fun W => idx4 (.int .u8 61) (.int .u8 124) (.int .u8 59) (.int .u8 44) W 1 (.int .u8 124) (by decide) (by decide) rfl
  have j2 := fun W => idx4 (.int .u8 61) (.int .u8 124) (.int .u8 59) (.int .u8 44) W 2 (.int .u8 59) (by decide) (by decide) rfl
  have j3 := fun W => idx4 (.int .u8 61) (.int .u8 124) (.int .u8 59) (.int .u8 44) W 3 (.int .u8 44) (by decide) (by decide) rfl
  go_enter Try.func48, Try.ntmps48
  go_wp2_with fail
  go_step3
  go_wp2_with fail
  go_step3
  go_wp2_with fail
  go_loopw [8] (fun i W => (i = .int .i64 0 ∨ i = .int .i64 1 ∨ i = .int .i64 2 ∨ i = .int .i64 3 ∨ i = .int .i64 4) ∧ Below w.heap.size w W) (fun i _ => 5 - (intOf i).toNat)
  case atStart => exact ⟨.inl rfl, hB0⟩
  case round =>
    obtain ⟨hk, hB⟩ := hrel
    clear hB0
    rcases hk with rfl | rfl | rfl | rfl | rfl
    · go_wp2_with fail
      go_roundw
      case rel => exact ⟨.inr (.inl rfl), hB⟩
      case measure => decide
    · go_wp2_with fail
      go_roundw
      case rel => exact ⟨.inr (.inr (.inl rfl)), hB⟩
      case measure => decide
    · go_wp2_with fail
      go_roundw
      case rel => exact ⟨.inr (.inr (.inr (.inl rfl))), hB⟩
      case measure => decide
    · go_wp2_with fail
      go_roundw
      case rel => exact ⟨.inr (.inr (.inr (.inr (rfl)))), hB⟩
      case measure => decide
    · go_wp2_with fail
      try rw [Exit.noGoto_ret]
      go_ret
      exact ⟨rfl, hB⟩
set_option maxRecDepth 100000 in
set_option maxHeartbeats 1600000 in
theorem of_32 (w : World) : Calls Try.prog 48 #[.int .u8 32] w fun e w' => e = .returned (.int .i64 5) ∧ Below w.heap.size w w' := by
  have hB0 := (Below.refl w.heap.size w).alloc (Nat.le_refl _) (.cells #[.int .u8 61, .int .u8 124, .int .u8 59, .int .u8 44] 85)
  have j0 := fun W => idx4 (.int .u8 61) (.int .u8 124) (.int .u8 59) (.int .u8 44) W 0 (.int .u8 61) (by decide) (by decide) rfl
  have j1 := fun W => idx4 (.int .u8 61) (.int .u8 124) (.int .u8 59) (.int .u8 44) W 1 (.int .u8 124) (by decide) (by decide) rfl
  have j2 := fun W => idx4 (.int .u8 61) (.int .u8 124) (.int .u8 59) (.int .u8 44) W 2 (.int .u8 59) (by decide) (by decide) rfl
  have j3 := fun W => idx4 (.int .u8 61) (.int .u8 124) (.int .u8 59) (.int .u8 44) W 3 (.int .u8 44) (by decide) (by decide) rfl
  go_enter Try.func48, Try.ntmps48
  go_wp2_with fail
  go_step3
  go_wp2_with fail
  go_step3
  go_wp2_with fail
  go_loopw [8] (fun i W => (i = .int .i64 0 ∨ i = .int .i64 1 ∨ i = .int .i64 2 ∨ i = .int .i64 3 ∨ i = .int .i64 4) ∧ Below w.heap.size w W) (fun i _ => 5 - (intOf i).toNat)
  case atStart => exact ⟨.inl rfl, hB0⟩
  case round =>
    obtain ⟨hk, hB⟩ := hrel
    clear hB0
    rcases hk with rfl | rfl | rfl | rfl | rfl
    · go_wp2_with fail
      go_roundw
      case rel => exact ⟨.inr (.inl rfl), hB⟩
      case measure => decide
    · go_wp2_with fail
      go_roundw
      case rel => exact ⟨.inr (.inr (.inl rfl)), hB⟩
      case measure => decide
    · go_wp2_with fail
      go_roundw
      case rel => exact ⟨.inr (.inr (.inr (.inl rfl))), hB⟩
      case measure => decide
    · go_wp2_with fail
      go_roundw
      case rel => exact ⟨.inr (.inr (.inr (.inr (rfl)))), hB⟩
      case measure => decide
    · go_wp2_with fail
      try rw [Exit.noGoto_ret]
      go_ret
      exact ⟨rfl, hB⟩
set_option maxRecDepth 100000 in
set_option maxHeartbeats 1600000 in
theorem of_9 (w : World) : Calls Try.prog 48 #[.int .u8 9] w fun e w' => e = .returned (.int .i64 5) ∧ Below w.heap.size w w' := by
  have hB0 := (Below.refl w.heap.size w).alloc (Nat.le_refl _) (.cells #[.int .u8 61, .int .u8 124, .int .u8 59, .int .u8 44] 85)
  have j0 := fun W => idx4 (.int .u8 61) (.int .u8 124) (.int .u8 59) (.int .u8 44) W 0 (.int .u8 61) (by decide) (by decide) rfl
  have j1 := fun W => idx4 (.int .u8 61) (.int .u8 124) (.int .u8 59) (.int .u8 44) W 1 (.int .u8 124) (by decide) (by decide) rfl
  have j2 := fun W => idx4 (.int .u8 61) (.int .u8 124) (.int .u8 59) (.int .u8 44) W 2 (.int .u8 59) (by decide) (by decide) rfl
  have j3 := fun W => idx4 (.int .u8 61) (.int .u8 124) (.int .u8 59) (.int .u8 44) W 3 (.int .u8 44) (by decide) (by decide) rfl
  go_enter Try.func48, Try.ntmps48
  go_wp2_with fail
  go_step3
  go_wp2_with fail
  go_step3
  go_wp2_with fail
  go_loopw [8] (fun i W => (i = .int .i64 0 ∨ i = .int .i64 1 ∨ i = .int .i64 2 ∨ i = .int .i64 3 ∨ i = .int .i64 4) ∧ Below w.heap.size w W) (fun i _ => 5 - (intOf i).toNat)
  case atStart => exact ⟨.inl rfl, hB0⟩
  case round =>
    obtain ⟨hk, hB⟩ := hrel
    clear hB0
    rcases hk with rfl | rfl | rfl | rfl | rfl
    · go_wp2_with fail
      go_roundw
      case rel => exact ⟨.inr (.inl rfl), hB⟩
      case measure => decide
    · go_wp2_with fail
      go_roundw
      case rel => exact ⟨.inr (.inr (.inl rfl)), hB⟩
      case measure => decide
    · go_wp2_with fail
      go_roundw
      case rel => exact ⟨.inr (.inr (.inr (.inl rfl))), hB⟩
      case measure => decide
    · go_wp2_with fail
      go_roundw
      case rel => exact ⟨.inr (.inr (.inr (.inr (rfl)))), hB⟩
      case measure => decide
    · go_wp2_with fail
      try rw [Exit.noGoto_ret]
      go_ret
      exact ⟨rfl, hB⟩
set_option maxRecDepth 100000 in
set_option maxHeartbeats 1600000 in
theorem of_10 (w : World) : Calls Try.prog 48 #[.int .u8 10] w fun e w' => e = .returned (.int .i64 5) ∧ Below w.heap.size w w' := by
  have hB0 := (Below.refl w.heap.size w).alloc (Nat.le_refl _) (.cells #[.int .u8 61, .int .u8 124, .int .u8 59, .int .u8 44] 85)
  have j0 := fun W => idx4 (.int .u8 61) (.int .u8 124) (.int .u8 59) (.int .u8 44) W 0 (.int .u8 61) (by decide) (by decide) rfl
  have j1 := fun W => idx4 (.int .u8 61) (.int .u8 124) (.int .u8 59) (.int .u8 44) W 1 (.int .u8 124) (by decide) (by decide) rfl
  have j2 := fun W => idx4 (.int .u8 61) (.int .u8 124) (.int .u8 59) (.int .u8 44) W 2 (.int .u8 59) (by decide) (by decide) rfl
  have j3 := fun W => idx4 (.int .u8 61) (.int .u8 124) (.int .u8 59) (.int .u8 44) W 3 (.int .u8 44) (by decide) (by decide) rfl
  go_enter Try.func48, Try.ntmps48
  go_wp2_with fail
  go_step3
  go_wp2_with fail
  go_step3
  go_wp2_with fail
  go_loopw [8] (fun i W => (i = .int .i64 0 ∨ i = .int .i64 1 ∨ i = .int .i64 2 ∨ i = .int .i64 3 ∨ i = .int .i64 4) ∧ Below w.heap.size w W) (fun i _ => 5 - (intOf i).toNat)
  case atStart => exact ⟨.inl rfl, hB0⟩
  case round =>
    obtain ⟨hk, hB⟩ := hrel
    clear hB0
    rcases hk with rfl | rfl | rfl | rfl | rfl
    · go_wp2_with fail
      go_roundw
      case rel => exact ⟨.inr (.inl rfl), hB⟩
      case measure => decide
    · go_wp2_with fail
      go_roundw
      case rel => exact ⟨.inr (.inr (.inl rfl)), hB⟩
      case measure => decide
    · go_wp2_with fail
      go_roundw
      case rel => exact ⟨.inr (.inr (.inr (.inl rfl))), hB⟩
      case measure => decide
    · go_wp2_with fail
      go_roundw
      case rel => exact ⟨.inr (.inr (.inr (.inr (rfl)))), hB⟩
      case measure => decide
    · go_wp2_with fail
      try rw [Exit.noGoto_ret]
      go_ret
      exact ⟨rfl, hB⟩
set_option maxRecDepth 100000 in
set_option maxHeartbeats 1600000 in
theorem of_13 (w : World) : Calls Try.prog 48 #[.int .u8 13] w fun e w' => e = .returned (.int .i64 5) ∧ Below w.heap.size w w' := by
  have hB0 := (Below.refl w.heap.size w).alloc (Nat.le_refl _) (.cells #[.int .u8 61, .int .u8 124, .int .u8 59, .int .u8 44] 85)
  have j0 := fun W => idx4 (.int .u8 61) (.int .u8 124) (.int .u8 59) (.int .u8 44) W 0 (.int .u8 61) (by decide) (by decide) rfl
  have j1 := fun W => idx4 (.int .u8 61) (.int .u8 124) (.int .u8 59) (.int .u8 44) W 1 (.int .u8 124) (by decide) (by decide) rfl
  have j2 := fun W => idx4 (.int .u8 61) (.int .u8 124) (.int .u8 59) (.int .u8 44) W 2 (.int .u8 59) (by decide) (by decide) rfl
  have j3 := fun W => idx4 (.int .u8 61) (.int .u8 124) (.int .u8 59) (.int .u8 44) W 3 (.int .u8 44) (by decide) (by decide) rfl
  go_enter Try.func48, Try.ntmps48
  go_wp2_with fail
  go_step3
  go_wp2_with fail
  go_step3
  go_wp2_with fail
  go_loopw [8] (fun i W => (i = .int .i64 0 ∨ i = .int .i64 1 ∨ i = .int .i64 2 ∨ i = .int .i64 3 ∨ i = .int .i64 4) ∧ Below w.heap.size w W) (fun i _ => 5 - (intOf i).toNat)
  case atStart => exact ⟨.inl rfl, hB0⟩
  case round =>
    obtain ⟨hk, hB⟩ := hrel
    clear hB0
    rcases hk with rfl | rfl | rfl | rfl | rfl
    · go_wp2_with fail
      go_roundw
      case rel => exact ⟨.inr (.inl rfl), hB⟩
      case measure => decide
    · go_wp2_with fail
      go_roundw
      case rel => exact ⟨.inr (.inr (.inl rfl)), hB⟩
      case measure => decide
    · go_wp2_with fail
      go_roundw
      case rel => exact ⟨.inr (.inr (.inr (.inl rfl))), hB⟩
      case measure => decide
    · go_wp2_with fail
      go_roundw
      case rel => exact ⟨.inr (.inr (.inr (.inr (rfl)))), hB⟩
      case measure => decide
    · go_wp2_with fail
      try rw [Exit.noGoto_ret]
      go_ret
      exact ⟨rfl, hB⟩
set_option maxRecDepth 100000 in
set_option maxHeartbeats 1600000 in
theorem of_35 (w : World) : Calls Try.prog 48 #[.int .u8 35] w fun e w' => e = .returned (.int .i64 6) ∧ Below w.heap.size w w' := by
  have hB0 := (Below.refl w.heap.size w).alloc (Nat.le_refl _) (.cells #[.int .u8 61, .int .u8 124, .int .u8 59, .int .u8 44] 85)
  have j0 := fun W => idx4 (.int .u8 61) (.int .u8 124) (.int .u8 59) (.int .u8 44) W 0 (.int .u8 61) (by decide) (by decide) rfl
  have j1 := fun W => idx4 (.int .u8 61) (.int .u8 124) (.int .u8 59) (.int .u8 44) W 1 (.int .u8 124) (by decide) (by decide) rfl
  have j2 := fun W => idx4 (.int .u8 61) (.int .u8 124) (.int .u8 59) (.int .u8 44) W 2 (.int .u8 59) (by decide) (by decide) rfl
  have j3 := fun W => idx4 (.int .u8 61) (.int .u8 124) (.int .u8 59) (.int .u8 44) W 3 (.int .u8 44) (by decide) (by decide) rfl
  go_enter Try.func48, Try.ntmps48
  go_wp2_with fail
  go_step3
  go_wp2_with fail
  go_step3
  go_wp2_with fail
  go_loopw [8] (fun i W => (i = .int .i64 0 ∨ i = .int .i64 1 ∨ i = .int .i64 2 ∨ i = .int .i64 3 ∨ i = .int .i64 4) ∧ Below w.heap.size w W) (fun i _ => 5 - (intOf i).toNat)
  case atStart => exact ⟨.inl rfl, hB0⟩
  case round =>
    obtain ⟨hk, hB⟩ := hrel
    clear hB0
    rcases hk with rfl | rfl | rfl | rfl | rfl
    · go_wp2_with fail
      go_roundw
      case rel => exact ⟨.inr (.inl rfl), hB⟩
      case measure => decide
    · go_wp2_with fail
      go_roundw
      case rel => exact ⟨.inr (.inr (.inl rfl)), hB⟩
      case measure => decide
    · go_wp2_with fail
      go_roundw
      case rel => exact ⟨.inr (.inr (.inr (.inl rfl))), hB⟩
      case measure => decide
    · go_wp2_with fail
      go_roundw
      case rel => exact ⟨.inr (.inr (.inr (.inr (rfl)))), hB⟩
      case measure => decide
    · go_wp2_with fail
      try rw [Exit.noGoto_ret]
      go_ret
      exact ⟨rfl, hB⟩
set_option maxRecDepth 100000 in
set_option maxHeartbeats 1600000 in
theorem of_low (c : Int) (h1 : 97 ≤ c) (h2 : c ≤ 122) (w : World) : Calls Try.prog 48 #[.int .u8 c] w fun e w' => e = .returned (.int .i64 1) ∧ Below w.heap.size w w' := by
  have e61 : (c == 61) = false := by rw [beq_eq_false_iff_ne]; omega
  have e124 : (c == 124) = false := by rw [beq_eq_false_iff_ne]; omega
  have e59 : (c == 59) = false := by rw [beq_eq_false_iff_ne]; omega
  have e44 : (c == 44) = false := by rw [beq_eq_false_iff_ne]; omega
  have e0 : (c == 0) = false := by rw [beq_eq_false_iff_ne]; omega
  have e95 : (c == 95) = false := by rw [beq_eq_false_iff_ne]; omega
  have e32 : (c == 32) = false := by rw [beq_eq_false_iff_ne]; omega
  have e9 : (c == 9) = false := by rw [beq_eq_false_iff_ne]; omega
  have e10 : (c == 10) = false := by rw [beq_eq_false_iff_ne]; omega
  have e13 : (c == 13) = false := by rw [beq_eq_false_iff_ne]; omega
  have e35 : (c == 35) = false := by rw [beq_eq_false_iff_ne]; omega
  have g97 : decide ((97 : Int) ≤ c) = true := decide_eq_true (by omega)
  have g65 : decide ((65 : Int) ≤ c) = true := decide_eq_true (by omega)
  have g48 : decide ((48 : Int) ≤ c) = true := decide_eq_true (by omega)
  have l122 : decide (c ≤ (122 : Int)) = true := decide_eq_true (by omega)
  have l90 : decide (c ≤ (90 : Int)) = false := decide_eq_false (by omega)
  have l57 : decide (c ≤ (57 : Int)) = false := decide_eq_false (by omega)
  have hB0 := (Below.refl w.heap.size w).alloc (Nat.le_refl _) (.cells #[.int .u8 61, .int .u8 124, .int .u8 59, .int .u8 44] 85)
  have j0 := fun W => idx4 (.int .u8 61) (.int .u8 124) (.int .u8 59) (.int .u8 44) W 0 (.int .u8 61) (by decide) (by decide) rfl
  have j1 := fun W => idx4 (.int .u8 61) (.int .u8 124) (.int .u8 59) (.int .u8 44) W 1 (.int .u8 124) (by decide) (by decide) rfl
  have j2 := fun W => idx4 (.int .u8 61) (.int .u8 124) (.int .u8 59) (.int .u8 44) W 2 (.int .u8 59) (by decide) (by decide) rfl
  have j3 := fun W => idx4 (.int .u8 61) (.int .u8 124) (.int .u8 59) (.int .u8 44) W 3 (.int .u8 44) (by decide) (by decide) rfl
  go_enter Try.func48, Try.ntmps48
  go_wp2_with fail
  go_step3
  go_wp2_with fail
  go_step3
  go_wp2_with fail
  go_loopw [8] (fun i W => (i = .int .i64 0 ∨ i = .int .i64 1 ∨ i = .int .i64 2 ∨ i = .int .i64 3 ∨ i = .int .i64 4) ∧ Below w.heap.size w W) (fun i _ => 5 - (intOf i).toNat)
  case atStart => exact ⟨.inl rfl, hB0⟩
  case round =>
    obtain ⟨hk, hB⟩ := hrel
    clear hB0
    rcases hk with rfl | rfl | rfl | rfl | rfl
    · go_wp2_with fail
      go_roundw
      case rel => exact ⟨.inr (.inl rfl), hB⟩
      case measure => decide
    · go_wp2_with fail
      go_roundw
      case rel => exact ⟨.inr (.inr (.inl rfl)), hB⟩
      case measure => decide
    · go_wp2_with fail
      go_roundw
      case rel => exact ⟨.inr (.inr (.inr (.inl rfl))), hB⟩
      case measure => decide
    · go_wp2_with fail
      go_roundw
      case rel => exact ⟨.inr (.inr (.inr (.inr (rfl)))), hB⟩
      case measure => decide
    · go_wp2_with fail
      try rw [Exit.noGoto_ret]
      go_ret
      exact ⟨rfl, hB⟩
set_option maxRecDepth 100000 in
set_option maxHeartbeats 1600000 in
theorem of_up (c : Int) (h1 : 65 ≤ c) (h2 : c ≤ 90) (w : World) : Calls Try.prog 48 #[.int .u8 c] w fun e w' => e = .returned (.int .i64 1) ∧ Below w.heap.size w w' := by
  have e61 : (c == 61) = false := by rw [beq_eq_false_iff_ne]; omega
  have e124 : (c == 124) = false := by rw [beq_eq_false_iff_ne]; omega
  have e59 : (c == 59) = false := by rw [beq_eq_false_iff_ne]; omega
  have e44 : (c == 44) = false := by rw [beq_eq_false_iff_ne]; omega
  have e0 : (c == 0) = false := by rw [beq_eq_false_iff_ne]; omega
  have e95 : (c == 95) = false := by rw [beq_eq_false_iff_ne]; omega
  have e32 : (c == 32) = false := by rw [beq_eq_false_iff_ne]; omega
  have e9 : (c == 9) = false := by rw [beq_eq_false_iff_ne]; omega
  have e10 : (c == 10) = false := by rw [beq_eq_false_iff_ne]; omega
  have e13 : (c == 13) = false := by rw [beq_eq_false_iff_ne]; omega
  have e35 : (c == 35) = false := by rw [beq_eq_false_iff_ne]; omega
  have g97 : decide ((97 : Int) ≤ c) = false := decide_eq_false (by omega)
  have g65 : decide ((65 : Int) ≤ c) = true := decide_eq_true (by omega)
  have g48 : decide ((48 : Int) ≤ c) = true := decide_eq_true (by omega)
  have l122 : decide (c ≤ (122 : Int)) = true := decide_eq_true (by omega)
  have l90 : decide (c ≤ (90 : Int)) = true := decide_eq_true (by omega)
  have l57 : decide (c ≤ (57 : Int)) = false := decide_eq_false (by omega)
  have hB0 := (Below.refl w.heap.size w).alloc (Nat.le_refl _) (.cells #[.int .u8 61, .int .u8 124, .int .u8 59, .int .u8 44] 85)
  have j0 := fun W => idx4 (.int .u8 61) (.int .u8 124) (.int .u8 59) (.int .u8 44) W 0 (.int .u8 61) (by decide) (by decide) rfl
  have j1 := fun W => idx4 (.int .u8 61) (.int .u8 124) (.int .u8 59) (.int .u8 44) W 1 (.int .u8 124) (by decide) (by decide) rfl
  have j2 := fun W => idx4 (.int .u8 61) (.int .u8 124) (.int .u8 59) (.int .u8 44) W 2 (.int .u8 59) (by decide) (by decide) rfl
  have j3 := fun W => idx4 (.int .u8 61) (.int .u8 124) (.int .u8 59) (.int .u8 44) W 3 (.int .u8 44) (by decide) (by decide) rfl
  go_enter Try.func48, Try.ntmps48
  go_wp2_with fail
  go_step3
  go_wp2_with fail
  go_step3
  go_wp2_with fail
  go_loopw [8] (fun i W => (i = .int .i64 0 ∨ i = .int .i64 1 ∨ i = .int .i64 2 ∨ i = .int .i64 3 ∨ i = .int .i64 4) ∧ Below w.heap.size w W) (fun i _ => 5 - (intOf i).toNat)
  case atStart => exact ⟨.inl rfl, hB0⟩
  case round =>
    obtain ⟨hk, hB⟩ := hrel
    clear hB0
    rcases hk with rfl | rfl | rfl | rfl | rfl
    · go_wp2_with fail
      go_roundw
      case rel => exact ⟨.inr (.inl rfl), hB⟩
      case measure => decide
    · go_wp2_with fail
      go_roundw
      case rel => exact ⟨.inr (.inr (.inl rfl)), hB⟩
      case measure => decide
    · go_wp2_with fail
      go_roundw
      case rel => exact ⟨.inr (.inr (.inr (.inl rfl))), hB⟩
      case measure => decide
    · go_wp2_with fail
      go_roundw
      case rel => exact ⟨.inr (.inr (.inr (.inr (rfl)))), hB⟩
      case measure => decide
    · go_wp2_with fail
      try rw [Exit.noGoto_ret]
      go_ret
      exact ⟨rfl, hB⟩
set_option maxRecDepth 100000 in
set_option maxHeartbeats 1600000 in
theorem of_dig (c : Int) (h1 : 48 ≤ c) (h2 : c ≤ 57) (w : World) : Calls Try.prog 48 #[.int .u8 c] w fun e w' => e = .returned (.int .i64 2) ∧ Below w.heap.size w w' := by
  have e61 : (c == 61) = false := by rw [beq_eq_false_iff_ne]; omega
  have e124 : (c == 124) = false := by rw [beq_eq_false_iff_ne]; omega
  have e59 : (c == 59) = false := by rw [beq_eq_false_iff_ne]; omega
  have e44 : (c == 44) = false := by rw [beq_eq_false_iff_ne]; omega
  have e0 : (c == 0) = false := by rw [beq_eq_false_iff_ne]; omega
  have e95 : (c == 95) = false := by rw [beq_eq_false_iff_ne]; omega
  have e32 : (c == 32) = false := by rw [beq_eq_false_iff_ne]; omega
  have e9 : (c == 9) = false := by rw [beq_eq_false_iff_ne]; omega
  have e10 : (c == 10) = false := by rw [beq_eq_false_iff_ne]; omega
  have e13 : (c == 13) = false := by rw [beq_eq_false_iff_ne]; omega
  have e35 : (c == 35) = false := by rw [beq_eq_false_iff_ne]; omega
  have g97 : decide ((97 : Int) ≤ c) = false := decide_eq_false (by omega)
  have g65 : decide ((65 : Int) ≤ c) = false := decide_eq_false (by omega)
  have g48 : decide ((48 : Int) ≤ c) = true := decide_eq_true (by omega)
  have l122 : decide (c ≤ (122 : Int)) = true := decide_eq_true (by omega)
  have l90 : decide (c ≤ (90 : Int)) = true := decide_eq_true (by omega)
  have l57 : decide (c ≤ (57 : Int)) = true := decide_eq_true (by omega)
  have hB0 := (Below.refl w.heap.size w).alloc (Nat.le_refl _) (.cells #[.int .u8 61, .int .u8 124, .int .u8 59, .int .u8 44] 85)
  have j0 := fun W => idx4 (.int .u8 61) (.int .u8 124) (.int .u8 59) (.int .u8 44) W 0 (.int .u8 61) (by decide) (by decide) rfl
  have j1 := fun W => idx4 (.int .u8 61) (.int .u8 124) (.int .u8 59) (.int .u8 44) W 1 (.int .u8 124) (by decide) (by decide) rfl
  have j2 := fun W => idx4 (.int .u8 61) (.int .u8 124) (.int .u8 59) (.int .u8 44) W 2 (.int .u8 59) (by decide) (by decide) rfl
  have j3 := fun W => idx4 (.int .u8 61) (.int .u8 124) (.int .u8 59) (.int .u8 44) W 3 (.int .u8 44) (by decide) (by decide) rfl
  go_enter Try.func48, Try.ntmps48
  go_wp2_with fail
  go_step3
  go_wp2_with fail
  go_step3
  go_wp2_with fail
  go_loopw [8] (fun i W => (i = .int .i64 0 ∨ i = .int .i64 1 ∨ i = .int .i64 2 ∨ i = .int .i64 3 ∨ i = .int .i64 4) ∧ Below w.heap.size w W) (fun i _ => 5 - (intOf i).toNat)
  case atStart => exact ⟨.inl rfl, hB0⟩
  case round =>
    obtain ⟨hk, hB⟩ := hrel
    clear hB0
    rcases hk with rfl | rfl | rfl | rfl | rfl
    · go_wp2_with fail
      go_roundw
      case rel => exact ⟨.inr (.inl rfl), hB⟩
      case measure => decide
    · go_wp2_with fail
      go_roundw
      case rel => exact ⟨.inr (.inr (.inl rfl)), hB⟩
      case measure => decide
    · go_wp2_with fail
      go_roundw
      case rel => exact ⟨.inr (.inr (.inr (.inl rfl))), hB⟩
      case measure => decide
    · go_wp2_with fail
      go_roundw
      case rel => exact ⟨.inr (.inr (.inr (.inr (rfl)))), hB⟩
      case measure => decide
    · go_wp2_with fail
      try rw [Exit.noGoto_ret]
      go_ret
      exact ⟨rfl, hB⟩
set_option maxRecDepth 100000 in
set_option maxHeartbeats 1600000 in
theorem of_o1 (c : Int) (h1 : 123 ≤ c) (h2 : c ≤ 255) (n124 : c ≠ 124) (w : World) : Calls Try.prog 48 #[.int .u8 c] w fun e w' => e = .returned (.int .i64 0) ∧ Below w.heap.size w w' := by
  have e61 : (c == 61) = false := by rw [beq_eq_false_iff_ne]; omega
  have e124 : (c == 124) = false := by rw [beq_eq_false_iff_ne]; omega
  have e59 : (c == 59) = false := by rw [beq_eq_false_iff_ne]; omega
  have e44 : (c == 44) = false := by rw [beq_eq_false_iff_ne]; omega
  have e0 : (c == 0) = false := by rw [beq_eq_false_iff_ne]; omega
  have e95 : (c == 95) = false := by rw [beq_eq_false_iff_ne]; omega
  have e32 : (c == 32) = false := by rw [beq_eq_false_iff_ne]; omega
  have e9 : (c == 9) = false := by rw [beq_eq_false_iff_ne]; omega
  have e10 : (c == 10) = false := by rw [beq_eq_false_iff_ne]; omega
  have e13 : (c == 13) = false := by rw [beq_eq_false_iff_ne]; omega
  have e35 : (c == 35) = false := by rw [beq_eq_false_iff_ne]; omega
  have g97 : decide ((97 : Int) ≤ c) = true := decide_eq_true (by omega)
  have g65 : decide ((65 : Int) ≤ c) = true := decide_eq_true (by omega)
  have g48 : decide ((48 : Int) ≤ c) = true := decide_eq_true (by omega)
  have l122 : decide (c ≤ (122 : Int)) = false := decide_eq_false (by omega)
  have l90 : decide (c ≤ (90 : Int)) = false := decide_eq_false (by omega)
  have l57 : decide (c ≤ (57 : Int)) = false := decide_eq_false (by omega)
  have hB0 := (Below.refl w.heap.size w).alloc (Nat.le_refl _) (.cells #[.int .u8 61, .int .u8 124, .int .u8 59, .int .u8 44] 85)
  have j0 := fun W => idx4 (.int .u8 61) (.int .u8 124) (.int .u8 59) (.int .u8 44) W 0 (.int .u8 61) (by decide) (by decide) rfl
  have j1 := fun W => idx4 (.int .u8 61) (.int .u8 124) (.int .u8 59) (.int .u8 44) W 1 (.int .u8 124) (by decide) (by decide) rfl
  have j2 := fun W => idx4 (.int .u8 61) (.int .u8 124) (.int .u8 59) (.int .u8 44) W 2 (.int .u8 59) (by decide) (by decide) rfl
  have j3 := fun W => idx4 (.int .u8 61) (.int .u8 124) (.int .u8 59) (.int .u8 44) W 3 (.int .u8 44) (by decide) (by decide) rfl
  go_enter Try.func48, Try.ntmps48
  go_wp2_with fail
  go_step3
  go_wp2_with fail
  go_step3
  go_wp2_with fail
  go_loopw [8] (fun i W => (i = .int .i64 0 ∨ i = .int .i64 1 ∨ i = .int .i64 2 ∨ i = .int .i64 3 ∨ i = .int .i64 4) ∧ Below w.heap.size w W) (fun i _ => 5 - (intOf i).toNat)
  case atStart => exact ⟨.inl rfl, hB0⟩
  case round =>
    obtain ⟨hk, hB⟩ := hrel
    clear hB0
    rcases hk with rfl | rfl | rfl | rfl | rfl
    · go_wp2_with fail
      go_roundw
      case rel => exact ⟨.inr (.inl rfl), hB⟩
      case measure => decide
    · go_wp2_with fail
      go_roundw
      case rel => exact ⟨.inr (.inr (.inl rfl)), hB⟩
      case measure => decide
    · go_wp2_with fail
      go_roundw
      case rel => exact ⟨.inr (.inr (.inr (.inl rfl))), hB⟩
      case measure => decide
    · go_wp2_with fail
      go_roundw
      case rel => exact ⟨.inr (.inr (.inr (.inr (rfl)))), hB⟩
      case measure => decide
    · go_wp2_with fail
      try rw [Exit.noGoto_ret]
      go_ret
      exact ⟨rfl, hB⟩
set_option maxRecDepth 100000 in
set_option maxHeartbeats 1600000 in
theorem of_o2 (c : Int) (h1 : 91 ≤ c) (h2 : c ≤ 96) (n95 : c ≠ 95) (w : World) : Calls Try.prog 48 #[.int .u8 c] w fun e w' => e = .returned (.int .i64 0) ∧ Below w.heap.size w w' := by
  have e61 : (c == 61) = false := by rw [beq_eq_false_iff_ne]; omega
  have e124 : (c == 124) = false := by rw [beq_eq_false_iff_ne]; omega
  have e59 : (c == 59) = false := by rw [beq_eq_false_iff_ne]; omega
  have e44 : (c == 44) = false := by rw [beq_eq_false_iff_ne]; omega
  have e0 : (c == 0) = false := by rw [beq_eq_false_iff_ne]; omega
  have e95 : (c == 95) = false := by rw [beq_eq_false_iff_ne]; omega
  have e32 : (c == 32) = false := by rw [beq_eq_false_iff_ne]; omega
  have e9 : (c == 9) = false := by rw [beq_eq_false_iff_ne]; omega
  have e10 : (c == 10) = false := by rw [beq_eq_false_iff_ne]; omega
  have e13 : (c == 13) = false := by rw [beq_eq_false_iff_ne]; omega
  have e35 : (c == 35) = false := by rw [beq_eq_false_iff_ne]; omega
  have g97 : decide ((97 : Int) ≤ c) = false := decide_eq_false (by omega)
  have g65 : decide ((65 : Int) ≤ c) = true := decide_eq_true (by omega)
  have g48 : decide ((48 : Int) ≤ c) = true := decide_eq_true (by omega)
  have l122 : decide (c ≤ (122 : Int)) = true := decide_eq_true (by omega)
  have l90 : decide (c ≤ (90 : Int)) = false := decide_eq_false (by omega)
  have l57 : decide (c ≤ (57 : Int)) = false := decide_eq_false (by omega)
  have hB0 := (Below.refl w.heap.size w).alloc (Nat.le_refl _) (.cells #[.int .u8 61, .int .u8 124, .int .u8 59, .int .u8 44] 85)
  have j0 := fun W => idx4 (.int .u8 61) (.int .u8 124) (.int .u8 59) (.int .u8 44) W 0 (.int .u8 61) (by decide) (by decide) rfl
  have j1 := fun W => idx4 (.int .u8 61) (.int .u8 124) (.int .u8 59) (.int .u8 44) W 1 (.int .u8 124) (by decide) (by decide) rfl
  have j2 := fun W => idx4 (.int .u8 61) (.int .u8 124) (.int .u8 59) (.int .u8 44) W 2 (.int .u8 59) (by decide) (by decide) rfl
  have j3 := fun W => idx4 (.int .u8 61) (.int .u8 124) (.int .u8 59) (.int .u8 44) W 3 (.int .u8 44) (by decide) (by decide) rfl
  go_enter Try.func48, Try.ntmps48
  go_wp2_with fail
  go_step3
  go_wp2_with fail
  go_step3
  go_wp2_with fail
  go_loopw [8] (fun i W => (i = .int .i64 0 ∨ i = .int .i64 1 ∨ i = .int .i64 2 ∨ i = .int .i64 3 ∨ i = .int .i64 4) ∧ Below w.heap.size w W) (fun i _ => 5 - (intOf i).toNat)
  case atStart => exact ⟨.inl rfl, hB0⟩
  case round =>
    obtain ⟨hk, hB⟩ := hrel
    clear hB0
    rcases hk with rfl | rfl | rfl | rfl | rfl
    · go_wp2_with fail
      go_roundw
      case rel => exact ⟨.inr (.inl rfl), hB⟩
      case measure => decide
    · go_wp2_with fail
      go_roundw
      case rel => exact ⟨.inr (.inr (.inl rfl)), hB⟩
      case measure => decide
    · go_wp2_with fail
      go_roundw
      case rel => exact ⟨.inr (.inr (.inr (.inl rfl))), hB⟩
      case measure => decide
    · go_wp2_with fail
      go_roundw
      case rel => exact ⟨.inr (.inr (.inr (.inr (rfl)))), hB⟩
      case measure => decide
    · go_wp2_with fail
      try rw [Exit.noGoto_ret]
      go_ret
      exact ⟨rfl, hB⟩
set_option maxRecDepth 100000 in
set_option maxHeartbeats 1600000 in
theorem of_o3 (c : Int) (h1 : 58 ≤ c) (h2 : c ≤ 64) (n59 : c ≠ 59) (n61 : c ≠ 61) (w : World) : Calls Try.prog 48 #[.int .u8 c] w fun e w' => e = .returned (.int .i64 0) ∧ Below w.heap.size w w' := by
  have e61 : (c == 61) = false := by rw [beq_eq_false_iff_ne]; omega
  have e124 : (c == 124) = false := by rw [beq_eq_false_iff_ne]; omega
  have e59 : (c == 59) = false := by rw [beq_eq_false_iff_ne]; omega
  have e44 : (c == 44) = false := by rw [beq_eq_false_iff_ne]; omega
  have e0 : (c == 0) = false := by rw [beq_eq_false_iff_ne]; omega
  have e95 : (c == 95) = false := by rw [beq_eq_false_iff_ne]; omega
  have e32 : (c == 32) = false := by rw [beq_eq_false_iff_ne]; omega
  have e9 : (c == 9) = false := by rw [beq_eq_false_iff_ne]; omega
  have e10 : (c == 10) = false := by rw [beq_eq_false_iff_ne]; omega
  have e13 : (c == 13) = false := by rw [beq_eq_false_iff_ne]; omega
  have e35 : (c == 35) = false := by rw [beq_eq_false_iff_ne]; omega
  have g97 : decide ((97 : Int) ≤ c) = false := decide_eq_false (by omega)
  have g65 : decide ((65 : Int) ≤ c) = false := decide_eq_false (by omega)
  have g48 : decide ((48 : Int) ≤ c) = true := decide_eq_true (by omega)
  have l122 : decide (c ≤ (122 : Int)) = true := decide_eq_true (by omega)
  have l90 : decide (c ≤ (90 : Int)) = true := decide_eq_true (by omega)
  have l57 : decide (c ≤ (57 : Int)) = false := decide_eq_false (by omega)
  have hB0 := (Below.refl w.heap.size w).alloc (Nat.le_refl _) (.cells #[.int .u8 61, .int .u8 124, .int .u8 59, .int .u8 44] 85)
  have j0 := fun W => idx4 (.int .u8 61) (.int .u8 124) (.int .u8 59) (.int .u8 44) W 0 (.int .u8 61) (by decide) (by decide) rfl
  have j1 := fun W => idx4 (.int .u8 61) (.int .u8 124) (.int .u8 59) (.int .u8 44) W 1 (.int .u8 124) (by decide) (by decide) rfl
  have j2 := fun W => idx4 (.int .u8 61) (.int .u8 124) (.int .u8 59) (.int .u8 44) W 2 (.int .u8 59) (by decide) (by decide) rfl
  have j3 := fun W => idx4 (.int .u8 61) (.int .u8 124) (.int .u8 59) (.int .u8 44) W 3 (.int .u8 44) (by decide) (by decide) rfl
  go_enter Try.func48, Try.ntmps48
  go_wp2_with fail
  go_step3
  go_wp2_with fail
  go_step3
  go_wp2_with fail
  go_loopw [8] (fun i W => (i = .int .i64 0 ∨ i = .int .i64 1 ∨ i = .int .i64 2 ∨ i = .int .i64 3 ∨ i = .int .i64 4) ∧ Below w.heap.size w W) (fun i _ => 5 - (intOf i).toNat)
  case atStart => exact ⟨.inl rfl, hB0⟩
  case round =>
    obtain ⟨hk, hB⟩ := hrel
    clear hB0
    rcases hk with rfl | rfl | rfl | rfl | rfl
    · go_wp2_with fail
      go_roundw
      case rel => exact ⟨.inr (.inl rfl), hB⟩
      case measure => decide
    · go_wp2_with fail
      go_roundw
      case rel => exact ⟨.inr (.inr (.inl rfl)), hB⟩
      case measure => decide
    · go_wp2_with fail
      go_roundw
      case rel => exact ⟨.inr (.inr (.inr (.inl rfl))), hB⟩
      case measure => decide
    · go_wp2_with fail
      go_roundw
      case rel => exact ⟨.inr (.inr (.inr (.inr (rfl)))), hB⟩
      case measure => decide
    · go_wp2_with fail
      try rw [Exit.noGoto_ret]
      go_ret
      exact ⟨rfl, hB⟩
set_option maxRecDepth 100000 in
set_option maxHeartbeats 1600000 in
theorem of_o4 (c : Int) (h1 : 1 ≤ c) (h2 : c ≤ 47) (n44 : c ≠ 44) (n32 : c ≠ 32) (n9 : c ≠ 9) (n10 : c ≠ 10) (n13 : c ≠ 13) (n35 : c ≠ 35) (w : World) : Calls Try.prog 48 #[.int .u8 c] w fun e w' => e = .returned (.int .i64 0) ∧ Below w.heap.size w w' := by
  have e61 : (c == 61) = false := by rw [beq_eq_false_iff_ne]; omega
  have e124 : (c == 124) = false := by rw [beq_eq_false_iff_ne]; omega
  have e59 : (c == 59) = false := by rw [beq_eq_false_iff_ne]; omega
  have e44 : (c == 44) = false := by rw [beq_eq_false_iff_ne]; omega
  have e0 : (c == 0) = false := by rw [beq_eq_false_iff_ne]; omega
  have e95 : (c == 95) = false := by rw [beq_eq_false_iff_ne]; omega
  have e32 : (c == 32) = false := by rw [beq_eq_false_iff_ne]; omega
  have e9 : (c == 9) = false := by rw [beq_eq_false_iff_ne]; omega
  have e10 : (c == 10) = false := by rw [beq_eq_false_iff_ne]; omega
  have e13 : (c == 13) = false := by rw [beq_eq_false_iff_ne]; omega
  have e35 : (c == 35) = false := by rw [beq_eq_false_iff_ne]; omega
  have g97 : decide ((97 : Int) ≤ c) = false := decide_eq_false (by omega)
  have g65 : decide ((65 : Int) ≤ c) = false := decide_eq_false (by omega)
  have g48 : decide ((48 : Int) ≤ c) = false := decide_eq_false (by omega)
  have l122 : decide (c ≤ (122 : Int)) = true := decide_eq_true (by omega)
  have l90 : decide (c ≤ (90 : Int)) = true := decide_eq_true (by omega)
  have l57 : decide (c ≤ (57 : Int)) = true := decide_eq_true (by omega)
  have hB0 := (Below.refl w.heap.size w).alloc (Nat.le_refl _) (.cells #[.int .u8 61, .int .u8 124, .int .u8 59, .int .u8 44] 85)
  have j0 := fun W => idx4 (.int .u8 61) (.int .u8 124) (.int .u8 59) (.int .u8 44) W 0 (.int .u8 61) (by decide) (by decide) rfl
  have j1 := fun W => idx4 (.int .u8 61) (.int .u8 124) (.int .u8 59) (.int .u8 44) W 1 (.int .u8 124) (by decide) (by decide) rfl
  have j2 := fun W => idx4 (.int .u8 61) (.int .u8 124) (.int .u8 59) (.int .u8 44) W 2 (.int .u8 59) (by decide) (by decide) rfl
  have j3 := fun W => idx4 (.int .u8 61) (.int .u8 124) (.int .u8 59) (.int .u8 44) W 3 (.int .u8 44) (by decide) (by decide) rfl
  go_enter Try.func48, Try.ntmps48
  go_wp2_with fail
  go_step3
  go_wp2_with fail
  go_step3
  go_wp2_with fail
  go_loopw [8] (fun i W => (i = .int .i64 0 ∨ i = .int .i64 1 ∨ i = .int .i64 2 ∨ i = .int .i64 3 ∨ i = .int .i64 4) ∧ Below w.heap.size w W) (fun i _ => 5 - (intOf i).toNat)
  case atStart => exact ⟨.inl rfl, hB0⟩
  case round =>
    obtain ⟨hk, hB⟩ := hrel
    clear hB0
    rcases hk with rfl | rfl | rfl | rfl | rfl
    · go_wp2_with fail
      go_roundw
      case rel => exact ⟨.inr (.inl rfl), hB⟩
      case measure => decide
    · go_wp2_with fail
      go_roundw
      case rel => exact ⟨.inr (.inr (.inl rfl)), hB⟩
      case measure => decide
    · go_wp2_with fail
      go_roundw
      case rel => exact ⟨.inr (.inr (.inr (.inl rfl))), hB⟩
      case measure => decide
    · go_wp2_with fail
      go_roundw
      case rel => exact ⟨.inr (.inr (.inr (.inr (rfl)))), hB⟩
      case measure => decide
    · go_wp2_with fail
      try rw [Exit.noGoto_ret]
      go_ret
      exact ⟨rfl, hB⟩
theorem of_any (n : Nat) (hn : n < 256) (w : World) : Calls Try.prog 48 #[.int .u8 n] w fun e w' => e = .returned (.int .i64 (clsN n)) ∧ Below w.heap.size w w' := by
  by_cases k61 : n = 61
  · subst k61; exact of_61 w
  by_cases k124 : n = 124
  · subst k124; exact of_124 w
  by_cases k59 : n = 59
  · subst k59; exact of_59 w
  by_cases k44 : n = 44
  · subst k44; exact of_44 w
  by_cases k0 : n = 0
  · subst k0; exact of_0 w
  by_cases k95 : n = 95
  · subst k95; exact of_95 w
  by_cases k32 : n = 32
  · subst k32; exact of_32 w
  by_cases k9 : n = 9
  · subst k9; exact of_9 w
  by_cases k10 : n = 10
  · subst k10; exact of_10 w
  by_cases k13 : n = 13
  · subst k13; exact of_13 w
  by_cases k35 : n = 35
  · subst k35; exact of_35 w
  by_cases q_of_low : 97 ≤ n ∧ n ≤ 122
  · have e : clsN n = 1 := by unfold clsN; (repeat' split) <;> (first | rfl | omega)
    rw [e]
    exact of_low n (by omega) (by omega) w
  by_cases q_of_up : 65 ≤ n ∧ n ≤ 90
  · have e : clsN n = 1 := by unfold clsN; (repeat' split) <;> (first | rfl | omega)
    rw [e]
    exact of_up n (by omega) (by omega) w
  by_cases q_of_dig : 48 ≤ n ∧ n ≤ 57
  · have e : clsN n = 2 := by unfold clsN; (repeat' split) <;> (first | rfl | omega)
    rw [e]
    exact of_dig n (by omega) (by omega) w
  by_cases q_of_o1 : 123 ≤ n ∧ n ≤ 255
  · have e : clsN n = 0 := by unfold clsN; (repeat' split) <;> (first | rfl | omega)
    rw [e]
    exact of_o1 n (by omega) (by omega) (by omega) w
  by_cases q_of_o2 : 91 ≤ n ∧ n ≤ 96
  · have e : clsN n = 0 := by unfold clsN; (repeat' split) <;> (first | rfl | omega)
    rw [e]
    exact of_o2 n (by omega) (by omega) (by omega) w
  by_cases q_of_o3 : 58 ≤ n ∧ n ≤ 64
  · have e : clsN n = 0 := by unfold clsN; (repeat' split) <;> (first | rfl | omega)
    rw [e]
    exact of_o3 n (by omega) (by omega) (by omega) (by omega) w
  by_cases q_of_o4 : 1 ≤ n ∧ n ≤ 47
  · have e : clsN n = 0 := by unfold clsN; (repeat' split) <;> (first | rfl | omega)
    rw [e]
    exact of_o4 n (by omega) (by omega) (by omega) (by omega) (by omega) (by omega) (by omega) (by omega) w
  omega
end Go.Proofs.Ytklfaccjbdkfhaa
