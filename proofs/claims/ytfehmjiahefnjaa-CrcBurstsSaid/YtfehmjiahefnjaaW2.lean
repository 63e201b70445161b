/- Walks: crc.table makes the table of s8; crc.Add and stenotyperef02.Add compute the plain register. -/
import Derived.Test.YtfehmjiahefnjaaW1
namespace Go.Proofs.Ytfehmjiahefnjaa
open Go.RowKit

/-- The table when its first k numbers are set. -/
def tabK (k : Nat) : Array Value := ((List.range 256).map fun i => Value.int .u32 (if i < k then (s8 i : Int) else 0)).toArray
theorem tabK_size (k : Nat) : (tabK k).size = 256 := by simp [tabK]
theorem tabK_get (k i : Nat) (h : i < 256) : (tabK k)[i]? = some (Value.int .u32 (if i < k then (s8 i : Int) else 0)) := by simp [tabK, h]
theorem tabK_set (k : Nat) (_h : k < 256) : (tabK k).setIfInBounds k (.int .u32 (s8 k)) = tabK (k + 1) := by
  refine Array.ext_getElem? fun i => ?_
  rw [Array.getElem?_setIfInBounds]
  by_cases hi : i < 256
  · rw [tabK_get _ _ hi, tabK_get _ _ hi, tabK_size]
    by_cases e : k = i
    · subst e; simp [hi]
    · rw [if_neg e]; congr 2; by_cases h1 : i < k
      · rw [if_pos h1, if_pos (by omega)]
      · rw [if_neg h1, if_neg (by omega)]
  · rw [Array.getElem?_eq_none (by rw [tabK_size]; omega), Array.getElem?_eq_none (by rw [tabK_size]; omega)]
    split <;> simp [tabK_size] <;> omega
theorem tabK_one (k : Nat) : ∀ v ∈ (tabK k).toList, v.oneCell' = true := by
  intro v hv
  simp [tabK] at hv
  obtain ⟨i, _, rfl⟩ := hv
  rfl
theorem tab_zero : (Try.prog.info? 53).map (·.zero) = some (some (.agg (tabK 0))) := by kernel_rfl
theorem tab_size : (Try.prog.info? 53).map (·.size) = some 256 := by kernel_rfl
theorem tab_sizeK (k : Nat) : (Try.prog.info? 53).map (·.size) = some (tabK k).size := by rw [tabK_size]; exact tab_size

set_option maxRecDepth 100000 in
set_option maxHeartbeats 400000 in
theorem table_any (w : World) :
    Calls Try.prog 36 #[] w fun e w' => e = .returned (.agg (tabK 256)) ∧ Below w.heap.size w w' := by
  go_enter Try.func36, Try.ntmps36
  go_wp2_with (refine wpList_alloc_z rfl 53 rfl _ tab_zero ?_; simp only [Value.cells])
  go_loopw [2, 3] (fun _ i wr => ∃ k : Nat, k ≤ 256 ∧ i = .int .i64 k ∧ Blk wr w.heap.size 53 (tabK 0) ∧ Blk wr (w.heap.size + 1) 53 (tabK k) ∧ Below w.heap.size w wr)
    (fun _ i _ => 256 - (intOf i).toNat)
  case atStart =>
    exact ⟨0, by omega, rfl, (Blk.new w _ _).alloc _, Blk.newAt _ _ _ (by simp), ((Below.refl _ w).alloc (Nat.le_refl _) _).alloc (by simp) _⟩
  case round =>
    obtain ⟨k, hk, rfl, hb0, hb1, hbel⟩ := hrel
    by_cases hlt : k < 256
    · have hf : wr.frozen? ⟨w.heap.size + 1, k, none⟩ = false := hb1.frozen (by rw [tabK_size]; exact hlt)
      have hc : wr.cell? ⟨w.heap.size + 1, k, none⟩ = some (Value.int .u32 (if k < k then (s8 k : Int) else 0)) := (hb1.cell k).trans (tabK_get k k hlt)
      go_wp2_with (go_at_call 40; refine (step_any k _ (by omega)).mono ?_; rintro e w' ⟨rfl, rfl⟩)
      go_roundw
      case rel => exact ⟨k + 1, by omega, by go_num, hb0.far (by simp) _, by rw [← tabK_set k hlt]; exact hb1.set k _, hbel.setCell (by simp) _⟩
      case measure => simp [intOf]; omega
    · go_wp2_with (first
        | (refine wpList_load_blk rfl 53 _ rfl (w.heap.size + 1) rfl 53 (tabK k) _ hb1 Try.underlying53 rfl (tab_sizeK k) ?_)
        | (refine wpList_store_row rfl 53 _ _ rfl w.heap.size rfl (tabK k) rfl (tabK 0) 53 hb0 (tab_sizeK k) (by rw [tabK_size, tabK_size]) (tabK_one k) ?_))
      obtain rfl : k = 256 := by omega
      exact bodyPost_ret (results_cell_blk rfl _ _ w.heap.size 53 (tabK 256) _ rfl (hb0.row _ (by rw [tabK_size, tabK_size])) Try.underlying53 rfl (tab_sizeK 256)) rfl ⟨rfl, below_setRow hbel (Nat.le_refl _) _⟩
end Go.Proofs.Ytfehmjiahefnjaa
