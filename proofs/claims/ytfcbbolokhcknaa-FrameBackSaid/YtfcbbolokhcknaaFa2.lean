/- Parts of a frame: with, bad, text, take. -/
import Derived.Test.YtfcbbolokhcknaaFa1
import Derived.Test.YtfcbbolokhcknaaBz
namespace Go.Proofs.Ytfcbbolokhcknaa
open Go.RowKit
/-- The zero part. -/
def zeroP : Array Value := #[.int .u8 0, .int .u8 0, .int .u8 0, .int .u8 0, .int .u8 0, .int .u8 0, .int .u8 0, .int .u8 0, .int .u8 0, .int .u8 0, .int .u8 0, .int .u8 0, .int .u8 0, .int .u8 0, .int .u8 0, .int .u8 0, .int .u8 0, .int .u8 0, .int .u8 0, .int .u8 0, .int .u8 0, .int .u8 0, .int .u8 0, .int .u8 0, .int .u8 0, .int .u8 0, .int .i64 0]
theorem part_put (l : List UInt8) (b : Nat) (h : l.length < 26) (hb8 : b < 256) :
    ((partC l).set l.length (.int .u8 b))[26]? = some (.int .i64 l.length) ∧ ((partC l).set l.length (.int .u8 b)).set 26 (.int .i64 ((l.length : Int) + 1)) = partC (l ++ [UInt8.ofNat b]) := by
  have hn := part_n l (by omega)
  have e : (UInt8.ofNat b).toNat = b := Nat.mod_eq_of_lt hb8
  have hB := byteC_len l (by omega)
  have hk : List.replicate (26 - l.length) (Value.int .u8 0) = .int .u8 0 :: List.replicate (26 - (l.length + 1)) (.int .u8 0) := by
    rw [← List.replicate_succ]; congr 1; omega
  have hset : (byteC l).set l.length (.int .u8 b) = byteC (l ++ [UInt8.ofNat b]) := by
    unfold byteC
    rw [List.set_append_right _ _ (by simp), List.length_map, Nat.sub_self, hk, List.set_cons_zero, List.map_append, List.map_cons, List.map_nil, List.append_assoc, e, List.length_append]
    rfl
  refine ⟨?_, ?_⟩
  · rw [List.getElem?_set_ne (by omega)]; exact hn
  · unfold partC
    rw [List.set_append_left _ _ (by rw [hB]; omega), hset, List.set_append_right _ _ (by rw [← hset, List.length_set, hB]; omega), ← hset, List.length_set, hB, hset]
    simp
theorem run_indexAt26 (g : Nat) (k : Nat) (hk : k < 26) (w : World) : (Instr.indexAt 51 (.pointer (some ⟨g, 0, none⟩)) (.int .i64 k)).run Try.prog w = .ok (.pointer (some ⟨g, k, none⟩)) w := by
  have h1 : Try.prog.arrayLen 51 = 26 := by kernel_rfl
  have h2 : (Try.prog.info? 5).map (·.size) = some 1 := by kernel_rfl
  have h3 : Try.prog.elem 51 = 5 := by kernel_rfl
  obtain ⟨i, hi, hsz⟩ : ∃ i, Try.prog.info? 5 = some i ∧ i.size = 1 := by
    cases hq : Try.prog.info? 5 with
    | none => rw [hq] at h2; cases h2
    | some i => rw [hq] at h2; exact ⟨i, rfl, by simpa using h2⟩
  rw [run_indexAt_array w 51 _ _ _ Try.underlying51, h1, h3, if_pos (by omega)]
  simp [sizeOf, typeInfo, hi, hsz, Result.andThen, Addr.add]
  intro h
  omega
theorem part_size : (Try.prog.info? 53).map (·.size) = some 27 := by kernel_rfl
theorem partC_one (l : List UInt8) : ∀ v ∈ partC l, v.oneCell' = true := by
  intro v hv
  unfold partC byteC at hv
  simp only [List.mem_append, List.mem_map, List.mem_replicate, List.mem_singleton] at hv
  rcases hv with (⟨_, _, rfl⟩ | ⟨_, rfl⟩) | rfl <;> rfl
set_option maxHeartbeats 1600000 in
theorem with_any (l : List UInt8) (b : Nat) (w : World) (h : l.length < 26) (hb8 : b < 256) : Calls Try.prog 40 #[partV l, .int .u8 b] w fun e w' => e = .returned (partV (l ++ [UInt8.ofNat b])) ∧ Below w.heap.size w w' := by
  have hb := (Below.refl w.heap.size w).alloc (Nat.le_refl _) (.cells (partC l).toArray 53)
  have hn := part_n l (by omega)
  have hl := Lib.hid (partC_len l (by omega))
  have hz : (l.length : Int) < 26 := by omega
  have hold : ∃ v, (partC l)[l.length]? = some v := ⟨(partC l)[l.length]'(by rw [hl.out]; omega), List.getElem?_eq_getElem _⟩
  obtain ⟨old, hold⟩ := hold
  have hix := run_indexAt26 w.heap.size l.length h
  obtain ⟨hn2, hn3⟩ := part_put l b h hb8
  have hL2 : (((partC l).set l.length (.int .u8 b)).set 26 (.int .i64 ((l.length : Int) + 1))).length = 27 := by rw [hn3]; exact partC_len _ (by simp; omega)
  have hO2 : ∀ v ∈ ((partC l).set l.length (.int .u8 b)).set 26 (.int .i64 ((l.length : Int) + 1)), v.oneCell' = true := by rw [hn3]; exact partC_one _
  have HP := Lib.hid hn3
  clear hn3
  have hB1 := (Blk.new w 53 (((partC l).set l.length (.int .u8 b)).set 26 (.int .i64 ((l.length : Int) + 1))).toArray).alloc (.cells zeroP 53)
  have hB2 := Blk.newAt (w.alloc (.cells (((partC l).set l.length (.int .u8 b)).set 26 (.int .i64 ((l.length : Int) + 1))).toArray 53)) 53 zeroP (g := w.heap.size + 1) (by simp)
  have hB3 := hB2.row (((partC l).set l.length (.int .u8 b)).set 26 (.int .i64 ((l.length : Int) + 1))).toArray (by simp [zeroP, hL2])
  have hBb := below_setRow (((Below.refl w.heap.size w).alloc (Nat.le_refl _) (.cells (((partC l).set l.length (.int .u8 b)).set 26 (.int .i64 ((l.length : Int) + 1))).toArray 53)).alloc (by simp) (.cells zeroP 53)) (show w.heap.size ≤ w.heap.size + 1 by omega) (((partC l).set l.length (.int .u8 b)).set 26 (.int .i64 ((l.length : Int) + 1))).toArray
  unfold zeroP at hB1 hB2 hB3 hBb
  have HL := Lib.hid hL2
  have HO := Lib.hid hO2
  clear hL2 hO2 hb
  unfold partV
  generalize partC l = cs at *
  go_enter Try.func40, Try.ntmps40
  go_wp2_with (first
    | (refine wpList_load_blk rfl 53 _ rfl w.heap.size rfl 53 _ _ hB1 Try.underlying53 rfl ?hs1 ?_)
    | (refine wpList_store_row rfl 53 _ _ rfl (w.heap.size + 1) rfl _ rfl _ 53 hB2 ?hs1 ?hs2 ?hs3 ?_))
  case hs1 => rw [part_size]; simp [HL.out]
  case hs2 => simp [HL.out]
  case hs3 => simpa using HO.out
  refine bodyPost_ret (results_cell_blk rfl _ _ (w.heap.size + 1) 53 _ _ rfl hB3 Try.underlying53 rfl (by rw [part_size]; simp [HL.out])) rfl ⟨by rw [HP.out], hBb⟩
theorem sl_part (l : List UInt8) (w : World) (h : l.length ≤ 26) : Sl (w.alloc (.cells (partC l).toArray 53)) (w.heap.size + 1) 1 (some ⟨w.heap.size, 0, none⟩) l.length 26 (l.map byteV) := by
  refine ⟨by simp, h, by decide, fun _ => ⟨w.heap.size, 0, rfl, by omega, fun j u hu => ?_⟩⟩
  rw [Nat.zero_add, (Blk.new w 53 (partC l).toArray).cell j, List.getElem?_toArray]
  have hj : j < l.length := by
    have := (List.getElem?_eq_some_iff.1 hu).1
    simpa using this
  unfold partC byteC
  rw [List.append_assoc, List.getElem?_append_left (by simpa using hj)]
  exact hu
set_option maxHeartbeats 1600000 in
theorem text_any (l : List UInt8) (w : World) (h : l.length ≤ 26) : Calls Try.prog 34 #[partV l] w fun e w' => e = .returned (.string ⟨l.toArray⟩) ∧ Below w.heap.size w w' := by
  have hb := (Below.refl w.heap.size w).alloc (Nat.le_refl _) (.cells (partC l).toArray 53)
  have hn := part_n l (by omega)
  have hcv := run_bytes_back (P := Try.prog) 41 9 5 Try.underlying41 Try.underlying5 Try.underlying9 rfl (sl_part l w h)
  have hz : (l.length : Int) ≤ 26 := by omega
  unfold partV
  go_enter Try.func34, Try.ntmps34
  go_wp2
  go_ret
  exact ⟨rfl, hb⟩
end Go.Proofs.Ytfcbbolokhcknaa
