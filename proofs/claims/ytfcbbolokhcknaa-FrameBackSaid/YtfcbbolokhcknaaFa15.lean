/- Chunk, whatever the part. -/
import Derived.Test.YtfcbbolokhcknaaFa14
namespace Go.Proofs.Ytfcbbolokhcknaa
open Go.RowKit Go.Shelf
set_option maxRecDepth 100000 in
set_option maxHeartbeats 6400000 in
theorem Chunk_bad (n : Int) (f str : List UInt8) (w : World) (hne : partE n f ≠ 0) (hf : f.length ≤ 1000) :
    Calls Try.prog 15 #[.int .i64 n, .string ⟨f.toArray⟩, .string ⟨str.toArray⟩] w fun e w' => e = .returned (.tuple #[.string ⟨#[]⟩, .slice none 0 0, .int .i64 0, .int .i64 (partE n f)]) ∧ Below w.heap.size w w' := by
  have HBg := fun W => begun_any n f W hf
  have hL := partL_len n f
  generalize partE n f = pe at *
  generalize partL n f = PL at *
  have hL26 : PL.length ≤ 26 := by omega
  have hp0 : (pe == 0) = false := by simpa using hne
  have HR := Lib.hid HBg
  clear HBg hne
  refine calls_of_wpM Try.func15 rfl ?_
  simp only [Try.ntmps15, List.size_toArray, List.length_cons, List.length_nil, Nat.reduceAdd, Nat.reduceSub, Array.replicate_succ, Array.replicate_zero, List.push_toArray, List.append_toArray, List.nil_append, List.cons_append]
  go_wp2_with fail
  go_step3
  go_wp2_with fail
  refine (HR.out _).mono ?_
  rintro e w1 ⟨rfl, hb1⟩
  have hsz1 : w.heap.size + 4 ≤ w1.heap.size := by have := hb1.size; simpa using this
  have bL := Blk.on (((Blk.newAt (w.alloc (.cells #[.int .i64 n] 3)) 33 #[.slice none 0 0] (g := w.heap.size + 1) (by simp)).alloc (.cells #[.int .i64 0] 3)).alloc (.cells #[.int .i64 0] 23)) hb1
  have bU := Blk.on ((Blk.newAt ((w.alloc (.cells #[.int .i64 n] 3)).alloc (.cells #[.slice none 0 0] 33)) 3 #[.int .i64 0] (g := w.heap.size + 2) (by simp)).alloc (.cells #[.int .i64 0] 23)) hb1
  have bE := Blk.on (Blk.newAt (((w.alloc (.cells #[.int .i64 n] 3)).alloc (.cells #[.slice none 0 0] 33)).alloc (.cells #[.int .i64 0] 3)) 23 #[.int .i64 0] (g := w.heap.size + 3) (by simp)) hb1
  have hB1 := below_on (((((Below.refl w.heap.size w).alloc (Nat.le_refl _) (.cells #[.int .i64 n] 3)).alloc (by simp) (.cells #[.slice none 0 0] 33)).alloc (by simp; omega) (.cells #[.int .i64 0] 3)).alloc (by simp; omega) (.cells #[.int .i64 0] 23)) hb1 (Nat.le_refl _)
  have hZ1 := Pt.zz w1 (g := w1.heap.size) rfl
  have cE := ((bE.alloc (.cells #[.int .u8 0, .int .u8 0, .int .u8 0, .int .u8 0, .int .u8 0, .int .u8 0, .int .u8 0, .int .u8 0, .int .u8 0, .int .u8 0, .int .u8 0, .int .u8 0, .int .u8 0, .int .u8 0, .int .u8 0, .int .u8 0, .int .u8 0, .int .u8 0, .int .u8 0, .int .u8 0, .int .u8 0, .int .u8 0, .int .u8 0, .int .u8 0, .int .u8 0, .int .u8 0, .int .i64 0] 53)).rowFar (k := w1.heap.size) (by omega) (partC PL).toArray)
  have cE0 := cE.cell 0
  have cE1 := cE.frozen (i := 0) (by simp)
  simp only [Nat.add_assoc, Nat.reduceAdd]
  go_wp2_with (first
    | (refine wpList_store_part rfl _ _ rfl w1.heap.size rfl PL hL26 rfl [] hZ1 ?_))
  have dL := (((bL.alloc (.cells #[.int .u8 0, .int .u8 0, .int .u8 0, .int .u8 0, .int .u8 0, .int .u8 0, .int .u8 0, .int .u8 0, .int .u8 0, .int .u8 0, .int .u8 0, .int .u8 0, .int .u8 0, .int .u8 0, .int .u8 0, .int .u8 0, .int .u8 0, .int .u8 0, .int .u8 0, .int .u8 0, .int .u8 0, .int .u8 0, .int .u8 0, .int .u8 0, .int .u8 0, .int .u8 0, .int .i64 0] 53)).rowFar (k := w1.heap.size) (by omega) (partC PL).toArray).far (p := ⟨w.heap.size + 3, 0, none⟩) (by simp) (.int .i64 pe)).drew
  have dU := (((bU.alloc (.cells #[.int .u8 0, .int .u8 0, .int .u8 0, .int .u8 0, .int .u8 0, .int .u8 0, .int .u8 0, .int .u8 0, .int .u8 0, .int .u8 0, .int .u8 0, .int .u8 0, .int .u8 0, .int .u8 0, .int .u8 0, .int .u8 0, .int .u8 0, .int .u8 0, .int .u8 0, .int .u8 0, .int .u8 0, .int .u8 0, .int .u8 0, .int .u8 0, .int .u8 0, .int .u8 0, .int .i64 0] 53)).rowFar (k := w1.heap.size) (by omega) (partC PL).toArray).far (p := ⟨w.heap.size + 3, 0, none⟩) (by simp) (.int .i64 pe)).drew
  have dE := (cE.set 0 (.int .i64 pe)).drew
  have dB := ((below_setRow (hB1.alloc (by omega) (.cells #[.int .u8 0, .int .u8 0, .int .u8 0, .int .u8 0, .int .u8 0, .int .u8 0, .int .u8 0, .int .u8 0, .int .u8 0, .int .u8 0, .int .u8 0, .int .u8 0, .int .u8 0, .int .u8 0, .int .u8 0, .int .u8 0, .int .u8 0, .int .u8 0, .int .u8 0, .int .u8 0, .int .u8 0, .int .u8 0, .int .u8 0, .int .u8 0, .int .u8 0, .int .u8 0, .int .i64 0] 53)) (show w.heap.size ≤ w1.heap.size by omega) (partC PL).toArray).setCell (p := ⟨w.heap.size + 3, 0, none⟩) (by simp only; omega) (.int .i64 pe)).drew
  generalize ((w1.alloc (.cells #[.int .u8 0, .int .u8 0, .int .u8 0, .int .u8 0, .int .u8 0, .int .u8 0, .int .u8 0, .int .u8 0, .int .u8 0, .int .u8 0, .int .u8 0, .int .u8 0, .int .u8 0, .int .u8 0, .int .u8 0, .int .u8 0, .int .u8 0, .int .u8 0, .int .u8 0, .int .u8 0, .int .u8 0, .int .u8 0, .int .u8 0, .int .u8 0, .int .u8 0, .int .u8 0, .int .i64 0] 53)).setRow w1.heap.size (partC PL).toArray).setCell ⟨w.heap.size + 3, 0, none⟩ (.int .i64 pe) = W2 at *
  have KS : (fun W' => Blk W' (w.heap.size + 3) 23 #[.int .i64 pe]) W2.drew := dE
  have hL6 := dL.set 0 (.slice none 0 0)
  have hU7 := (dU.far (p := ⟨w.heap.size + 1, 0, none⟩) (by simp) (.slice none 0 0)).set 0 (.int .i64 0)
  have hE6 := dE.far (p := ⟨w.heap.size + 1, 0, none⟩) (by simp) (.slice none 0 0)
  have hE7 := hE6.far (p := ⟨w.heap.size + 2, 0, none⟩) (by simp) (.int .i64 0)
  have hE8 := hE7.set 0 (.int .i64 pe)
  have hL8 := (hL6.far (p := ⟨w.heap.size + 2, 0, none⟩) (by simp) (.int .i64 0)).far (p := ⟨w.heap.size + 3, 0, none⟩) (by simp) (.int .i64 pe)
  have hU8 := hU7.far (p := ⟨w.heap.size + 3, 0, none⟩) (by simp) (.int .i64 pe)
  have hB8 := ((dB.setCell (p := ⟨w.heap.size + 1, 0, none⟩) (by simp) (.slice none 0 0)).setCell (p := ⟨w.heap.size + 2, 0, none⟩) (by simp) (.int .i64 0)).setCell (p := ⟨w.heap.size + 3, 0, none⟩) (by simp) (.int .i64 pe)
  refine wp_region_noPanic ?_
  refine wp_region_held_drew (S := fun W' => Blk W' (w.heap.size + 3) 23 #[.int .i64 pe]) (by kernel_rfl) KS (fun _ => ?_)
  refine reg_take 0 _ 24 (.int .i64 pe) rfl rfl (by kernel_rfl) (by kernel_rfl) (by kernel_rfl) (fun _ _ _ h => h) (by rfl) (fun W' hS => exec_load_1 23 _ rfl (w.heap.size + 3) rfl 23 _ _ hS Try.underlying23 rfl) KS ?_
  simp only [List.setIfInBounds_toArray, List.set_cons_zero, List.set_cons_succ]
  refine reg_step 1 _ (.string ⟨#[]⟩) _ rfl (by kernel_rfl) (by rfl) (fun K Q h => wp_assign _ rfl h) dE _ rfl ?_
  refine reg_step 2 _ undef _ rfl (by kernel_rfl) (by rfl) (fun K Q h => wp_store1 33 _ _ rfl (w.heap.size + 1) (.slice none 0 0) _ _ rfl rfl dL (by kernel_rfl) rfl rfl h) hE6 _ rfl ?_
  refine reg_step 3 _ undef _ rfl (by kernel_rfl) (by rfl) (fun K Q h => wp_store1 3 _ _ rfl (w.heap.size + 2) (.int .i64 0) _ _ rfl rfl (dU.far (p := ⟨w.heap.size + 1, 0, none⟩) (by simp) (.slice none 0 0)) (by kernel_rfl) rfl rfl h) hE7 _ rfl ?_
  refine reg_step 4 _ undef _ rfl (by kernel_rfl) (by rfl) (fun K Q h => wp_store1 23 _ _ rfl (w.heap.size + 3) (.int .i64 pe) _ _ rfl rfl hE7 (by kernel_rfl) rfl rfl h) hE8 _ rfl ?_
  refine wpAnyH_done (by kernel_rfl) ?_ _
  refine NoPanic.normal ?_
  go_wp2_with fail
  refine leaves_marks (B := w.heap.size) (v := .tuple #[.string ⟨#[]⟩, .slice none 0 0, .int .i64 0, .int .i64 pe]) [] _ (Marks.nil _ _) fun W' hs => ⟨results_tccc (fn := Try.f15) rfl _ W' _ _ _ _ _ _ _ _ _ _ _ _ rfl (hs.blk hL8) Try.underlying33 rfl rfl (hs.blk hU8) Try.underlying3 rfl rfl (hs.blk hE8) Try.underlying23 rfl, ⟨rfl, hs.below hB8⟩⟩
theorem Chunk_any (n : Int) (f str : List UInt8) (w : World) (hf : f.length ≤ 1000) (hl : str.length ≤ 1000) :
    Calls Try.prog 15 #[.int .i64 n, .string ⟨f.toArray⟩, .string ⟨str.toArray⟩] w fun e w' => (∃ A cap, e = .returned (.tuple #[.string ⟨(chunkC n f str).p.toArray⟩, .slice A (chunkC n f str).l.length cap, .int .i64 (chunkC n f str).used, .int .i64 (chunkC n f str).err]) ∧
      Sl w' w'.heap.size 3 A (chunkC n f str).l.length cap (tokC (chunkC n f str).l)) ∧ Below w.heap.size w w' := by
  by_cases h : partE n f = 0
  · rcases partE_cases n f with ⟨_, h0, _⟩ | ⟨_, _, h0, _⟩ | ⟨m, rfl, h1, h8, hg, _, _⟩ | ⟨m, _, _, _, _, h0, _⟩
    · omega
    · omega
    · have e : chunkC (m : Int) f str = stC m f (ibs 0 str) := by unfold chunkC; rw [if_neg (by simpa using h)]; rfl
      rw [e]
      exact Chunk_ok m f str w h1 h8 hg hl
    · omega
  · have e : chunkC n f str = ⟨[], [], 0, 0, partE n f⟩ := if_pos h
    rw [e]
    exact (Chunk_bad n f str w h hf).mono fun _ w' ⟨he, hb⟩ => ⟨⟨none, 0, he, Sl.nil w' _ _⟩, hb⟩
theorem Chunk_at (n : Int) (f str : List UInt8) (p : List UInt8) (l : List Tok) (a u : Nat) (er : Int) (w : World) (hf : f.length ≤ 1000) (hl : str.length ≤ 1000) (h : chunkC n f str = ⟨p, l, a, u, er⟩) :
    Calls Try.prog 15 #[.int .i64 n, .string ⟨f.toArray⟩, .string ⟨str.toArray⟩] w fun e w' => (∃ A cap, e = .returned (.tuple #[.string ⟨p.toArray⟩, .slice A l.length cap, .int .i64 u, .int .i64 er]) ∧ Sl w' w'.heap.size 3 A l.length cap (tokC l)) ∧ Below w.heap.size w w' := by
  have H := Chunk_any n f str w hf hl
  rw [h] at H
  exact H
end Go.Proofs.Ytfcbbolokhcknaa
