/- The reference's Chunk, all inputs; sizes and sums. -/
import Derived.Test.YtfcbbolokhcknaaFa18
namespace Go.Proofs.Ytfcbbolokhcknaa
open Go.RowKit
set_option maxRecDepth 100000 in
theorem refChunk_any (n : Int) (f str : List UInt8) (w : World) (hf : f.length ≤ 1000) (hl : str.length ≤ 1000) :
    Calls Try.prog 22 #[.int .i64 n, .string ⟨f.toArray⟩, .string ⟨str.toArray⟩] w fun e w' => (∃ A cap, e = .returned (.tuple #[.string ⟨(chunkC n f str).p.toArray⟩, .slice A (chunkC n f str).l.length cap, .int .i64 (chunkC n f str).used, .int .i64 (chunkC n f str).err]) ∧
      Sl w' w'.heap.size 3 A (chunkC n f str).l.length cap (tokC (chunkC n f str).l)) ∧ Below w.heap.size w w' := by
  by_cases h : partE n f = 0
  · rcases partE_cases n f with ⟨_, h0, _⟩ | ⟨_, _, h0, _⟩ | ⟨m, rfl, h1, h8, hg, _, _⟩ | ⟨m, _, _, _, _, h0, _⟩
    · omega
    · omega
    · have e : chunkC (m : Int) f str = stC m f (ibs 0 str) := by unfold chunkC; rw [if_neg (by simpa using h)]; rfl
      rw [e]
      exact refChunk_ok m f str w h1 h8 hg hl
    · omega
  · have e : chunkC n f str = ⟨[], [], 0, 0, partE n f⟩ := if_pos h
    rw [e]
    have HC := fun W => refcheck_any n f W hf
    have hz : (partE n f == 0) = false := by rw [beq_eq_false_iff_ne]; exact h
    generalize partE n f = er at *
    have HC' := Lib.hid HC
    clear HC h e
    go_enter Try.func22, Try.ntmps22
    go_wp2_with (go_at_call 31; refine (HC'.out _).mono ?_; rintro e w1 ⟨rfl, rfl⟩)
    ((try simp only [Exit.inBlock, Exit.then]); refine bodyPost_ret (results_tmp4 rfl _ _ _) rfl ?_)
    exact ⟨⟨none, 0, rfl, Sl.nil _ _ _⟩, Below.refl _ _⟩
theorem ref07Size_any (t : Tok) (w : World) (h : t.text.length ≤ 100000) : Calls Try.prog 37 #[t.v] w fun e w' => e = .returned (.int .i64 (2 + t.text.length)) ∧ Below w.heap.size w w' := by
  obtain ⟨s, x, a⟩ := t
  unfold Tok.v
  simp only at *
  have hz : (x.length : Int) ≤ 100000 := by omega
  go_enter Try.func37, Try.ntmps37
  go_wp2
  go_ret
  exact ⟨rfl, (Below.refl w.heap.size w).alloc (Nat.le_refl _) _⟩
theorem refSize29_any (t : Tok) (w : World) (h : t.text.length ≤ 100000) : Calls Try.prog 21 #[t.v] w fun e w' => e = .returned (.int .i64 (2 + t.text.length)) ∧ Below w.heap.size w w' := by
  have HS := Lib.hid (fun W => ref07Size_any t W h)
  obtain ⟨s, x, a⟩ := t
  unfold Tok.v at *
  simp only at *
  have hB := (Below.refl w.heap.size w).alloc (Nat.le_refl _) (.cells #[.int .i64 s, .string ⟨x.toArray⟩, .int .i64 a] 29)
  go_enter Try.func21, Try.ntmps21
  go_wp2_with fail
  refine (HS.out _).mono ?_
  rintro e w1 ⟨rfl, hb1⟩
  go_wp2_with fail
  go_ret
  exact ⟨rfl, below_on hB hb1 (Nat.le_refl _)⟩
def sumL (l : List Tok) : Nat := (l.map (fun t => 2 + t.text.length)).sum
theorem sumL_take (l : List Tok) (k : Nat) (hk : k < l.length) : sumL (l.take (k + 1)) = sumL (l.take k) + (2 + l[k].text.length) := by
  unfold sumL
  rw [take_snoc l k hk, List.map_append, List.sum_append]
  simp
theorem sumL_le (N : Nat) : ∀ l : List Tok, (∀ t ∈ l, t.text.length ≤ N) → sumL l ≤ l.length * (2 + N)
  | [], _ => Nat.zero_le _
  | t :: l, h => by
    have ih := sumL_le N l (fun x hx => h x (List.mem_cons_of_mem _ hx))
    have := h t (by simp)
    have e : sumL (t :: l) = (2 + t.text.length) + sumL l := by unfold sumL; rw [List.map_cons, List.sum_cons]
    rw [e, List.length_cons, Nat.add_mul]
    omega
set_option maxRecDepth 100000 in
set_option maxHeartbeats 3200000 in
theorem fSum_any (A : Option Addr) (cap D : Nat) (l : List Tok) (w : World) (hS : Sl w D 3 A l.length cap (tokC l)) (hD : D ≤ w.heap.size) (hn : l.length ≤ 1000) (hl : ∀ t ∈ l, t.text.length ≤ 10000) :
    Calls Try.prog 23 #[.slice A l.length cap] w fun e w' => e = .returned (.int .i64 (sumL l)) ∧ Below w.heap.size w w' := by
  go_enter Try.func23, Try.ntmps23
  go_wp2_with fail
  go_loopw [3, 8] (fun s i W => ∃ k : Nat, k ≤ l.length ∧ i = .int .i64 k ∧ s = .int .i64 (sumL (l.take k)) ∧ Below w.heap.size w W) (fun _ i _ => l.length - (intOf i).toNat)
  case atStart => exact ⟨0, Nat.zero_le _, rfl, rfl, Below.refl _ _⟩
  case round =>
    obtain ⟨k, hk, rfl, rfl, hB⟩ := hrel
    by_cases hlt : k < l.length
    · obtain ⟨b, o, rfl, hb, c0, c1, c2⟩ := sl_tok (hS.below hB hD) hlt
      have htl := hl l[k] (List.getElem_mem hlt)
      have hsn := sumL_take l k hlt
      have hbd := sumL_le 10000 (l.take k) (fun t ht => hl t (List.mem_of_mem_take ht))
      rw [List.length_take] at hbd
      have hbd2 : sumL (l.take k) ≤ 10002000 := by
        have : min k l.length * (2 + 10000) ≤ 1000 * (2 + 10000) := Nat.mul_le_mul_right _ (by omega)
        omega
      have HZ := fun W => fSize_any l[k] W (by omega)
      generalize sumL (l.take k) = S0 at *
      generalize l[k] = t at *
      obtain ⟨sy, x, a⟩ := t
      unfold Tok.v at HZ
      simp only at *
      have HZ' := Lib.hid HZ
      have HN := Lib.hid hsn
      have hxl : (x.length : Int) ≤ 10000 := by omega
      have hsz : (S0 : Int) ≤ 10002000 := by omega
      have HB := Lib.hid (hB.alloc hB.size (.cells #[.int .i64 sy, .string ⟨x.toArray⟩, .int .i64 a] 29))
      clear HZ hsn hbd hbd2 hB hl hS
      go_wp2_with fail
      refine (HZ'.out _).mono ?_
      rintro e w3 ⟨rfl, hb3⟩
      go_wp2_with fail
      go_roundw
      case rel => exact ⟨k + 1, by omega, by go_num, by rw [HN.out]; go_num, below_on HB.out hb3 (Nat.le_refl _)⟩
      case measure => simp [intOf]; omega
    · obtain rfl : k = l.length := by omega
      rw [List.take_length]
      go_wp2_with fail
      go_ret
      exact ⟨rfl, hB⟩
end Go.Proofs.Ytfcbbolokhcknaa
