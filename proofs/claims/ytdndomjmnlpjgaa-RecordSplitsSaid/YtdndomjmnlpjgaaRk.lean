/- A slice of tokens that came in: what its cells hold. -/
import Derived.Test.YtdndomjmnlpjgaaT35
import Derived.Lib.SmallJoins
import Derived.ChangeArms
import Derived.Deep.Slices
import Derived.Deep.Fields
import Derived.ProofKit
import Derived.OpenShut
namespace Go.Proofs.Ytdndomjmnlpjgaa
open Go.RowKit Go.ChangeShapes Go.WideShapes Go.Deep Go.Joins
variable {H : Type} {enc : TypeId × Value → H} {w : World} {base : Nat} {spare : Nat → Bool} {held : Bool}
theorem tok_cells {fuel : Nat} {cs : List Value} {x : DataW H × List MemPlace} (hl : cs.length = 3) (h : DataW.trod enc Try.prog w base spare held fuel 41 cs = some x) :
    ∃ t : Tok, cs = [.int .i64 t.sym, .string ⟨t.text.toArray⟩, .int .i64 t.at_] ∧ t.text.length ≤ maxLen := by
  match cs, hl with
  | [c0, c1, c2], _ =>
    obtain ⟨y0, y1, y2, n, _, _, h0, h1, h2⟩ := trod_struct3 Try.underlying41 h
    have hk3 : Try.prog.cellsOf 3 = 1 := by kernel_rfl
    have hk9 : Try.prog.cellsOf 9 = 1 := by kernel_rfl
    simp only [hk3, hk9] at h0 h1 h2
    obtain ⟨a, e0, _, _⟩ := DataW.trod_int Try.underlying3 h0
    obtain ⟨s, e1, _, ws⟩ := DataW.trod_string Try.underlying9 h1
    obtain ⟨b, e2, _, _⟩ := DataW.trod_int Try.underlying3 h2
    simp at e0 e1 e2
    subst e0 e1 e2
    obtain ⟨⟨l⟩⟩ := s
    exact ⟨⟨a, l, b⟩, rfl, by simpa [ByteArray.size] using ws⟩
theorem toks_in {fuel : Nat} {b : Option Addr} {len cap : Nat} {x : DataW H × List MemPlace} (h : DataW.trod enc Try.prog w base spare held fuel 24 [.slice b len cap] = some x) :
    ∃ ls : List Tok, len = ls.length ∧ Sl w w.heap.size 3 b ls.length cap (tokC ls) ∧ ∀ t ∈ ls, t.text.length ≤ maxLen := by
  have hk : Try.prog.cellsOf 41 = 3 := by kernel_rfl
  rcases open_slice Try.underlying24 h with ⟨hcs, _⟩ | ⟨a, len', cap', m, n, D, Pl, hcs, _, hl, hm, hmm, _, hi⟩
  · simp at hcs
    obtain ⟨rfl, rfl, rfl⟩ := hcs
    exact ⟨[], rfl, Sl.nil _ _ _, by simp⟩
  · simp at hcs
    obtain ⟨rfl, rfl, rfl⟩ := hcs
    have hlm : len ≤ m := by rw [hmm]; split <;> omega
    rw [hk] at hi
    have hex : ∀ i, i < len → ∃ t : Tok, w.cell? (a.add (i * 3)) = some (.int .i64 t.sym) ∧ w.cell? (a.add (i * 3 + 1)) = some (.string ⟨t.text.toArray⟩) ∧ w.cell? (a.add (i * 3 + 2)) = some (.int .i64 t.at_) ∧ t.text.length ≤ maxLen := by
      intro i hil
      obtain ⟨cs', hc, ht⟩ := hi i (by omega)
      obtain ⟨_, hcl, hat⟩ := World.cells?_some hc
      obtain ⟨t, rfl, htl⟩ := tok_cells hcl ht
      refine ⟨t, ?_, ?_, ?_, htl⟩
      · have := hat 0 (by decide); rw [add_add] at this; exact this
      · have := hat 1 (by decide); rw [add_add] at this; exact this
      · have := hat 2 (by decide); rw [add_add] at this; exact this
    obtain ⟨f, hf⟩ : ∃ f : Nat → Tok, ∀ i, i < len → w.cell? (a.add (i * 3)) = some (.int .i64 (f i).sym) ∧ w.cell? (a.add (i * 3 + 1)) = some (.string ⟨(f i).text.toArray⟩) ∧ w.cell? (a.add (i * 3 + 2)) = some (.int .i64 (f i).at_) ∧ (f i).text.length ≤ maxLen :=
      ⟨fun i => if hil : i < len then Classical.choose (hex i hil) else ⟨0, [], 0⟩, fun i hil => by simp only [dif_pos hil]; exact Classical.choose_spec (hex i hil)⟩
    have hll : ((List.range len).map f).length = len := by simp
    refine ⟨(List.range len).map f, hll.symm, ⟨by rw [tokC_len], by omega, hm, fun hn => ?_⟩, ?_⟩
    · rw [hll] at hn
      obtain ⟨b, off, spot⟩ := a
      have h0 := (hf 0 hn).1
      have hspot : spot = none := by simpa [Addr.add] using World.cell?_spot h0
      subst hspot
      have hadd : ∀ j, (⟨b, off, none⟩ : Addr).add j = ⟨b, off + j, none⟩ := fun j => by unfold Addr.add; split <;> simp_all
      refine ⟨b, off, rfl, by rw [hadd] at h0; exact block_lt_of_cell h0, fun j u hu => ?_⟩
      have hjl : j < len * 3 := by
        rcases Nat.lt_or_ge j (len * 3) with h | h
        · exact h
        · rw [List.getElem?_eq_none (by rw [tokC_len, hll]; omega)] at hu; cases hu
      have hq : j / 3 < len := by omega
      obtain ⟨g0, g1, g2⟩ := tokC_get ((List.range len).map f) (j / 3) (by rw [hll]; exact hq)
      obtain ⟨e0, e1, e2, _⟩ := hf (j / 3) hq
      rw [hadd] at e0 e1 e2
      simp only [List.getElem_map, List.getElem_range] at g0 g1 g2
      rcases (by omega : j = j / 3 * 3 ∨ j = j / 3 * 3 + 1 ∨ j = j / 3 * 3 + 2) with hj | hj | hj
      · rw [hj] at hu ⊢; rw [← hu, g0]; exact e0
      · rw [hj] at hu ⊢; rw [← hu, g1]; exact e1
      · rw [hj] at hu ⊢; rw [← hu, g2]; exact e2
    · intro t ht
      obtain ⟨i, hi', rfl⟩ := List.mem_map.1 ht
      exact (hf i (List.mem_range.1 hi')).2.2.2
end Go.Proofs.Ytdndomjmnlpjgaa
