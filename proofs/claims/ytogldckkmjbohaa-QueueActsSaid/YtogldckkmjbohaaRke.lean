/- A slice of events that came in: what its cells hold. -/
import Derived.Test.YtogldckkmjbohaaQ25
import Derived.Lib.SmallJoins
import Derived.ChangeArms
import Derived.Deep.Slices
import Derived.Deep.Fields
import Derived.ProofKit
import Derived.OpenShut
namespace Go.Proofs.Ytogldckkmjbohaa
open Go.RowKit Go.ChangeShapes Go.WideShapes Go.Deep Go.Joins
variable {H : Type} {enc : TypeId × Value → H} {w : World} {base : Nat} {spare : Nat → Bool} {held : Bool}
theorem trod_struct7 {P : Program} {t : TypeId} {f0 f1 f2 f3 f4 f5 f6 : Field} {fuel : Nat} {cs : List Value} {x : DataW H × List MemPlace} (ht : P.underlying t = some (.struct #[f0, f1, f2, f3, f4, f5, f6])) (h : DataW.trod enc P w base spare held fuel t cs = some x) :
    ∃ (y0 y1 y2 y3 y4 y5 y6 : DataW H × List MemPlace) (n : Nat), DataW.trod enc P w base spare held n f0.type ((cs.drop f0.offset).take (P.cellsOf f0.type)) = some y0 ∧
      DataW.trod enc P w base spare held n f1.type ((cs.drop f1.offset).take (P.cellsOf f1.type)) = some y1 ∧ DataW.trod enc P w base spare held n f2.type ((cs.drop f2.offset).take (P.cellsOf f2.type)) = some y2 ∧
      DataW.trod enc P w base spare held n f3.type ((cs.drop f3.offset).take (P.cellsOf f3.type)) = some y3 ∧ DataW.trod enc P w base spare held n f4.type ((cs.drop f4.offset).take (P.cellsOf f4.type)) = some y4 ∧
      DataW.trod enc P w base spare held n f5.type ((cs.drop f5.offset).take (P.cellsOf f5.type)) = some y5 ∧ DataW.trod enc P w base spare held n f6.type ((cs.drop f6.offset).take (P.cellsOf f6.type)) = some y6 := by
  obtain ⟨xs, n, _, rfl, hl, hlen, hf⟩ := DataW.trod_struct ht h
  match xs, hlen with
  | [y0, y1, y2, y3, y4, y5, y6], _ => exact ⟨y0, y1, y2, y3, y4, y5, y6, n, by simpa using hf 0 f0 rfl, by simpa using hf 1 f1 rfl, by simpa using hf 2 f2 rfl, by simpa using hf 3 f3 rfl, by simpa using hf 4 f4 rfl, by simpa using hf 5 f5 rfl, by simpa using hf 6 f6 rfl⟩
theorem ev_cells {fuel : Nat} {cs : List Value} {x : DataW H × List MemPlace} (hl : cs.length = 7) (h : DataW.trod enc Try.prog w base spare held fuel 34 cs = some x) :
    ∃ t : Ev, cs = t.cs ∧ t.text.length ≤ maxLen := by
  match cs, hl with
  | [c0, c1, c2, c3, c4, c5, c6], _ =>
    obtain ⟨y0, y1, y2, y3, y4, y5, y6, n, h0, h1, h2, h3, h4, h5, h6⟩ := trod_struct7 Try.underlying34 h
    have hk3 : Try.prog.cellsOf 3 = 1 := by kernel_rfl
    have hk9 : Try.prog.cellsOf 9 = 1 := by kernel_rfl
    have hke : Try.prog.cellsOf 26 = 1 := by kernel_rfl
    simp only [hk3, hk9, hke] at h0 h1 h2 h3 h4 h5 h6
    obtain ⟨a0, e0, _, _⟩ := DataW.trod_int Try.underlying3 h0
    obtain ⟨a1, e1, _, _⟩ := DataW.trod_int Try.underlying3 h1
    obtain ⟨a2, e2, _, _⟩ := DataW.trod_int Try.underlying3 h2
    obtain ⟨a3, e3, _, _⟩ := DataW.trod_int Try.underlying3 h3
    obtain ⟨a4, e4, _, _⟩ := DataW.trod_int Try.underlying3 h4
    obtain ⟨s, e5, _, ws⟩ := DataW.trod_string Try.underlying9 h5
    obtain ⟨a6, e6, _, _⟩ := DataW.trod_int Try.underlying26 h6
    simp at e0 e1 e2 e3 e4 e5 e6
    subst e0 e1 e2 e3 e4 e5 e6
    obtain ⟨⟨l⟩⟩ := s
    exact ⟨⟨a0, a1, a2, a3, a4, l, a6⟩, rfl, by simpa [ByteArray.size] using ws⟩
theorem evs_in {fuel : Nat} {b : Option Addr} {len cap : Nat} {x : DataW H × List MemPlace} (h : DataW.trod enc Try.prog w base spare held fuel 22 [.slice b len cap] = some x) :
    ∃ ls : List Ev, len = ls.length ∧ Sl w w.heap.size 7 b ls.length cap (evC ls) ∧ ∀ t ∈ ls, t.text.length ≤ maxLen := by
  have hk : Try.prog.cellsOf 34 = 7 := by kernel_rfl
  rcases open_slice Try.underlying22 h with ⟨hcs, _⟩ | ⟨a, len', cap', m, n, D, Pl, hcs, _, hl, hm, hmm, _, hi⟩
  · simp at hcs
    obtain ⟨rfl, rfl, rfl⟩ := hcs
    exact ⟨[], rfl, Sl.nil _ _ _, by simp⟩
  · simp at hcs
    obtain ⟨rfl, rfl, rfl⟩ := hcs
    have hlm : len ≤ m := by rw [hmm]; split <;> omega
    rw [hk] at hi
    have hex : ∀ i, i < len → ∃ t : Ev, (∀ j, j < 7 → w.cell? (a.add (i * 7 + j)) = t.cs[j]?) ∧ t.text.length ≤ maxLen := by
      intro i hil
      obtain ⟨cs', hc, ht⟩ := hi i (by omega)
      obtain ⟨_, hcl, hat⟩ := World.cells?_some hc
      obtain ⟨t, rfl, htl⟩ := ev_cells hcl ht
      refine ⟨t, fun j hj => ?_, htl⟩
      have := hat j hj
      rw [add_add] at this
      rw [this]
    obtain ⟨f, hf⟩ : ∃ f : Nat → Ev, ∀ i, i < len → (∀ j, j < 7 → w.cell? (a.add (i * 7 + j)) = (f i).cs[j]?) ∧ (f i).text.length ≤ maxLen :=
      ⟨fun i => if hil : i < len then Classical.choose (hex i hil) else ⟨0, 0, 0, 0, 0, [], 0⟩, fun i hil => by simp only [dif_pos hil]; exact Classical.choose_spec (hex i hil)⟩
    have hll : ((List.range len).map f).length = len := by simp
    refine ⟨(List.range len).map f, hll.symm, ⟨by rw [evC_len], by omega, hm, fun hn => ?_⟩, ?_⟩
    · rw [hll] at hn
      obtain ⟨b, off, spot⟩ := a
      have h0 := (hf 0 hn).1 0 (by decide)
      have h0' : w.cell? ((⟨b, off, spot⟩ : Addr).add (0 * 7 + 0)) = some (.int .i64 (f 0).kind) := h0
      have hspot : spot = none := by simpa [Addr.add] using World.cell?_spot h0'
      subst hspot
      have hadd : ∀ j, (⟨b, off, none⟩ : Addr).add j = ⟨b, off + j, none⟩ := fun j => by unfold Addr.add; split <;> simp_all
      refine ⟨b, off, rfl, by rw [hadd] at h0'; exact block_lt_of_cell h0', fun j u hu => ?_⟩
      have hjl : j < len * 7 := by
        rcases Nat.lt_or_ge j (len * 7) with h | h
        · exact h
        · rw [List.getElem?_eq_none (by rw [evC_len, hll]; omega)] at hu; cases hu
      have hq : j / 7 < len := by omega
      have hr : j % 7 < 7 := Nat.mod_lt _ (by decide)
      have g := evC_get ((List.range len).map f) (j / 7) (by rw [hll]; exact hq) (j % 7) hr
      have e := (hf (j / 7) hq).1 (j % 7) hr
      rw [hadd] at e
      simp only [List.getElem_map, List.getElem_range] at g
      rw [show j / 7 * 7 + j % 7 = j by omega] at g e
      rw [e, ← g, hu]
    · intro t ht
      obtain ⟨i, hi', rfl⟩ := List.mem_map.1 ht
      exact (hf i (List.mem_range.1 hi')).2
end Go.Proofs.Ytogldckkmjbohaa
