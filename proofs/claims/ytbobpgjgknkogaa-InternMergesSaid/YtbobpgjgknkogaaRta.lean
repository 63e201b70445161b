/- A table that came in, by value. No condition. -/
import Derived.Test.YtbobpgjgknkogaaI35
import Derived.Lib.SmallJoins
import Derived.ChangeArms
import Derived.ProofKit
import Derived.OpenShut
import Derived.ShutString
import Derived.ChangeOld
import Derived.SliceStrings
namespace Go.Proofs.Ytbobpgjgknkogaa
open Go.ChangeShapes Go.WideShapes Go.ChangeAt Go.RowKit
open Go.ChangeMaps (open_string shut_string)
/-- A slice of strings that came in. -/
theorem sl_of_strings {w : World} {a : Addr} {len cap : Nat} {ss : List ByteArray} (hl : len ≤ cap) (hm : cap ≤ maxLen) (hz : ss.length = cap)
    (hcell : ∀ i, i < ss.length → w.cell? (a.add i) = some (.string (ss.getD i ByteArray.empty))) (hw : ∀ s ∈ ss, s.size ≤ maxLen) :
    ∃ ls : List (List UInt8), len = ls.length ∧ Sl w w.heap.size 1 (some a) ls.length cap (ls.map strV) ∧ ∀ l ∈ ls, l.length ≤ maxLen := by
  refine ⟨(ss.take len).map (fun s => s.data.toList), by simp; omega, ⟨by simp, by simp; omega, hm, fun hn => ?_⟩, ?_⟩
  · obtain ⟨b, off, spot⟩ := a
    have hn' : 0 < len := by simp at hn; omega
    have h0 := hcell 0 (by omega)
    have hspot : spot = none := by simpa [Addr.add] using World.cell?_spot h0
    subst hspot
    have hadd : ∀ j, (⟨b, off, none⟩ : Addr).add j = ⟨b, off + j, none⟩ := fun j => by unfold Addr.add; split <;> simp_all
    refine ⟨b, off, rfl, by rw [hadd] at h0; exact block_lt_of_cell h0, fun j u hu => ?_⟩
    rw [List.map_map, List.getElem?_map] at hu
    have hj : j < len := by
      rcases Nat.lt_or_ge j len with h | h
      · exact h
      · rw [List.getElem?_eq_none (by rw [List.length_take]; omega)] at hu; cases hu
    rw [← hadd, hcell j (by omega)]
    rw [List.getElem?_take, if_pos hj] at hu
    have hjs : j < ss.length := by omega
    rw [List.getElem?_eq_getElem hjs] at hu
    rw [← hu, List.getD_eq_getElem?_getD, List.getElem?_eq_getElem hjs]
    rfl
  · intro l hl
    obtain ⟨s, hs, rfl⟩ := List.mem_map.1 hl
    exact hw s (List.mem_of_mem_take hs)
theorem array1 {α : Type} {cs : Array α} (h : cs.size = 1) : ∃ c0, cs = #[c0] := by
  obtain ⟨l⟩ := cs
  match l, h with
  | [c0], _ => exact ⟨c0, rfl⟩
section
variable {H : Type} {enc : TypeId × Value → H} {P : Program} {w : World} {base : Nat} {spare : Nat → Bool} {held : Bool}
theorem open_agg1 {r : Reach} {b0 : Nat} {t : TypeId} {f0 : Field} {v : Value} {d : DataW H} {p : List MemPlace} (hs : P.underlying t = some (.struct #[f0])) (ho : f0.offset = 0) (hk : P.cellsOf f0.type = 1) (hC : P.cellsOf t = 1)
    (hv : Value.okWide P w r b0 t v) (h : DataW.Trod enc P w base spare held t v d p) :
    ∃ (v0 : Value) (y0 : DataW H × List MemPlace) (n : Nat), v = .agg #[v0] ∧ DataW.trod enc P w base spare held n f0.type [v0] = some y0 := by
  obtain ⟨cs, rfl, hsz⟩ := okWide_struct hs hv
  obtain ⟨c0, rfl⟩ := array1 (hsz.trans hC)
  obtain ⟨fuel, hf⟩ := h
  obtain ⟨xs, n, _, _, hl, hlen, hf2⟩ := DataW.trod_struct hs hf
  match xs, hlen with
  | [y0], _ =>
    have h0 := hf2 0 f0 rfl
    exact ⟨c0, y0, n, rfl, by simpa [Value.cells, ho, hk] using h0⟩
theorem tab_in {W : World} {r : Reach} {b0 : Nat} {v : Value} {d : DataW H} {p : List MemPlace} (hv : Value.okWide Try.prog W r b0 24 v) (h : DataW.Trod enc Try.prog W base (fun _ => true) held 24 v d p) :
    ∃ (A : Option Addr) (cap : Nat) (ls : List (List UInt8)), v = .agg #[.slice A ls.length cap] ∧ Sl W W.heap.size 1 A ls.length cap (ls.map strV) ∧ ∀ l ∈ ls, l.length ≤ maxLen := by
  obtain ⟨v0, y0, n, rfl, hf⟩ := open_agg1 Try.underlying24 rfl (by kernel_rfl) (by kernel_rfl) hv h
  rcases open_strings Try.underlying22 Try.underlying9 (by kernel_rfl) hf with ⟨hcs, _⟩ | ⟨x, l, c, ss, hcs, _, hl, hm, hz, _, hcell, hwz⟩
  · simp at hcs
    subst hcs
    exact ⟨none, 0, [], rfl, Sl.nil _ _ _, by simp⟩
  · simp at hcs
    subst hcs
    have hz' : ss.length = c := by simpa using hz
    obtain ⟨ls, h1, h2, h3⟩ := sl_of_strings hl hm hz' hcell hwz
    subst h1
    exact ⟨_, _, ls, rfl, h2, h3⟩
end
end Go.Proofs.Ytbobpgjgknkogaa
