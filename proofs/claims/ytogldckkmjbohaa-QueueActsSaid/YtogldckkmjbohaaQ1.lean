/- Events: what their cells hold. -/
import Derived.Test.YtogldckkmjbohaaBy
namespace Go.Proofs.Ytogldckkmjbohaa
open Go.RowKit
structure Ev where
  kind : Int
  sym : Int
  prod : Int
  rec_ : Int
  at_ : Int
  text : List UInt8
  err : Int
deriving DecidableEq
def Ev.cs (e : Ev) : List Value := [.int .i64 e.kind, .int .i64 e.sym, .int .i64 e.prod, .int .i64 e.rec_, .int .i64 e.at_, .string ⟨e.text.toArray⟩, .int .i64 e.err]
def Ev.v (e : Ev) : Value := .agg e.cs.toArray
def evC (l : List Ev) : List Value := l.flatMap Ev.cs
theorem evC_cons (x : Ev) (l : List Ev) : evC (x :: l) = x.cs ++ evC l := by unfold evC; rw [List.flatMap_cons]
theorem evC_append (l k : List Ev) : evC (l ++ k) = evC l ++ evC k := by unfold evC; rw [List.flatMap_append]
theorem evC_len (l : List Ev) : (evC l).length = l.length * 7 := by
  induction l with
  | nil => rfl
  | cons t l ih => rw [evC_cons, List.length_append, ih]; simp [Ev.cs]; omega
theorem evC_get : ∀ (l : List Ev) (k : Nat) (hk : k < l.length) (j : Nat), j < 7 → (evC l)[k * 7 + j]? = l[k].cs[j]?
  | x :: l, 0, _, j, hj => by rw [evC_cons, Nat.zero_mul, Nat.zero_add, List.getElem?_append_left (by simp [Ev.cs]; omega)]; rfl
  | x :: l, k + 1, hk, j, hj => by
    have ih := evC_get l k (by simpa using hk) j hj
    rw [evC_cons, List.getElem_cons_succ, ← ih]
    rw [show (k + 1) * 7 + j = (k * 7 + j) + 7 by omega, List.getElem?_append_right (by simp [Ev.cs])]
    simp [Ev.cs]
theorem sl_ev {w : World} {D : Nat} {A : Option Addr} {cap : Nat} {l : List Ev} (h : Sl w D 7 A l.length cap (evC l)) {k : Nat} (hk : k < l.length) :
    ∃ b o, A = some ⟨b, o, none⟩ ∧ b < D ∧ w.cell? ⟨b, o + k * 7, none⟩ = some (.int .i64 l[k].kind) ∧ w.cell? ⟨b, o + k * 7 + 1, none⟩ = some (.int .i64 l[k].sym) ∧ w.cell? ⟨b, o + k * 7 + 2, none⟩ = some (.int .i64 l[k].prod) ∧
      w.cell? ⟨b, o + k * 7 + 3, none⟩ = some (.int .i64 l[k].rec_) ∧ w.cell? ⟨b, o + k * 7 + 4, none⟩ = some (.int .i64 l[k].at_) ∧ w.cell? ⟨b, o + k * 7 + 5, none⟩ = some (.string ⟨l[k].text.toArray⟩) ∧ w.cell? ⟨b, o + k * 7 + 6, none⟩ = some (.int .i64 l[k].err) := by
  obtain ⟨b, o, e, hb, hc⟩ := h.2.2.2 (by omega)
  have g : ∀ j v, j < 7 → l[k].cs[j]? = some v → w.cell? ⟨b, o + k * 7 + j, none⟩ = some v := fun j v hj hv => by
    have := hc (k * 7 + j) v (by rw [evC_get l k hk j hj, hv])
    rw [← this, Nat.add_assoc]
  exact ⟨b, o, e, hb, g 0 _ (by decide) rfl, g 1 _ (by decide) rfl, g 2 _ (by decide) rfl, g 3 _ (by decide) rfl, g 4 _ (by decide) rfl, g 5 _ (by decide) rfl, g 6 _ (by decide) rfl⟩
end Go.Proofs.Ytogldckkmjbohaa
