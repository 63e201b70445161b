/- Records in memory: a slice of records whose tokens lie in slices of their own. -/
import Derived.Test.YtdndomjmnlpjgaaT26
namespace Go.Proofs.Ytdndomjmnlpjgaa
open Go.RowKit
structure Rc where
  toks : List Tok
  fin : Int
  at_ : Int
deriving DecidableEq
structure RcM where
  A : Option Addr
  cap : Nat
  r : Rc
def rcC (l : List RcM) : List Value := l.flatMap (fun x => [.slice x.A x.r.toks.length x.cap, .int .i64 x.r.fin, .int .i64 x.r.at_])
theorem rcC_cons (x : RcM) (l : List RcM) : rcC (x :: l) = [.slice x.A x.r.toks.length x.cap, .int .i64 x.r.fin, .int .i64 x.r.at_] ++ rcC l := by unfold rcC; rw [List.flatMap_cons]
theorem rcC_append (l k : List RcM) : rcC (l ++ k) = rcC l ++ rcC k := by unfold rcC; rw [List.flatMap_append]
theorem rcC_len (l : List RcM) : (rcC l).length = l.length * 3 := by
  induction l with
  | nil => rfl
  | cons t l ih => rw [rcC_cons, List.length_append, ih]; simp; omega
theorem rcC_get : ∀ (l : List RcM) (k : Nat) (hk : k < l.length), (rcC l)[k * 3]? = some (.slice l[k].A l[k].r.toks.length l[k].cap) ∧ (rcC l)[k * 3 + 1]? = some (.int .i64 l[k].r.fin) ∧ (rcC l)[k * 3 + 2]? = some (.int .i64 l[k].r.at_)
  | x :: l, 0, _ => by rw [rcC_cons]; exact ⟨rfl, rfl, rfl⟩
  | x :: l, k + 1, hk => by
    have ih := rcC_get l k (by simpa using hk)
    rw [rcC_cons, List.getElem_cons_succ]
    have e0 : (k + 1) * 3 = k * 3 + 3 := by omega
    rw [e0]
    refine ⟨?_, ?_, ?_⟩
    · rw [List.getElem?_append_right (by simp)]; exact ih.1
    · rw [show k * 3 + 3 + 1 = (k * 3 + 1) + 3 by omega, List.getElem?_append_right (by simp)]; exact ih.2.1
    · rw [show k * 3 + 3 + 2 = (k * 3 + 2) + 3 by omega, List.getElem?_append_right (by simp)]; exact ih.2.2
theorem sl_rc {w : World} {D : Nat} {A : Option Addr} {cap : Nat} {l : List RcM} (h : Sl w D 3 A l.length cap (rcC l)) {k : Nat} (hk : k < l.length) :
    ∃ b o, A = some ⟨b, o, none⟩ ∧ b < D ∧ w.cell? ⟨b, o + k * 3, none⟩ = some (.slice l[k].A l[k].r.toks.length l[k].cap) ∧ w.cell? ⟨b, o + k * 3 + 1, none⟩ = some (.int .i64 l[k].r.fin) ∧ w.cell? ⟨b, o + k * 3 + 2, none⟩ = some (.int .i64 l[k].r.at_) := by
  obtain ⟨b, o, e, hb, hc⟩ := h.2.2.2 (by omega)
  obtain ⟨h0, h1, h2⟩ := rcC_get l k hk
  exact ⟨b, o, e, hb, hc _ _ h0, hc _ _ h1, hc _ _ h2⟩
theorem infoR : (Try.prog.info? 43).map (fun i => (i.zero, i.size, i.bytes)) = some (some (.agg #[.slice none 0 0, .int .i64 0, .int .i64 0]), 3, 40) := by kernel_rfl
/-- The tokens of records, each list in a block of its own below D. -/
def rcO (W : World) (D : Nat) (l : List RcM) : Prop := ∀ x ∈ l, Own W 0 41 3 x.A x.r.toks.length x.cap (tokC x.r.toks) ∧ ∀ g, blockOf x.A x.cap = some g → g < D
theorem rcO.nil (W : World) (D : Nat) : rcO W D [] := fun x hx => by cases hx
theorem rcO.more {W : World} {D D' : Nat} {l : List RcM} (h : rcO W D l) (hD : D ≤ D') : rcO W D' l := fun x hx => ⟨(h x hx).1, fun g hg => Nat.lt_of_lt_of_le ((h x hx).2 g hg) hD⟩
theorem rcO.below {W W' : World} {D B : Nat} {l : List RcM} (h : rcO W D l) (hb : Below B W W') (hB : W.heap.size ≤ B) : rcO W' D l := fun x hx => ⟨(h x hx).1.below hb hB, (h x hx).2⟩
theorem rcO.alloc {W : World} {D : Nat} {l : List RcM} (h : rcO W D l) (o : Obj) : rcO (W.alloc o) D l := fun x hx => ⟨(h x hx).1.alloc o, (h x hx).2⟩
theorem rcO.sl {W : World} {D : Nat} {l : List RcM} (h : rcO W D l) : ∀ x ∈ l, Sl W W.heap.size 3 x.A x.r.toks.length x.cap (tokC x.r.toks) := fun x hx => (h x hx).1.sl
theorem Own.ne_type {W : World} {B B' s s' n n' cap cap' : Nat} {e e' : TypeId} {A A' : Option Addr} {xs xs' : List Value} (he : e ≠ e') (h : Own W B e s A n cap xs) (h' : Own W B' e' s' A' n' cap' xs') :
    blockOf A cap = none ∨ blockOf A cap ≠ blockOf A' cap' := by
  cases hb : blockOf A cap with
  | none => exact .inl rfl
  | some g =>
    refine .inr fun hq => he ?_
    have k1 : ∃ cur, Blk W g e cur := by
      rcases h.2.2.2 with h0 | ⟨g1, cur, rfl, _, hk, _, _⟩
      · simp [blockOf, h0] at hb
      · unfold blockOf at hb
        split at hb
        · cases hb
        · simp at hb; subst hb; exact ⟨cur, hk⟩
    have k2 : ∃ cur, Blk W g e' cur := by
      have hq2 := hq.symm
      rcases h'.2.2.2 with h0 | ⟨g1, cur, rfl, _, hk, _, _⟩
      · simp [blockOf, h0] at hq2
      · unfold blockOf at hq2
        split at hq2
        · cases hq2
        · simp at hq2; subst hq2; exact ⟨cur, hk⟩
    obtain ⟨c1, f1, q1, _⟩ := k1
    obtain ⟨c2, f2, q2, _⟩ := k2
    rw [q1] at q2
    injection q2 with q3
    injection q3
theorem rcO.grownT {W W' : World} {D n cap : Nat} {A : Option Addr} {xs : List Value} {l : List RcM} (h : rcO W D l) (hown : Own W D 41 3 A n cap xs) (hg : W.grownBy W' (blockOf A cap)) : rcO W' D l := fun x hx => by
  refine ⟨(h x hx).1.grown hg ?_, (h x hx).2⟩
  cases hb : blockOf x.A x.cap with
  | none => exact .inl rfl
  | some g =>
    refine .inr fun hq => ?_
    have h1 := (h x hx).2 g hb
    have h2 := (hown.lt hq.symm).1
    omega
theorem rcO.grownR {W W' : World} {D B s n cap : Nat} {e : TypeId} {A : Option Addr} {xs : List Value} {l : List RcM} (h : rcO W D l) (he : 41 ≠ e) (hown : Own W B e s A n cap xs) (hg : W.grownBy W' (blockOf A cap)) : rcO W' D l := fun x hx =>
  ⟨(h x hx).1.grown hg (Own.ne_type he (h x hx).1 hown), (h x hx).2⟩
def divA (m : Int) : List Tok → List Tok → List Rc × List Tok
  | [], rest => ([], rest)
  | t :: l, rest => if t.sym = m then (⟨rest, 1, t.at_⟩ :: (divA m l []).1, (divA m l []).2) else divA m l (rest ++ [t])
theorem divA_at (m : Int) {l : List Tok} {k : Nat} (hk : k < l.length) (rest : List Tok) : divA m (l.drop k) rest = if l[k].sym = m then (⟨rest, 1, l[k].at_⟩ :: (divA m (l.drop (k + 1)) []).1, (divA m (l.drop (k + 1)) []).2) else divA m (l.drop (k + 1)) (rest ++ [l[k]]) := by
  rw [List.drop_eq_getElem_cons hk]; rfl
end Go.Proofs.Ytdndomjmnlpjgaa
