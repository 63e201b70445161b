/- Chunk: what it computes, step by step. -/
import Derived.Test.YtfcbbolokhcknaaFa12
namespace Go.Proofs.Ytfcbbolokhcknaa
open Go.RowKit Go.Shelf
/-- Where a chunk stands: the part, the tokens, where the next one begins, how many bytes were used, the error. -/
structure CS where
  p : List UInt8
  l : List Tok
  at_ : Nat
  used : Nat
  err : Int
deriving DecidableEq
def stepC (m : Nat) (s : CS) (x : IB) : CS :=
  if s.err ≠ 0 then s else if badN m s.p.length x.1.2.toNat ≠ 0 then ⟨[], s.l, s.at_, s.used, badN m s.p.length x.1.2.toNat⟩
  else if wholeP (s.p ++ [x.1.2]) then ⟨[], s.l ++ [⟨b0 (s.p ++ [x.1.2]), (s.p ++ [x.1.2]).drop 2, s.at_⟩], x.1.1 + 1, x.1.1 + 1, 0⟩ else ⟨s.p ++ [x.1.2], s.l, s.at_, x.1.1 + 1, 0⟩
def stC (m : Nat) (p0 : List UInt8) (pre : List IB) : CS := pre.foldl (stepC m) ⟨p0, [], 0, 0, 0⟩
theorem stC_snoc (m : Nat) (p0 : List UInt8) (pre : List IB) (x : IB) : stC m p0 (pre ++ [x]) = stepC m (stC m p0 pre) x := by unfold stC; rw [List.foldl_append]; rfl
theorem stepC_stop (m : Nat) (more : List IB) (s : CS) (h : s.err ≠ 0) : more.foldl (stepC m) s = s := by
  induction more with
  | nil => rfl
  | cons x t ih =>
    have : stepC m s x = s := if_pos h
    rw [List.foldl_cons, this, ih]
theorem stC_stop (m : Nat) (p0 : List UInt8) (pre more : List IB) (h : (stC m p0 pre).err ≠ 0) : stC m p0 (pre ++ more) = stC m p0 pre := by
  unfold stC at h ⊢
  rw [List.foldl_append]
  exact stepC_stop m more _ h
theorem okG_nil (m : Nat) : okG m [] := fun k hk => by simp at hk
theorem stepC_inv (m : Nat) (s : CS) (x : IB) (n : Nat) (h : okG m s.p ∧ s.l.length ≤ n ∧ s.at_ ≤ 1000 ∧ s.used ≤ 1000) : okG m (stepC m s x).p ∧ (stepC m s x).l.length ≤ n + 1 ∧ (stepC m s x).at_ ≤ 1000 ∧ (stepC m s x).used ≤ 1000 := by
  obtain ⟨h1, h2, h3, h4⟩ := h
  have hx := x.2
  unfold stepC
  split
  · exact ⟨h1, by omega, h3, h4⟩
  · split
    · exact ⟨okG_nil m, by simp only; omega, h3, h4⟩
    · rename_i hb
      split
      · exact ⟨okG_nil m, by simp only [List.length_append, List.length_singleton]; omega, by simp only; omega, by simp only; omega⟩
      · rename_i hw
        refine ⟨(okG_snoc m s.p x.1.2).2 ⟨h1, by simpa using hb, by revert hw; cases wholeP (s.p ++ [x.1.2]) <;> simp⟩, by simp only; omega, h3, by simp only; omega⟩
theorem stC_inv (m : Nat) (p0 : List UInt8) (h0 : okG m p0) (pre : List IB) : okG m (stC m p0 pre).p ∧ (stC m p0 pre).l.length ≤ pre.length ∧ (stC m p0 pre).at_ ≤ 1000 ∧ (stC m p0 pre).used ≤ 1000 := by
  have key : ∀ (n : Nat) (pre : List IB), pre.length = n → okG m (stC m p0 pre).p ∧ (stC m p0 pre).l.length ≤ pre.length ∧ (stC m p0 pre).at_ ≤ 1000 ∧ (stC m p0 pre).used ≤ 1000 := by
    intro n
    induction n with
    | zero =>
      intro pre hp
      obtain rfl := List.eq_nil_of_length_eq_zero hp
      exact ⟨h0, Nat.le_refl _, Nat.zero_le _, Nat.zero_le _⟩
    | succ n ih =>
      intro pre hp
      obtain ⟨init, x, rfl⟩ : ∃ init x, pre = init ++ [x] := by
        have hne : pre ≠ [] := by intro h; rw [h] at hp; cases hp
        exact ⟨pre.dropLast, pre.getLast hne, (List.dropLast_concat_getLast hne).symm⟩
      rw [List.length_append, List.length_singleton] at hp ⊢
      have hl : init.length = n := by omega
      have h := ih init hl
      rw [stC_snoc]
      exact stepC_inv m _ x init.length h
  exact key pre.length pre rfl
/-- What Chunk answers. -/
def chunkC (n : Int) (f s : List UInt8) : CS := if partE n f ≠ 0 then ⟨[], [], 0, 0, partE n f⟩ else stC n.toNat f (ibs 0 s)
/-- What the boxes hold where a chunk stands at s. -/
def CI (m : Nat) (str : List UInt8) (w : World) (gp : Nat) (s : CS) (A : Option Addr) (cap : Nat) (W : World) : Prop :=
  Blk W w.heap.size 3 #[.int .i64 m] ∧ Blk W (w.heap.size + 1) 33 #[.slice A s.l.length cap] ∧ Blk W (w.heap.size + 2) 3 #[.int .i64 s.used] ∧ Blk W (w.heap.size + 3) 23 #[.int .i64 s.err] ∧
  Pt W gp s.p ∧ Blk W (gp + 1) 3 #[.int .i64 s.at_] ∧ Blk W (gp + 2) 9 #[.string ⟨str.toArray⟩] ∧ Own W (gp + 3) 29 3 A s.l.length cap (tokC s.l) ∧ Below w.heap.size w W
section
variable {m : Nat} {str : List UInt8} {w : World} {gp : Nat} {s : CS} {A : Option Addr} {cap : Nat} {W W' : World}
theorem CI.on (h : CI m str w gp s A cap W) (hb : Below W.heap.size W W') : CI m str w gp s A cap W' := by
  obtain ⟨h0, h1, h2, h3, h4, h5, h6, h7, h8⟩ := h
  exact ⟨Blk.on h0 hb, Blk.on h1 hb, Blk.on h2 hb, Blk.on h3 hb, h4.on hb, Blk.on h5 hb, Blk.on h6 hb, h7.below hb (Nat.le_refl _), below_on h8 hb (Nat.le_refl _)⟩
theorem CI.turn {row : Option Nat} {B : Nat} (hB : w.heap.size ≤ B) (h : CI m str w gp s A cap W) (hg : W.grownBy W' row) (hr : ∀ r, row = some r → B ≤ r ∧ ∃ o : Obj, W.heap[r]? = some o ∧ o.isCells = false) : CI m str w gp s A cap W' := by
  obtain ⟨h0, h1, h2, h3, h4, h5, h6, h7, h8⟩ := h
  exact ⟨Blk.turn h0 hg hr, Blk.turn h1 hg hr, Blk.turn h2 hg hr, Blk.turn h3 hg hr, h4.turn hg hr, Blk.turn h5 hg hr, Blk.turn h6 hg hr, h7.keep (fun _ _ _ hb => Blk.turn hb hg hr), h8.grown hg h8.size (fun k e => by have := (hr k e).1; omega)⟩
theorem CI.setErr (hgp : w.heap.size + 4 ≤ gp) (h : CI m str w gp s A cap W) (e : Int) : CI m str w gp ⟨s.p, s.l, s.at_, s.used, e⟩ A cap (W.setCell ⟨w.heap.size + 3, 0, none⟩ (.int .i64 e)) := by
  obtain ⟨h0, h1, h2, h3, h4, h5, h6, h7, h8⟩ := h
  exact ⟨h0.far (by simp) _, h1.far (by simp) _, h2.far (by simp) _, h3.set 0 _, h4.far (by simp only; omega) _, h5.far (by simp only; omega) _, h6.far (by simp only; omega) _, h7.far (by simp only; omega) _, h8.setCell (by simp) _⟩
theorem CI.setUsed (hgp : w.heap.size + 4 ≤ gp) (h : CI m str w gp s A cap W) (u : Nat) : CI m str w gp ⟨s.p, s.l, s.at_, u, s.err⟩ A cap (W.setCell ⟨w.heap.size + 2, 0, none⟩ (.int .i64 u)) := by
  obtain ⟨h0, h1, h2, h3, h4, h5, h6, h7, h8⟩ := h
  exact ⟨h0.far (by simp) _, h1.far (by simp) _, h2.set 0 _, h3.far (by simp) _, h4.far (by simp only; omega) _, h5.far (by simp only; omega) _, h6.far (by simp only; omega) _, h7.far (by simp only; omega) _, h8.setCell (by simp) _⟩
theorem CI.setPart (hgp : w.heap.size + 4 ≤ gp) (h : CI m str w gp s A cap W) {k : List UInt8} (hk : k.length ≤ 26) : CI m str w gp ⟨k, s.l, s.at_, s.used, s.err⟩ A cap (W.setRow gp (partC k).toArray) := by
  obtain ⟨h0, h1, h2, h3, h4, h5, h6, h7, h8⟩ := h
  exact ⟨h0.rowFar (by omega) _, h1.rowFar (by omega) _, h2.rowFar (by omega) _, h3.rowFar (by omega) _, h4.row hk, h5.rowFar (by omega) _, h6.rowFar (by omega) _, h7.keep (fun g _ hg hb => hb.rowFar (by have := (h7.lt hg).1; omega) _), below_setRow h8 (by omega) _⟩
theorem CI.alloc (h : CI m str w gp s A cap W) (o : Obj) : CI m str w gp s A cap (W.alloc o) := h.on ((Below.refl _ W).alloc (Nat.le_refl _) o)
theorem CI.ne (h : CI m str w gp s A cap W) : blockOf A cap ≠ some W.heap.size := fun e => by have := (h.2.2.2.2.2.2.2.1.lt e).2; omega
theorem CI.rowFar (hgp : w.heap.size + 4 ≤ gp) (h : CI m str w gp s A cap W) {j : Nat} (hj : gp + 3 ≤ j) (hne : blockOf A cap ≠ some j) (ds : Array Value) : CI m str w gp s A cap (W.setRow j ds) := by
  obtain ⟨h0, h1, h2, h3, h4, h5, h6, h7, h8⟩ := h
  exact ⟨h0.rowFar (by omega) _, h1.rowFar (by omega) _, h2.rowFar (by omega) _, h3.rowFar (by omega) _, h4.rowFar (by omega) _, h5.rowFar (by omega) _, h6.rowFar (by omega) _, h7.keep (fun g _ hg hb => hb.rowFar (fun e => hne (by rw [hg, e])) _), below_setRow h8 (by omega) _⟩
theorem CI.cellFar (hgp : w.heap.size + 4 ≤ gp) (h : CI m str w gp s A cap W) {j i : Nat} (hj : gp + 3 ≤ j) (hne : blockOf A cap ≠ some j) (u : Value) : CI m str w gp s A cap (W.setCell ⟨j, i, none⟩ u) := by
  obtain ⟨h0, h1, h2, h3, h4, h5, h6, h7, h8⟩ := h
  exact ⟨h0.far (by simp only; omega) _, h1.far (by simp only; omega) _, h2.far (by simp only; omega) _, h3.far (by simp only; omega) _, h4.far (by simp only; omega) _, h5.far (by simp only; omega) _, h6.far (by simp only; omega) _, h7.farNe hne _, h8.setCell (by simp only; omega) _⟩
theorem CI.drew (h : CI m str w gp s A cap W) : CI m str w gp s A cap W.drew := h.on ((Below.refl _ W).drew)
theorem CI.appended (hgp : w.heap.size + 4 ≤ gp) (h : CI m str w gp s A cap W) (hgs : gp + 3 ≤ W.heap.size) {t : Tok} {A4 : Option Addr} {cap4 : Nat} {W4 : World} (a' : Nat)
    (hown4 : Own W4 (gp + 3) 29 3 A4 (s.l.length + 1) cap4 (tokC s.l ++ [.int .i64 t.sym, .string ⟨t.text.toArray⟩, .int .i64 t.at_])) (hg : W.grownBy W4 (blockOf A cap)) :
    CI m str w gp ⟨s.p, s.l ++ [t], a', s.used, s.err⟩ A4 cap4 ((W4.setCell ⟨w.heap.size + 1, 0, none⟩ (.slice A4 (s.l.length + 1) cap4)).setCell ⟨gp + 1, 0, none⟩ (.int .i64 a')) := by
  obtain ⟨h0, h1, h2, h3, h4, h5, h6, h7, h8⟩ := h
  have c0 := h0.grown hg (h7.ne (by omega))
  have c1 := h1.grown hg (h7.ne (by omega))
  have c2 := h2.grown hg (h7.ne (by omega))
  have c3 := h3.grown hg (h7.ne (by omega))
  have c4 : Pt W4 gp s.p := ⟨h4.1.grown hg (h7.ne (by omega)), h4.2⟩
  have c5 := h5.grown hg (h7.ne (by omega))
  have c6 := h6.grown hg (h7.ne (by omega))
  have c8 := grown_below h8 (h7.base (B' := w.heap.size) (by omega)) hg (by omega)
  refine ⟨(c0.far (by simp) _).far (by simp only; omega) _, ?_, (c2.far (by simp) _).far (by simp only; omega) _, (c3.far (by simp) _).far (by simp only; omega) _, (c4.far (by simp only; omega) _).far (by simp) _, (c5.far (by simp only; omega) _).set 0 _, (c6.far (by simp only; omega) _).far (by simp) _, ?_, (c8.setCell (by simp) _).setCell (by simp only; omega) _⟩
  · rw [List.length_append]
    exact (c1.set 0 _).far (by simp only; omega) _
  · rw [List.length_append, tokC_append]
    exact (hown4.far (by simp only; omega) _).far (by simp) _
theorem CI.setSame (hgp : w.heap.size + 4 ≤ gp) (h : CI m str w gp s A cap W) : CI m str w gp s A cap (W.setCell ⟨w.heap.size + 1, 0, none⟩ (.slice A s.l.length cap)) := by
  obtain ⟨h0, h1, h2, h3, h4, h5, h6, h7, h8⟩ := h
  exact ⟨h0.far (by simp) _, h1.set 0 _, h2.far (by simp) _, h3.far (by simp) _, h4.far (by simp only; omega) _, h5.far (by simp only; omega) _, h6.far (by simp only; omega) _, h7.far (by simp only; omega) _, h8.setCell (by simp) _⟩
end
theorem keeps_grown {W W' : World} {B : Nat} {e : TypeId} {size n cap : Nat} {A : Option Addr} {xs : List Value} (hown : Own W B e size A n cap xs) (hg : W.grownBy W' (blockOf A cap)) : KeepsOthers W W' :=
  KeepsOthers.of_grownBy hg (fun j o hj ho => by
    rcases hown.2.2.2 with h0 | ⟨g, cur, rfl, _, ⟨fr, h1, _⟩, _, _⟩
    · simp [blockOf, h0] at hj
    · unfold blockOf at hj
      split at hj
      · cases hj
      · simp at hj
        subst hj
        rw [h1] at ho
        cases ho
        rfl)
theorem results_tccc {P : Program} {fn : Func} {u p q r : Tmp} {tp tq tr : TypeId} (h : fn.results = #[.tmp u, .cell p tp, .cell q tq, .cell r tr]) (tmps : Array Value) (w : World) (g : Nat) (t : TypeId) (v : Value) (d : TypeDesc) (g2 : Nat) (t2 : TypeId) (v2 : Value) (d2 : TypeDesc) (g3 : Nat) (t3 : TypeId) (v3 : Value) (d3 : TypeDesc)
    (hp : tmps.getD p undef = .pointer (some ⟨g, 0, none⟩)) (hg : Blk w g t #[v])
    (hu : P.underlying tp = some d) (hd : (match d with | .struct _ | .array _ _ => true | _ => false) = false)
    (hp2 : tmps.getD q undef = .pointer (some ⟨g2, 0, none⟩)) (hg2 : Blk w g2 t2 #[v2])
    (hu2 : P.underlying tq = some d2) (hd2 : (match d2 with | .struct _ | .array _ _ => true | _ => false) = false)
    (hp3 : tmps.getD r undef = .pointer (some ⟨g3, 0, none⟩)) (hg3 : Blk w g3 t3 #[v3])
    (hu3 : P.underlying tr = some d3) (hd3 : (match d3 with | .struct _ | .array _ _ => true | _ => false) = false) :
    (results fn tmps).run P w = .ok (.tuple #[tmps.getD u undef, v, v2, v3]) w := by
  have e1 := run_loadVar_one w g t tp v d hg hu hd
  have e2 := run_loadVar_one w g2 t2 tq v2 d2 hg2 hu2 hd2
  have e3 := run_loadVar_one w g3 t3 tr v3 d3 hg3 hu3 hd3
  have hp' : tmps[p]?.getD undef = .pointer (some ⟨g, 0, none⟩) := by simpa using hp
  have hq' : tmps[q]?.getD undef = .pointer (some ⟨g2, 0, none⟩) := by simpa using hp2
  have hr' : tmps[r]?.getD undef = .pointer (some ⟨g3, 0, none⟩) := by simpa using hp3
  simp [results, h, hp', hq', hr', asAddr, e1, e2, e3]
end Go.Proofs.Ytfcbbolokhcknaa
