/- Laws of a range over a function for a caller that is walked plainly: the statement itself, one round, the marks that it leaves behind, the way out of the function. No condition. -/
import Derived.Test.YtbobpgjgknkogaaKit
import Derived.RangeFuncNested
import Derived.RangeFuncLeaves
import Derived.Shelf.Abstract
import Derived.OwnWalkIn
import Derived.TacticsInMore
import Derived.LoopNIn
import Derived.LoopIn
namespace Go.Proofs.Ytbobpgjgknkogaa
open Go.RowKit Go.Shelf

/-- The mark that a range over a function leaves among its function's deferred calls. -/
def mrk (r : Nat) : Deferred := { target := .collected r, args := #[] }
/-- The world W' is W, but for blocks of deferred calls (from B on) that may have been taken. -/
structure Shut (B : Nat) (W W' : World) : Prop where
  os : W'.os = W.os
  tape : W'.tape = W.tape
  output : W'.output = W.output
  size : W'.heap.size = W.heap.size
  block : ∀ k, W'.heap[k]? = W.heap[k]? ∨ (B ≤ k ∧ ∃ x, W.heap[k]? = some (.deferred x))
theorem Shut.refl (B : Nat) (W : World) : Shut B W W := ⟨rfl, rfl, rfl, rfl, fun _ => .inl rfl⟩
theorem Shut.same {B : Nat} {W W' : World} (h : Shut B W W') {k : Nat} {c : Array Value} {e : TypeId} {fr : Nat × Nat} (hk : W.heap[k]? = some (.cells c e fr)) : W'.heap[k]? = some (.cells c e fr) := by
  rcases h.block k with h1 | ⟨_, x, hx⟩
  · rw [h1, hk]
  · rw [hk] at hx; cases hx
theorem Shut.blk {B : Nat} {W W' : World} (h : Shut B W W') {g : Nat} {t : TypeId} {cs : Array Value} (hb : Blk W g t cs) : Blk W' g t cs := let ⟨fr, h1, h2⟩ := hb; ⟨fr, h.same h1, h2⟩
theorem Shut.cell {B : Nat} {W W' : World} (h : Shut B W W') {p : Addr} {v : Value} (hc : W.cell? p = some v) : W'.cell? p = some v := by
  unfold World.cell? at *
  rcases h.block p.block with h1 | ⟨_, x, hx⟩
  · rw [h1]; exact hc
  · rw [hx] at hc; cases hc
theorem Shut.below {B : Nat} {a W W' : World} (h : Shut B W W') (hb : Below B a W) : Below B a W' :=
  hb.trans ⟨h.os, h.tape, h.output, by rw [h.size]; exact Nat.le_refl _, fun k hk => by
    rcases h.block k with h1 | ⟨h2, _⟩
    · exact h1
    · omega⟩
theorem Shut.sl {B : Nat} {W W' : World} (h : Shut B W W') {D size n cap : Nat} {A : Option Addr} {xs : List Value} (hs : Sl W D size A n cap xs) : Sl W' D size A n cap xs :=
  ⟨hs.1, hs.2.1, hs.2.2.1, fun hn => by
    obtain ⟨b, o, e, hb, hc⟩ := hs.2.2.2 hn
    exact ⟨b, o, e, hb, fun j u hu => h.cell (hc j u hu)⟩⟩
/-- The marks rs: each one's block holds no call. -/
def Marks (W : World) (B : Nat) (rs : List Nat) : Prop := rs.Nodup ∧ ∀ r ∈ rs, B ≤ r ∧ W.heap[r]? = some (.deferred (some []))
theorem Marks.nil (W : World) (B : Nat) : Marks W B [] := ⟨List.nodup_nil, fun _ h => by cases h⟩
theorem Marks.keep {W W' : World} {B : Nat} {rs : List Nat} (h : Marks W B rs) (hk : ∀ r, r ∈ rs → W'.heap[r]? = W.heap[r]?) : Marks W' B rs :=
  ⟨h.1, fun r hr => ⟨(h.2 r hr).1, (hk r hr).trans (h.2 r hr).2⟩⟩
theorem Marks.lt {W : World} {B : Nat} {rs : List Nat} (h : Marks W B rs) {r : Nat} (hr : r ∈ rs) : r < W.heap.size := (Array.getElem?_eq_some_iff.1 (h.2 r hr).2).1
theorem Marks.cons {W : World} {B : Nat} {rs : List Nat} (h : Marks W B rs) {r : Nat} (hB : B ≤ r) (hr : W.heap[r]? = some (.deferred (some []))) (hn : r ∉ rs) : Marks W B (r :: rs) :=
  ⟨List.nodup_cons.2 ⟨hn, h.1⟩, fun x hx => by
    rcases List.mem_cons.1 hx with rfl | hx
    · exact ⟨hB, hr⟩
    · exact h.2 x hx⟩

section
variable {P : Program}
/-- The way out of a function that has left marks: the blocks are taken, the results are read. -/
theorem leaves_marks {fn : Func} {tmps : Array Value} {R : Ending → World → Prop} {B : Nat} {v : Value} : ∀ (rs : List Nat) (W : World), Marks W B rs →
    (∀ W', Shut B W W' → (results fn tmps).run P W' = .ok v W' ∧ R (.returned v) W') → LeavesInM Fence.wide 0 P fn tmps R (rs.map mrk) .returning W
  | [], W, _, h => by
    have := h W (Shut.refl _ _)
    exact ⟨v, this.1, this.2⟩
  | r :: rs, W, hm, h => by
    have hr := hm.2 r (by simp)
    show LeavesInM Fence.wide 0 P fn tmps R (mrk r :: rs.map mrk) .returning W
    refine ⟨by simp, .inl ⟨r, _, rfl, run_takeDeferred hr.2, leaves_marks (B := B) (v := v) rs _ ?_ ?_⟩⟩
    · refine ⟨(List.nodup_cons.1 hm.1).2, fun x hx => ⟨(hm.2 x (by simp [hx])).1, ?_⟩⟩
      have hne : x ≠ r := fun e => (List.nodup_cons.1 hm.1).1 (by rw [← e]; exact hx)
      rw [World.putObj_heap_other hne]
      exact (hm.2 x (by simp [hx])).2
    · intro W' hs
      refine h W' ⟨hs.os, hs.tape, hs.output, by rw [hs.size]; simp, fun k => ?_⟩
      by_cases e : k = r
      · subst e; exact .inr ⟨hr.1, _, hr.2⟩
      · rcases hs.block k with h1 | ⟨hB, x, hx⟩
        · rw [World.putObj_heap_other e] at h1; exact .inl h1
        · rw [World.putObj_heap_other e] at hx; exact .inr ⟨hB, x, hx⟩
/-- A function whose body holds ranges over functions, walked plainly. -/
theorem calls_of_wpM {f : FuncId} {fn : Func} {c : Code} {args : Array Value} {w : World} {R : Ending → World → Prop} (hf : P.funcs[f]? = some fn) (hb : fn.body = some c)
    (h : c.wp P (bodyPostM Fence.wide 0 P fn R) { tmps := args ++ Array.replicate (fn.ntmps - args.size) undef, defers := [] } w) : Calls P f args w R :=
  callsIn_wide.1 (callsIn_of_wp_marks hf hb trivial (wpIn_wide.2 h) rfl)
/-- The loop's record. -/
def recOf (fn : FuncId) (a : Act) (ps : Array Tmp) (assign body : Code) (D : Nat) (st : LoopState) (pd : Option Code) : Loop :=
  { state := st, pending := pd, fn, tmps := a.tmps, params := ps, assign, body, defers := D }
/-- The statement 'for .. := range g', g a closure: its one call, with yield. -/
theorem wp_range {g : Operand} {ps : Array Tmp} {assign body : Code} {Q : Exit → Act → World → Prop} {a : Act} {w : World} {gf : FuncId} {lb : Array Value} (hg : a.eval g = .func (.func gf) #[] lb) (eg : Enters P gf)
    (h : ∀ fn, CallsIn Fence.wide 0 P gf (#[.func (.yield (w.heap.size + 1)) #[] #[]] ++ lb)
      ((w.alloc (.deferred (some []))).alloc (.loop (recOf fn a ps assign body w.heap.size .ready none)))
      (rangePost Fence.wide 0 P (w.heap.size + 1) Q { a with defers := mrk w.heap.size :: a.defers })) :
    (Code.rangeFunc g ps assign body).wp P Q a w := by
  refine (wpIn_wide (n := 0)).1 (wpIn_rangeFunc fun fn _ => ?_)
  obtain ⟨W1, hW1⟩ : ∃ W1, W1 = (w.alloc (.deferred (some []))).alloc (.loop (recOf fn a ps assign body w.heap.size .ready none)) := ⟨_, rfl⟩
  have hc := h fn
  rw [← hW1] at hc
  have hc' : CallsIn Fence.wide (0 - 1) P gf (#[.func (.yield (w.heap.size + 1)) #[] #[]] ++ lb) W1 (rangePost Fence.wide 0 P (w.heap.size + 1) Q { a with defers := [mrk w.heap.size] ++ a.defers }) := hc
  clear hc
  refine ⟨w.heap.size + 1, [mrk w.heap.size], W1, { target := .fn (.func gf) lb, args := #[.func (.yield (w.heap.size + 1)) #[] #[]] }, W1, gf, #[.func (.yield (w.heap.size + 1)) #[] #[]] ++ lb, W1, ?h1, ?h2, ?h3, ?h4, ?h5, ?h6⟩
  case h1 => rw [hW1]; exact run_enterLoop_outer _ _ _ _ _
  case h2 =>
    simp only [resolve, hg]
    simp [go_sem]
  case h3 => exact fun _ _ => trivial
  case h4 =>
    simp only [invoke, go_sem]
    exact eg _ _
  case h5 => exact fun h => by cases h
  case h6 => exact hc'
end
/-- 'append(out, x)' in a round. -/
theorem wpListIn_append_new {F : Fence} {m : Nat} {P : Program} {w0 : World} {ops : Array Oper} {rest : List Oper} {o : Oper} {a : Act} {Q : Exit → Act → World → Prop} (hgd : o.guard = none) (s x : Operand) (t : TypeId)
    (ho : o.op = .call { callee := .builtin .append, args := #[s, x], argTypes := #[t, t] })
    (B : Nat) (e : TypeId) (i : TypeInfo) (z : Value) (size bytes : Nat) (ht : P.underlying t = some (.slice e)) (hi : P.info? e = some i) (hz : i.zero = some z)
    (hsize : i.size = size) (hby : i.bytes = bytes) (hzs : z.cells.size = size) (hsz : 0 < size)
    {A : Option Addr} {n cap : Nat} {xs : List Value} (hs : a.eval s = .slice A n cap) (hown : Own w0 B e size A n cap xs)
    (news : Array Value) (hx : a.eval x = .slice (some ⟨w0.heap.size, 0, none⟩) 1 1) (hl : news.size = size) (h1 : ∀ u ∈ news.toList, u.oneCell' = true)
    (h63 : n + 1 ≤ maxLen) (hbytes : (n + 1) * bytes ≤ 140737488355328) (hbase : B ≤ w0.heap.size)
    (h : ∀ A2 cap2 w', Own w' B e size A2 (n + 1) cap2 (xs ++ news.toList) → w0.grownBy w' (blockOf A cap) → (blockOf A2 cap2 = blockOf A cap ∨ blockOf A2 cap2 = some (w0.heap.size + 1)) → wpListIn F m P ops Q rest (a.put o.dst (.slice A2 (n + 1) cap2)) w') :
    wpListIn F m P ops Q (o :: rest) a (w0.alloc (.cells news e)) := by
  have hsl : Sl (w0.alloc (.cells news e)) (w0.heap.size + 1) size (some ⟨w0.heap.size, 0, none⟩) 1 1 news.toList :=
    ⟨by simp [hl], Nat.le_refl _, by decide, fun _ => ⟨w0.heap.size, 0, rfl, by omega, fun j u hu => by
      rw [Nat.zero_add, (Blk.new w0 e news).cell j]; simpa using hu⟩⟩
  obtain ⟨A2, cap2, w', hrun, h2, h3, h4⟩ := run_append_o (P := P) _ B t o.type e i z size bytes ht hi hz hsize hby hzs hsz (hown.alloc (.cells news e)) hsl h1 h63 hbytes (by simp; omega)
  refine wpListIn_plain hgd fun K hK' => ?_
  have hk := hK' _ _ (h A2 cap2 w' h2 ⟨h3.os, h3.tape, h3.output, Nat.le_trans (by simp) h3.size, fun k hk hne => (h3.block k (by simp; omega) hne).trans (Below.heap_alloc w0 _ k hk)⟩ (by simpa using h4))
  unfold Oper.wpIn
  refine ⟨?_, ?_⟩
  · simp [Oper.about, ho, resolve, Target.leads, Sem.run_pure]
  · rw [Oper.semAt_plain F _ _ (by rw [ho]; intro c hc'; cases hc')]
    simp [execOp, ho, resolve, invoke, builtin, hs, hx, hrun, Result.andThen]
    exact hk
theorem Own.ne {w : World} {B : Nat} {e : TypeId} {size n cap : Nat} {A : Option Addr} {xs : List Value} (h : Own w B e size A n cap xs) {g : Nat} (hg : g < B) : some g ≠ blockOf A cap := by
  intro e; have := (h.lt e.symm).1; omega
theorem Own.neObj {w : World} {B : Nat} {e : TypeId} {size n cap : Nat} {A : Option Addr} {xs : List Value} (h : Own w B e size A n cap xs) {k : Nat} {o : Obj} (hk : w.heap[k]? = some o) (hne : ∀ c t fr, o ≠ .cells c t fr) : some k ≠ blockOf A cap := by
  intro hb
  rcases h.2.2.2 with h0 | ⟨g, cur, rfl, _, ⟨fr, hg, _⟩, _, _⟩
  · simp [blockOf, h0] at hb
  · unfold blockOf at hb
    split at hb
    · cases hb
    · simp at hb
      subst hb
      rw [hg] at hk; injection hk with hk; exact hne _ _ _ hk.symm
/-- What is no row of cells stays behind an append. -/
theorem Own.growObj {w w' : World} {B : Nat} {e : TypeId} {size n cap : Nat} {A : Option Addr} {xs : List Value} (h : Own w B e size A n cap xs) (hg : w.grownBy w' (blockOf A cap)) {k : Nat} {o : Obj} (hk : w.heap[k]? = some o) (hne : ∀ c t fr, o ≠ .cells c t fr) : w'.heap[k]? = some o :=
  (hg.block k (Array.getElem?_eq_some_iff.1 hk).1 (h.neObj hk hne)).trans hk
theorem Own.growMarks {w w' : World} {B B' : Nat} {e : TypeId} {size n cap : Nat} {A : Option Addr} {xs : List Value} (h : Own w B e size A n cap xs) (hg : w.grownBy w' (blockOf A cap)) {rs : List Nat} (hm : Marks w B' rs) : Marks w' B' rs :=
  ⟨hm.1, fun r hr => ⟨(hm.2 r hr).1, h.growObj hg (hm.2 r hr).2 (fun _ _ _ => by simp)⟩⟩
theorem setCell_obj {w : World} {k : Nat} {o : Obj} {p : Addr} {v : Value} (hk : w.heap[k]? = some o) (hp : k ≠ p.block) : (w.setCell p v).heap[k]? = some o := (Below.heap_setCell w p v k hp).trans hk
theorem setCell_marks {w : World} {B : Nat} {rs : List Nat} {p : Addr} {v : Value} (hm : Marks w B rs) {c : Array Value} {t : TypeId} (hb : Blk w p.block t c) : Marks (w.setCell p v) B rs :=
  ⟨hm.1, fun r hr => ⟨(hm.2 r hr).1, setCell_obj (hm.2 r hr).2 (fun e => by obtain ⟨fr, h1, _⟩ := hb; have h2 := (hm.2 r hr).2; rw [e, h1] at h2; cases h2)⟩⟩
/-! What the turn of a loop's record leaves alone. -/
section
variable {W : World} {l : Nat} {r : Loop}
theorem put_other (hl : W.heap[l]? = some (.loop r)) {k : Nat} {o o' : Obj} (hk : W.heap[k]? = some o) (hne : ∀ x, o ≠ .loop x) : (W.putObj l o').heap[k]? = some o := by
  have : k ≠ l := by rintro rfl; rw [hl] at hk; injection hk with hk; exact hne r hk.symm
  rw [World.putObj_heap_other this]; exact hk
theorem put_self (hl : W.heap[l]? = some (.loop r)) (o : Obj) : (W.putObj l o).heap[l]? = some o := World.putObj_heap_same (Array.getElem?_eq_some_iff.1 hl).1
theorem Blk.put {g : Nat} {t : TypeId} {cs : Array Value} (h : Blk W g t cs) (hl : W.heap[l]? = some (.loop r)) (o : Obj) : Blk (W.putObj l o) g t cs := let ⟨fr, h1, h2⟩ := h; ⟨fr, put_other hl h1 (fun _ => by simp), h2⟩
theorem Own.put {B size n cap : Nat} {e : TypeId} {A : Option Addr} {xs : List Value} (h : Own W B e size A n cap xs) (hl : W.heap[l]? = some (.loop r)) (o : Obj) : Own (W.putObj l o) B e size A n cap xs := h.keep fun _ _ _ hb => hb.put hl o
theorem Marks.put {B : Nat} {rs : List Nat} (h : Marks W B rs) (hl : W.heap[l]? = some (.loop r)) (o : Obj) : Marks (W.putObj l o) B rs := ⟨h.1, fun x hx => ⟨(h.2 x hx).1, put_other hl (h.2 x hx).2 (fun _ => by simp)⟩⟩
theorem below_put {B : Nat} {a : World} (h : Below B a W) (hB : B ≤ l) (hs : B ≤ W.heap.size) (o : Obj) : Below B a (W.putObj l o) := h.grown (grownBy_putObj' W l o) hs (fun k e => by cases e; exact hB)
theorem Sl.put {D size n cap : Nat} {A : Option Addr} {xs : List Value} (h : Sl W D size A n cap xs) (hl : W.heap[l]? = some (.loop r)) (o : Obj) : Sl (W.putObj l o) D size A n cap xs :=
  ⟨h.1, h.2.1, h.2.2.1, fun hn => by
    obtain ⟨b, of, e, hb, hc⟩ := h.2.2.2 hn
    refine ⟨b, of, e, hb, fun j u hu => ?_⟩
    have h0 := hc j u hu
    have hne : b ≠ l := by
      rintro rfl
      simp [World.cell?, hl] at h0
    rw [← h0]
    exact World.cell?_of_block (World.putObj_heap_other hne)⟩
end
end Go.Proofs.Ytbobpgjgknkogaa
