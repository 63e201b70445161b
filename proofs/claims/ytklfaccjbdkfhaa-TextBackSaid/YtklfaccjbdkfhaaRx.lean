/- A range over a function that writes cells of its own between its rounds (a block of a type T that nothing else in the caller has): the caller's statement, out of the iterator's contract and the body's walk. No condition. -/
import Derived.Test.YtklfaccjbdkfhaaBy
import Derived.RangeFuncFrom
namespace Go.Proofs.Ytklfaccjbdkfhaa
open Go.RowKit Go.Shelf
variable {P : Program}
/-- Blocks of type T are as they were. -/
def KT (T : TypeId) (W W' : World) : Prop := ∀ g cs, Blk W g T cs → Blk W' g T cs
theorem KT.refl (T : TypeId) (W : World) : KT T W W := fun _ _ h => h
theorem KT.trans {T : TypeId} {a b c : World} (h : KT T a b) (k : KT T b c) : KT T a c := fun g cs x => k g cs (h g cs x)
theorem KT.alloc {T : TypeId} {a b : World} (h : KT T a b) (o : Obj) : KT T a (b.alloc o) := fun g cs x => (h g cs x).alloc o
theorem KT.drew {T : TypeId} {a b : World} (h : KT T a b) : KT T a b.drew := h
theorem KT.below {T : TypeId} {a b c : World} (h : KT T a b) (hb : Below b.heap.size b c) : KT T a c := fun g cs x => Blk.on (h g cs x) hb
theorem Blk.ty {w : World} {g : Nat} {t u : TypeId} {cs ds : Array Value} (h : Blk w g t cs) (k : Blk w g u ds) : t = u := by
  obtain ⟨fr, h1, _⟩ := h
  obtain ⟨fr2, h2, _⟩ := k
  rw [h1] at h2
  injection h2 with h2
  injection h2
theorem KT.set {T U : TypeId} {a b : World} {r : Nat} {ds : Array Value} (h : KT T a b) (hb : Blk b r U ds) (hU : U ≠ T) (i : Nat) (v : Value) : KT T a (b.setCell ⟨r, i, none⟩ v) :=
  fun g cs x => (h g cs x).far (p := ⟨r, i, none⟩) (fun e => by subst e; exact hU (hb.ty (h _ cs x))) v
theorem KT.put {T : TypeId} {W : World} {l : Nat} {o : Obj} (h : W.heap[l]? = some o) (ho : o.isCells = false) (o' : Obj) : KT T W (W.putObj l o') := fun g cs x => by
  obtain ⟨fr, h1, h2⟩ := x
  refine ⟨fr, ?_, h2⟩
  rw [World.putObj_heap_other (fun e => by subst e; rw [h] at h1; cases h1; cases ho)]
  exact h1
/-- J stays where blocks from B on turn that are no cells, or cells of type T. -/
def StX (B : Nat) (T : TypeId) {β : Type} (J : β → World → Prop) : Prop :=
  ∀ s W W' row, J s W → W.grownBy W' row → (∀ r, row = some r → B ≤ r ∧ ∃ o : Obj, W.heap[r]? = some o ∧ (o.isCells = false ∨ ∃ cs fr, o = .cells cs T fr)) → J s W'
theorem StX.put {B : Nat} {T : TypeId} {β : Type} {J : β → World → Prop} (h : StX B T J) {s : β} {W : World} (hs : J s W) {l : Nat} {o : Obj} (hl : W.heap[l]? = some o) (hB : B ≤ l) (ho : o.isCells = false) (o' : Obj) : J s (W.putObj l o') :=
  h s W _ (some l) hs (grownBy_putObj' W l o') (fun r e => by cases e; exact ⟨hB, o, hl, .inl ho⟩)
theorem StX.alloc {B : Nat} {T : TypeId} {β : Type} {J : β → World → Prop} (h : StX B T J) {s : β} {W : World} (hs : J s W) (o : Obj) : J s (W.alloc o) :=
  h s W _ none hs (World.grownBy_alloc W o none) (fun r e => by cases e)
theorem StX.below {B : Nat} {T : TypeId} {β : Type} {J : β → World → Prop} (h : StX B T J) {s : β} {W W' : World} (hs : J s W) (hb : Below W.heap.size W W') : J s W' :=
  h s W _ none hs ⟨hb.os, hb.tape, hb.output, hb.size, fun k hk _ => hb.block k hk⟩ (fun r e => by cases e)
theorem StX.own {B : Nat} {T : TypeId} {β : Type} {J : β → World → Prop} (h : StX B T J) {s : β} {W W' : World} (hs : J s W) {g : Nat} {cs : Array Value} (hg : W.grownBy W' (some g)) (hB : B ≤ g) (hb : Blk W g T cs) : J s W' :=
  h s W _ (some g) hs hg (fun r e => by cases e; obtain ⟨fr, h1, _⟩ := hb; exact ⟨hB, _, h1, .inr ⟨_, _, rfl⟩⟩)
/-- The contract of an iterator whose own blocks are of type T: all that S says, or, where the body has left, a beginning that Sp says. -/
def SeqX {α : Type} (P : Program) (gf : Nat) (lb : Array Value) (encs : α → Array Value) (T : TypeId) (Kp : World → World → Prop) (S Sp : List α → Prop) (N : Nat) (w : World) : Prop :=
  ∀ (l : Nat) (J Jx : List α → World → Prop) (W : World), Below w.heap.size w W → StX W.heap.size T J → StX W.heap.size T Jx →
    (∀ pre x W1, J pre W1 → pre.length < N → YieldAt Fence.wide 0 P l (encs x) W1 fun e W' =>
      (e = .returned (.bool true) ∧ J (pre ++ [x]) W' ∧ Kp W1 W') ∨ (e = .returned (.bool false) ∧ Jx (pre ++ [x]) W')) →
    J [] W →
    CallsIn Fence.wide 0 P gf (#[.func (.yield l) #[] #[]] ++ lb) W fun e W' => (∃ v, e = .returned v) ∧ ((∃ xs, S xs ∧ J xs W') ∨ (∃ pre, Sp pre ∧ Jx pre W'))
/-- How a round's body may end. -/
def bodyX {α : Type} (Kp : World → World → Prop) (I Ix : List α → World → Prop) (xs : List α) (W : World) : Exit → Act → World → Prop
  | .normal, _, W' => KeepsOthers W W' ∧ Kp W W' ∧ I xs W'
  | .ret, _, W' => KeepsOthers W W' ∧ Ix xs W'
  | _, _, _ => False
theorem wp_range_x {α : Type} {g : Operand} {ps : Array Tmp} {assign body : Code} {Q : Exit → Act → World → Prop} {a : Act} {w : World} {gf : FuncId} {lb : Array Value} (hg : a.eval g = .func (.func gf) #[] lb) (eg : Enters P gf)
    {encs : α → Array Value} {T : TypeId} {Kp : World → World → Prop} {S Sp : List α → Prop} {N : Nat} {w0 : World} (hps : ∀ x, (encs x).size = ps.size) (hseq : SeqX P gf lb encs T Kp S Sp N w0) (hb0 : Below w0.heap.size w0 w)
    (hKt : ∀ {a b c : World}, Kp a b → Kp b c → Kp a c) (hKp : ∀ {W : World} {l : Nat} {o : Obj}, W.heap[l]? = some o → o.isCells = false → ∀ o', Kp W (W.putObj l o'))
    (I Ix : List α → World → Prop) (hI : StX w.heap.size T I) (hIx : StX w.heap.size T Ix) (h0 : I [] w)
    (I1 : List α → α → Act → World → Prop) (hI1 : ∀ pre x a1 W l o o', I1 pre x a1 W → w.heap.size ≤ l → W.heap[l]? = some o → o.isCells = false → I1 pre x a1 (W.putObj l o'))
    (hassign : ∀ (l : Nat) (pre : List α) (x : α) (W : World), I pre W → w.heap.size ≤ l → l < W.heap.size → assign.wpIn (Fence.wide.inRound l) 0 P (Exit.then (fun a1 W1 => KeepsOthers W W1 ∧ Kp W W1 ∧ I1 pre x a1 W1) (fun _ _ _ => False)) { tmps := (ps.zip (encs x)).foldl (fun t (p, v) => t.setIfInBounds p v) a.tmps, defers := [] } W)
    (hbody : ∀ (l : Nat) (pre : List α) (x : α) (a1 : Act) (W : World), I1 pre x a1 W → pre.length < N → body.wpIn (Fence.wide.inRound l) 0 P (bodyX Kp I Ix (pre ++ [x]) W) a1 W)
    (hdone : ∀ (D : Nat) (xs : List α) (W : World), w.heap.size ≤ D → S xs → I xs W → W.heap[D]? = some (.deferred (some [])) → Q .normal { a with defers := mrk D :: a.defers } W)
    (hstop : ∀ (D : Nat) (pre : List α) (W : World), w.heap.size ≤ D → Sp pre → Ix pre W → W.heap[D]? = some (.deferred (some [])) → Code.ret.wpIn Fence.wide 0 P Q { a with defers := mrk D :: a.defers } W) :
    (Code.rangeFunc g ps assign body).wp P Q a w := by
  refine wp_range hg eg fun fn => ?_
  have hL1 := heap_alloc2_new w (.deferred (some [])) (.loop (recOf fn a ps assign body w.heap.size .ready none))
  have hD1 := heap_alloc2_old w (.deferred (some [])) (.loop (recOf fn a ps assign body w.heap.size .ready none))
  have hI1' := hI.alloc (hI.alloc h0 (.deferred (some []))) (.loop (recOf fn a ps assign body w.heap.size .ready none))
  have hB1 : Below w0.heap.size w0 ((w.alloc (.deferred (some []))).alloc (.loop (recOf fn a ps assign body w.heap.size .ready none))) := (hb0.alloc hb0.size _).alloc (by simp; have := hb0.size; omega) _
  have hs1 : w.heap.size + 1 < ((w.alloc (.deferred (some []))).alloc (.loop (recOf fn a ps assign body w.heap.size .ready none))).heap.size := by simp
  obtain ⟨rec, hrec⟩ : ∃ rec : LoopState → Option Code → Loop, recOf fn a ps assign body w.heap.size = rec := ⟨_, rfl⟩
  rw [hrec] at hL1 hD1 hI1' hB1 hs1 ⊢
  generalize (w.alloc (.deferred (some []))).alloc (.loop (rec .ready none)) = W1 at *
  have hfar : ∀ {W W' : World} {row : Option Nat} {k : Nat} {o : Obj}, W.grownBy W' row → (∀ r, row = some r → W1.heap.size ≤ r ∧ ∃ o : Obj, W.heap[r]? = some o ∧ (o.isCells = false ∨ ∃ cs fr, o = .cells cs T fr)) → k < W1.heap.size → W.heap[k]? = some o → W'.heap[k]? = some o := fun hg hr hk ho =>
    (hg.block _ (Array.getElem?_eq_some_iff.1 ho).1 (fun e => by have := (hr _ e.symm).1; omega)).trans ho
  have hup : ∀ {W : World} {row : Option Nat}, (∀ r, row = some r → W1.heap.size ≤ r ∧ ∃ o : Obj, W.heap[r]? = some o ∧ (o.isCells = false ∨ ∃ cs fr, o = .cells cs T fr)) → (∀ r, row = some r → w.heap.size ≤ r ∧ ∃ o : Obj, W.heap[r]? = some o ∧ (o.isCells = false ∨ ∃ cs fr, o = .cells cs T fr)) := fun hr r e =>
    ⟨by have := (hr r e).1; omega, (hr r e).2⟩
  refine (hseq (w.heap.size + 1)
    (fun pre W => I pre W ∧ W.heap[w.heap.size + 1]? = some (.loop (rec .ready none)) ∧ W.heap[w.heap.size]? = some (.deferred (some [])))
    (fun pre W => Ix pre W ∧ W.heap[w.heap.size + 1]? = some (.loop (rec .done (some .ret))) ∧ W.heap[w.heap.size]? = some (.deferred (some []))) W1 hB1
    (fun s A B row hs hg' hr => ⟨hI s A B row hs.1 hg' (hup hr), hfar hg' hr hs1 hs.2.1, hfar hg' hr (by omega) hs.2.2⟩)
    (fun s A B row hs hg' hr => ⟨hIx s A B row hs.1 hg' (hup hr), hfar hg' hr hs1 hs.2.1, hfar hg' hr (by omega) hs.2.2⟩)
    ?_ ⟨hI1', hL1, hD1⟩).mono ?_
  · rintro pre x W ⟨hi, hl, hk⟩ hlen
    have hy := run_yield (P := P) (args := encs x) hl (by rw [← hrec]; exact hps x)
    rw [← hrec] at hy
    refine ⟨_, _, _, _, hy, roundIn_of_wpIn trivial (wpIn_mono (hassign _ pre x W hi (by omega) (Array.getElem?_eq_some_iff.1 hl).1) ?_)⟩
    rintro e a1 V he
    cases e with
    | normal =>
      obtain ⟨hko, hkt, h1⟩ := he
      have hl1 := hko.same _ _ hl rfl
      have hk1 := hko.same _ _ hk rfl
      have hne : w.heap.size ≠ w.heap.size + 1 := by omega
      refine ⟨_, run_beginRound hl1 (by rw [← hrec]; rfl), ?_⟩
      have hl2 : (V.putObj (w.heap.size + 1) (.loop { rec .ready none with state := .busy })).heap[w.heap.size + 1]? = some (.loop { rec .ready none with state := .busy }) := World.putObj_heap_same (Array.getElem?_eq_some_iff.1 hl1).1
      have hk2 : (V.putObj (w.heap.size + 1) (.loop { rec .ready none with state := .busy })).heap[w.heap.size]? = some (.deferred (some [])) := (World.putObj_heap_other hne).trans hk1
      have hkt2 : Kp W (V.putObj (w.heap.size + 1) (.loop { rec .ready none with state := .busy })) := hKt hkt (hKp hl1 rfl _)
      refine wpIn_mono (hbody _ pre x a1 _ (hI1 _ _ _ _ _ _ (.loop { rec .ready none with state := .busy }) h1 (by omega) hl1 rfl) hlen) ?_
      generalize V.putObj (w.heap.size + 1) (.loop { rec .ready none with state := .busy }) = U at *
      rintro e a3 W3 hp
      cases e with
      | normal =>
        obtain ⟨k1, k2, k3⟩ := hp
        have hl3 := k1.same _ _ hl2 rfl
        have hr := run_endRound (P := P) none hl3
        have e0 : ({ ({ rec .ready none with state := .busy } : Loop) with state := if (none : Option Code).isNone then .ready else .done, pending := none } : Loop) = rec .ready none := by rw [← hrec]; rfl
        rw [e0] at hr
        exact ⟨_, _, hr, .inl ⟨rfl, ⟨hI.put k3 hl3 (by omega) rfl _, World.putObj_heap_same (Array.getElem?_eq_some_iff.1 hl3).1, (World.putObj_heap_other hne).trans (k1.same _ _ hk2 rfl)⟩, hKt (hKt hkt2 k2) (hKp hl3 rfl _)⟩⟩
      | ret =>
        obtain ⟨k1, k3⟩ := hp
        have hl3 := k1.same _ _ hl2 rfl
        have hr := run_endRound (P := P) (some .ret) hl3
        have e0 : ({ ({ rec .ready none with state := .busy } : Loop) with state := if (some Code.ret : Option Code).isNone then .ready else .done, pending := some .ret } : Loop) = rec .done (some .ret) := by rw [← hrec]; rfl
        rw [e0] at hr
        exact ⟨_, _, hr, .inr ⟨rfl, hIx.put k3 hl3 (by omega) rfl _, World.putObj_heap_same (Array.getElem?_eq_some_iff.1 hl3).1, (World.putObj_heap_other hne).trans (k1.same _ _ hk2 rfl)⟩⟩
      | exit id => exact hp.elim
      | goto t => exact hp.elim
      | panic c => exact hp.elim
      | outgrown => exact hp.elim
    | ret => exact he.elim
    | exit id => exact he.elim
    | goto t => exact he.elim
    | panic c => exact he.elim
    | outgrown => exact he.elim
  · rintro e W2 ⟨⟨v, rfl⟩, (⟨xs, hS, hi, hl, hk⟩ | ⟨pre, hSp, hi, hl, hk⟩)⟩
    · have hend := run_endLoop (P := P) hl (by rw [← hrec]; simp [recOf])
      have hp : (rec .ready none).pending = none := by rw [← hrec]; rfl
      rw [hp] at hend
      exact ⟨none, _, hend, hdone _ xs _ (Nat.le_refl _) hS (hI.put hi hl (by omega) rfl _) ((World.putObj_heap_other (by omega)).trans hk)⟩
    · have hend := run_endLoop (P := P) hl (by rw [← hrec]; simp [recOf])
      have hp : (rec .done (some .ret)).pending = some .ret := by rw [← hrec]; rfl
      rw [hp] at hend
      exact ⟨some .ret, _, hend, hstop _ pre _ (Nat.le_refl _) hSp (hIx.put hi hl (by omega) rfl _) ((World.putObj_heap_other (by omega)).trans hk)⟩
end Go.Proofs.Ytklfaccjbdkfhaa
