/- Lexemes. No condition. -/
import Derived.Test.YtklfaccjbdkfhaaX11
import Derived.Test.YtklfaccjbdkfhaaRh
namespace Go.Proofs.Ytklfaccjbdkfhaa
open Go.RowKit Go.Shelf
attribute [local go_sem] Oper.semAt_some
theorem keeps_below {W W' : World} (h : Below W.heap.size W W') : KeepsOthers W W' := ⟨h.size, fun k _ hk _ => (h.block k (Array.getElem?_eq_some_iff.1 hk).1).trans hk⟩
theorem keeps_grown {W W' : World} {B : Nat} {e : TypeId} {size n cap : Nat} {A : Option Addr} {xs : List Value} (hown : Own W B e size A n cap xs) (hg : W.grownBy W' (blockOf A cap)) : KeepsOthers W W' :=
  KeepsOthers.of_grownBy hg (fun j o hj ho => by
    rcases hown.2.2.2 with h0 | ⟨g, cur, rfl, _, ⟨fr, hb, _⟩, _⟩
    · simp [blockOf, h0] at hj
    · unfold blockOf at hj
      split at hj
      · cases hj
      · simp at hj; subst hj; rw [hb] at ho; cases ho; rfl)
theorem KT.grown {T : TypeId} {W W' : World} {B : Nat} {e : TypeId} {size n cap : Nat} {A : Option Addr} {xs : List Value} (hown : Own W B e size A n cap xs) (hg : W.grownBy W' (blockOf A cap)) (hT : e ≠ T) : KT T W W' := fun g cs h =>
  h.grown hg (fun he => by
    rcases hown.2.2.2 with h0 | ⟨g', cur, rfl, _, hb, _⟩
    · simp [blockOf, h0] at he
    · unfold blockOf at he
      split at he
      · cases he
      · simp at he; subst he; exact hT (hb.ty h))
/-- What the function's own blocks hold while the lexemes l have come. -/
def LxI (w : World) (l : List Lx) (A : Option Addr) (cap : Nat) (W : World) : Prop :=
  Blk W w.heap.size 23 #[.slice none 0 0] ∧ Blk W (w.heap.size + 1) 26 #[.int .i64 0, .int .i64 0] ∧ Blk W (w.heap.size + 2) 23 #[.slice A l.length cap] ∧
  Own W (w.heap.size + 4) 31 3 A l.length cap (lxC l) ∧ Below w.heap.size w W ∧ w.heap.size + 4 ≤ W.heap.size
section
variable {w : World} {l : List Lx} {A : Option Addr} {cap : Nat} {W W' : World}
theorem LxI.on (h : LxI w l A cap W) (hb : Below W.heap.size W W') : LxI w l A cap W' := by
  obtain ⟨h0, h1, h2, h3, h4, h5⟩ := h
  exact ⟨h0.on hb, h1.on hb, h2.on hb, h3.below hb (Nat.le_refl _), h4.trans (hb.mono h4.size), Nat.le_trans h5 hb.size⟩
theorem LxI.put {k : Nat} {o : Obj} (h : LxI w l A cap W) (hk : W.heap[k]? = some o) (ho : o.isCells = false) (hw : w.heap.size + 4 ≤ k) (o' : Obj) : LxI w l A cap (W.putObj k o') := by
  obtain ⟨h0, h1, h2, h3, h4, h5⟩ := h
  have hs := fun {g : Nat} {t : TypeId} {cs : Array Value} (hb : Blk W g t cs) => (KT.put (T := t) hk ho o' g cs hb)
  exact ⟨hs h0, hs h1, hs h2, h3.keep fun g cur _ hb => hs hb, h4.grown (grownBy_putObj' W k o') h4.size (fun r e => by cases e; omega), by simp; exact h5⟩
end
def nxL (s : List UInt8) (pre : List Nx) : List Lx := pre.map (toLx s)
def lexI (s : List UInt8) (w : World) (pre : List Nx) (W : World) : Prop := (∀ x ∈ pre, isLex x = true) ∧ ∃ A cap, LxI w (nxL s pre) A cap W
def lexX (s : List UInt8) (w : World) (pre : List Nx) (W : World) : Prop :=
  ∃ (pre0 : List Nx) (e a : Nat), pre = pre0 ++ [.fault e a] ∧ (∀ x ∈ pre0, isLex x = true) ∧ Below w.heap.size w W ∧
    ((e = 5 ∧ ∃ A cap, Blk W w.heap.size 23 #[.slice A (nxL s pre0).length cap] ∧ Blk W (w.heap.size + 1) 26 #[.int .i64 0, .int .i64 0] ∧ Own W (w.heap.size + 4) 31 3 A (nxL s pre0).length cap (lxC (nxL s pre0))) ∨
     (e ≠ 5 ∧ Blk W w.heap.size 23 #[.slice none 0 0] ∧ Blk W (w.heap.size + 1) 26 #[.int .i64 e, .int .i64 a]))
theorem Blk.stx {W W' : World} {row : Option Nat} {B : Nat} {T t : TypeId} {g : Nat} {cs : Array Value} (h : Blk W g t cs) (hg : W.grownBy W' row) (hr : ∀ r, row = some r → B ≤ r ∧ ∃ o : Obj, W.heap[r]? = some o ∧ (o.isCells = false ∨ ∃ cs fr, o = .cells cs T fr)) (ht : t ≠ T) : Blk W' g t cs :=
  h.grown hg (fun e => by
    obtain ⟨_, o, ho, hc⟩ := hr g e.symm
    obtain ⟨fr, h1, _⟩ := h
    rw [h1] at ho
    cases ho
    rcases hc with hc | ⟨cs', fr', hc⟩
    · cases hc
    · injection hc with _ hc; exact ht hc)
theorem LxI.stx {w W W' : World} {l : List Lx} {A : Option Addr} {cap : Nat} {row : Option Nat} (h : LxI w l A cap W) (hg : W.grownBy W' row) (hr : ∀ r, row = some r → w.heap.size + 4 ≤ r ∧ ∃ o : Obj, W.heap[r]? = some o ∧ (o.isCells = false ∨ ∃ cs fr, o = .cells cs 59 fr)) : LxI w l A cap W' := by
  obtain ⟨h0, h1, h2, h3, h4, h5⟩ := h
  exact ⟨h0.stx hg hr (by decide), h1.stx hg hr (by decide), h2.stx hg hr (by decide), h3.keep fun g cur _ hb => hb.stx hg hr (by decide), h4.grown hg h4.size (fun r e => by have := (hr r e).1; omega), Nat.le_trans h5 hg.size⟩
theorem lexX_stx (s : List UInt8) (w : World) : StX (w.heap.size + 4) 59 (lexX s w) := by
  rintro pre W W' row ⟨pre0, e, a, h1, h2, h3, h4⟩ hg hr
  refine ⟨pre0, e, a, h1, h2, h3.grown hg h3.size (fun r e => by have := (hr r e).1; omega), ?_⟩
  rcases h4 with ⟨q, A, cap, q1, q2, q3⟩ | ⟨q, q1, q2⟩
  · exact .inl ⟨q, A, cap, q1.stx hg hr (by decide), q2.stx hg hr (by decide), q3.keep fun g cur _ hb => hb.stx hg hr (by decide)⟩
  · exact .inr ⟨q, q1.stx hg hr (by decide), q2.stx hg hr (by decide)⟩
theorem lexI_stx (s : List UInt8) (w : World) : StX (w.heap.size + 4) 59 (lexI s w) := by
  rintro pre W W' row ⟨h1, A, cap, h2⟩ hg hr
  exact ⟨h1, A, cap, h2.stx hg hr⟩
theorem results_1c {P : Program} {fn : Func} {p q : Tmp} {tp tq : TypeId} (h : fn.results = #[.cell p tp, .cell q tq]) (tmps : Array Value) (w : World) (g : Nat) (t : TypeId) (v : Value) (d : TypeDesc) (g2 : Nat) (t2 : TypeId) (ds : Array Value) (d2 : TypeDesc)
    (hp : tmps.getD p undef = .pointer (some ⟨g, 0, none⟩)) (hg : Blk w g t #[v])
    (hu : P.underlying tp = some d) (hd : (match d with | .struct _ | .array _ _ => true | _ => false) = false)
    (hp2 : tmps.getD q undef = .pointer (some ⟨g2, 0, none⟩)) (hg2 : Blk w g2 t2 ds)
    (hu2 : P.underlying tq = some d2) (hd2 : (match d2 with | .struct _ | .array _ _ => true | _ => false) = true) (hi2 : (P.info? tq).map (·.size) = some ds.size) :
    (results fn tmps).run P w = .ok (.tuple #[v, .agg ds]) w := by
  have e1 := run_loadVar_1 w g t tp v d hg hu hd
  obtain ⟨fr2, hg2, _⟩ := hg2
  have hp' : tmps[p]?.getD undef = .pointer (some ⟨g, 0, none⟩) := by simpa using hp
  have hq' : tmps[q]?.getD undef = .pointer (some ⟨g2, 0, none⟩) := by simpa using hp2
  simp [results, h, hp', hq', asAddr, e1, run_loadVar_row w g2 t2 tq ds fr2 d2 hg2 hu2 hd2 hi2]
/-- The frame of a round's body. -/
def actL (s : List UInt8) (h g5 g6 : Nat) (X F : Value) : Act :=
  { tmps := #[.string ⟨s.toArray⟩, undef, .pointer (some ⟨h, 0, none⟩), .pointer (some ⟨h + 1, 0, none⟩), .pointer (some ⟨h + 2, 0, none⟩), .pointer (some ⟨g5, 0, none⟩), .pointer (some ⟨g6, 0, none⟩), .string ⟨s.toArray⟩, .int .i64 s.length, .bool false, undef, .string ⟨s.toArray⟩, .func (Fn.func 37) #[] #[.pointer (some ⟨h + 3, 0, none⟩)], X, F, undef, undef, undef, undef, undef, undef, undef, undef, undef, undef, undef, undef, undef, undef, undef], defers := [] }
def lexJ (s : List UInt8) (w : World) (pre : List Nx) (x : Nx) (a1 : Act) (W : World) : Prop :=
  lexI s w pre W ∧ ∃ (g5 g6 : Nat) (k : Int) (tx : List UInt8) (p er fa : Int), nxX x s = .agg #[.int .i64 k, .string ⟨tx.toArray⟩, .int .i64 p] ∧ nxF x = .agg #[.int .i64 er, .int .i64 fa] ∧ w.heap.size + 4 ≤ g5 ∧ w.heap.size + 4 ≤ g6 ∧
    Blk W g5 31 #[.int .i64 k, .string ⟨tx.toArray⟩, .int .i64 p] ∧ Blk W g6 26 #[.int .i64 er, .int .i64 fa] ∧
    a1 = actL s w.heap.size g5 g6 (.agg #[.int .i64 k, .string ⟨tx.toArray⟩, .int .i64 p]) (.agg #[.int .i64 er, .int .i64 fa])
theorem nx_form (x : Nx) (s : List UInt8) : ∃ (k : Int) (tx : List UInt8) (p er fa : Int), nxX x s = .agg #[.int .i64 k, .string ⟨tx.toArray⟩, .int .i64 p] ∧ nxF x = .agg #[.int .i64 er, .int .i64 fa] := by
  cases x with
  | fault e a => exact ⟨0, [], 0, e, a, rfl, rfl⟩
  | lex k n f => exact ⟨k, (s.drop f).take n, f, 0, 0, rfl, rfl⟩
theorem nx_lex {x : Nx} {s : List UInt8} {k p fa : Int} {tx : List UInt8} (h : nxX x s = .agg #[.int .i64 k, .string ⟨tx.toArray⟩, .int .i64 p]) (h2 : nxF x = .agg #[.int .i64 0, .int .i64 fa]) : toLx s x = ⟨k, tx, p⟩ ∧ isLex x = true := by
  cases x with
  | fault e a =>
    simp [nxX, nxF] at h h2
    obtain ⟨rfl, rfl, rfl⟩ := h
    obtain ⟨rfl, _⟩ := h2
    exact ⟨rfl, rfl⟩
  | lex kd n f =>
    simp [nxX] at h
    obtain ⟨rfl, rfl, rfl⟩ := h
    exact ⟨rfl, rfl⟩
theorem nx_fault {x : Nx} {er fa : Int} (h2 : nxF x = .agg #[.int .i64 er, .int .i64 fa]) (h : er ≠ 0) : ∃ e a : Nat, x = .fault e a ∧ er = e ∧ fa = a := by
  cases x with
  | fault e a =>
    simp [nxF] at h2
    exact ⟨e, a, rfl, h2.1.symm, h2.2.symm⟩
  | lex kd n f =>
    simp [nxF] at h2
    exact absurd h2.1.symm h
theorem lexJ_put (s : List UInt8) (w : World) (pre : List Nx) (x : Nx) (a1 : Act) (W : World) (l : Nat) (o o' : Obj) (h : lexJ s w pre x a1 W) (hl : w.heap.size + 4 ≤ l) (ho : W.heap[l]? = some o) (hc : o.isCells = false) : lexJ s w pre x a1 (W.putObj l o') := by
  obtain ⟨⟨h1, A, cap, h2⟩, g5, g6, k, tx, p, er, fa, e1, e2, e3, e4, b5, b6, e5⟩ := h
  exact ⟨⟨h1, A, cap, h2.put ho hc hl o'⟩, g5, g6, k, tx, p, er, fa, e1, e2, e3, e4, KT.put ho hc o' _ _ b5, KT.put ho hc o' _ _ b6, e5⟩
set_option maxRecDepth 100000 in
set_option maxHeartbeats 6400000 in
theorem Lexemes_any (s : List UInt8) (w : World) (hl : s.length ≤ 2000) :
    Calls Try.prog 10 #[.string ⟨s.toArray⟩] w fun e w' => (∃ A cap, e = .returned (.tuple #[.slice A (lexS s).1.length cap, .agg #[.int .i64 (lexS s).2.1, .int .i64 (lexS s).2.2]]) ∧ Sl w' w'.heap.size 3 A (lexS s).1.length cap (lxC (lexS s).1)) ∧ Below w.heap.size w w' := by
  have hlz : (s.length : Int) ≤ 2000 := by omega
  have HI := Lib.hid (fun W => each_any s W)
  have HS := Lib.hid (fun Bs W => each_seq Bs s (by omega) W)
  refine calls_of_wpM Try.func10 rfl ?_
  simp only [Try.ntmps10, List.size_toArray, List.length_cons, List.length_nil, Nat.reduceAdd, Nat.reduceSub, Array.replicate_succ, Array.replicate_zero, List.push_toArray, List.append_toArray, List.nil_append, List.cons_append]
  have b0 := (((Blk.new w 23 #[.slice none 0 0]).alloc (.cells #[.int .i64 0, .int .i64 0] 26)).alloc (.cells #[.slice none 0 0] 23)).alloc (.cells #[.string ⟨s.toArray⟩] 9)
  have b1 := ((Blk.newAt (w.alloc (.cells #[.slice none 0 0] 23)) 26 #[.int .i64 0, .int .i64 0] (g := w.heap.size + 1) (by simp)).alloc (.cells #[.slice none 0 0] 23)).alloc (.cells #[.string ⟨s.toArray⟩] 9)
  have b2 := (Blk.newAt ((w.alloc (.cells #[.slice none 0 0] 23)).alloc (.cells #[.int .i64 0, .int .i64 0] 26)) 23 #[.slice none 0 0] (g := w.heap.size + 2) (by simp)).alloc (.cells #[.string ⟨s.toArray⟩] 9)
  have b3 := Blk.newAt (((w.alloc (.cells #[.slice none 0 0] 23)).alloc (.cells #[.int .i64 0, .int .i64 0] 26)).alloc (.cells #[.slice none 0 0] 23)) 9 #[.string ⟨s.toArray⟩] (g := w.heap.size + 3) (by simp)
  have hB0 := ((((Below.refl w.heap.size w).alloc (Nat.le_refl _) (.cells #[.slice none 0 0] 23)).alloc (by simp) (.cells #[.int .i64 0, .int .i64 0] 26)).alloc (by simp; omega) (.cells #[.slice none 0 0] 23)).alloc (by simp; omega) (.cells #[.string ⟨s.toArray⟩] 9)
  have hs0 : ((((w.alloc (.cells #[.slice none 0 0] 23)).alloc (.cells #[.int .i64 0, .int .i64 0] 26)).alloc (.cells #[.slice none 0 0] 23)).alloc (.cells #[.string ⟨s.toArray⟩] 9)).heap.size = w.heap.size + 4 := by simp
  have HH := Lib.hid (And.intro b0 (And.intro b1 (And.intro b2 (And.intro b3 (And.intro hB0 hs0)))))
  clear b0 b1 b2 b3 hB0 hs0
  have hdl : decide ((2000 : Int) < s.length) = false := decide_eq_false (by omega)
  go_wp2_with (go_at_call 32; refine (HI.out _).mono ?_; rintro e w3 ⟨rfl, rfl⟩)
  obtain ⟨b0, b1, b2, b3, hB0, hs0⟩ := HH.out
  clear HH
  simp only [Nat.add_assoc, Nat.reduceAdd] at *
  generalize ((((w.alloc (.cells #[.slice none 0 0] 23)).alloc (.cells #[.int .i64 0, .int .i64 0] 26)).alloc (.cells #[.slice none 0 0] 23)).alloc (.cells #[.string ⟨s.toArray⟩] 9)) = W0 at *
  try rw [hdl]
  have hI0 : lexI s w [] W0 := ⟨by simp, none, 0, b0, b1, b2, Own.nil _ _ _ _, hB0, by omega⟩
  have hI1 := lexI_stx s w
  have hX1 := lexX_stx s w
  rw [← hs0] at hI1 hX1
  refine wp_range_x (gf := 37) (lb := #[.pointer (some ⟨w.heap.size + 3, 0, none⟩)]) rfl (enters_of Try.func37 (by kernel_rfl) rfl) (fun _ => rfl) (HS.out (w.heap.size + 3) W0 (b3.cell 0)) (Below.refl _ _)
    (fun h k => ⟨h.1.trans k.1, h.2.trans k.2⟩) (fun h ho o' => ⟨KT.put h ho o', KT.put h ho o'⟩) (lexI s w) (lexX s w) hI1 hX1 hI0 (lexJ s w) (fun pre x a1 W l o o' h hl ho hc => lexJ_put s w pre x a1 W l o o' h (by omega) ho hc) ?assign ?body ?done ?stop
  case assign =>
    intro l pre x W hI _ _
    obtain ⟨k, tx, p, er, fa, e1, e2⟩ := nx_form x s
    unfold nxEnc
    rw [e1, e2]
    gi_wp2
    have hsz := hI.2.elim fun A h => h.elim fun cap h => h.2.2.2.2.2
    have hbW := ((Below.refl W.heap.size W).alloc (Nat.le_refl _) (.cells #[.int .i64 k, .string ⟨tx.toArray⟩, .int .i64 p] 31)).alloc (by simp) (.cells #[.int .i64 er, .int .i64 fa] 26)
    exact ⟨keeps_below hbW, ⟨(KT.refl _ _).below hbW, (KT.refl _ _).below hbW⟩, ⟨hI.1, hI.2.elim fun A h => h.elim fun cap h => ⟨A, cap, h.on hbW⟩⟩, W.heap.size, W.heap.size + 1, k, tx, p, er, fa, e1, e2, hsz, by omega,
      (Blk.new W _ _).alloc _, Blk.newAt _ _ _ (by simp), rfl⟩
  case body =>
    rintro l pre x a1 W ⟨⟨hlx, A, cap, hI⟩, g5, g6, k, tx, p, er, fa, e1, e2, e3, e4, b5, b6, rfl⟩ hlen
    unfold actL
    obtain ⟨d0, d1, d2, hown, hB, hsz⟩ := hI
    obtain ⟨x0, x1, x2, y0, y1, y2⟩ := cells3 b5
    obtain ⟨p0, p1, r0, r1⟩ := cells2 b6
    have z0 := d2.cell 0
    have z1 := d2.frozen (i := 0) (by simp)
    clear b0 b1 b2 b3 hB0 hI0 hI1 hX1 HI HS hs0
    obtain ⟨i0, hi0, hz0, hz1, hz2⟩ := info_parts infoL
    by_cases her : er = 0
    · subst her
      obtain ⟨hto, his⟩ := nx_lex e1 e2
      have hlx2 : ∀ y ∈ pre ++ [x], isLex y = true := fun y hy => (List.mem_append.1 hy).elim (hlx y) (fun h => by rw [List.mem_singleton] at h; subst h; exact his)
      have hlen2 : nxL s (pre ++ [x]) = nxL s pre ++ [⟨k, tx, p⟩] := by unfold nxL; rw [List.map_append, ← hto]; rfl
      have hll : (nxL s pre).length = pre.length := by unfold nxL; rw [List.length_map]
      have HL2 := Lib.hid hlen2
      have HX2 := Lib.hid hlx2
      have hm1 : (nxL s pre).length + 1 ≤ maxLen := by simp only [maxLen]; omega
      have hm2 : ((nxL s pre).length + 1) * 32 ≤ 140737488355328 := by omega
      generalize nxL s pre = L at *
      clear hlen2 hlx2 hll hto his e1 e2 hlx
      have hsz4 : w.heap.size + 4 ≤ W.heap.size := hsz
      have HD := Lib.hid (And.intro d0 (And.intro d1 (And.intro d2 hB)))
      clear d0 d1 d2 hB b5 b6
      gi_wp2_with (gi_at_builtin; refine wpListIn_append_new rfl _ _ _ rfl (w.heap.size + 4) 31 i0 _ 3 32 Try.underlying23 hi0 hz0 hz1 hz2 rfl (by decide) rfl hown #[.int .i64 k, .string ⟨tx.toArray⟩, .int .i64 p] rfl rfl (by simp [Value.oneCell']) hm1 hm2 hsz4 ?_; intro A5 cap5 W5 hown5 hg5 hat5; have f2 := (HD.out.2.2.1.grown hg5 (hown.ne (by omega))); have f20 := f2.cell 0; have f21 := f2.frozen (i := 0) (by simp))
      obtain ⟨d0, d1, d2, hB⟩ := HD.out
      refine ⟨(keeps_grown hown hg5).trans (KeepsOthers.setCell _ _ _), ⟨(KT.grown hown hg5 (by decide)).set f2 (by decide) 0 _, (KT.grown hown hg5 (by decide)).set f2 (by decide) 0 _⟩, HX2.out, A5, cap5, ?_⟩
      rw [HL2.out]
      have f0 := (d0.grown hg5 (hown.ne (by omega))).far (p := ⟨w.heap.size + 2, 0, none⟩) (by simp) (.slice A5 (L.length + 1) cap5)
      have f1 := (d1.grown hg5 (hown.ne (by omega))).far (p := ⟨w.heap.size + 2, 0, none⟩) (by simp) (.slice A5 (L.length + 1) cap5)
      refine ⟨f0, f1, by rw [List.length_append]; exact f2.set 0 _, ?_, (grown_below hB (hown.base (by omega)) hg5 hB.size).setCell (by simp) _, by simp; have := hg5.size; omega⟩
      rw [List.length_append, lxC_append]
      exact hown5.far (p := ⟨w.heap.size + 2, 0, none⟩) (by simp) _
    · obtain ⟨e, a, rfl, rfl, rfl⟩ := nx_fault e2 her
      have hez : ((e : Int) == 0) = false := by rw [beq_eq_false_iff_ne]; exact her
      have v0 := d0.cell 0
      have v1 := d0.frozen (i := 0) (by simp)
      obtain ⟨t0, t1, u0, u1⟩ := cells2 d1
      by_cases he5 : e = 5
      · subst he5
        have HD := Lib.hid (And.intro d0 (And.intro d1 (And.intro hown hB)))
        clear d0 d1 d2 hB b5 b6 hown e1 e2 her hez
        gi_wp2
        obtain ⟨d0, d1, hown, hB⟩ := HD.out
        have f0 := ((d0.set 0 (.slice A (nxL s pre).length cap)).far (p := ⟨w.heap.size + 1, 0, none⟩) (by simp) (.int .i64 0)).far (p := ⟨w.heap.size + 1, 1, none⟩) (by simp) (.int .i64 0)
        have f1 := ((d1.far (p := ⟨w.heap.size, 0, none⟩) (by simp) (.slice A (nxL s pre).length cap)).set 0 (.int .i64 0)).set 1 (.int .i64 0)
        have fo := ((hown.far (p := ⟨w.heap.size, 0, none⟩) (by simp) (.slice A (nxL s pre).length cap)).far (p := ⟨w.heap.size + 1, 0, none⟩) (by simp) (.int .i64 0)).far (p := ⟨w.heap.size + 1, 1, none⟩) (by simp) (.int .i64 0)
        have fB := ((hB.setCell (p := ⟨w.heap.size, 0, none⟩) (Nat.le_refl _) (.slice A (nxL s pre).length cap)).setCell (p := ⟨w.heap.size + 1, 0, none⟩) (by simp) (.int .i64 0)).setCell (p := ⟨w.heap.size + 1, 1, none⟩) (by simp) (.int .i64 0)
        exact ⟨((KeepsOthers.setCell _ _ _).trans (KeepsOthers.setCell _ _ _)).trans (KeepsOthers.setCell _ _ _), pre, 5, a, rfl, hlx, fB, .inl ⟨rfl, A, cap, f0, f1, fo⟩⟩
      · have he5' : ((e : Int) == 5) = false := by rw [beq_eq_false_iff_ne]; omega
        have HD := Lib.hid (And.intro d0 (And.intro d1 (And.intro hown hB)))
        clear d0 d1 d2 hB b5 b6 hown e1 e2 her he5
        gi_wp2
        obtain ⟨d0', d1', hown, hB⟩ := HD.out
        have f0 := (((d0'.set 0 (.slice none 0 0)).far (p := ⟨w.heap.size + 1, 0, none⟩) (by simp) (.int .i64 e)).far (p := ⟨w.heap.size + 1, 1, none⟩) (by simp) (.int .i64 a)).drew
        have f1 := (((d1'.far (p := ⟨w.heap.size, 0, none⟩) (by simp) (.slice none 0 0)).set 0 (.int .i64 e)).set 1 (.int .i64 a)).drew
        have fB := (((hB.setCell (p := ⟨w.heap.size, 0, none⟩) (Nat.le_refl _) (.slice none 0 0)).setCell (p := ⟨w.heap.size + 1, 0, none⟩) (by simp) (.int .i64 e)).setCell (p := ⟨w.heap.size + 1, 1, none⟩) (by simp) (.int .i64 a)).drew
        have FF := Lib.hid (And.intro f0 (And.intro f1 fB))
        have hee : e ≠ 5 := fun h => by subst h; simp at he5'
        have HE5 := Lib.hid hee
        clear f0 f1 fB d0' d1' hown hB HD hee
        gi_region
        all_goals gi_wp2
        all_goals exact ⟨(((KeepsOthers.setCell _ _ _).trans (KeepsOthers.setCell _ _ _)).trans (KeepsOthers.setCell _ _ _)).trans (KeepsOthers.drew _), pre, e, a, rfl, hlx, FF.out.2.2, .inr ⟨HE5.out, FF.out.1, FF.out.2.1⟩⟩
  case done =>
    rintro D xs W hD rfl hI hK
    exact absurd hI.1 (seqR_fault s (s.length + 2) 0 (Nat.zero_le _) (by omega))
  case stop =>
    rintro D pre W hD ⟨rest, hrest⟩ ⟨pre0, e, a, rfl, hlx, hB, hcs⟩ hK
    have hWs := hB0.size
    clear b0 b1 b2 b3 hB0 hI0 hI1 hX1 HI HS hs0
    have hls := lexS_of s (s.length + 2) pre0 rest e a hlx (by rw [← hrest, List.append_assoc]; rfl)
    have hmk : Marks W w.heap.size [D] := (Marks.nil W _).cons (by omega) hK (by simp)
    gi_wp2
    rcases hcs with ⟨rfl, A, cap, q0, q1, q2⟩ | ⟨he, q0, q1⟩
    · have hlS : lexS s = (nxL s pre0, 0, 0) := by
        rcases hls with ⟨_, h⟩ | ⟨h, _⟩
        · exact h
        · exact absurd h (by decide)
      rw [hlS]
      have hsl := q2.sl
      refine leaves_marks (B := w.heap.size) (v := .tuple #[.slice A (nxL s pre0).length cap, .agg #[.int .i64 0, .int .i64 0]]) [D] W hmk fun W' hs => ⟨results_1c (fn := Try.f10) rfl _ W' _ _ _ _ _ _ _ _ rfl (hs.blk q0) Try.underlying23 rfl rfl (hs.blk q1) Try.underlying26 rfl (by kernel_rfl), ⟨⟨A, cap, rfl, by rw [hs.size]; exact hs.sl hsl⟩, hs.below hB⟩⟩
    · have hlS : lexS s = ([], e, a) := by
        rcases hls with ⟨h, _⟩ | ⟨rfl, _, h⟩
        · exact absurd h he
        · exact h
      rw [hlS]
      refine leaves_marks (B := w.heap.size) (v := .tuple #[.slice none 0 0, .agg #[.int .i64 e, .int .i64 a]]) [D] W hmk fun W' hs => ⟨results_1c (fn := Try.f10) rfl _ W' _ _ _ _ _ _ _ _ rfl (hs.blk q0) Try.underlying23 rfl rfl (hs.blk q1) Try.underlying26 rfl (by kernel_rfl), ⟨⟨none, 0, rfl, Sl.nil _ _ _⟩, hs.below hB⟩⟩
theorem Lexemes_at (s : List UInt8) (l : List Lx) (e a : Nat) (w : World) (hl : s.length ≤ 2000) (h : lexS s = (l, e, a)) :
    Calls Try.prog 10 #[.string ⟨s.toArray⟩] w fun er w' => (∃ A cap, er = .returned (.tuple #[.slice A l.length cap, .agg #[.int .i64 e, .int .i64 a]]) ∧ Sl w' w'.heap.size 3 A l.length cap (lxC l)) ∧ Below w.heap.size w w' := by
  have H := Lexemes_any s w hl
  rw [h] at H
  exact H
end Go.Proofs.Ytklfaccjbdkfhaa
