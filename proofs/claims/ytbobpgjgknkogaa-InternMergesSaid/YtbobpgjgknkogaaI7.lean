/- intern: interned. No condition. -/
import Derived.Test.YtbobpgjgknkogaaI6
import Derived.Defers
import Derived.Recover
namespace Go.Proofs.Ytbobpgjgknkogaa
open Go.RowKit Go.Maps
set_option maxRecDepth 100000 in
theorem clos_no (pe px pn : Nat) (u : FrameMode) (w : World) (be : Blk w pe 28 #[.int .i64 0]) :
    CallsD Try.prog 57 #[.pointer (some ⟨pe, 0, none⟩), .pointer (some ⟨px, 0, none⟩), .pointer (some ⟨pn, 0, none⟩)] u w fun e u' w' => u' = u ∧ (e = .returned (.tuple #[]) ∧ w' = w) := by
  obtain ⟨c0, _⟩ := cells1 be
  go_enter_d Try.func57, Try.ntmps57
  go_wp2
  go_end0
  exact ⟨rfl, rfl⟩
set_option maxRecDepth 100000 in
theorem clos_yes (pe px pn : Nat) (er : Int) (u : FrameMode) (w : World) (A : Option Addr) (n c : Nat) (m : Int) (he : er ≠ 0) (be : Blk w pe 28 #[.int .i64 er]) (bx : Blk w px 24 #[.slice A n c]) (bn : Blk w pn 3 #[.int .i64 m]) (h : px ≠ pn) :
    CallsD Try.prog 57 #[.pointer (some ⟨pe, 0, none⟩), .pointer (some ⟨px, 0, none⟩), .pointer (some ⟨pn, 0, none⟩)] u w fun e u' w' => u' = u ∧ (e = .returned (.tuple #[]) ∧ w' = (w.setCell ⟨px, 0, none⟩ (.slice none 0 0)).setCell ⟨pn, 0, none⟩ (.int .i64 0)) := by
  obtain ⟨c0, _⟩ := cells1 be
  obtain ⟨c1, f1⟩ := cells1 bx
  obtain ⟨c2, f2⟩ := cells1 (bn.far (p := ⟨px, 0, none⟩) (fun e => h e.symm) (.slice none 0 0))
  have hb : (er != 0) = true := bne_iff_ne.2 he
  go_enter_d Try.func57, Try.ntmps57
  go_wp2
  go_end0
  exact ⟨rfl, rfl⟩
theorem run_loadVar_one {P : Program} (w : World) (g : Nat) (t ty : TypeId) (v : Value) (d : TypeDesc) (hg : Blk w g t #[v]) (hu : P.underlying ty = some d) (hd : (match d with | .struct _ | .array _ _ => true | _ => false) = false) :
    (loadVar ty ⟨g, 0, none⟩).run P w = .ok v w := by
  have hc : w.cell? ⟨g, 0, none⟩ = some v := hg.cell 0
  have hu' := hu
  unfold Program.underlying at hu'
  cases d <;> simp_all [loadVar, isAgg, underlying, Program.underlying, Sem.run_bind, Result.andThen]
theorem results_c11 {P : Program} {fn : Func} {p q r : Tmp} {tp tq tr : TypeId} (h : fn.results = #[.cell r tr, .cell p tp, .cell q tq]) (tmps : Array Value) (w : World) (g3 : Nat) (t3 : TypeId) (cs : Array Value) (d3 : TypeDesc) (g : Nat) (t : TypeId) (v : Value) (d : TypeDesc) (g2 : Nat) (t2 : TypeId) (v2 : Value) (d2 : TypeDesc)
    (hp3 : tmps.getD r undef = .pointer (some ⟨g3, 0, none⟩)) (hg3 : Blk w g3 t3 cs)
    (hu3 : P.underlying tr = some d3) (hd3 : (match d3 with | .struct _ | .array _ _ => true | _ => false) = true) (hi3 : (P.info? tr).map (·.size) = some cs.size)
    (hp : tmps.getD p undef = .pointer (some ⟨g, 0, none⟩)) (hg : Blk w g t #[v])
    (hu : P.underlying tp = some d) (hd : (match d with | .struct _ | .array _ _ => true | _ => false) = false)
    (hp2 : tmps.getD q undef = .pointer (some ⟨g2, 0, none⟩)) (hg2 : Blk w g2 t2 #[v2])
    (hu2 : P.underlying tq = some d2) (hd2 : (match d2 with | .struct _ | .array _ _ => true | _ => false) = false) :
    (results fn tmps).run P w = .ok (.tuple #[.agg cs, v, v2]) w := by
  have e1 := run_loadVar_one w g t tp v d hg hu hd
  have e2 := run_loadVar_one w g2 t2 tq v2 d2 hg2 hu2 hd2
  obtain ⟨fr3, hg3, _⟩ := hg3
  have e3 := run_loadVar_row w g3 t3 tr cs fr3 d3 hg3 hu3 hd3 hi3
  have hp' : tmps[p]?.getD undef = .pointer (some ⟨g, 0, none⟩) := by simpa using hp
  have hq' : tmps[q]?.getD undef = .pointer (some ⟨g2, 0, none⟩) := by simpa using hp2
  have hr' : tmps[r]?.getD undef = .pointer (some ⟨g3, 0, none⟩) := by simpa using hp3
  simp [results, h, hp', hq', hr', asAddr, e1, e2, e3]
theorem keep3 {W : World} {g1 g2 g3 : Nat} {T1 T2 T3 : TypeId} {a b c : Value} (h1 : Blk W g1 T1 #[a]) (h2 : Blk W g2 T2 #[b]) (h3 : Blk W g3 T3 #[c]) :
    W.cell? ⟨g1, 0, none⟩ = some a ∧ W.cell? ⟨g2, 0, none⟩ = some b ∧ W.cell? ⟨g3, 0, none⟩ = some c ∧ W.frozen? ⟨g1, 0, none⟩ = false ∧ W.frozen? ⟨g2, 0, none⟩ = false ∧ W.frozen? ⟨g3, 0, none⟩ = false :=
  ⟨h1.cell 0, h2.cell 0, h3.cell 0, h1.frozen (by simp), h2.frozen (by simp), h3.frozen (by simp)⟩
/-- Three variables that are stored one after the other. -/
theorem set3 {W : World} {B g1 : Nat} {T1 T2 T3 : TypeId} {a b c a' b' c' : Value} {w : World} (h1 : Blk W g1 T1 #[a]) (h2 : Blk W (g1 + 1) T2 #[b]) (h3 : Blk W (g1 + 1 + 1) T3 #[c]) (hB : Below B w W) (hg : B ≤ g1) :
    ((Blk (W.setCell ⟨g1, 0, none⟩ a') g1 T1 #[a'] ∧ Blk (W.setCell ⟨g1, 0, none⟩ a') (g1 + 1) T2 #[b] ∧ Blk (W.setCell ⟨g1, 0, none⟩ a') (g1 + 1 + 1) T3 #[c]) ∧
    (Blk ((W.setCell ⟨g1, 0, none⟩ a').setCell ⟨g1 + 1, 0, none⟩ b') g1 T1 #[a'] ∧ Blk ((W.setCell ⟨g1, 0, none⟩ a').setCell ⟨g1 + 1, 0, none⟩ b') (g1 + 1) T2 #[b'] ∧ Blk ((W.setCell ⟨g1, 0, none⟩ a').setCell ⟨g1 + 1, 0, none⟩ b') (g1 + 1 + 1) T3 #[c])) ∧
    (Blk (((W.setCell ⟨g1, 0, none⟩ a').setCell ⟨g1 + 1, 0, none⟩ b').setCell ⟨g1 + 1 + 1, 0, none⟩ c') g1 T1 #[a'] ∧ Blk (((W.setCell ⟨g1, 0, none⟩ a').setCell ⟨g1 + 1, 0, none⟩ b').setCell ⟨g1 + 1 + 1, 0, none⟩ c') (g1 + 1) T2 #[b'] ∧ Blk (((W.setCell ⟨g1, 0, none⟩ a').setCell ⟨g1 + 1, 0, none⟩ b').setCell ⟨g1 + 1 + 1, 0, none⟩ c') (g1 + 1 + 1) T3 #[c']) ∧
    Below B w (((W.setCell ⟨g1, 0, none⟩ a').setCell ⟨g1 + 1, 0, none⟩ b').setCell ⟨g1 + 1 + 1, 0, none⟩ c') := by
  have n12 : g1 ≠ g1 + 1 := by omega
  have n13 : g1 ≠ g1 + 1 + 1 := by omega
  have n23 : g1 + 1 ≠ g1 + 1 + 1 := by omega
  have x1 : Blk (W.setCell ⟨g1, 0, none⟩ a') g1 T1 #[a'] := h1.set 0 a'
  have x2 := h2.far (p := ⟨g1, 0, none⟩) n12.symm a'
  have x3 := h3.far (p := ⟨g1, 0, none⟩) n13.symm a'
  have y1 := x1.far (p := ⟨g1 + 1, 0, none⟩) n12 b'
  have y2 : Blk ((W.setCell ⟨g1, 0, none⟩ a').setCell ⟨g1 + 1, 0, none⟩ b') (g1 + 1) T2 #[b'] := x2.set 0 b'
  have y3 := x3.far (p := ⟨g1 + 1, 0, none⟩) n23.symm b'
  have z1 := y1.far (p := ⟨g1 + 1 + 1, 0, none⟩) n13 c'
  have z2 := y2.far (p := ⟨g1 + 1 + 1, 0, none⟩) n23 c'
  have z3 : Blk (((W.setCell ⟨g1, 0, none⟩ a').setCell ⟨g1 + 1, 0, none⟩ b').setCell ⟨g1 + 1 + 1, 0, none⟩ c') (g1 + 1 + 1) T3 #[c'] := y3.set 0 c'
  exact ⟨⟨⟨x1, x2, x3⟩, y1, y2, y3⟩, ⟨z1, z2, z3⟩, ((hB.setCell (p := ⟨g1, 0, none⟩) hg a').setCell (p := ⟨g1 + 1, 0, none⟩) (by show B ≤ g1 + 1; omega) b').setCell (p := ⟨g1 + 1 + 1, 0, none⟩) (by show B ≤ g1 + 1 + 1; omega) c'⟩
/-- The door of interned: the deferred call, then the results. -/
theorem door_yes (tmps : Array Value) (R : Ending → World → Prop) (X : World) (g : Nat) (er m : Int) (A : Option Addr) (n c : Nat) (he : er ≠ 0) (b1 : Blk X g 24 #[.slice A n c]) (b2 : Blk X (g + 1) 3 #[.int .i64 m]) (b3 : Blk X (g + 1 + 1) 28 #[.int .i64 er])
    (t6 : tmps.getD 6 undef = .pointer (some ⟨g, 0, none⟩)) (t7 : tmps.getD 7 undef = .pointer (some ⟨g + 1, 0, none⟩)) (t8 : tmps.getD 8 undef = .pointer (some ⟨g + 1 + 1, 0, none⟩))
    (hR : R (.returned (.tuple #[.agg #[.slice none 0 0], .int .i64 0, .int .i64 er])) ((X.setCell ⟨g, 0, none⟩ (.slice none 0 0)).setCell ⟨g + 1, 0, none⟩ (.int .i64 0))) :
    Leaves Try.prog Try.f47 tmps R [{ target := Target.fn (.func 57) #[.pointer (some ⟨g + 1 + 1, 0, none⟩), .pointer (some ⟨g, 0, none⟩), .pointer (some ⟨g + 1, 0, none⟩)], args := #[] }] .returning X := by
  refine leaves_cons (f := 57) (args := #[.pointer (some ⟨g + 1 + 1, 0, none⟩), .pointer (some ⟨g, 0, none⟩), .pointer (some ⟨g + 1, 0, none⟩)]) (by simp) (by simp [go_sem]) ?_
  refine (clos_yes (g + 1 + 1) g (g + 1) er .returning X A n c m he b3 b1 b2 (by omega)).mono ?_
  rintro e u' w'' ⟨rfl, rfl, rfl⟩
  have x1 : Blk (X.setCell ⟨g, 0, none⟩ (.slice none 0 0)) g 24 #[.slice none 0 0] := b1.set 0 _
  have y1 := x1.far (p := ⟨g + 1, 0, none⟩) (show g ≠ g + 1 by omega) (.int .i64 0)
  have y2 : Blk ((X.setCell ⟨g, 0, none⟩ (.slice none 0 0)).setCell ⟨g + 1, 0, none⟩ (.int .i64 0)) (g + 1) 3 #[.int .i64 0] := (b2.far (p := ⟨g, 0, none⟩) (show g + 1 ≠ g by omega) (.slice none 0 0)).set 0 _
  have y3 := (b3.far (p := ⟨g, 0, none⟩) (show g + 1 + 1 ≠ g by omega) (.slice none 0 0)).far (p := ⟨g + 1, 0, none⟩) (show g + 1 + 1 ≠ g + 1 by omega) (.int .i64 0)
  exact ⟨_, results_c11 rfl _ _ _ _ _ _ _ _ _ _ _ _ _ _ t6 y1 Try.underlying24 rfl (by kernel_rfl) t7 y2 Try.underlying3 rfl t8 y3 Try.underlying28 rfl, hR⟩
theorem door_no (tmps : Array Value) (R : Ending → World → Prop) (X : World) (g : Nat) (m : Int) (A : Option Addr) (n c : Nat) (b1 : Blk X g 24 #[.slice A n c]) (b2 : Blk X (g + 1) 3 #[.int .i64 m]) (b3 : Blk X (g + 1 + 1) 28 #[.int .i64 0])
    (t6 : tmps.getD 6 undef = .pointer (some ⟨g, 0, none⟩)) (t7 : tmps.getD 7 undef = .pointer (some ⟨g + 1, 0, none⟩)) (t8 : tmps.getD 8 undef = .pointer (some ⟨g + 1 + 1, 0, none⟩))
    (hR : R (.returned (.tuple #[.agg #[.slice A n c], .int .i64 m, .int .i64 0])) X) :
    Leaves Try.prog Try.f47 tmps R [{ target := Target.fn (.func 57) #[.pointer (some ⟨g + 1 + 1, 0, none⟩), .pointer (some ⟨g, 0, none⟩), .pointer (some ⟨g + 1, 0, none⟩)], args := #[] }] .returning X := by
  refine leaves_cons (f := 57) (args := #[.pointer (some ⟨g + 1 + 1, 0, none⟩), .pointer (some ⟨g, 0, none⟩), .pointer (some ⟨g + 1, 0, none⟩)]) (by simp) (by simp [go_sem]) ?_
  refine (clos_no (g + 1 + 1) g (g + 1) .returning X b3).mono ?_
  rintro e u' w'' ⟨rfl, rfl, rfl⟩
  exact ⟨_, results_c11 rfl _ _ _ _ _ _ _ _ _ _ _ _ _ _ t6 b1 Try.underlying24 rfl (by kernel_rfl) t7 b2 Try.underlying3 rfl t8 b3 Try.underlying28 rfl, hR⟩
def internR (l : List (List UInt8)) (s : List UInt8) (fresh : Bool) : List (List UInt8) × Nat × Int :=
  if (chkT l).1 ≠ 0 then ([], 0, (chkT l).1) else if nameE s ≠ 0 then ([], 0, nameE s) else if s ∈ l then (if fresh = true then ([], 0, 8) else (l, (idxF l s).getD 0, 0)) else if 32 ≤ l.length then ([], 0, 6) else (l ++ [s], l.length, 0)
def tabPost (R : List (List UInt8) × Nat × Int) (e : Ending) (w' : World) : Prop :=
  ∃ A2 c2, e = .returned (.tuple #[.agg #[.slice A2 R.1.length c2], .int .i64 (R.2.1 : Int), .int .i64 R.2.2]) ∧ Sl w' w'.heap.size 1 A2 R.1.length c2 (R.1.map strV)
/-- The four variables that interned begins with. -/
theorem four (w : World) (v : Value) : ∃ W0, W0 = ((((w.alloc (.cells #[v] 24)).alloc (.cells #[.slice none 0 0] 24)).alloc (.cells #[.int .i64 0] 3)).alloc (.cells #[.int .i64 0] 28)) ∧ W0.heap.size = w.heap.size + 4 ∧
    Blk W0 w.heap.size 24 #[v] ∧ Blk W0 (w.heap.size + 1) 24 #[.slice none 0 0] ∧ Blk W0 (w.heap.size + 1 + 1) 3 #[.int .i64 0] ∧ Blk W0 (w.heap.size + 1 + 1 + 1) 28 #[.int .i64 0] ∧ Below w.heap.size w W0 := by
  refine ⟨_, rfl, by simp, (((Blk.new w _ _).alloc _).alloc _).alloc _, ((Blk.newAt _ _ _ (by simp)).alloc _).alloc _, (Blk.newAt _ _ _ (by simp)).alloc _, Blk.newAt _ _ _ (by simp), ?_⟩
  exact ((((Below.refl w.heap.size w).alloc (Nat.le_refl _) _).alloc (by simp) _).alloc (by simp; omega) _).alloc (by simp; omega) _
/-- The state of interned at work: its three results (from block G on) and the table at work. -/
def ST (w0 : World) (B G g bm : Nat) (l : List (List UInt8)) (er : Int) (A : Option Addr) (c : Nat) (a b e : Value) (W : World) : Prop :=
  Blk W G 24 #[a] ∧ Blk W (G + 1) 3 #[b] ∧ Blk W (G + 1 + 1) 28 #[e] ∧ WK W B g bm l er A c ∧ Below w0.heap.size w0 W ∧ w0.heap.size ≤ G ∧ G + 3 ≤ B ∧ B ≤ W.heap.size
section
variable {w0 W W' : World} {B G g bm c : Nat} {l : List (List UInt8)} {er : Int} {A : Option Addr} {a b e : Value}
theorem WK.far (h : WK W B g bm l er A c) {p : Addr} (hp : p.block < B) (u : Value) : WK (W.setCell p u) B g bm l er A c :=
  ⟨h.1.far (by have := h.2.2.2.2.1; omega) u, h.2.1.setCell (by have := h.2.2.2.1; omega) u, h.2.2.1.far hp u, h.2.2.2⟩
theorem ST.on (h : ST w0 B G g bm l er A c a b e W) (hb : Below W.heap.size W W') : ST w0 B G g bm l er A c a b e W' :=
  ⟨h.1.on hb, h.2.1.on hb, h.2.2.1.on hb, h.2.2.2.1.below hb, below_on h.2.2.2.2.1 hb (Nat.le_refl _), h.2.2.2.2.2.1, h.2.2.2.2.2.2.1, Nat.le_trans h.2.2.2.2.2.2.2 hb.size⟩
theorem ST.drew (h : ST w0 B G g bm l er A c a b e W) : ST w0 B G g bm l er A c a b e W.drew := h.on ((Below.refl _ _).drew)
theorem ST.set_x (h : ST w0 B G g bm l er A c a b e W) (u : Value) : ST w0 B G g bm l er A c u b e (W.setCell ⟨G, 0, none⟩ u) := by
  obtain ⟨h1, h2, h3, h4, h5, h6, h7, h8⟩ := h
  exact ⟨h1.set 0 u, h2.far (show G + 1 ≠ G by omega) u, h3.far (show G + 1 + 1 ≠ G by omega) u, h4.far (show G < B by omega) u, h5.setCell (show w0.heap.size ≤ G by omega) u, h6, h7, by rw [World.size_setCell]; exact h8⟩
theorem ST.set_n (h : ST w0 B G g bm l er A c a b e W) (u : Value) : ST w0 B G g bm l er A c a u e (W.setCell ⟨G + 1, 0, none⟩ u) := by
  obtain ⟨h1, h2, h3, h4, h5, h6, h7, h8⟩ := h
  exact ⟨h1.far (show G ≠ G + 1 by omega) u, h2.set 0 u, h3.far (show G + 1 + 1 ≠ G + 1 by omega) u, h4.far (show G + 1 < B by omega) u, h5.setCell (show w0.heap.size ≤ G + 1 by omega) u, h6, h7, by rw [World.size_setCell]; exact h8⟩
theorem ST.set_e (h : ST w0 B G g bm l er A c a b e W) (u : Value) : ST w0 B G g bm l er A c a b u (W.setCell ⟨G + 1 + 1, 0, none⟩ u) := by
  obtain ⟨h1, h2, h3, h4, h5, h6, h7, h8⟩ := h
  exact ⟨h1.far (show G ≠ G + 1 + 1 by omega) u, h2.far (show G + 1 ≠ G + 1 + 1 by omega) u, h3.set 0 u, h4.far (show G + 1 + 1 < B by omega) u, h5.setCell (show w0.heap.size ≤ G + 1 + 1 by omega) u, h6, h7, by rw [World.size_setCell]; exact h8⟩
theorem ST.call (h : ST w0 B G g bm l er A c a b e W) (hb : Below B W W') {l' : List (List UInt8)} {er' : Int} {A' : Option Addr} {c' : Nat} (hK : WK W' B g bm l' er' A' c') : ST w0 B G g bm l' er' A' c' a b e W' :=
  ⟨h.1.below hb (by have := h.2.2.2.2.2.2.1; omega), h.2.1.below hb (by have := h.2.2.2.2.2.2.1; omega), h.2.2.1.below hb (by have := h.2.2.2.2.2.2.1; omega), hK, h.2.2.2.2.1.trans (hb.mono (by have := h.2.2.2.2.2.1; have := h.2.2.2.2.2.2.1; omega)), h.2.2.2.2.2.1, h.2.2.2.2.2.2.1, Nat.le_trans h.2.2.2.2.2.2.2 hb.size⟩
theorem ST.facts (h : ST w0 B G g bm l er A c a b e W) : W.cell? ⟨G, 0, none⟩ = some a ∧ W.cell? ⟨G + 1, 0, none⟩ = some b ∧ W.cell? ⟨G + 1 + 1, 0, none⟩ = some e ∧ W.cell? ⟨g, 0, none⟩ = some (.slice A l.length c) ∧ W.cell? ⟨g, 1, none⟩ = some (.map (some bm)) ∧ W.cell? ⟨g, 2, none⟩ = some (.int .i64 er) ∧
    W.frozen? ⟨G, 0, none⟩ = false ∧ W.frozen? ⟨G + 1, 0, none⟩ = false ∧ W.frozen? ⟨G + 1 + 1, 0, none⟩ = false :=
  ⟨h.1.cell 0, h.2.1.cell 0, h.2.2.1.cell 0, h.2.2.2.1.1.cell 0, h.2.2.2.1.1.cell 1, h.2.2.2.1.1.cell 2, h.1.frozen (by simp), h.2.1.frozen (by simp), h.2.2.1.frozen (by simp)⟩
end
set_option maxRecDepth 100000 in
set_option maxHeartbeats 6400000 in
theorem interned_any (A : Option Addr) (cap D : Nat) (l : List (List UInt8)) (s : List UInt8) (fresh : Bool) (w : World) (hS : Sl w D 1 A l.length cap (l.map strV)) (hD : D ≤ w.heap.size) (hn : l.length ≤ 1000) (hl : ∀ s ∈ l, s.length ≤ maxLen) (hs : s.length ≤ maxLen) :
    Calls Try.prog 47 #[.agg #[.slice A l.length cap], .string ⟨s.toArray⟩, .bool fresh] w fun e w' => tabPost (internR l s fresh) e w' ∧ Below w.heap.size w w' := by
  have hmf : ∀ (fn : Fn) (first cap : Array Value) (w : World), (Instr.makeFunc fn first cap).run Try.prog w = .ok (.func fn first cap) w := fun _ _ _ _ => rfl
  obtain ⟨W0, hW0, hz0, k0, k1, k2, k3, hB0⟩ := four w (.slice A l.length cap)
  have HB := Lib.hid (begun_any A cap D l W0 (hS.below hB0 hD) (Nat.le_trans hD hB0.size) hn hl)
  have HN := Lib.hid (fun W => nCheck_any s W hs)
  have hR : internR l s fresh = if (chkT l).1 ≠ 0 then ([], 0, (chkT l).1) else if nameE s ≠ 0 then ([], 0, nameE s) else if s ∈ l then (if fresh = true then ([], 0, 8) else (l, (idxF l s).getD 0, 0)) else if 32 ≤ l.length then ([], 0, 6) else (l ++ [s], l.length, 0) := rfl
  generalize internR l s fresh = R at *
  generalize hc0 : (chkT l).1 = c0 at *
  have HK := Lib.hid (And.intro k0 (And.intro k1 (And.intro k2 (And.intro k3 (And.intro hB0 hz0)))))
  have HW0 := Lib.hid hW0
  have p0 := (cells1 k0).1
  clear hS hl k0 k1 k2 k3 hB0 hz0 hW0
  by_cases hc : c0 ≠ 0
  · rw [if_pos hc] at hR
    subst hR
    have hcb : (c0 != 0) = true := bne_iff_ne.2 hc
    have hcb2 : (c0 == 0) = false := by simpa using hc
    go_enter_defers Try.func47, Try.ntmps47
    go_wp2_with fail
    rw [← HW0.out]
    go_wp2_with fail
    refine HB.out.mono ?_
    rintro e w1 ⟨⟨_, rfl⟩ | ⟨hg, _⟩, hb1⟩
    · have b1 := Blk.on HK.out.2.1 hb1
      have b2 := Blk.on HK.out.2.2.1 hb1
      have b3 := Blk.on HK.out.2.2.2.1 hb1
      have hB1 := below_on HK.out.2.2.2.2.1 hb1 (Nat.le_refl _)
      obtain ⟨q3, f3⟩ := cells1 b3
      have b1' := b1.far (p := ⟨w.heap.size + 1 + 1 + 1, 0, none⟩) (by show w.heap.size + 1 ≠ w.heap.size + 1 + 1 + 1; omega) (.int .i64 c0)
      have b2' := b2.far (p := ⟨w.heap.size + 1 + 1 + 1, 0, none⟩) (by show w.heap.size + 1 + 1 ≠ w.heap.size + 1 + 1 + 1; omega) (.int .i64 c0)
      have b3' := b3.set 0 (.int .i64 c0)
      have hB2 := hB1.setCell (p := ⟨w.heap.size + 1 + 1 + 1, 0, none⟩) (by show w.heap.size ≤ w.heap.size + 1 + 1 + 1; omega) (.int .i64 c0)
      have HW := Lib.hid (And.intro b1' (And.intro b2' (And.intro b3' hB2)))
      clear b1 b2 b3 hB1 b1' b2' b3' hB2 hb1 HB HK HN HW0 p0
      go_wp2_with fail
      generalize hW2 : w1.setCell ⟨w.heap.size + 1 + 1 + 1, 0, none⟩ (.int .i64 c0) = W2 at *
      clear hW2 q3 f3
      obtain ⟨h1, h2, h3, hB⟩ := HW.out
      have h3' : Blk W2 (w.heap.size + 1 + 1 + 1) 28 #[.int .i64 c0] := h3
      obtain ⟨⟨⟨x1, x2, x3⟩, y1, y2, y3⟩, ⟨z1, z2, z3⟩, hZ⟩ := set3 (a' := .slice none 0 0) (b' := .int .i64 0) (c' := .int .i64 c0) h1 h2 h3' hB (by omega)
      have K0 := keep3 h1.drew h2.drew h3'.drew
      have K1 := keep3 x1.drew x2.drew x3.drew
      have K2 := keep3 y1.drew y2.drew y3.drew
      have K3 := keep3 z1.drew z2.drew z3.drew
      go_region_held3 (fun W => W.cell? ⟨w.heap.size + 1, 0, none⟩ = some (.slice none 0 0) ∧ W.cell? ⟨w.heap.size + 1 + 1, 0, none⟩ = some (.int .i64 0) ∧ W.cell? ⟨w.heap.size + 1 + 1 + 1, 0, none⟩ = some (.int .i64 c0) ∧ W.frozen? ⟨w.heap.size + 1, 0, none⟩ = false ∧ W.frozen? ⟨w.heap.size + 1 + 1, 0, none⟩ = false ∧ W.frozen? ⟨w.heap.size + 1 + 1 + 1, 0, none⟩ = false)
        (first
          | exact K0
          | exact K1
          | exact K2
          | exact K3)
        (fail)
      have HZ := Lib.hid (And.intro z1.drew (And.intro z2.drew (And.intro z3.drew hZ.drew)))
      clear K0 K1 K2 K3 h1 h2 h3 h3' hB x1 x2 x3 y1 y2 y3 z1 z2 z3 hZ HW
      go_wp2_with fail
      obtain ⟨z1, z2, z3, hZ⟩ := HZ.out
      exact door_yes _ _ _ (w.heap.size + 1) c0 0 none 0 0 hc z1 z2 z3 rfl rfl rfl ⟨⟨none, 0, rfl, Sl.nil _ _ _⟩, (hZ.setCell (p := ⟨w.heap.size + 1, 0, none⟩) (by show w.heap.size ≤ w.heap.size + 1; omega) _).setCell (p := ⟨w.heap.size + 1 + 1, 0, none⟩) (by show w.heap.size ≤ w.heap.size + 1 + 1; omega) _⟩
    · exact absurd (hc0.symm.trans ((chk_good l).1.2 hg)) hc
  · rw [if_neg (by simpa using hc)] at hR
    have hc' : c0 = 0 := by simpa using hc
    clear hc
    subst hc'
    have hchk := hc0
    go_enter_defers Try.func47, Try.ntmps47
    go_wp2_with fail
    rw [← HW0.out]
    go_wp2_with fail
    refine HB.out.mono ?_
    rintro e w1 ⟨⟨hbad, _⟩ | ⟨hg, g, bm, A2, c2, rfl, hWK⟩, hb1⟩
    · exact absurd rfl hbad
    have hT1 : ST w W0.heap.size (w.heap.size + 1) g bm l 0 A2 c2 (.slice none 0 0) (.int .i64 0) (.int .i64 0) w1 :=
      ⟨Blk.on HK.out.2.1 hb1, Blk.on HK.out.2.2.1 hb1, Blk.on HK.out.2.2.2.1 hb1, hWK, below_on HK.out.2.2.2.2.1 hb1 (Nat.le_refl _), by omega, by have := HK.out.2.2.2.2.2; omega, hb1.size⟩
    obtain ⟨x0, n0, e0, p0', q0, r0, fx0, fn0, fe0⟩ := hT1.facts
    have hT2 := hT1.set_e (.int .i64 0)
    obtain ⟨x1, n1, e1, p1, q1, r1, fx1, fn1, fe1⟩ := hT2.facts
    have HT2 := Lib.hid hT2
    clear hWK hb1 hT1 hT2 HB HK p0 HW0
    go_wp2_with fail
    have HN1 := Lib.hid (HN.out (w1.setCell ⟨w.heap.size + 1 + 1 + 1, 0, none⟩ (.int .i64 0)))
    refine HN1.out.mono ?_
    rintro e w3 ⟨rfl, hb3⟩
    have hT3 := HT2.out.on hb3
    generalize nameE s = ne at *
    clear x0 n0 e0 p0' q0 r0 fx0 fn0 fe0 x1 n1 e1 p1 q1 r1 fx1 fn1 fe1 HN HN1 HT2
    obtain ⟨x0, n0, e0, p0, q0, r0, fx0, fn0, fe0⟩ := hT3.facts
    have hT4 := hT3.set_e (.int .i64 ne)
    obtain ⟨x1, n1, e1, p1, q1, r1, fx1, fn1, fe1⟩ := hT4.facts
    have HT4 := Lib.hid hT4
    clear hb3 hT3 hT4
    by_cases hne : ne = 0
    · rw [if_neg (by simpa using hne)] at hR
      subst hne
      have hM := HT4.out.2.2.2.1.2.1
      have q4 := HT4.out.facts.2.2.2.2.1
      clear x0 n0 p0 q0 r0 fx0 fn0 fx1 fn1 x1 n1 p1 q1 r1 fe1
      by_cases hin : s ∈ l
      · rw [if_pos hin] at hR
        obtain ⟨ix, hi⟩ : ∃ i, idxF l s = some i := by
          cases hq : idxF l s with
          | none => exact absurd hin (idxF_none.1 hq)
          | some i => exact ⟨i, rfl⟩
        have hI : (idxF l s).isSome = true := by rw [hi]; rfl
        have hD2 : (idxF l s).getD 0 = ix := by rw [hi]; rfl
        cases fresh
        · rw [if_neg (by decide)] at hR
          rw [hD2] at hR
          subst hR
          go_wp2_with (at_lookup; refine wpList_num rfl _ _ rfl hM s hs rfl rfl ?_; rw [hI, hD2])
          generalize hW4 : w3.setCell ⟨w.heap.size + 1 + 1 + 1, 0, none⟩ (.int .i64 0) = W4 at *
          have HP := Lib.hid (put_any W0.heap.size g bm c2 A2 l s 0 W4 HT4.out.2.2.2.1 hn hs HT4.out.2.2.2.2.2.2.2)
          clear hW4 hM q4 fe0 e0 e1
          refine HP.out.mono ?_
          rintro e w5 ⟨⟨_, rfl, hK5⟩ | ⟨hbad, _⟩ | ⟨hbad, _⟩, hb5⟩
          · rw [hD2]
            have hT5 := HT4.out.call hb5 hK5
            obtain ⟨x0, n0, e0, p0, q0, r0, fx0, fn0, fe0⟩ := hT5.facts
            have HT6 := Lib.hid (hT5.set_n (.int .i64 (ix : Int)))
            clear hK5 hb5 hT5 HP HT4 x0 e0 p0 q0 r0 fx0 fe0
            go_wp2_with fail
            clear n0 fn0
            generalize hW6 : w5.setCell ⟨w.heap.size + 1 + 1, 0, none⟩ (.int .i64 (ix : Int)) = W6 at *
            clear hW6
            have t0 := HT6.out.drew
            have t1 := (HT6.out.set_x (.slice A2 l.length c2)).drew
            have t2 := ((HT6.out.set_x (.slice A2 l.length c2)).set_n (.int .i64 (ix : Int))).drew
            have t3 := (((HT6.out.set_x (.slice A2 l.length c2)).set_n (.int .i64 (ix : Int))).set_e (.int .i64 0)).drew
            have HF0 := Lib.hid t0.facts
            have HF1 := Lib.hid t1.facts
            have HF2 := Lib.hid t2.facts
            have HF3 := Lib.hid t3.facts
            have hx0 := HF0.out.1
            have he2 := HF2.out.2.2.1
            have T3 := Lib.hid t3
            clear t0 t1 t2 t3
            go_region_held3 (fun W => W.cell? ⟨g, 0, none⟩ = some (.slice A2 l.length c2) ∧ W.cell? ⟨g, 2, none⟩ = some (.int .i64 0) ∧ W.cell? ⟨w.heap.size + 1 + 1, 0, none⟩ = some (.int .i64 (ix : Int)) ∧ W.frozen? ⟨w.heap.size + 1, 0, none⟩ = false ∧ W.frozen? ⟨w.heap.size + 1 + 1, 0, none⟩ = false ∧ W.frozen? ⟨w.heap.size + 1 + 1 + 1, 0, none⟩ = false)
              (first
                | exact ⟨HF0.out.2.2.2.1, HF0.out.2.2.2.2.2.1, HF0.out.2.1, HF0.out.2.2.2.2.2.2.1, HF0.out.2.2.2.2.2.2.2.1, HF0.out.2.2.2.2.2.2.2.2⟩
                | exact ⟨HF1.out.2.2.2.1, HF1.out.2.2.2.2.2.1, HF1.out.2.1, HF1.out.2.2.2.2.2.2.1, HF1.out.2.2.2.2.2.2.2.1, HF1.out.2.2.2.2.2.2.2.2⟩
                | exact ⟨HF2.out.2.2.2.1, HF2.out.2.2.2.2.2.1, HF2.out.2.1, HF2.out.2.2.2.2.2.2.1, HF2.out.2.2.2.2.2.2.2.1, HF2.out.2.2.2.2.2.2.2.2⟩
                | exact ⟨HF3.out.2.2.2.1, HF3.out.2.2.2.2.2.1, HF3.out.2.1, HF3.out.2.2.2.2.2.2.1, HF3.out.2.2.2.2.2.2.2.1, HF3.out.2.2.2.2.2.2.2.2⟩)
              (fail)
            clear HF0 HF1 HF2 HF3 hx0 he2
            go_wp2_with fail
            obtain ⟨z1, z2, z3, hK, hZ, _⟩ := T3.out
            exact door_no _ _ _ (w.heap.size + 1) (ix : Int) A2 l.length c2 z1 z2 z3 rfl rfl rfl ⟨⟨_, _, rfl, hK.2.2.1.sl⟩, hZ⟩
          · exact absurd hin hbad
          · exact absurd hin hbad
        · rw [if_pos rfl] at hR
          subst hR
          go_wp2_with (at_lookup; refine wpList_num rfl _ _ rfl hM s hs rfl rfl ?_; rw [hI, hD2])
          generalize hW4 : w3.setCell ⟨w.heap.size + 1 + 1 + 1, 0, none⟩ (.int .i64 0) = W4 at *
          clear hW4 hM q4 fe0 e0 e1
          have t0 := HT4.out.drew
          have t1 := (HT4.out.set_x (.slice none 0 0)).drew
          have t2 := ((HT4.out.set_x (.slice none 0 0)).set_n (.int .i64 0)).drew
          have t3 := (((HT4.out.set_x (.slice none 0 0)).set_n (.int .i64 0)).set_e (.int .i64 8)).drew
          have HF0 := Lib.hid t0.facts
          have HF1 := Lib.hid t1.facts
          have HF2 := Lib.hid t2.facts
          have HF3 := Lib.hid t3.facts
          have hx0 := HF0.out.1
          have he2 := HF2.out.2.2.1
          have T3 := Lib.hid t3
          clear t0 t1 t2 t3
          go_region_held3 (fun W => W.cell? ⟨w.heap.size + 1, 0, none⟩ = some (.slice none 0 0) ∧ W.cell? ⟨w.heap.size + 1 + 1, 0, none⟩ = some (.int .i64 0) ∧ W.frozen? ⟨w.heap.size + 1, 0, none⟩ = false ∧ W.frozen? ⟨w.heap.size + 1 + 1, 0, none⟩ = false ∧ W.frozen? ⟨w.heap.size + 1 + 1 + 1, 0, none⟩ = false)
            (first
              | exact ⟨HF0.out.1, HF0.out.2.1, HF0.out.2.2.2.2.2.2.1, HF0.out.2.2.2.2.2.2.2.1, HF0.out.2.2.2.2.2.2.2.2⟩
              | exact ⟨HF1.out.1, HF1.out.2.1, HF1.out.2.2.2.2.2.2.1, HF1.out.2.2.2.2.2.2.2.1, HF1.out.2.2.2.2.2.2.2.2⟩
              | exact ⟨HF2.out.1, HF2.out.2.1, HF2.out.2.2.2.2.2.2.1, HF2.out.2.2.2.2.2.2.2.1, HF2.out.2.2.2.2.2.2.2.2⟩
              | exact ⟨HF3.out.1, HF3.out.2.1, HF3.out.2.2.2.2.2.2.1, HF3.out.2.2.2.2.2.2.2.1, HF3.out.2.2.2.2.2.2.2.2⟩)
            (fail)
          clear HF0 HF1 HF2 HF3 hx0 he2
          go_wp2_with fail
          obtain ⟨z1, z2, z3, hK, hZ, _⟩ := T3.out
          exact door_yes _ _ _ (w.heap.size + 1) (8) 0 none 0 0 (by decide) z1 z2 z3 rfl rfl rfl ⟨⟨none, 0, rfl, Sl.nil _ _ _⟩, (hZ.setCell (p := ⟨w.heap.size + 1, 0, none⟩) (by show w.heap.size ≤ w.heap.size + 1; omega) _).setCell (p := ⟨w.heap.size + 1 + 1, 0, none⟩) (by show w.heap.size ≤ w.heap.size + 1 + 1; omega) _⟩
      · rw [if_neg hin] at hR
        have hq : idxF l s = none := idxF_none.2 hin
        have hI : (idxF l s).isSome = false := by rw [hq]; rfl
        have hD2 : (idxF l s).getD 0 = 0 := by rw [hq]; rfl
        go_wp2_with (at_lookup; refine wpList_num rfl _ _ rfl hM s hs rfl rfl ?_; rw [hI, hD2])
        generalize hW4 : w3.setCell ⟨w.heap.size + 1 + 1 + 1, 0, none⟩ (.int .i64 0) = W4 at *
        have HP := Lib.hid (put_any W0.heap.size g bm c2 A2 l s 0 W4 HT4.out.2.2.2.1 hn hs HT4.out.2.2.2.2.2.2.2)
        clear hW4 hM q4 fe0 e0 e1
        refine HP.out.mono ?_
        rintro e w5 ⟨⟨hbad, _⟩ | ⟨_, h32, rfl, hK5⟩ | ⟨_, h32, rfl, A5, c5, hK5⟩, hb5⟩
        · exact absurd hbad hin
        · rw [if_pos h32] at hR
          subst hR
          have hT5 := HT4.out.call hb5 hK5
          obtain ⟨x0, n0, e0, p0, q0, r0, fx0, fn0, fe0⟩ := hT5.facts
          have HT6 := Lib.hid (hT5.set_n (.int .i64 0))
          clear hK5 hb5 hT5 HP HT4 x0 e0 p0 q0 r0 fx0 fe0
          go_wp2_with fail
          clear n0 fn0
          generalize hW6 : w5.setCell ⟨w.heap.size + 1 + 1, 0, none⟩ (.int .i64 0) = W6 at *
          clear hW6
          have t0 := HT6.out.drew
          have t1 := (HT6.out.set_x (.slice A2 l.length c2)).drew
          have t2 := ((HT6.out.set_x (.slice A2 l.length c2)).set_n (.int .i64 0)).drew
          have t3 := (((HT6.out.set_x (.slice A2 l.length c2)).set_n (.int .i64 0)).set_e (.int .i64 6)).drew
          have HF0 := Lib.hid t0.facts
          have HF1 := Lib.hid t1.facts
          have HF2 := Lib.hid t2.facts
          have HF3 := Lib.hid t3.facts
          have hx0 := HF0.out.1
          have he2 := HF2.out.2.2.1
          have T3 := Lib.hid t3
          clear t0 t1 t2 t3
          go_region_held3 (fun W => W.cell? ⟨g, 0, none⟩ = some (.slice A2 l.length c2) ∧ W.cell? ⟨g, 2, none⟩ = some (.int .i64 6) ∧ W.cell? ⟨w.heap.size + 1 + 1, 0, none⟩ = some (.int .i64 0) ∧ W.frozen? ⟨w.heap.size + 1, 0, none⟩ = false ∧ W.frozen? ⟨w.heap.size + 1 + 1, 0, none⟩ = false ∧ W.frozen? ⟨w.heap.size + 1 + 1 + 1, 0, none⟩ = false)
            (first
              | exact ⟨HF0.out.2.2.2.1, HF0.out.2.2.2.2.2.1, HF0.out.2.1, HF0.out.2.2.2.2.2.2.1, HF0.out.2.2.2.2.2.2.2.1, HF0.out.2.2.2.2.2.2.2.2⟩
              | exact ⟨HF1.out.2.2.2.1, HF1.out.2.2.2.2.2.1, HF1.out.2.1, HF1.out.2.2.2.2.2.2.1, HF1.out.2.2.2.2.2.2.2.1, HF1.out.2.2.2.2.2.2.2.2⟩
              | exact ⟨HF2.out.2.2.2.1, HF2.out.2.2.2.2.2.1, HF2.out.2.1, HF2.out.2.2.2.2.2.2.1, HF2.out.2.2.2.2.2.2.2.1, HF2.out.2.2.2.2.2.2.2.2⟩
              | exact ⟨HF3.out.2.2.2.1, HF3.out.2.2.2.2.2.1, HF3.out.2.1, HF3.out.2.2.2.2.2.2.1, HF3.out.2.2.2.2.2.2.2.1, HF3.out.2.2.2.2.2.2.2.2⟩)
            (fail)
          clear HF0 HF1 HF2 HF3 hx0 he2
          go_wp2_with fail
          obtain ⟨z1, z2, z3, hK, hZ, _⟩ := T3.out
          exact door_yes _ _ _ (w.heap.size + 1) (6) 0 A2 l.length c2 (by decide) z1 z2 z3 rfl rfl rfl ⟨⟨none, 0, rfl, Sl.nil _ _ _⟩, (hZ.setCell (p := ⟨w.heap.size + 1, 0, none⟩) (by show w.heap.size ≤ w.heap.size + 1; omega) _).setCell (p := ⟨w.heap.size + 1 + 1, 0, none⟩) (by show w.heap.size ≤ w.heap.size + 1 + 1; omega) _⟩
        · rw [if_neg (by omega)] at hR
          have HR := Lib.hid hR
          clear hR
          generalize l ++ [s] = l2 at *
          have hT5 := HT4.out.call hb5 hK5
          obtain ⟨x0, n0, e0, p0, q0, r0, fx0, fn0, fe0⟩ := hT5.facts
          have HT6 := Lib.hid (hT5.set_n (.int .i64 (l.length : Int)))
          clear hK5 hb5 hT5 HP HT4 x0 e0 p0 q0 r0 fx0 fe0
          go_wp2_with fail
          clear n0 fn0
          generalize hW6 : w5.setCell ⟨w.heap.size + 1 + 1, 0, none⟩ (.int .i64 (l.length : Int)) = W6 at *
          clear hW6
          have t0 := HT6.out.drew
          have t1 := (HT6.out.set_x (.slice A5 l2.length c5)).drew
          have t2 := ((HT6.out.set_x (.slice A5 l2.length c5)).set_n (.int .i64 (l.length : Int))).drew
          have t3 := (((HT6.out.set_x (.slice A5 l2.length c5)).set_n (.int .i64 (l.length : Int))).set_e (.int .i64 0)).drew
          have HF0 := Lib.hid t0.facts
          have HF1 := Lib.hid t1.facts
          have HF2 := Lib.hid t2.facts
          have HF3 := Lib.hid t3.facts
          have hx0 := HF0.out.1
          have he2 := HF2.out.2.2.1
          have T3 := Lib.hid t3
          clear t0 t1 t2 t3
          go_region_held3 (fun W => W.cell? ⟨g, 0, none⟩ = some (.slice A5 l2.length c5) ∧ W.cell? ⟨g, 2, none⟩ = some (.int .i64 0) ∧ W.cell? ⟨w.heap.size + 1 + 1, 0, none⟩ = some (.int .i64 (l.length : Int)) ∧ W.frozen? ⟨w.heap.size + 1, 0, none⟩ = false ∧ W.frozen? ⟨w.heap.size + 1 + 1, 0, none⟩ = false ∧ W.frozen? ⟨w.heap.size + 1 + 1 + 1, 0, none⟩ = false)
            (first
              | exact ⟨HF0.out.2.2.2.1, HF0.out.2.2.2.2.2.1, HF0.out.2.1, HF0.out.2.2.2.2.2.2.1, HF0.out.2.2.2.2.2.2.2.1, HF0.out.2.2.2.2.2.2.2.2⟩
              | exact ⟨HF1.out.2.2.2.1, HF1.out.2.2.2.2.2.1, HF1.out.2.1, HF1.out.2.2.2.2.2.2.1, HF1.out.2.2.2.2.2.2.2.1, HF1.out.2.2.2.2.2.2.2.2⟩
              | exact ⟨HF2.out.2.2.2.1, HF2.out.2.2.2.2.2.1, HF2.out.2.1, HF2.out.2.2.2.2.2.2.1, HF2.out.2.2.2.2.2.2.2.1, HF2.out.2.2.2.2.2.2.2.2⟩
              | exact ⟨HF3.out.2.2.2.1, HF3.out.2.2.2.2.2.1, HF3.out.2.1, HF3.out.2.2.2.2.2.2.1, HF3.out.2.2.2.2.2.2.2.1, HF3.out.2.2.2.2.2.2.2.2⟩)
            (fail)
          clear HF0 HF1 HF2 HF3 hx0 he2
          go_wp2_with fail
          obtain ⟨z1, z2, z3, hK, hZ, _⟩ := T3.out
          exact door_no _ _ _ (w.heap.size + 1) (l.length : Int) A5 l2.length c5 z1 z2 z3 rfl rfl rfl ⟨(by rw [HR.out]; exact ⟨_, _, rfl, hK.2.2.1.sl⟩), hZ⟩
    · rw [if_pos hne] at hR
      subst hR
      have hnb : (ne != 0) = true := bne_iff_ne.2 hne
      go_wp2_with fail
      clear x0 n0 e0 p0 q0 r0 fx0 fn0 fe0 x1 n1 e1 p1 q1 r1 fx1 fn1 fe1
      generalize hW4 : w3.setCell ⟨w.heap.size + 1 + 1 + 1, 0, none⟩ (.int .i64 ne) = W4 at *
      clear hW4
      have t0 := HT4.out.drew
      have t1 := (HT4.out.set_x (.slice none 0 0)).drew
      have t2 := ((HT4.out.set_x (.slice none 0 0)).set_n (.int .i64 0)).drew
      have t3 := (((HT4.out.set_x (.slice none 0 0)).set_n (.int .i64 0)).set_e (.int .i64 ne)).drew
      have HF0 := Lib.hid t0.facts
      have HF1 := Lib.hid t1.facts
      have HF2 := Lib.hid t2.facts
      have HF3 := Lib.hid t3.facts
      have hx0 := HF0.out.1
      have he2 := HF2.out.2.2.1
      have T3 := Lib.hid t3
      clear t0 t1 t2 t3
      go_region_held3 (fun W => W.cell? ⟨w.heap.size + 1, 0, none⟩ = some (.slice none 0 0) ∧ W.cell? ⟨w.heap.size + 1 + 1, 0, none⟩ = some (.int .i64 0) ∧ W.cell? ⟨w.heap.size + 1 + 1 + 1, 0, none⟩ = some (.int .i64 ne) ∧ W.frozen? ⟨w.heap.size + 1, 0, none⟩ = false ∧ W.frozen? ⟨w.heap.size + 1 + 1, 0, none⟩ = false ∧ W.frozen? ⟨w.heap.size + 1 + 1 + 1, 0, none⟩ = false)
        (first
          | exact ⟨HF0.out.1, HF0.out.2.1, HF0.out.2.2.1, HF0.out.2.2.2.2.2.2.1, HF0.out.2.2.2.2.2.2.2.1, HF0.out.2.2.2.2.2.2.2.2⟩
          | exact ⟨HF1.out.1, HF1.out.2.1, HF1.out.2.2.1, HF1.out.2.2.2.2.2.2.1, HF1.out.2.2.2.2.2.2.2.1, HF1.out.2.2.2.2.2.2.2.2⟩
          | exact ⟨HF2.out.1, HF2.out.2.1, HF2.out.2.2.1, HF2.out.2.2.2.2.2.2.1, HF2.out.2.2.2.2.2.2.2.1, HF2.out.2.2.2.2.2.2.2.2⟩
          | exact ⟨HF3.out.1, HF3.out.2.1, HF3.out.2.2.1, HF3.out.2.2.2.2.2.2.1, HF3.out.2.2.2.2.2.2.2.1, HF3.out.2.2.2.2.2.2.2.2⟩)
        (fail)
      clear HF0 HF1 HF2 HF3 hx0 he2
      go_wp2_with fail
      obtain ⟨z1, z2, z3, hK, hZ, _⟩ := T3.out
      exact door_yes _ _ _ (w.heap.size + 1) (ne) 0 none 0 0 hne z1 z2 z3 rfl rfl rfl ⟨⟨none, 0, rfl, Sl.nil _ _ _⟩, (hZ.setCell (p := ⟨w.heap.size + 1, 0, none⟩) (by show w.heap.size ≤ w.heap.size + 1; omega) _).setCell (p := ⟨w.heap.size + 1 + 1, 0, none⟩) (by show w.heap.size ≤ w.heap.size + 1 + 1; omega) _⟩
end Go.Proofs.Ytbobpgjgknkogaa
