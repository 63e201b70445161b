/- text.Next. No condition. -/
import Derived.Test.YtklfaccjbdkfhaaX8
import Derived.Test.YtklfaccjbdkfhaaX9
namespace Go.Proofs.Ytklfaccjbdkfhaa
open Go.RowKit
theorem results_ctc {P : Program} {fn : Func} {p u q : Tmp} {tp tq : TypeId} (h : fn.results = #[.cell p tp, .tmp u, .cell q tq]) (tmps : Array Value) (w : World) (g : Nat) (t : TypeId) (cs : Array Value) (d : TypeDesc) (g2 : Nat) (t2 : TypeId) (ds : Array Value) (d2 : TypeDesc)
    (hp : tmps.getD p undef = .pointer (some ⟨g, 0, none⟩)) (hg : Blk w g t cs)
    (hu : P.underlying tp = some d) (hd : (match d with | .struct _ | .array _ _ => true | _ => false) = true) (hi : (P.info? tp).map (·.size) = some cs.size)
    (hp2 : tmps.getD q undef = .pointer (some ⟨g2, 0, none⟩)) (hg2 : Blk w g2 t2 ds)
    (hu2 : P.underlying tq = some d2) (hd2 : (match d2 with | .struct _ | .array _ _ => true | _ => false) = true) (hi2 : (P.info? tq).map (·.size) = some ds.size) :
    (results fn tmps).run P w = .ok (.tuple #[.agg cs, tmps.getD u undef, .agg ds]) w := by
  obtain ⟨fr, hg, _⟩ := hg
  obtain ⟨fr2, hg2, _⟩ := hg2
  have hp' : tmps[p]?.getD undef = .pointer (some ⟨g, 0, none⟩) := by simpa using hp
  have hq' : tmps[q]?.getD undef = .pointer (some ⟨g2, 0, none⟩) := by simpa using hp2
  simp [results, h, hp', hq', asAddr, run_loadVar_row w g t tp cs fr d hg hu hd hi, run_loadVar_row w g2 t2 tq ds fr2 d2 hg2 hu2 hd2 hi2]
def nxU : Nx → Nat
  | .fault _ _ => 0
  | .lex _ n f => f + n
theorem put5b {w0 w : World} {B g h : Nat} {T U : TypeId} {a b c d e : Value} (h1 : Blk w g T #[a, b, c]) (h2 : Blk w h U #[d, e]) (hne : g ≠ h) (hg : B ≤ g) (hh : B ≤ h) (hB : Below B w0 w) (x y z p q : Value) :
    Blk (((((w.setCell ⟨g, 0, none⟩ x).setCell ⟨g, 1, none⟩ y).setCell ⟨g, 2, none⟩ z).setCell ⟨h, 0, none⟩ p).setCell ⟨h, 1, none⟩ q) g T #[x, y, z] ∧
    Blk (((((w.setCell ⟨g, 0, none⟩ x).setCell ⟨g, 1, none⟩ y).setCell ⟨g, 2, none⟩ z).setCell ⟨h, 0, none⟩ p).setCell ⟨h, 1, none⟩ q) h U #[p, q] ∧
    Below B w0 (((((w.setCell ⟨g, 0, none⟩ x).setCell ⟨g, 1, none⟩ y).setCell ⟨g, 2, none⟩ z).setCell ⟨h, 0, none⟩ p).setCell ⟨h, 1, none⟩ q) :=
  ⟨((((h1.set 0 x).set 1 y).set 2 z).far (p := ⟨h, 0, none⟩) hne p).far (p := ⟨h, 1, none⟩) hne q,
    ((((h2.far (p := ⟨g, 0, none⟩) hne.symm x).far (p := ⟨g, 1, none⟩) hne.symm y).far (p := ⟨g, 2, none⟩) hne.symm z).set 0 p).set 1 q,
    ((((hB.setCell (p := ⟨g, 0, none⟩) hg x).setCell (p := ⟨g, 1, none⟩) hg y).setCell (p := ⟨g, 2, none⟩) hg z).setCell (p := ⟨h, 0, none⟩) hh p).setCell (p := ⟨h, 1, none⟩) hh q⟩
/-- The two shapes of what next answers. -/
theorem next_fault (s : List UInt8) (k g : Nat) (w : World) (hb : Cu w g s k) (hk : k ≤ s.length) (hl : s.length ≤ 30000) (e a : Nat) (h : nextL s k = .fault e a) :
    Calls Try.prog 33 #[.pointer (some ⟨g, 0, none⟩)] w fun e' w' => e' = .returned (.tuple #[.agg #[.int .i64 0, .string ⟨#[]⟩, .int .i64 0], .agg #[.int .i64 e, .int .i64 a]]) ∧ (∃ m, m ≤ s.length ∧ Cu w' g s m) ∧ Gb w w' g :=
  (next_any s k g w hb hk hl).mono fun e' w' ⟨h1, ⟨m, h2, h3, _⟩, h4⟩ => ⟨by rw [h1, h]; rfl, ⟨m, h2, h3⟩, h4⟩
theorem next_lexeme (s : List UInt8) (k g : Nat) (w : World) (hb : Cu w g s k) (hk : k ≤ s.length) (hl : s.length ≤ 30000) (kd n f : Nat) (h : nextL s k = .lex kd n f) :
    Calls Try.prog 33 #[.pointer (some ⟨g, 0, none⟩)] w fun e' w' => e' = .returned (.tuple #[.agg #[.int .i64 kd, .string ⟨((s.drop f).take n).toArray⟩, .int .i64 f], .agg #[.int .i64 0, .int .i64 0]]) ∧ Cu w' g s (f + n) ∧ Gb w w' g :=
  (next_any s k g w hb hk hl).mono fun e' w' ⟨h1, ⟨m, h2, h3, h5⟩, h4⟩ => ⟨by rw [h1, h]; rfl, by rw [h] at h5; have := h5 (f + n) rfl; rw [← this]; exact h3, h4⟩
set_option maxRecDepth 100000 in
set_option maxHeartbeats 3200000 in
theorem Next_out (s : List UInt8) (a : Int) (w : World) (ha : a < 0 ∨ (s.length : Int) < a) :
    Calls Try.prog 13 #[.string ⟨s.toArray⟩, .int .i64 a] w fun e w' => e = .returned (.tuple #[.agg #[.int .i64 0, .string ⟨#[]⟩, .int .i64 0], .int .i64 0, .agg #[.int .i64 2, .int .i64 0]]) ∧ Below w.heap.size w w' := by
  have hcs : a < 0 ∨ 0 ≤ a ∧ (s.length : Int) < a := by omega
  clear ha
  rcases hcs with h | ⟨h, h'⟩
  all_goals
    go_enter Try.func13, Try.ntmps13
    go_wp2_with fail
    refine bodyPost_ret (results_ctc rfl _ _ _ _ _ _ _ _ _ _ rfl ((Blk.new w 31 #[.int .i64 0, .string ⟨#[]⟩, .int .i64 0]).alloc (.cells #[.int .i64 2, .int .i64 0] 26)) Try.underlying31 rfl (by kernel_rfl) rfl (Blk.newAt (w.alloc (.cells #[.int .i64 0, .string ⟨#[]⟩, .int .i64 0] 31)) 26 #[.int .i64 2, .int .i64 0] (g := w.heap.size + 1) (by simp)) Try.underlying26 rfl (by kernel_rfl)) rfl ?_
    exact ⟨rfl, ((Below.refl w.heap.size w).alloc (Nat.le_refl _) _).alloc (by simp) _⟩
/-- What Next answers, in all. -/
def nextV (s : List UInt8) (a : Int) : Value :=
  if a < 0 ∨ (s.length : Int) < a then .tuple #[.agg #[.int .i64 0, .string ⟨#[]⟩, .int .i64 0], .int .i64 0, .agg #[.int .i64 2, .int .i64 0]]
  else .tuple #[nxX (nextL s a.toNat) s, .int .i64 (nxU (nextL s a.toNat)), nxF (nextL s a.toNat)]
set_option maxRecDepth 100000 in
set_option maxHeartbeats 3200000 in
theorem Next_fault (s : List UInt8) (k : Nat) (w : World) (hl : s.length ≤ 30000) (hk : k ≤ s.length) (er fa : Nat) (her : er ≠ 0) (h : nextL s k = .fault er fa) :
    Calls Try.prog 13 #[.string ⟨s.toArray⟩, .int .i64 k] w fun e w' => e = .returned (.tuple #[.agg #[.int .i64 0, .string ⟨#[]⟩, .int .i64 0], .int .i64 0, .agg #[.int .i64 er, .int .i64 fa]]) ∧ Below w.heap.size w w' := by
  have HN := Lib.hid (fun g W (hb : Cu W g s k) => next_fault s k g W hb hk hl er fa h)
  have hz : ((er : Int) == 0) = false := by rw [beq_eq_false_iff_ne]; omega
  have hkz : (k : Int) ≤ s.length := by omega
  have bX := ((Blk.new w 31 #[.int .i64 0, .string ⟨#[]⟩, .int .i64 0]).alloc (.cells #[.int .i64 0, .int .i64 0] 26)).alloc (.cells #[.string ⟨s.toArray⟩, .int .i64 k] 59)
  have bF := (Blk.newAt (w.alloc (.cells #[.int .i64 0, .string ⟨#[]⟩, .int .i64 0] 31)) 26 #[.int .i64 0, .int .i64 0] (g := w.heap.size + 1) (by simp)).alloc (.cells #[.string ⟨s.toArray⟩, .int .i64 k] 59)
  have hC : Cu (((w.alloc (.cells #[.int .i64 0, .string ⟨#[]⟩, .int .i64 0] 31)).alloc (.cells #[.int .i64 0, .int .i64 0] 26)).alloc (.cells #[.string ⟨s.toArray⟩, .int .i64 k] 59)) (w.heap.size + 2) s k := Blk.newAt _ _ _ (by simp)
  have hB := (((Below.refl w.heap.size w).alloc (Nat.le_refl _) (.cells #[.int .i64 0, .string ⟨#[]⟩, .int .i64 0] 31)).alloc (by simp) (.cells #[.int .i64 0, .int .i64 0] 26)).alloc (by simp; omega) (.cells #[.string ⟨s.toArray⟩, .int .i64 k] 59)
  have HH := Lib.hid (And.intro bX (And.intro bF (And.intro hC hB)))
  clear bX bF hC hB her h hk hl
  go_enter Try.func13, Try.ntmps13
  go_wp2_with fail
  try simp only [Nat.add_assoc, Nat.reduceAdd]
  refine (HN.out (w.heap.size + 2) _ HH.out.2.2.1).mono ?_
  rintro e w3 ⟨rfl, ⟨m, hm, hC3⟩, hG3⟩
  obtain ⟨bX, bF, hC, hB⟩ := HH.out
  have bX3 := bX.grown hG3 (by simp)
  have bF3 := bF.grown hG3 (by simp)
  have hB3 : Below w.heap.size w w3 := hB.grown hG3 hB.size (fun k e => by cases e; omega)
  obtain ⟨q1, q2, q3⟩ := put5b bX3 bF3 (by omega) (Nat.le_refl _) (by omega) hB3 (.int .i64 0) (.string ⟨#[]⟩) (.int .i64 0) (.int .i64 er) (.int .i64 fa)
  obtain ⟨x0, x1, x2, y0, y1, y2⟩ := cells3 bX3
  obtain ⟨p0, p1, r0, r1⟩ := cells2 bF3
  have HH := Lib.hid (And.intro q1 (And.intro q2 q3))
  clear bX bF hC hB HN bX3 bF3 hG3 hB3 q1 q2 q3
  clear hC3
  go_wp2_with fail
  obtain ⟨q1, q2, q3⟩ := HH.out
  clear HH x0 x1 x2 y0 y1 y2 p0 p1 r0 r1
  generalize (((((w3.setCell ⟨w.heap.size, 0, none⟩ (.int .i64 0)).setCell ⟨w.heap.size, 1, none⟩ (.string ⟨#[]⟩)).setCell ⟨w.heap.size, 2, none⟩ (.int .i64 0)).setCell ⟨w.heap.size + 1, 0, none⟩ (.int .i64 er)).setCell ⟨w.heap.size + 1, 1, none⟩ (.int .i64 fa)) = W5 at *
  obtain ⟨q4, q5, q6⟩ := put5b q1 q2 (by omega) (Nat.le_refl _) (by omega) q3 (.int .i64 0) (.string ⟨#[]⟩) (.int .i64 0) (.int .i64 er) (.int .i64 fa)
  obtain ⟨x0, x1, x2, y0, y1, y2⟩ := cells3 q1
  obtain ⟨p0, p1, r0, r1⟩ := cells2 q2
  have HH := Lib.hid (And.intro q4 (And.intro q5 q6))
  clear q1 q2 q3 q4 q5 q6
  go_region
  go_wp2_with fail
  refine bodyPost_ret (results_ctc rfl _ _ _ _ _ _ _ _ _ _ rfl HH.out.1.drew Try.underlying31 rfl (by kernel_rfl) rfl HH.out.2.1.drew Try.underlying26 rfl (by kernel_rfl)) rfl ?_
  exact ⟨rfl, HH.out.2.2.drew⟩
set_option maxRecDepth 100000 in
set_option maxHeartbeats 3200000 in
theorem Next_lexeme (s : List UInt8) (k : Nat) (w : World) (hl : s.length ≤ 30000) (hk : k ≤ s.length) (kd n f : Nat) (h : nextL s k = .lex kd n f) :
    Calls Try.prog 13 #[.string ⟨s.toArray⟩, .int .i64 k] w fun e w' => e = .returned (.tuple #[.agg #[.int .i64 kd, .string ⟨((s.drop f).take n).toArray⟩, .int .i64 f], .int .i64 ((f + n : Nat) : Int), .agg #[.int .i64 0, .int .i64 0]]) ∧ Below w.heap.size w w' := by
  have HN := Lib.hid (fun g W (hb : Cu W g s k) => next_lexeme s k g W hb hk hl kd n f h)
  generalize (s.drop f).take n = tx at *
  obtain ⟨m, hm⟩ : ∃ m, f + n = m := ⟨_, rfl⟩
  rw [hm] at HN ⊢
  have hkz : (k : Int) ≤ s.length := by omega
  have bX := ((Blk.new w 31 #[.int .i64 0, .string ⟨#[]⟩, .int .i64 0]).alloc (.cells #[.int .i64 0, .int .i64 0] 26)).alloc (.cells #[.string ⟨s.toArray⟩, .int .i64 k] 59)
  have bF := (Blk.newAt (w.alloc (.cells #[.int .i64 0, .string ⟨#[]⟩, .int .i64 0] 31)) 26 #[.int .i64 0, .int .i64 0] (g := w.heap.size + 1) (by simp)).alloc (.cells #[.string ⟨s.toArray⟩, .int .i64 k] 59)
  have hC : Cu (((w.alloc (.cells #[.int .i64 0, .string ⟨#[]⟩, .int .i64 0] 31)).alloc (.cells #[.int .i64 0, .int .i64 0] 26)).alloc (.cells #[.string ⟨s.toArray⟩, .int .i64 k] 59)) (w.heap.size + 2) s k := Blk.newAt _ _ _ (by simp)
  have hB := (((Below.refl w.heap.size w).alloc (Nat.le_refl _) (.cells #[.int .i64 0, .string ⟨#[]⟩, .int .i64 0] 31)).alloc (by simp) (.cells #[.int .i64 0, .int .i64 0] 26)).alloc (by simp; omega) (.cells #[.string ⟨s.toArray⟩, .int .i64 k] 59)
  have HH := Lib.hid (And.intro bX (And.intro bF (And.intro hC hB)))
  clear bX bF hC hB h hk hl hm
  go_enter Try.func13, Try.ntmps13
  go_wp2_with fail
  try simp only [Nat.add_assoc, Nat.reduceAdd]
  refine (HN.out (w.heap.size + 2) _ HH.out.2.2.1).mono ?_
  rintro e w3 ⟨rfl, hC3, hG3⟩
  obtain ⟨bX, bF, hC, hB⟩ := HH.out
  have bX3 := bX.grown hG3 (by simp)
  have bF3 := bF.grown hG3 (by simp)
  have hB3 : Below w.heap.size w w3 := hB.grown hG3 hB.size (fun k e => by cases e; omega)
  obtain ⟨q1, q2, q3⟩ := put5b bX3 bF3 (by omega) (Nat.le_refl _) (by omega) hB3 (.int .i64 kd) (.string ⟨tx.toArray⟩) (.int .i64 f) (.int .i64 0) (.int .i64 0)
  obtain ⟨x0, x1, x2, y0, y1, y2⟩ := cells3 bX3
  obtain ⟨p0, p1, r0, r1⟩ := cells2 bF3
  have HH := Lib.hid (And.intro q1 (And.intro q2 q3))
  clear bX bF hC hB HN bX3 bF3 hG3 hB3 q1 q2 q3
  have hC5 := (((((hC3.far (p := ⟨w.heap.size, 0, none⟩) (by simp) (.int .i64 kd)).far (p := ⟨w.heap.size, 1, none⟩) (by simp) (.string ⟨tx.toArray⟩)).far (p := ⟨w.heap.size, 2, none⟩) (by simp) (.int .i64 f)).far (p := ⟨w.heap.size + 1, 0, none⟩) (by simp) (.int .i64 0)).far (p := ⟨w.heap.size + 1, 1, none⟩) (by simp) (.int .i64 0))
  have HC5 := Lib.hid hC5
  clear hC3 hC5
  go_wp2_with fail
  have hC5 := HC5.out
  clear HC5
  obtain ⟨q1, q2, q3⟩ := HH.out
  clear HH x0 x1 x2 y0 y1 y2 p0 p1 r0 r1
  generalize (((((w3.setCell ⟨w.heap.size, 0, none⟩ (.int .i64 kd)).setCell ⟨w.heap.size, 1, none⟩ (.string ⟨tx.toArray⟩)).setCell ⟨w.heap.size, 2, none⟩ (.int .i64 f)).setCell ⟨w.heap.size + 1, 0, none⟩ (.int .i64 0)).setCell ⟨w.heap.size + 1, 1, none⟩ (.int .i64 0)) = W5 at *
  obtain ⟨q4, q5, q6⟩ := put5b q1 q2 (by omega) (Nat.le_refl _) (by omega) q3 (.int .i64 kd) (.string ⟨tx.toArray⟩) (.int .i64 f) (.int .i64 0) (.int .i64 0)
  obtain ⟨x0, x1, x2, y0, y1, y2⟩ := cells3 q1
  obtain ⟨p0, p1, r0, r1⟩ := cells2 q2
  have HH := Lib.hid (And.intro q4 (And.intro q5 q6))
  obtain ⟨c0, c1, f0, f1⟩ := hC5.cells
  clear hC5
  clear q1 q2 q3 q4 q5 q6
  go_region
  go_wp2_with fail
  refine bodyPost_ret (results_ctc rfl _ _ _ _ _ _ _ _ _ _ rfl HH.out.1.drew Try.underlying31 rfl (by kernel_rfl) rfl HH.out.2.1.drew Try.underlying26 rfl (by kernel_rfl)) rfl ?_
  exact ⟨rfl, HH.out.2.2.drew⟩
theorem Next_at (s : List UInt8) (a : Int) (w : World) (hl : s.length ≤ 30000) : Calls Try.prog 13 #[.string ⟨s.toArray⟩, .int .i64 a] w fun e w' => e = .returned (nextV s a) ∧ Below w.heap.size w w' := by
  by_cases ha : a < 0 ∨ (s.length : Int) < a
  · have e : nextV s a = .tuple #[.agg #[.int .i64 0, .string ⟨#[]⟩, .int .i64 0], .int .i64 0, .agg #[.int .i64 2, .int .i64 0]] := if_pos ha
    rw [e]
    exact Next_out s a w ha
  · obtain ⟨k, rfl⟩ := Int.eq_ofNat_of_zero_le (show 0 ≤ a by omega)
    have hk : k ≤ s.length := by omega
    have e : nextV s k = .tuple #[nxX (nextL s k) s, .int .i64 (nxU (nextL s k)), nxF (nextL s k)] := if_neg ha
    rw [e]
    rcases nextL_cases s k hk with ⟨h, _⟩ | ⟨b, h, _⟩ | ⟨kd, n, f, h, _⟩
    · rw [h]; exact Next_fault s k w hl hk 5 _ (by decide) h
    · rw [h]; exact Next_fault s k w hl hk 3 _ (by decide) h
    · rw [h]; exact Next_lexeme s k w hl hk kd n f h
end Go.Proofs.Ytklfaccjbdkfhaa
