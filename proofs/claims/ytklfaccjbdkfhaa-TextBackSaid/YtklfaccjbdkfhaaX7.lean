/- The lexeme that comes next behind a cursor. No condition. -/
import Derived.Test.YtklfaccjbdkfhaaX6
namespace Go.Proofs.Ytklfaccjbdkfhaa
open Go.RowKit
theorem results_cc {P : Program} {fn : Func} {p q : Tmp} {tp tq : TypeId} (h : fn.results = #[.cell p tp, .cell q tq]) (tmps : Array Value) (w : World) (g : Nat) (t : TypeId) (cs : Array Value) (d : TypeDesc) (g2 : Nat) (t2 : TypeId) (ds : Array Value) (d2 : TypeDesc)
    (hp : tmps.getD p undef = .pointer (some ⟨g, 0, none⟩)) (hg : Blk w g t cs)
    (hu : P.underlying tp = some d) (hd : (match d with | .struct _ | .array _ _ => true | _ => false) = true) (hi : (P.info? tp).map (·.size) = some cs.size)
    (hp2 : tmps.getD q undef = .pointer (some ⟨g2, 0, none⟩)) (hg2 : Blk w g2 t2 ds)
    (hu2 : P.underlying tq = some d2) (hd2 : (match d2 with | .struct _ | .array _ _ => true | _ => false) = true) (hi2 : (P.info? tq).map (·.size) = some ds.size) :
    (results fn tmps).run P w = .ok (.tuple #[.agg cs, .agg ds]) w := by
  obtain ⟨fr, hg, _⟩ := hg
  obtain ⟨fr2, hg2, _⟩ := hg2
  have hp' : tmps[p]?.getD undef = .pointer (some ⟨g, 0, none⟩) := by simpa using hp
  have hq' : tmps[q]?.getD undef = .pointer (some ⟨g2, 0, none⟩) := by simpa using hp2
  simp [results, h, hp', hq', asAddr, run_loadVar_row w g t tp cs fr d hg hu hd hi, run_loadVar_row w g2 t2 tq ds fr2 d2 hg2 hu2 hd2 hi2]
theorem Gb.setNew {a b : World} {g : Nat} (h : Gb a b g) {p : Addr} (hp : a.heap.size ≤ p.block) (u : Value) : Gb a (b.setCell p u) g :=
  ⟨h.os, h.tape, h.output, by simp; exact h.size, fun k hk hne => (Below.heap_setCell b p u k (by omega)).trans (h.block k hk hne)⟩
theorem Gb.size {a b : World} {g : Nat} (h : Gb a b g) : a.heap.size ≤ b.heap.size := World.grownBy.size h
theorem Cu.far {W : World} {g : Nat} {s : List UInt8} {k : Nat} (h : Cu W g s k) {p : Addr} (hp : g ≠ p.block) (u : Value) : Cu (W.setCell p u) g s k := Blk.far h hp u
theorem put5g {w0 w : World} {g h r k : Nat} {s : List UInt8} {T U : TypeId} {a b c d e : Value} (h1 : Blk w g T #[a, b, c]) (h2 : Blk w h U #[d, e]) (hc : Cu w r s k) (hne : g ≠ h) (hrg : r ≠ g) (hrh : r ≠ h) (hg : w0.heap.size ≤ g) (hh : w0.heap.size ≤ h) (hG : Gb w0 w r) (x y z p q : Value) :
    Blk (((((w.setCell ⟨g, 0, none⟩ x).setCell ⟨g, 1, none⟩ y).setCell ⟨g, 2, none⟩ z).setCell ⟨h, 0, none⟩ p).setCell ⟨h, 1, none⟩ q) g T #[x, y, z] ∧
    Blk (((((w.setCell ⟨g, 0, none⟩ x).setCell ⟨g, 1, none⟩ y).setCell ⟨g, 2, none⟩ z).setCell ⟨h, 0, none⟩ p).setCell ⟨h, 1, none⟩ q) h U #[p, q] ∧
    Cu (((((w.setCell ⟨g, 0, none⟩ x).setCell ⟨g, 1, none⟩ y).setCell ⟨g, 2, none⟩ z).setCell ⟨h, 0, none⟩ p).setCell ⟨h, 1, none⟩ q) r s k ∧
    Gb w0 (((((w.setCell ⟨g, 0, none⟩ x).setCell ⟨g, 1, none⟩ y).setCell ⟨g, 2, none⟩ z).setCell ⟨h, 0, none⟩ p).setCell ⟨h, 1, none⟩ q) r :=
  ⟨((((h1.set 0 x).set 1 y).set 2 z).far (p := ⟨h, 0, none⟩) hne p).far (p := ⟨h, 1, none⟩) hne q,
    ((((h2.far (p := ⟨g, 0, none⟩) hne.symm x).far (p := ⟨g, 1, none⟩) hne.symm y).far (p := ⟨g, 2, none⟩) hne.symm z).set 0 p).set 1 q,
    ((((hc.far (p := ⟨g, 0, none⟩) hrg x).far (p := ⟨g, 1, none⟩) hrg y).far (p := ⟨g, 2, none⟩) hrg z).far (p := ⟨h, 0, none⟩) hrh p).far (p := ⟨h, 1, none⟩) hrh q,
    ((((hG.setNew (p := ⟨g, 0, none⟩) hg x).setNew (p := ⟨g, 1, none⟩) hg y).setNew (p := ⟨g, 2, none⟩) hg z).setNew (p := ⟨h, 0, none⟩) hh p).setNew (p := ⟨h, 1, none⟩) hh q⟩
def nxX : Nx → List UInt8 → Value
  | .fault _ _, _ => .agg #[.int .i64 0, .string ⟨#[]⟩, .int .i64 0]
  | .lex k n f, s => .agg #[.int .i64 k, .string ⟨((s.drop f).take n).toArray⟩, .int .i64 f]
def nxF : Nx → Value
  | .fault e a => .agg #[.int .i64 e, .int .i64 a]
  | .lex _ _ _ => .agg #[.int .i64 0, .int .i64 0]
def nxAt : Nx → Option Nat
  | .fault _ _ => none
  | .lex _ n f => some (f + n)
theorem next_fin {s : List UInt8} {k : Nat} (h : k + skipF false (s.drop k) = s.length) : nextL s k = .fault 5 s.length := by
  unfold nextL; rw [if_pos h, h]
theorem next_bad {s : List UInt8} {k N : Nat} (h : k + skipF false (s.drop k) = N) (hN : N ≠ s.length) (h0 : (lexB (s.drop N)).1 = 0) : nextL s k = .fault 3 N := by
  unfold nextL; rw [h, if_neg hN, if_pos h0]
theorem next_lex {s : List UInt8} {k N kd n : Nat} (h : k + skipF false (s.drop k) = N) (hN : N ≠ s.length) (h0 : lexB (s.drop N) = (kd, n)) (hk : kd ≠ 0) : nextL s k = .lex kd n N := by
  unfold nextL; rw [h, if_neg hN, h0, if_neg hk]
/-- What next has answered. -/
def NxPost (s : List UInt8) (k g : Nat) (w : World) (e : Ending) (w' : World) : Prop :=
  e = .returned (.tuple #[nxX (nextL s k) s, nxF (nextL s k)]) ∧ (∃ m, m ≤ s.length ∧ Cu w' g s m ∧ ∀ j, nxAt (nextL s k) = some j → m = j) ∧ Gb w w' g
end Go.Proofs.Ytklfaccjbdkfhaa
