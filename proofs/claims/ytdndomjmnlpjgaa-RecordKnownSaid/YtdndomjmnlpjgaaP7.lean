/- Records that grow: close. No condition. -/
import Derived.Test.YtdndomjmnlpjgaaP6
namespace Go.Proofs.Ytdndomjmnlpjgaa
open Go.RowKit
theorem Gb.below {w W W' : World} {r : Option Nat} (h : w.grownBy W r) (hb : Below W.heap.size W W') : w.grownBy W' r :=
  ⟨hb.os.trans h.os, hb.tape.trans h.tape, hb.output.trans h.output, Nat.le_trans h.size hb.size, fun k hk hr => (hb.block k (Nat.lt_of_lt_of_le hk h.size)).trans (h.block k hk hr)⟩
theorem Gb.trans {w W W' : World} {r : Option Nat} (h : w.grownBy W r) (k : W.grownBy W' r) : w.grownBy W' r :=
  ⟨k.os.trans h.os, k.tape.trans h.tape, k.output.trans h.output, Nat.le_trans h.size k.size, fun i hi hr => (k.block i (Nat.lt_of_lt_of_le hi h.size) hr).trans (h.block i hi hr)⟩
theorem Gb.alloc {w W : World} {r : Option Nat} (h : w.grownBy W r) (o : Obj) : w.grownBy (W.alloc o) r := Gb.trans h (World.grownBy_alloc W o r)
theorem Gb.set {w W : World} {g : Nat} (h : w.grownBy W (some g)) (i : Nat) (u : Value) : w.grownBy (W.setCell ⟨g, i, none⟩ u) (some g) :=
  ⟨h.os, h.tape, h.output, by rw [World.size_setCell]; exact h.size, fun k hk hr => (Below.heap_setCell W ⟨g, i, none⟩ u k (fun e => hr (by rw [e]))).trans (h.block k hk hr)⟩
theorem Gb.setNew {w W : World} {r : Option Nat} (h : w.grownBy W r) {j : Nat} (hj : w.heap.size ≤ j) (i : Nat) (u : Value) : w.grownBy (W.setCell ⟨j, i, none⟩ u) r :=
  ⟨h.os, h.tape, h.output, by rw [World.size_setCell]; exact h.size, fun k hk hr => (Below.heap_setCell W ⟨j, i, none⟩ u k (fun e => by simp only at e; omega)).trans (h.block k hk hr)⟩
theorem Gb.drew {w W : World} {r : Option Nat} (h : w.grownBy W r) : w.grownBy W.drew r := ⟨h.os, h.tape, h.output, h.size, h.block⟩
set_option maxRecDepth 100000 in
set_option maxHeartbeats 3200000 in
theorem close_any (g : Nat) (T : TypeId) (cs : Array Value) (A : Option Addr) (n cap : Nat) (e0 a0 en a : Int) (w : World) (hb : Blk w g T cs) (h3 : 3 ≤ cs.size)
    (h0 : cs[0]? = some (.slice A n cap)) (h1 : cs[1]? = some (.int .i64 e0)) (h2 : cs[2]? = some (.int .i64 a0)) :
    Calls Try.prog 57 #[.pointer (some ⟨g, 0, none⟩), .int .i64 en, .int .i64 a] w fun e w' => e = .returned (.agg #[.slice A n cap, .int .i64 en, .int .i64 a]) ∧
      Blk w' g T (((cs.setIfInBounds 0 (.slice none 0 0)).setIfInBounds 1 (.int .i64 0)).setIfInBounds 2 (.int .i64 0)) ∧ w.grownBy w' (some g) := by
  have hg := hb.lt
  have f0 : World.frozen? _ ⟨g, 0, none⟩ = false := hb.frozen (i := 0) (by omega)
  have f1 : World.frozen? _ ⟨g, 1, none⟩ = false := hb.frozen (i := 1) (by omega)
  have f2 : World.frozen? _ ⟨g, 2, none⟩ = false := hb.frozen (i := 2) (by omega)
  have x0 := (hb.cell 0).trans h0
  have x1 := (hb.cell 1).trans h1
  have x2 := (hb.cell 2).trans h2
  have hb2 := hb.set 0 (.slice none 0 0)
  have z1 := hb2.cell 1
  rw [Array.getElem?_setIfInBounds_ne (by decide), h1] at z1
  have z2 := hb2.cell 2
  rw [Array.getElem?_setIfInBounds_ne (by decide), h2] at z2
  have k1 : World.frozen? _ ⟨g, 1, none⟩ = false := hb2.frozen (i := 1) (by simp; omega)
  have k2 : World.frozen? _ ⟨g, 2, none⟩ = false := hb2.frozen (i := 2) (by simp; omega)
  have hb3 := hb2.set 1 (.int .i64 0)
  have q2 := hb3.cell 2
  rw [Array.getElem?_setIfInBounds_ne (by decide), Array.getElem?_setIfInBounds_ne (by decide), h2] at q2
  have r2 : World.frozen? _ ⟨g, 2, none⟩ = false := hb3.frozen (i := 2) (by simp; omega)
  have HB := Lib.hid (hb3.set 2 (.int .i64 0))
  have HG := Lib.hid (Gb.set (Gb.set (Gb.set (World.grownBy.refl w (some g)) 0 (.slice none 0 0)) 1 (.int .i64 0)) 2 (.int .i64 0))
  clear hb hb2 hb3 h0 h1 h2 h3
  go_enter Try.func57, Try.ntmps57
  go_wp2_with fail
  refine bodyPost_ret (results_cell_blk rfl _ _ w.heap.size _ _ _ rfl ((Blk.newAt _ 43 #[.slice A n cap, .int .i64 en, .int .i64 a] (by simp)).alloc _) Try.underlying43 rfl (by kernel_rfl)) rfl ?_
  exact ⟨rfl, (HB.out.alloc _).alloc _, Gb.alloc (Gb.alloc HG.out _) _⟩
end Go.Proofs.Ytdndomjmnlpjgaa
