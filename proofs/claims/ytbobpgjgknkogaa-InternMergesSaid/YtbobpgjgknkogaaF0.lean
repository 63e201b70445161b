/- Steps of a round by one law each: a move, a store of one cell. -/
import Derived.Test.YtbobpgjgknkogaaRange
namespace Go.Proofs.Ytbobpgjgknkogaa
open Go.RowKit Go.Shelf
theorem wpListIn_move {F : Fence} {m : Nat} {P : Program} {w : World} {ops : Array Oper} {rest : List Oper} {o : Oper} {a : Act} {Q : Exit → Act → World → Prop} (hgd : o.guard = none) (x : Operand)
    (ho : o.op = .move x) (h : wpListIn F m P ops Q rest (a.put o.dst (a.eval x)) w) : wpListIn F m P ops Q (o :: rest) a w := by
  refine wpListIn_plain hgd fun K hK' => ?_
  have hk := hK' _ _ h
  unfold Oper.wpIn
  refine ⟨?_, ?_⟩
  · simp [Oper.about, ho]
  · rw [Oper.semAt_plain F _ _ (by rw [ho]; intro c hc'; cases hc')]
    simp [execOp, ho]
    exact hk
theorem wpListIn_store1 {F : Fence} {m : Nat} {P : Program} {w : World} {ops : Array Oper} {rest : List Oper} {o : Oper} {a : Act} {Q : Exit → Act → World → Prop} (hgd : o.guard = none) (T : TypeId) (x y : Operand)
    (ho : o.op = .store T x y) (p : Addr) (v c : Value) (hx : a.eval x = .pointer (some p)) (hy : a.eval y = v) (hc : w.cell? p = some c) (hf : w.frozen? p = false)
    (hd : o.dst = none) (hz : p.add 0 = p) (i : TypeInfo) (hi : P.info? T = some i) (hsz : i.size = 1) (hv : v.cells = #[v]) (hv1 : v.oneCell' = true) (h : wpListIn F m P ops Q rest a (w.setCell p v)) : wpListIn F m P ops Q (o :: rest) a w := by
  have hst : (storeCells p [v]).run P w = .ok () (w.setCell p v) := by
    have h0 := run_store P w p v .plain hv1
    unfold stored at h0
    simp [hc, hf] at h0
    simp [storeCells, hz, h0]
  refine wpListIn_plain hgd fun K hK' => ?_
  have hk := hK' _ _ h
  unfold Oper.wpIn
  refine ⟨?_, ?_⟩
  · simp [Oper.about, ho]
  · rw [Oper.semAt_plain F _ _ (by rw [ho]; intro c hc'; cases hc')]
    simp [execOp, ho, hx, hy, Instr.storeAt, Instr.sureAddr, storeVar, sizeOf, typeInfo, hi, hsz, hv, hst, Result.andThen, Oper.uponIn, hd, Act.put]
    exact hk
end Go.Proofs.Ytbobpgjgknkogaa
