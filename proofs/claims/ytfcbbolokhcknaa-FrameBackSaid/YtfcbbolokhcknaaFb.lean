/- Loads and stores of a part in a round of a range over a function. -/
import Derived.Test.YtfcbbolokhcknaaFa3
import Derived.Test.YtfcbbolokhcknaaRange
import Derived.Test.YtfcbbolokhcknaaRh
import Derived.RangeFuncFrom
namespace Go.Proofs.Ytfcbbolokhcknaa
open Go.RowKit Go.Shelf
theorem keeps_below {W W' : World} (h : Below W.heap.size W W') : KeepsOthers W W' := ⟨h.size, fun k _ hk _ => (h.block k (Array.getElem?_eq_some_iff.1 hk).1).trans hk⟩
theorem keeps_row {W : World} {g : Nat} {t : TypeId} {cs : Array Value} (h : Blk W g t cs) (ds : Array Value) : KeepsOthers W (W.setRow g ds) := by
  obtain ⟨fr, h1, _⟩ := h
  refine ⟨by simp [World.setRow], fun k _ hk ho => ?_⟩
  have hne : k ≠ g := by rintro rfl; rw [h1] at hk; cases hk; cases ho
  rw [setRow_other W g k ds hne]; exact hk
theorem wpListIn_load_part {F : Fence} {m : Nat} {ops : Array Oper} {rest : List Oper} {o : Oper} {a : Act} {w : World} {Q : Exit → Act → World → Prop} (hgd : o.guard = none) (x : Operand) (ho : o.op = .load 53 x)
    (g : Nat) (hx : a.eval x = .pointer (some ⟨g, 0, none⟩)) (l : List UInt8) (hg : Pt w g l)
    (h : wpListIn F m Try.prog ops Q rest (a.put o.dst (partV l)) w) : wpListIn F m Try.prog ops Q (o :: rest) a w := by
  obtain ⟨⟨fr, hb, _⟩, hl⟩ := hg
  have hld := run_loadVar_row (P := Try.prog) w g 53 53 (partC l).toArray fr _ hb Try.underlying53 rfl (part_in l hl)
  refine wpListIn_plain hgd fun K hK' => ?_
  have hk := hK' _ _ h
  unfold Oper.wpIn
  refine ⟨?_, ?_⟩
  · simp [Oper.about, ho]
  · rw [Oper.semAt_plain F _ _ (by rw [ho]; intro c hc'; cases hc')]
    simp only [execOp, ho, hx, Instr.loadAt, Instr.sureAddr, Sem.run_bind, Sem.run_pure, Result.andThen_ok, hld]
    exact hk
theorem wpListIn_store_part {F : Fence} {m : Nat} {ops : Array Oper} {rest : List Oper} {o : Oper} {a : Act} {w : World} {Q : Exit → Act → World → Prop} (hgd : o.guard = none) (x y : Operand) (ho : o.op = .store 53 x y)
    (g : Nat) (hx : a.eval x = .pointer (some ⟨g, 0, none⟩)) (k : List UInt8) (hk26 : k.length ≤ 26) (hy : a.eval y = partV k) (l : List UInt8) (hg : Pt w g l)
    (h : wpListIn F m Try.prog ops Q rest (a.put o.dst undef) (w.setRow g (partC k).toArray)) : wpListIn F m Try.prog ops Q (o :: rest) a w := by
  refine wpListIn_plain hgd fun K hK' => ?_
  have hk := hK' _ _ h
  obtain ⟨⟨fr, hg, hfr⟩, hl⟩ := hg
  have hi := part_in k hk26
  have hst := run_storeCells_free (P := Try.prog) g 0 53 fr (partC k) 0 (partC l).toArray w hg hfr (by simp [partC_len k hk26, partC_len l hl]) (partC_one k)
  have e1 : ((partC l).toArray.toList.take 0 ++ partC k ++ (partC l).toArray.toList.drop ((partC k).length)).toArray = (partC k).toArray := by
    rw [List.drop_of_length_le (by simp [partC_len k hk26, partC_len l hl])]
    simp
  simp only [Nat.add_zero, Nat.zero_add] at hst
  rw [e1] at hst
  have hy' : a.eval y = .agg (partC k).toArray := hy
  unfold Oper.wpIn
  refine ⟨?_, ?_⟩
  · simp [Oper.about, ho]
  · rw [Oper.semAt_plain F _ _ (by rw [ho]; intro c hc'; cases hc')]
    cases hq : Try.prog.info? 53 with
    | none => simp [hq] at hi
    | some i =>
      have hz : (partC k).length = i.size := by simp [hq] at hi; omega
      simp [execOp, ho, hx, hy', Instr.storeAt, Instr.sureAddr, storeVar, sizeOf, typeInfo, hq, hz, Value.cells, hst, Result.andThen, Oper.uponIn]
      exact hk
theorem wpListIn_store_tok {F : Fence} {m : Nat} {ops : Array Oper} {rest : List Oper} {o : Oper} {a : Act} {w : World} {Q : Exit → Act → World → Prop} (hgd : o.guard = none) (x y : Operand) (ho : o.op = .store 29 x y)
    (g : Nat) (hx : a.eval x = .pointer (some ⟨g, 0, none⟩)) (s at_ : Int) (t : ByteArray) (hy : a.eval y = .agg #[.int .i64 s, .string t, .int .i64 at_]) (u v z : Value) (hg : Blk w g 29 #[u, v, z])
    (h : wpListIn F m Try.prog ops Q rest (a.put o.dst undef) (w.setRow g #[.int .i64 s, .string t, .int .i64 at_])) : wpListIn F m Try.prog ops Q (o :: rest) a w :=
  wpListIn_plain hgd fun _ hK' => wpIn_of_tame (tame_store ho) (wp_store_tok x y ho g hx s at_ t hy u v z hg (hK' _ _ h))
end Go.Proofs.Ytfcbbolokhcknaa
