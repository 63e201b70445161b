/- Steps of a region that draws its order, one law each: what only reads, taken first; a store of a whole struct; a move into a slot. No condition. -/
import Derived.Test.YtklfaccjbdkfhaaBy
import Derived.Deep.RegionHeld3
namespace Go.Proofs.Ytklfaccjbdkfhaa
open Go.RowKit
section
variable {P : Program} {md : Region.Mode} {ops : Array Oper} {Q : Exit → Act → World → Prop} {S : World → Prop} {fuel : Nat} {listed : Array Bool} {w : World} {T : Array Value} {df : List Deferred}
theorem reg_take (i : Nat) (oi : Oper) (d : Tmp) (v : Value) (hi : ops[i]? = some oi) (hd : oi.dst = some d) (hs : Region.noSelect ops = true) (hf : Region.free md ops listed i = true) (hr : (Region.ready md ops listed).contains i = true)
    (hQ : ∀ c a w, Q (.panic c) (a.put oi.dst v) w → Q (.panic c) a w) (hw : Region.wanted oi (yielded ops T) = true)
    (hy : ∀ w, S w → (execOp (Act.eval { tmps := T, defers := df }) oi).run P w = .ok (.value v) w) (hS : S w)
    (h : wpAnyH P md ops Q S fuel (listed.setIfInBounds i true) { tmps := T.setIfInBounds d v, defers := df } w) : wpAnyH P md ops Q S (fuel + 1) listed { tmps := T, defers := df } w := by
  refine wpAnyH_take hi hs hf hr hQ (.inl ⟨hw, hy⟩) hS ?_
  rw [hd]
  exact h
theorem reg_step (i : Nat) (oi : Oper) (v : Value) (w' : World) (hi : ops[i]? = some oi) (hr : Region.ready md ops listed = [i]) (hw : Region.wanted oi (yielded ops T) = true)
    (hst : ∀ (K : Act → World → Prop) (Q : Exit → Act → World → Prop), K (Act.put { tmps := T, defers := df } oi.dst v) w' → oi.wp P { tmps := T, defers := df } w K Q) (hS : S w')
    (T' : Array Value) (hp : Act.put { tmps := T, defers := df } oi.dst v = { tmps := T', defers := df })
    (h : wpAnyH P md ops Q S fuel (listed.setIfInBounds i true) { tmps := T', defers := df } w') : wpAnyH P md ops Q S (fuel + 1) listed { tmps := T, defers := df } w := by
  refine wpAnyH_ready (rs := [i]) hr (by simp) (AllReadyH.cons hi (fun K hK => ?_) AllReadyH.nil)
  rw [if_pos hw]
  refine hst K Q ?_
  rw [hp]
  exact hK.out _ _ hS (fun _ => h)
theorem reg_call (i : Nat) (oi : Oper) (d : Tmp) (v : Value) (R : World → Prop) (hi : ops[i]? = some oi) (hd : oi.dst = some d) (hr : Region.ready md ops listed = [i]) (hw : Region.wanted oi (yielded ops T) = true)
    (hst : ∀ (K : Act → World → Prop) (Q : Exit → Act → World → Prop), (∀ w', R w' → K (Act.put { tmps := T, defers := df } oi.dst v) w') → oi.wp P { tmps := T, defers := df } w K Q) (hS : ∀ w', R w' → S w')
    (h : ∀ w', R w' → wpAnyH P md ops Q S fuel (listed.setIfInBounds i true) { tmps := T.setIfInBounds d v, defers := df } w') : wpAnyH P md ops Q S (fuel + 1) listed { tmps := T, defers := df } w := by
  refine wpAnyH_ready (rs := [i]) hr (by simp) (AllReadyH.cons hi (fun K hK => ?_) AllReadyH.nil)
  rw [if_pos hw]
  refine hst K Q fun w' hR => ?_
  rw [hd]
  exact hK.out _ _ (hS w' hR) (fun _ => h w' hR)
theorem reg_callv (i : Nat) (oi : Oper) (d : Tmp) (R : Value → World → Prop) (hi : ops[i]? = some oi) (hd : oi.dst = some d) (hr : Region.ready md ops listed = [i]) (hw : Region.wanted oi (yielded ops T) = true)
    (hst : ∀ (K : Act → World → Prop) (Q : Exit → Act → World → Prop), (∀ v w', R v w' → K (Act.put { tmps := T, defers := df } oi.dst v) w') → oi.wp P { tmps := T, defers := df } w K Q) (hS : ∀ v w', R v w' → S w')
    (h : ∀ v w', R v w' → wpAnyH P md ops Q S fuel (listed.setIfInBounds i true) { tmps := T.setIfInBounds d v, defers := df } w') : wpAnyH P md ops Q S (fuel + 1) listed { tmps := T, defers := df } w := by
  refine wpAnyH_ready (rs := [i]) hr (by simp) (AllReadyH.cons hi (fun K hK => ?_) AllReadyH.nil)
  rw [if_pos hw]
  refine hst K Q fun v w' hR => ?_
  rw [hd]
  exact hK.out _ _ (hS v w' hR) (fun _ => h v w' hR)
end
/-- A call, as one step: by the callee's contract. -/
theorem wp_callFn {P : Program} {o : Oper} {a : Act} {w : World} {K : Act → World → Prop} {Q : Exit → Act → World → Prop} (f : FuncId) (xs : Array Operand) (ats : Array TypeId)
    (ho : o.op = .call { callee := .value (.func f), args := xs, argTypes := ats }) (args : Array Value) (hx : xs.map a.eval = args) (ef : ∀ args w, (callFunc f args).run P w = .ok (.enter f args) w)
    {R : Ending → World → Prop} (hc : Calls P f args w R) (h : ∀ e w', R e w' → ∃ v, e = .returned v ∧ K (a.put o.dst v) w') : o.wp P a w K Q := by
  subst hx
  unfold Oper.wp execOp
  simp only [ho]
  simp [resolve, invoke, go_sem, ef]
  refine Calls.mono hc fun e w' hR => ?_
  obtain ⟨v, rfl, hk⟩ := h e w' hR
  exact hk
/-- A store of a whole array or struct into its own variable, as one step. -/
theorem wp_store_row {P : Program} {o : Oper} {a : Act} {w : World} {K : Act → World → Prop} {Q : Exit → Act → World → Prop} (t : TypeId) (x y : Operand)
    (ho : o.op = .store t x y) (g : Nat) (hx : a.eval x = .pointer (some ⟨g, 0, none⟩)) (cs : Array Value) (hy : a.eval y = .agg cs) (old : Array Value) (e : TypeId)
    (hg : Blk w g e old) (hi : (P.info? t).map (·.size) = some cs.size) (hs : old.size = cs.size) (h1 : ∀ v ∈ cs.toList, v.oneCell' = true)
    (h : K (a.put o.dst undef) (w.setRow g cs)) : o.wp P a w K Q := by
  have hK' := h
  obtain ⟨fr, hg, hfr⟩ := hg
  have hst := run_storeCells_free (P := P) g 0 e fr cs.toList 0 old w hg hfr (by simp [hs]) h1
  have e1 : (old.toList.take 0 ++ cs.toList ++ old.toList.drop (cs.toList.length)).toArray = cs := by
    rw [List.drop_of_length_le (by simp [hs])]
    simp
  simp only [Nat.add_zero, Nat.zero_add] at hst
  rw [e1] at hst
  unfold Oper.wp execOp
  cases hq : P.info? t with
  | none => simp [hq] at hi
  | some i =>
    have hz : i.size = cs.size := by simpa [hq] using hi
    simp [ho, hx, hy, Instr.storeAt, Instr.sureAddr, storeVar, sizeOf, typeInfo, hq, hz, Value.cells, hst]
    exact hK'

theorem wp_store1 {P : Program} {w : World} {o : Oper} {a : Act} {K : Act → World → Prop} {Q : Exit → Act → World → Prop} (T : TypeId) (x y : Operand)
    (ho : o.op = .store T x y) (g : Nat) (v c : Value) (t : TypeId) (hx : a.eval x = .pointer (some ⟨g, 0, none⟩)) (hy : a.eval y = v) (hb : Blk w g t #[c])
    (hi : (P.info? T).map (·.size) = some 1) (hv : v.cells = #[v]) (hv1 : v.oneCell' = true) (h : K (a.put o.dst undef) (w.setCell ⟨g, 0, none⟩ v)) : o.wp P a w K Q := by
  have hst : (storeCells ⟨g, 0, none⟩ [v]).run P w = .ok () (w.setCell ⟨g, 0, none⟩ v) := by
    have h0 := run_store P w ⟨g, 0, none⟩ v .plain hv1
    unfold stored at h0
    have hc : w.cell? ⟨g, 0, none⟩ = some c := hb.cell 0
    have hf : w.frozen? ⟨g, 0, none⟩ = false := hb.frozen (by simp)
    simp [hc, hf] at h0
    simp [storeCells, Addr.add, h0]
  unfold Oper.wp execOp
  cases hq : P.info? T with
  | none => simp [hq] at hi
  | some i =>
    have hsz : i.size = 1 := by simpa [hq] using hi
    simp [ho, hx, hy, Instr.storeAt, Instr.sureAddr, storeVar, sizeOf, typeInfo, hq, hsz, hv, hst]
    exact h
theorem wp_assign {P : Program} {o : Oper} {a : Act} {w : World} {K : Act → World → Prop} {Q : Exit → Act → World → Prop} (x : Operand) (ho : o.op = .assign x) (h : K (a.put o.dst (a.eval x)) w) : o.wp P a w K Q := by
  unfold Oper.wp execOp
  simp [ho]
  exact h
end Go.Proofs.Ytklfaccjbdkfhaa
