/- A region that draws its order in a round of a range over a function, where it holds no call of a Go function: by the steps of a region outside a round. No condition. -/
import Derived.Test.YtklfaccjbdkfhaaRg
import Derived.Test.YtklfaccjbdkfhaaRange
namespace Go.Proofs.Ytklfaccjbdkfhaa
open Go.RowKit Go.Shelf
/-- An operation that makes no call, and defers none. -/
def Tame (o : Oper) : Prop := (∀ c, o.op ≠ .defer c) ∧ (∀ P w ρ, o.about P w ρ = none) ∧ ∀ P w ρ x w', (execOp ρ o).run P w = .ok x w' → (∃ v, x = .value v) ∨ x = .skip
theorem wpIn_of_tame {F : Fence} {n : Nat} {P : Program} {o : Oper} {a : Act} {w : World} {K : Act → World → Prop} {Q : Exit → Act → World → Prop} (ht : Tame o) (h : o.wp P a w K Q) : o.wpIn F n P a w K Q := by
  refine ⟨fun f hf => (by rw [ht.2.1] at hf; cases hf), ?_⟩
  rw [Oper.semAt_plain F _ _ ht.1]
  unfold Oper.wp at h
  cases hr : (execOp a.eval o).run P w with
  | ok x w' =>
    rw [hr] at h
    rcases ht.2.2 _ _ _ _ _ hr with ⟨v, rfl⟩ | rfl
    · exact h
    · exact h
  | halt x w' =>
    rw [hr] at h
    cases x <;> exact h
theorem wpAnyIn_of_tame {F : Fence} {n : Nat} {P : Program} {md : Region.Mode} {ops : Array Oper} {Q : Exit → Act → World → Prop} (ht : ∀ o ∈ ops, Tame o) (hLO : ∀ a w, ¬ Q .outgrown a w) :
    ∀ (fuel : Nat) (listed : Array Bool) (a : Act) (w : World), wpAny P md ops Q fuel listed a w → wpAnyIn F n P md ops Q fuel listed a w
  | 0, _, _, _, h => h
  | fuel + 1, listed, a, w, h => ⟨h.1, fun i hi => by
    have h2 := wpOp_mono (fun a' w' h' => wpAnyIn_of_tame (F := F) (n := n) ht hLO fuel _ a' w' h') (h.2 i hi)
    unfold wpOp at h2
    unfold wpOpIn
    cases ho : ops[i]? with
    | none => rw [ho] at h2; exact h2
    | some o =>
      have hto := ht o (Array.mem_of_getElem? ho)
      rw [ho] at h2
      simp only at h2 ⊢
      split
      · rename_i hw
        rw [if_pos hw] at h2
        rcases h2 with h2 | ⟨_, a', w', h2⟩
        · exact wpIn_of_tame hto h2
        · exact absurd h2 (hLO a' w')
      · rename_i hw
        rw [if_neg hw] at h2
        exact ⟨fun f hf => (by rw [hto.2.1] at hf; cases hf), h2⟩⟩
theorem wpIn_region_tame {F : Fence} {n : Nat} {P : Program} {ops : Array Oper} {Q : Exit → Act → World → Prop} {S : World → Prop} {id : Nat} {a : Act} {w : World} (hm : P.follows .mixedOrders = true) (ht : ∀ o ∈ ops, Tame o) (hLO : ∀ a w, ¬ Q .outgrown a w)
    (h : wpAnyH P .any ops Q S ops.size (Array.replicate ops.size false) a w.drew) : (Code.region id ops true).wpIn F n P Q a w :=
  wpIn_region_any hm (wpAnyIn_of_tame ht hLO _ _ _ _ (wpAny_of_held _ _ _ _ h))
theorem value_only {P : Program} {w w' : World} {s : Sem Value} {x : Next} (h : (do pure (Next.value (← s)) : Sem Next).run P w = .ok x w') : ∃ v, x = .value v := by
  rw [Sem.run_bind] at h
  cases hr : s.run P w with
  | ok v w1 => rw [hr] at h; simp only [Result.andThen_ok, Sem.run_pure] at h; cases h; exact ⟨v, rfl⟩
  | halt e w1 => rw [hr] at h; cases h
theorem skip_only {P : Program} {w w' : World} {s : Sem Unit} {x : Next} (h : (do s; pure Next.skip : Sem Next).run P w = .ok x w') : x = .skip := by
  rw [Sem.run_bind] at h
  cases hr : s.run P w with
  | ok v w1 => rw [hr] at h; simp only [Result.andThen_ok, Sem.run_pure] at h; cases h; rfl
  | halt e w1 => rw [hr] at h; cases h
theorem tame_load {o : Oper} {t : TypeId} {x : Operand} (ho : o.op = .load t x) : Tame o := by
  refine ⟨fun c h => (by rw [ho] at h; cases h), fun P w ρ => (by simp [Oper.about, ho]), fun P w ρ x w' h => .inl ?_⟩
  unfold execOp at h
  simp only [ho] at h
  exact value_only h
theorem tame_store {o : Oper} {t : TypeId} {x y : Operand} (ho : o.op = .store t x y) : Tame o := by
  refine ⟨fun c h => (by rw [ho] at h; cases h), fun P w ρ => (by simp [Oper.about, ho]), fun P w ρ x w' h => .inr ?_⟩
  unfold execOp at h
  simp only [ho] at h
  exact skip_only h
theorem tame_build {o : Oper} {t : TypeId} {k : Nat} {xs : Array (Nat × Operand)} (ho : o.op = .buildSlice t k xs) : Tame o := by
  refine ⟨fun c h => (by rw [ho] at h; cases h), fun P w ρ => (by simp [Oper.about, ho]), fun P w ρ x w' h => .inl ?_⟩
  unfold execOp at h
  simp only [ho] at h
  exact value_only h
theorem tame_append {o : Oper} {xs : Array Operand} {ts : Array TypeId} (ho : o.op = .call { callee := .builtin .append, args := xs, argTypes := ts }) : Tame o := by
  refine ⟨fun c h => (by rw [ho] at h; cases h), fun P w ρ => (by simp [Oper.about, ho, resolve, Target.leads, Sem.run_pure]), fun P w ρ x w' h => .inl ?_⟩
  unfold execOp at h
  simp only [ho, resolve, Sem.run_bind, Sem.run_pure, Result.andThen_ok, invoke, builtin] at h
  cases hr : (Builtin.append_ ts o.type (xs.map ρ)).run P w with
  | ok v w1 => rw [hr] at h; simp only [Result.andThen_ok] at h; cases h; exact ⟨v, rfl⟩
  | halt e w1 => rw [hr] at h; cases h
theorem run_loadVar_1 {P : Program} (w : World) (g : Nat) (t ty : TypeId) (v : Value) (d : TypeDesc) (hg : Blk w g t #[v])
    (hu : P.underlying ty = some d) (hd : (match d with | .struct _ | .array _ _ => true | _ => false) = false) :
    (loadVar ty ⟨g, 0, none⟩).run P w = .ok v w := by
  have hc : w.cell? ⟨g, 0, none⟩ = some v := hg.cell 0
  have hu' := hu
  unfold Program.underlying at hu'
  cases d <;> simp_all [loadVar, isAgg, underlying, Program.underlying, Sem.run_bind, Result.andThen]
theorem exec_load_1 {P : Program} {o : Oper} {ρ : Operand → Value} {w : World} (ty : TypeId) (x : Operand) (ho : o.op = .load ty x) (g : Nat) (hx : ρ x = .pointer (some ⟨g, 0, none⟩)) (t : TypeId) (v : Value) (d : TypeDesc) (hg : Blk w g t #[v])
    (hu : P.underlying ty = some d) (hd : (match d with | .struct _ | .array _ _ => true | _ => false) = false) : (execOp ρ o).run P w = .ok (.value v) w := by
  simp only [execOp, ho, hx, Instr.loadAt, Instr.sureAddr, Sem.run_bind, Sem.run_pure, Result.andThen_ok, run_loadVar_1 w g t ty v d hg hu hd]
theorem wp_exec {P : Program} {o : Oper} {a : Act} {w w' : World} {v : Value} {K : Act → World → Prop} {Q : Exit → Act → World → Prop} (hr : (execOp a.eval o).run P w = .ok (.value v) w') (h : K (a.put o.dst v) w') : o.wp P a w K Q := by
  unfold Oper.wp
  rw [hr]
  exact h
section
variable {P : Program} {md : Region.Mode} {ops : Array Oper} {Q : Exit → Act → World → Prop} {S : World → Prop} {fuel : Nat} {listed : Array Bool} {w : World} {T : Array Value} {df : List Deferred}
/-- Two operations may come up next. -/
theorem reg_two (i j : Nat) (oi oj : Oper) (vi vj : Value) (wi wj : World) (hi : ops[i]? = some oi) (hj : ops[j]? = some oj) (hr : Region.ready md ops listed = [i, j]) (hwi : Region.wanted oi (yielded ops T) = true) (hwj : Region.wanted oj (yielded ops T) = true)
    (hsi : ∀ (K : Act → World → Prop) (Q : Exit → Act → World → Prop), K (Act.put { tmps := T, defers := df } oi.dst vi) wi → oi.wp P { tmps := T, defers := df } w K Q)
    (hsj : ∀ (K : Act → World → Prop) (Q : Exit → Act → World → Prop), K (Act.put { tmps := T, defers := df } oj.dst vj) wj → oj.wp P { tmps := T, defers := df } w K Q) (hSi : S wi) (hSj : S wj)
    (Ti Tj : Array Value) (hpi : Act.put { tmps := T, defers := df } oi.dst vi = { tmps := Ti, defers := df }) (hpj : Act.put { tmps := T, defers := df } oj.dst vj = { tmps := Tj, defers := df })
    (h1 : wpAnyH P md ops Q S fuel (listed.setIfInBounds i true) { tmps := Ti, defers := df } wi) (h2 : wpAnyH P md ops Q S fuel (listed.setIfInBounds j true) { tmps := Tj, defers := df } wj) :
    wpAnyH P md ops Q S (fuel + 1) listed { tmps := T, defers := df } w := by
  refine wpAnyH_ready (rs := [i, j]) hr (by simp) (AllReadyH.cons hi (fun K hK => ?_) (AllReadyH.cons hj (fun K hK => ?_) AllReadyH.nil))
  · rw [if_pos hwi]
    refine hsi K Q ?_
    rw [hpi]
    exact hK.out _ _ hSi (fun _ => h1)
  · rw [if_pos hwj]
    refine hsj K Q ?_
    rw [hpj]
    exact hK.out _ _ hSj (fun _ => h2)
end
end Go.Proofs.Ytklfaccjbdkfhaa
