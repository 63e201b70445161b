/- Maps from strings, as functions. No condition. -/
import Derived.Test.YtbobpgjgknkogaaI2
import Derived.Maps.Own
import Derived.Maps.OwnOps
import Derived.Maps.OwnSet
namespace Go.Proofs.Ytbobpgjgknkogaa
open Go.RowKit Go.Maps
open Go.WideMaps (keyOf_string_mk)
theorem keyS : Keyed Try.prog 9 := string_keyed Try.underlying9
theorem zeroB (w : World) : (zeroValue 4).run Try.prog w = .ok (.bool false) w := by kernel_rfl
theorem zeroI (w : World) : (zeroValue 3).run Try.prog w = .ok (.int .i64 0) w := by kernel_rfl
theorem keyOfS (s : List UInt8) (h : s.length ≤ maxLen) : keyOf Try.prog 9 (.string ⟨s.toArray⟩) = some (.string s) := by
  have := keyOf_string_mk Try.underlying9 (s := ⟨s.toArray⟩) (by simpa [ByteArray.size] using h)
  simpa using this
/-- Block b is a map that holds, at the string s, what f says. -/
def MapF (w : World) (e : TypeId) (b n : Nat) (f : List UInt8 → Option (DataW Unit)) : Prop :=
  ∃ D : DataW Unit, w.ownsMap Try.prog 9 (plainElem Try.prog e) b n D ∧ ∀ s, has D (.string s) = (f s).isSome ∧ ∀ z, D.atKey (.string s) z = (f s).getD z
theorem MapF.kept {w w' : World} {e : TypeId} {b n : Nat} {f : List UInt8 → Option (DataW Unit)} {row : Option Nat} (h : MapF w e b n f) (hg : w.grownBy w' row) (hne : some b ≠ row) : MapF w' e b n f :=
  let ⟨D, h1, h2⟩ := h; ⟨D, h1.kept hg hne, h2⟩
theorem MapF.lt {w : World} {e : TypeId} {b n : Nat} {f : List UInt8 → Option (DataW Unit)} (h : MapF w e b n f) : b < w.heap.size := let ⟨_, h1, _⟩ := h; h1.lt
theorem MapF.alloc {w : World} {e : TypeId} {b n : Nat} {f : List UInt8 → Option (DataW Unit)} (h : MapF w e b n f) (o : Obj) : MapF (w.alloc o) e b n f := let ⟨D, h1, h2⟩ := h; ⟨D, h1.alloc o, h2⟩
theorem MapF.drew {w : World} {e : TypeId} {b n : Nat} {f : List UInt8 → Option (DataW Unit)} (h : MapF w e b n f) : MapF w.drew e b n f := h
theorem MapF.below {w w' : World} {e : TypeId} {b n B : Nat} {f : List UInt8 → Option (DataW Unit)} (h : MapF w e b n f) (hb : Below B w w') (hB : b < B) : MapF w' e b n f := by
  obtain ⟨D, ⟨es, clock, h1, h3⟩, h2⟩ := h
  exact ⟨D, ⟨es, clock, (hb.block b hB).trans h1, h3⟩, h2⟩
theorem MapF.on {w w' : World} {e : TypeId} {b n : Nat} {f : List UInt8 → Option (DataW Unit)} (h : MapF w e b n f) (hb : Below w.heap.size w w') : MapF w' e b n f := h.below hb h.lt
theorem MapF.setCell {w : World} {e : TypeId} {b n : Nat} {f : List UInt8 → Option (DataW Unit)} (h : MapF w e b n f) {a : Addr} (ha : b ≠ a.block) (u : Value) : MapF (w.setCell a u) e b n f :=
  let ⟨D, h1, h2⟩ := h; ⟨D, h1.setCell ha u, h2⟩
theorem MapF.ext {w : World} {e : TypeId} {b n : Nat} {f g : List UInt8 → Option (DataW Unit)} (h : MapF w e b n f) (hfg : ∀ s, f s = g s) : MapF w e b n g := by
  have : f = g := funext hfg
  rwa [this] at h
theorem MapF.made (w : World) (e : TypeId) : MapF (w.alloc (.map #[] 0)) e w.heap.size 0 (fun _ => none) :=
  ⟨.map [], World.ownsMap_made _ _ _ _, fun _ => ⟨rfl, fun _ => rfl⟩⟩
theorem MapF.update {w : World} {e t : TypeId} {b n : Nat} {f : List UInt8 → Option (DataW Unit)} (h : MapF w e b n f) (ht : Try.prog.underlying t = some (.map 9 e)) (hn : n < maxLen) (s : List UInt8) (hs : s.length ≤ maxLen) {val : Value} {d : DataW Unit} {ps : List MemPlace}
    (hv : plainElem Try.prog e val = some (d, ps)) : ∃ w', (Instr.mapUpdate t (.map (some b)) (.string ⟨s.toArray⟩) val).run Try.prog w = .ok () w' ∧ MapF w' e b (n + 1) (fun x => if x = s then some d else f x) ∧ w.grownBy w' (some b) := by
  obtain ⟨D, h1, h2⟩ := h
  obtain ⟨w', hrun, h3, h4⟩ := h1.update keyS ht hn (keyOfS s hs) hv
  refine ⟨w', hrun, ⟨D.put (.string s) d, h3, fun x => ?_⟩, h4⟩
  by_cases hx : x = s
  · subst hx
    simp only [if_true]
    exact ⟨has_put_same h1.isMap (show WideAt.IsKeyLit (.string x) from trivial) d, fun z => atKey_put_same h1.isMap (show WideAt.IsKeyLit (.string x) from trivial) d z⟩
  · have hne : (Lit.string x) ≠ .string s := fun h => hx (by injection h)
    simp only [if_neg hx]
    exact ⟨(has_put_other hne d).trans (h2 x).1, fun z => (atKey_put_other hne d z).trans ((h2 x).2 z)⟩
theorem bool_inv {v : Value} {x : Bool} {ps : List MemPlace} (h : plainElem (H := Unit) Try.prog 4 v = some (.lit (.bool x), ps)) : v = .bool x := by
  unfold plainElem at h
  rw [Try.underlying4] at h
  cases v <;> simp at h
  exact congrArg _ h.1
def seenF (l : List (List UInt8)) (s : List UInt8) : Option (DataW Unit) := if l.contains s = true then some (.lit (.bool true)) else none
def idxF : List (List UInt8) → List UInt8 → Option Nat
  | [], _ => none
  | x :: l, s => if x = s then some 0 else (idxF l s).map (· + 1)
def numF (l : List (List UInt8)) (s : List UInt8) : Option (DataW Unit) := (idxF l s).map (fun i => .lit (.int .i64 (i : Int)))
theorem seenF_snoc (l : List (List UInt8)) (s x : List UInt8) : (if x = s then some (.lit (.bool true)) else seenF l x) = seenF (l ++ [s]) x := by
  unfold seenF
  by_cases h : x = s
  · subst h; simp
  · simp [h]
theorem idxF_none {l : List (List UInt8)} {s : List UInt8} : idxF l s = none ↔ s ∉ l := by
  induction l with
  | nil => simp [idxF]
  | cons x l ih =>
    unfold idxF
    by_cases h : x = s
    · subst h; simp
    · have hs : ¬ s = x := fun e => h e.symm
      rw [if_neg h, Option.map_eq_none_iff, ih]
      simp [hs]
theorem idxF_snoc {l : List (List UInt8)} {s : List UInt8} (h : s ∉ l) (x : List UInt8) : idxF (l ++ [s]) x = if x = s then some l.length else idxF l x := by
  induction l with
  | nil =>
    by_cases hx : x = s
    · subst hx; simp [idxF]
    · simp [idxF, hx, Ne.symm hx]
  | cons y l ih =>
    have hy : y ≠ s := fun e => h (by simp [e])
    have hl : s ∉ l := fun e => h (by simp [e])
    have ih := ih hl
    show (if y = x then some 0 else (idxF (l ++ [s]) x).map (· + 1)) = _
    rw [ih]
    by_cases hyx : y = x
    · subst hyx; rw [if_pos rfl, if_neg hy]; simp [idxF]
    · rw [if_neg hyx]
      by_cases hx : x = s
      · rw [if_pos hx, if_pos hx]; rfl
      · rw [if_neg hx, if_neg hx]
        show _ = (if y = x then some 0 else (idxF l x).map (· + 1))
        rw [if_neg hyx]
theorem numF_snoc {l : List (List UInt8)} {s : List UInt8} (h : s ∉ l) (x : List UInt8) : (if x = s then some (.lit (.int .i64 (l.length : Int))) else numF l x) = numF (l ++ [s]) x := by
  unfold numF
  rw [idxF_snoc h x]
  by_cases hx : x = s
  · rw [if_pos hx, if_pos hx]; rfl
  · rw [if_neg hx, if_neg hx]
section
variable {w : World} {ops : Array Oper} {rest : List Oper} {o : Oper} {a : Act} {Q : Exit → Act → World → Prop}
/-- 'seen[s]'. -/
theorem wpList_seen (hg : o.guard = none) (m x : Operand) (hop : o.op = Op.lookup 60 m x false) {b n : Nat} {l : List (List UInt8)} (h : MapF w 4 b n (seenF l)) (s : List UInt8) (hs : s.length ≤ maxLen)
    (hm : a.eval m = .map (some b)) (hx : a.eval x = .string ⟨s.toArray⟩) (hK : wpList Try.prog ops Q rest (a.put o.dst (.bool (l.contains s))) w) : wpList Try.prog ops Q (o :: rest) a w := by
  refine wpList_plain hg fun K' hK' => ?_
  obtain ⟨D, h1, h2⟩ := h
  obtain ⟨r, hr⟩ : ∃ r, l.contains s = r := ⟨_, rfl⟩
  rw [hr] at hK
  obtain ⟨v, ps, hrun, hv⟩ := h1.lookup keyS Try.underlying60 (zeroB w) (plainElem_bool Try.underlying4 false) (keyOfS s hs)
  have hat : D.atKey (.string s) (.lit (.bool false)) = .lit (.bool r) := by
    rw [(h2 s).2]
    unfold seenF
    rw [hr]
    cases r <;> rfl
  rw [hat] at hv
  obtain rfl := bool_inv hv
  unfold Oper.wp
  simp [execOp, hop, hm, hx, hrun, Result.andThen]
  exact hK' _ _ hK
/-- 'm[s] = v'. -/
theorem wpList_putF (hg : o.guard = none) (m x v : Operand) (t e : TypeId) (hop : o.op = Op.mapUpdate t m x v) (ht : Try.prog.underlying t = some (.map 9 e)) {b n : Nat} {f : List UInt8 → Option (DataW Unit)} (h : MapF w e b n f) (hn : n < maxLen) (s : List UInt8) (hs : s.length ≤ maxLen)
    (hm : a.eval m = .map (some b)) (hx : a.eval x = .string ⟨s.toArray⟩) {val : Value} (hv : a.eval v = val) {d : DataW Unit} {ps : List MemPlace} (hd : plainElem Try.prog e val = some (d, ps))
    (hK : ∀ w', MapF w' e b (n + 1) (fun x => if x = s then some d else f x) → w.grownBy w' (some b) → wpList Try.prog ops Q rest (a.put o.dst undef) w') : wpList Try.prog ops Q (o :: rest) a w := by
  refine wpList_plain hg fun K' hK' => ?_
  obtain ⟨w', hrun, h1, h2⟩ := h.update ht hn s hs hd
  unfold Oper.wp
  simp [execOp, hop, hm, hx, hv, hrun, Result.andThen]
  exact hK' _ _ (hK w' h1 h2)
/-- 'n, is := numbers[s]'. -/
theorem wpList_num (hg : o.guard = none) (m x : Operand) (hop : o.op = Op.lookup 65 m x true) {b n : Nat} {l : List (List UInt8)} (h : MapF w 3 b n (numF l)) (s : List UInt8) (hs : s.length ≤ maxLen)
    (hm : a.eval m = .map (some b)) (hx : a.eval x = .string ⟨s.toArray⟩) (hK : wpList Try.prog ops Q rest (a.put o.dst (.tuple #[.int .i64 (((idxF l s).getD 0 : Nat) : Int), .bool (idxF l s).isSome])) w) : wpList Try.prog ops Q (o :: rest) a w := by
  obtain ⟨D, h1, h2⟩ := h
  refine wpList_lookup_own_ok_int w hg m x 65 hop 9 3 .i64 keyS Try.underlying65 Try.underlying3 (zeroI w) b n D hm h1 _ (.string s) hx (keyOfS s hs) fun c hat hw => ?_
  have h3 := (h2 s).1
  have h4 := (h2 s).2 (.lit (.int .i64 0))
  rw [hat] at h4
  rw [h3]
  unfold numF at h4 ⊢
  cases hi : idxF l s with
  | none =>
    rw [hi] at h4 hK
    injection h4 with h4
    injection h4 with _ h4
    subst h4
    exact hK
  | some i =>
    rw [hi] at h4 hK
    injection h4 with h4
    injection h4 with _ h4
    subst h4
    exact hK
end
end Go.Proofs.Ytbobpgjgknkogaa
