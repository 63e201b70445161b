/- Words and laws that all walks of this seat use: blocks known whole, slices that read as lists, slices of the call's own that may be appended to, allocation and storing of whole arrays and structs. No condition. -/
import Derived.Test.YtbobpgjgknkogaaProg
import Derived.WalkKit
import Derived.Laws.CopyOwn
import Derived.Maps.AppendAt
import Derived.Deep.Draws
import Derived.Lib.Hide
import Derived.BigQuiet
import Derived.Deep.QuietTactic
import Derived.StillTailTactics
import Derived.Deep.RegionHeld3
import Derived.Deep.RegionLaw
import Derived.WalkSpells
import Derived.WalkLawsBesides
namespace Go.Proofs.Ytbobpgjgknkogaa
open Go.RowKit

/-- The mark 'fr' freezes none of the first n cells. -/
def Free (fr : Nat × Nat) (n : Nat) : Prop := ∀ i, i < n → ¬ (fr.1 ≤ i ∧ i < fr.2)
theorem Free.zero (n : Nat) : Free (0, 0) n := fun _ _ h => by simp at h
theorem Free.tail (n : Nat) : Free (n, n + 1) n := fun i hi h => by have := h.1; simp at this; omega

/-- A block that is known whole, none of its cells frozen. -/
def Blk (w : World) (g : Nat) (t : TypeId) (cs : Array Value) : Prop := ∃ fr, w.heap[g]? = some (.cells cs t fr) ∧ Free fr cs.size
section
variable {w w' : World} {g : Nat} {t : TypeId} {cs : Array Value}
theorem Blk.lt (h : Blk w g t cs) : g < w.heap.size := let ⟨_, h, _⟩ := h; (Array.getElem?_eq_some_iff.1 h).1
theorem Blk.cell (h : Blk w g t cs) (i : Nat) : w.cell? ⟨g, i, none⟩ = cs[i]? := let ⟨fr, h, _⟩ := h; cell_of_row w g i cs t fr h
theorem Blk.frozen (h : Blk w g t cs) {i : Nat} (hi : i < cs.size) : w.frozen? ⟨g, i, none⟩ = false := by
  obtain ⟨fr, h, hf⟩ := h
  obtain ⟨lo, hi'⟩ := fr
  have := hf i hi
  simp only [World.frozen?, h]
  simpa using this
theorem Blk.of (h : w.heap[g]? = some (.cells cs t (0, 0))) : Blk w g t cs := ⟨_, h, Free.zero _⟩
theorem Blk.new (w : World) (t : TypeId) (cs : Array Value) : Blk (w.alloc (.cells cs t)) w.heap.size t cs := .of (heap_alloc_new w _)
theorem Blk.newAt (w : World) (t : TypeId) (cs : Array Value) (hg : g = w.heap.size) : Blk (w.alloc (.cells cs t)) g t cs := by subst hg; exact .new w t cs
theorem Blk.drew (h : Blk w g t cs) : Blk w.drew g t cs := h
theorem Blk.drewN (h : Blk w g t cs) (n : Nat) : Blk (w.drewN n) g t cs := h
theorem Blk.alloc (h : Blk w g t cs) (o : Obj) : Blk (w.alloc o) g t cs := let ⟨fr, h', hf⟩ := h; ⟨fr, (Below.heap_alloc w o g h.lt).trans h', hf⟩
theorem Blk.far (h : Blk w g t cs) {p : Addr} (hp : g ≠ p.block) (u : Value) : Blk (w.setCell p u) g t cs := let ⟨fr, h', hf⟩ := h; ⟨fr, (Below.heap_setCell w p u g hp).trans h', hf⟩
theorem Blk.below {B : Nat} (h : Blk w g t cs) (hb : Below B w w') (hg : g < B) : Blk w' g t cs := let ⟨fr, h', hf⟩ := h; ⟨fr, (hb.block g hg).trans h', hf⟩
theorem Blk.grown {row : Option Nat} (h : Blk w g t cs) (hb : w.grownBy w' row) (hg : some g ≠ row) : Blk w' g t cs := let ⟨fr, h', hf⟩ := h; ⟨fr, (hb.block g h.lt hg).trans h', hf⟩
theorem Blk.set (h : Blk w g t cs) (i : Nat) (u : Value) : Blk (w.setCell ⟨g, i, none⟩ u) g t (cs.setIfInBounds i u) := by
  obtain ⟨fr, h, hf⟩ := h
  refine ⟨fr, ?_, by simpa using hf⟩
  simp [World.setCell, Array.getElem?_modify, h]
theorem Blk.row (h : Blk w g t cs) (ds : Array Value) (hs : ds.size = cs.size) : Blk (w.setRow g ds) g t ds := let ⟨fr, h', hf⟩ := h; ⟨fr, setRow_heap w g cs ds t fr h', by rw [hs]; exact hf⟩
theorem Blk.rowFar (h : Blk w g t cs) {k : Nat} (hk : g ≠ k) (ds : Array Value) : Blk (w.setRow k ds) g t cs := let ⟨fr, h', hf⟩ := h; ⟨fr, (setRow_other w k g ds hk).trans h', hf⟩
end

/-- 'var x T': a new block with the type's zero value. -/
theorem wpList_alloc_z {P : Program} {ops : Array Oper} {rest : List Oper} {o : Oper} {a : Act} {w : World} {Q : Exit → Act → World → Prop} (hgd : o.guard = none) (t : TypeId)
    (ho : o.op = .alloc t) (z : Value) (hz : (P.info? t).map (·.zero) = some (some z))
    (h : wpList P ops Q rest (a.put o.dst (.pointer (some ⟨w.heap.size, 0, none⟩))) (w.alloc (.cells z.cells t))) : wpList P ops Q (o :: rest) a w := by
  refine wpList_plain hgd fun _ hK => ?_
  have hK' := hK _ _ h
  have hrun : (Instr.alloc t true (.tuple #[])).run P w = .ok (.pointer (some ⟨w.heap.size, 0, none⟩)) (w.alloc (.cells z.cells t)) := by
    cases hq : P.info? t with
    | none => simp [hq] at hz
    | some i =>
      have hi : i.zero = some z := by simpa [hq] using hz
      simp [Instr.alloc, zeroValue, typeInfo, hq, hi, newVar, newRow]
  unfold Oper.wp execOp
  simp only [ho, Sem.run_bind, Sem.run_pure, hrun, Result.andThen_ok]
  exact hK'

/-- Storing a list of cells into a block none of whose cells is frozen. -/
theorem run_storeCells_free {P : Program} (g o : Nat) (t : TypeId) (fr : Nat × Nat) : ∀ (vs : List Value) (i : Nat) (cur : Array Value) (w : World), w.heap[g]? = some (.cells cur t fr) → Free fr cur.size →
    o + i + vs.length ≤ cur.size → (∀ v ∈ vs, v.oneCell' = true) →
    (storeCells ⟨g, o, none⟩ vs i).run P w = .ok () (w.setRow g (cur.toList.take (o + i) ++ vs ++ cur.toList.drop (o + i + vs.length)).toArray)
  | [], i, cur, w, hg, _, _, _ => by
    simp only [storeCells, List.append_nil, List.length_nil, Nat.add_zero, List.take_append_drop, Array.toArray_toList]
    rw [setRow_self w g cur t fr hg]
    rfl
  | v :: rest, i, cur, w, hg, hfr, hl, h1 => by
    have hi : o + i < cur.size := by simp at hl; omega
    have hadd : (⟨g, o, none⟩ : Addr).add i = ⟨g, o + i, none⟩ := by unfold Addr.add; split <;> simp_all
    have hcell : w.cell? ⟨g, o + i, none⟩ = some cur[o + i] := by simp [World.cell?, hg, hi]
    have hfro : w.frozen? ⟨g, o + i, none⟩ = false := Blk.frozen (t := t) ⟨fr, hg, hfr⟩ hi
    have hst : (store ((⟨g, o, none⟩ : Addr).add i) v).run P w = .ok () (w.setRow g (cur.setIfInBounds (o + i) v)) := by
      rw [hadd, run_store P w _ v _ (h1 v (by simp)), hcell]
      simp [hfro, setCell_eq_setRow w g (o + i) cur t fr v hg]
    have ih := run_storeCells_free (P := P) g o t fr rest (i + 1) (cur.setIfInBounds (o + i) v) (w.setRow g (cur.setIfInBounds (o + i) v)) (setRow_heap w g cur _ t _ hg) (by simpa using hfr) (by simp at hl ⊢; omega) (fun x hx => h1 x (by simp [hx]))
    simp only [storeCells, Sem.run_bind, hst, Result.andThen_ok, ih, setRow_setRow]
    congr 3
    have e := list_seg_step cur.toList (o + i) v rest (by simp at hl ⊢; omega)
    simpa [Array.toList_setIfInBounds, Nat.add_assoc] using e

/-- A store of a whole array or struct into its own variable. -/
theorem wpList_store_row {P : Program} {ops : Array Oper} {rest : List Oper} {o : Oper} {a : Act} {w : World} {Q : Exit → Act → World → Prop} (hgd : o.guard = none) (t : TypeId) (x y : Operand)
    (ho : o.op = .store t x y) (g : Nat) (hx : a.eval x = .pointer (some ⟨g, 0, none⟩)) (cs : Array Value) (hy : a.eval y = .agg cs) (old : Array Value) (e : TypeId)
    (hg : Blk w g e old) (hi : (P.info? t).map (·.size) = some cs.size) (hs : old.size = cs.size) (h1 : ∀ v ∈ cs.toList, v.oneCell' = true)
    (h : wpList P ops Q rest (a.put o.dst undef) (w.setRow g cs)) : wpList P ops Q (o :: rest) a w := by
  refine wpList_plain hgd fun _ hK => ?_
  have hK' := hK _ _ h
  obtain ⟨fr, hg, hfr⟩ := hg
  have hst := run_storeCells_free (P := P) g 0 e fr cs.toList 0 old w hg hfr (by simp [hs]) h1
  have e1 : (old.toList.take 0 ++ cs.toList ++ old.toList.drop (cs.toList.length)).toArray = cs := by
    rw [List.drop_of_length_le (by simp [hs])]
    simp
  simp only [Nat.add_zero, Nat.zero_add] at hst
  rw [e1] at hst
  unfold Oper.wp execOp
  cases hq : P.info? t with
  | none => simp [hq] at hi
  | some i =>
    have hz : i.size = cs.size := by simpa [hq] using hi
    simp [ho, hx, hy, Instr.storeAt, Instr.sureAddr, storeVar, sizeOf, typeInfo, hq, hz, Value.cells, hst]
    exact hK'

/-- A load of a whole array or struct; a result that is one. -/
theorem wpList_load_blk {P : Program} {ops : Array Oper} {rest : List Oper} {o : Oper} {a : Act} {w : World} {Q : Exit → Act → World → Prop} (hgd : o.guard = none) (ty : TypeId) (x : Operand) (ho : o.op = .load ty x)
    (g : Nat) (hx : a.eval x = .pointer (some ⟨g, 0, none⟩)) (t : TypeId) (cs : Array Value) (d : TypeDesc) (hg : Blk w g t cs)
    (hu : P.underlying ty = some d) (hd : (match d with | .struct _ | .array _ _ => true | _ => false) = true) (hi : (P.info? ty).map (·.size) = some cs.size)
    (h : wpList P ops Q rest (a.put o.dst (.agg cs)) w) : wpList P ops Q (o :: rest) a w :=
  let ⟨fr, hg, _⟩ := hg; wpList_load_row hgd ty x ho g hx t cs fr d hg hu hd hi h
theorem results_cell_blk {P : Program} {fn : Func} {p : Tmp} {ty : TypeId} (h : fn.results = #[.cell p ty]) (tmps : Array Value) (w : World) (g : Nat) (t : TypeId) (cs : Array Value) (d : TypeDesc)
    (hp : tmps.getD p undef = .pointer (some ⟨g, 0, none⟩)) (hg : Blk w g t cs)
    (hu : P.underlying ty = some d) (hd : (match d with | .struct _ | .array _ _ => true | _ => false) = true) (hi : (P.info? ty).map (·.size) = some cs.size) :
    (results fn tmps).run P w = .ok (.agg cs) w :=
  let ⟨fr, hg, _⟩ := hg; results_cell_row h tmps w g t cs fr d hp hg hu hd hi

/-- A slice value '.slice A n cap' that reads as the cells xs ('size' cells an element), below block D. -/
def Sl (w : World) (D size : Nat) (A : Option Addr) (n cap : Nat) (xs : List Value) : Prop :=
  xs.length = n * size ∧ n ≤ cap ∧ cap ≤ maxLen ∧ (0 < n → ∃ b o, A = some ⟨b, o, none⟩ ∧ b < D ∧ ∀ j u, xs[j]? = some u → w.cell? ⟨b, o + j, none⟩ = some u)
section
variable {w w' : World} {D size n cap : Nat} {A : Option Addr} {xs : List Value}
theorem Sl.keep (h : Sl w D size A n cap xs) (hk : ∀ p : Addr, p.block < D → w'.cell? p = w.cell? p) : Sl w' D size A n cap xs :=
  ⟨h.1, h.2.1, h.2.2.1, fun hn => by
    obtain ⟨b, o, e, hb, hc⟩ := h.2.2.2 hn
    exact ⟨b, o, e, hb, fun j u hu => (hk _ hb).trans (hc j u hu)⟩⟩
theorem Sl.more {D' : Nat} (h : Sl w D size A n cap xs) (hD : D ≤ D') : Sl w D' size A n cap xs :=
  ⟨h.1, h.2.1, h.2.2.1, fun hn => by
    obtain ⟨b, o, e, hb, hc⟩ := h.2.2.2 hn
    exact ⟨b, o, e, by omega, hc⟩⟩
theorem Sl.below {B : Nat} (h : Sl w D size A n cap xs) (hb : Below B w w') (hD : D ≤ B) : Sl w' D size A n cap xs := h.keep fun _ hp => hb.cell (by omega)
theorem Sl.alloc (h : Sl w D size A n cap xs) (hD : D ≤ w.heap.size) (o : Obj) : Sl (w.alloc o) D size A n cap xs := h.keep fun p hp => World.cell?_alloc_lt w o p (by omega)
theorem Sl.drew (h : Sl w D size A n cap xs) : Sl w.drew D size A n cap xs := h
theorem Sl.drewN (h : Sl w D size A n cap xs) (k : Nat) : Sl (w.drewN k) D size A n cap xs := h
theorem Sl.nil (w : World) (D size : Nat) : Sl w D size none 0 0 [] := ⟨by simp, Nat.le_refl _, by decide, fun h => absurd h (by omega)⟩
theorem Sl.empty (w : World) (D size : Nat) (A : Option Addr) {cap : Nat} (hc : cap ≤ maxLen) : Sl w D size A 0 cap [] := ⟨by simp, Nat.zero_le _, hc, fun h => absurd h (by omega)⟩
theorem Sl.at_ {k : Nat} (h : Sl w D 1 A n cap xs) (hk : k < n) : ∃ b o u, A = some ⟨b, o, none⟩ ∧ b < D ∧ xs[k]? = some u ∧ w.cell? ⟨b, o + k, none⟩ = some u := by
  obtain ⟨b, o, e, hb, hc⟩ := h.2.2.2 (by omega)
  have hl : k < xs.length := by have := h.1; omega
  exact ⟨b, o, xs[k], e, hb, List.getElem?_eq_getElem hl, hc k _ (List.getElem?_eq_getElem hl)⟩
/-- The first k elements. -/
theorem Sl.take (h : Sl w D size A n cap xs) {k : Nat} (hk : k ≤ n) : Sl w D size A k cap (xs.take (k * size)) := by
  refine ⟨?_, by have := h.2.1; omega, h.2.2.1, fun h0 => ?_⟩
  · rw [List.length_take, h.1]; exact Nat.min_eq_left (Nat.mul_le_mul_right _ hk)
  · obtain ⟨b, o, e, hb, hc⟩ := h.2.2.2 (by omega)
    refine ⟨b, o, e, hb, fun j u hu => hc j u ?_⟩
    rw [List.getElem?_take] at hu
    split at hu
    · exact hu
    · cases hu
theorem Sl.cut (h : Sl w D size A n cap xs) {k : Nat} (hk : k ≤ n) :
    Sl w D size (if cap = k then A else A.map (·.add (k * size))) (n - k) (cap - k) (xs.drop (k * size)) := by
  refine ⟨by rw [List.length_drop, h.1, Nat.sub_mul], by have := h.2.1; omega, by have := h.2.2.1; omega, fun hn => ?_⟩
  obtain ⟨b, o, rfl, hb, hcell⟩ := h.2.2.2 (by omega)
  have hc := h.2.1
  rw [if_neg (by omega)]
  refine ⟨b, o + k * size, ?_, hb, fun j u hu => ?_⟩
  · simp only [Option.map_some, Addr.add]; split <;> simp_all
  · rw [Nat.add_assoc]
    exact hcell _ u (by rw [← hu, List.getElem?_drop])
end

/-- A slice of the call's own (from block B on) that may be appended to: it has no room at all, or it begins at the head of a block that no one else looks at. -/
def Own (w : World) (B : Nat) (e : TypeId) (size : Nat) (A : Option Addr) (n cap : Nat) (xs : List Value) : Prop :=
  xs.length = n * size ∧ n ≤ cap ∧ cap ≤ maxLen ∧
  (cap = 0 ∨ ∃ g cur, A = some ⟨g, 0, none⟩ ∧ B ≤ g ∧ Blk w g e cur ∧ cur.size = cap * size ∧ cur.toList.take (n * size) = xs)
def blockOf (A : Option Addr) (cap : Nat) : Option Nat := if cap = 0 then none else A.map (·.block)
section
variable {w w' : World} {B size n cap : Nat} {e : TypeId} {A : Option Addr} {xs : List Value}
theorem Own.nil (w : World) (B : Nat) (e : TypeId) (size : Nat) : Own w B e size none 0 0 [] := ⟨by simp, Nat.le_refl _, by decide, .inl rfl⟩
theorem Own.bare (w : World) (B : Nat) (e : TypeId) (size : Nat) (A : Option Addr) : Own w B e size A 0 0 [] := ⟨by simp, Nat.le_refl _, by decide, .inl rfl⟩
theorem Own.ofBlk {g : Nat} {cur : Array Value} (hB : B ≤ g) (h : Blk w g e cur) (hn : n ≤ cap) (hm : cap ≤ maxLen) (hs : cur.size = cap * size) (hx : cur.toList.take (n * size) = xs) :
    Own w B e size (some ⟨g, 0, none⟩) n cap xs := by
  refine ⟨?_, hn, hm, .inr ⟨g, cur, rfl, hB, h, hs, hx⟩⟩
  rw [← hx, List.length_take, Array.length_toList, hs]
  exact Nat.min_eq_left (Nat.mul_le_mul_right _ hn)
theorem Own.lt (h : Own w B e size A n cap xs) {g : Nat} (hg : blockOf A cap = some g) : B ≤ g ∧ g < w.heap.size := by
  rcases h.2.2.2 with h0 | ⟨g', cur, rfl, hB, hb, _, _⟩
  · simp [blockOf, h0] at hg
  · unfold blockOf at hg
    split at hg
    · cases hg
    · simp at hg; subst hg; exact ⟨hB, hb.lt⟩
theorem Own.keep (h : Own w B e size A n cap xs) (hk : ∀ g cur, blockOf A cap = some g → Blk w g e cur → Blk w' g e cur) : Own w' B e size A n cap xs := by
  refine ⟨h.1, h.2.1, h.2.2.1, ?_⟩
  rcases h.2.2.2 with h0 | ⟨g, cur, rfl, hB, hb, hs, hx⟩
  · exact .inl h0
  · by_cases h0 : cap = 0
    · exact .inl h0
    · exact .inr ⟨g, cur, rfl, hB, hk g cur (by simp [blockOf, h0]) hb, hs, hx⟩
theorem Own.alloc (h : Own w B e size A n cap xs) (o : Obj) : Own (w.alloc o) B e size A n cap xs := h.keep fun _ _ _ hb => hb.alloc o
theorem Own.drew (h : Own w B e size A n cap xs) : Own w.drew B e size A n cap xs := h
theorem Own.drewN (h : Own w B e size A n cap xs) (k : Nat) : Own (w.drewN k) B e size A n cap xs := h
theorem Own.below {B' : Nat} (h : Own w B e size A n cap xs) (hb : Below B' w w') (hB : w.heap.size ≤ B') : Own w' B e size A n cap xs :=
  h.keep fun _ _ _ hk => hk.below hb (by have := hk.lt; omega)
theorem Own.far (h : Own w B e size A n cap xs) {p : Addr} (hp : p.block < B) (u : Value) : Own (w.setCell p u) B e size A n cap xs :=
  h.keep fun g _ hg hk => hk.far (by have := (h.lt hg).1; omega) u
theorem Own.farNe (h : Own w B e size A n cap xs) {p : Addr} (hp : blockOf A cap ≠ some p.block) (u : Value) : Own (w.setCell p u) B e size A n cap xs :=
  h.keep fun g _ hg hk => hk.far (by intro e; rw [hg, e] at hp; exact hp rfl) u
theorem Own.grown {row : Option Nat} (h : Own w B e size A n cap xs) (hg : w.grownBy w' row) (hne : blockOf A cap = none ∨ blockOf A cap ≠ row) : Own w' B e size A n cap xs :=
  h.keep fun g _ hb hk => hk.grown hg (by rcases hne with h | h <;> rw [hb] at h <;> first | cases h | exact h)
theorem Own.base {B' : Nat} (h : Own w B e size A n cap xs) (hB : B' ≤ B) : Own w B' e size A n cap xs := by
  refine ⟨h.1, h.2.1, h.2.2.1, ?_⟩
  rcases h.2.2.2 with h0 | ⟨g, cur, rfl, hb, r⟩
  · exact .inl h0
  · exact .inr ⟨g, cur, rfl, by omega, r⟩
/-- What is owned reads. -/
theorem Own.sl (h : Own w B e size A n cap xs) : Sl w w.heap.size size A n cap xs := by
  refine ⟨h.1, h.2.1, h.2.2.1, fun hn => ?_⟩
  rcases h.2.2.2 with h0 | ⟨g, cur, rfl, hB, hb, hs, hx⟩
  · have := h.2.1; omega
  · refine ⟨g, 0, rfl, hb.lt, fun j u hu => ?_⟩
    rw [Nat.zero_add, hb.cell j]
    rw [← hx, List.getElem?_take] at hu
    split at hu
    · simpa using hu
    · cases hu
end

section
variable {P : Program} (w : World)

/-- append onto a slice of the call's own; the source is whatever reads as 'news'. -/
theorem run_append_o (B : Nat) (t ty e : TypeId) (i : TypeInfo) (z : Value) (size bytes : Nat) (ht : P.underlying t = some (.slice e)) (hi : P.info? e = some i) (hz : i.zero = some z)
    (hsize : i.size = size) (hby : i.bytes = bytes) (hzs : z.cells.size = size) (hsz : 0 < size)
    {A : Option Addr} {n cap : Nat} {xs : List Value} (hown : Own w B e size A n cap xs)
    {D : Nat} {A' : Option Addr} {m c : Nat} {news : List Value} (hr : Sl w D size A' m c news) (h1 : ∀ u ∈ news, u.oneCell' = true)
    (h63 : n + m ≤ maxLen) (hbytes : (n + m) * bytes ≤ 140737488355328) (hbase : B ≤ w.heap.size) :
    ∃ A2 cap2 w', (Builtin.append_ #[t, t] ty #[.slice A n cap, .slice A' m c]).run P w = .ok (.slice A2 (n + m) cap2) w' ∧ Own w' B e size A2 (n + m) cap2 (xs ++ news) ∧
      w.grownBy w' (blockOf A cap) ∧ (blockOf A2 cap2 = blockOf A cap ∨ blockOf A2 cap2 = some w.heap.size) := by
  subst hsize
  subst hby
  have hsmall : n + m ≤ 9223372036854775807 := by simp only [maxLen] at h63; omega
  have hlen : (xs ++ news).length = (n + m) * i.size := by rw [List.length_append, hown.1, hr.1, Nat.add_mul]
  have hcap := hown.2.2.1
  by_cases hm : m = 0
  · subst hm
    have hn : news = [] := List.eq_nil_of_length_eq_zero (by simpa using hr.1)
    subst hn
    refine ⟨A, cap, w, ?_, by simpa using hown, World.grownBy.refl w _, .inl rfl⟩
    have hnc := hown.2.1
    rcases A with _ | ad <;> rcases A' with _ | ad' <;> simp [Builtin.append_, run_underlying ht, sizeOf, typeInfo, hi, Builtin.lenOf, Builtin.firstCells, hnc, storeCells, loadCells, loadCellsFrom]
  · obtain ⟨b', o', rfl, _, hnews⟩ := hr.2.2.2 (by omega)
    have hnews' : ∀ j u, news[j]? = some u → w.cell? ((⟨b', o', none⟩ : Addr).add j) = some u := fun j u hu => by
      have := hnews j u hu
      unfold Addr.add
      split <;> simp_all
    have hf := run_firstCells_some (P := P) w i.size m ⟨b', o', none⟩ m c news hr.1 hnews'
    have grown : ∀ (old : Nat),
        Own (w.drew.alloc (.cells (xs.toArray ++ news.toArray ++ Builtin.zeroCells z.cells (grownCap w (n + m) old e - (n + m))) e)) B e i.size
          (some ⟨w.heap.size, 0, none⟩) (n + m) (grownCap w (n + m) old e) (xs ++ news) ∧
        w.grownBy (w.drew.alloc (.cells (xs.toArray ++ news.toArray ++ Builtin.zeroCells z.cells (grownCap w (n + m) old e - (n + m))) e)) (blockOf A cap) := by
      intro old
      have hge := grownCap_ge w (n + m) old e
      have hcm : grownCap w (n + m) old e ≤ maxLen := grownCap_le_maxLen w (n + m) old e h63
      refine ⟨Own.ofBlk hbase (Blk.new w.drew e _) hge hcm ?_ ?_, ⟨rfl, rfl, rfl, by simp, fun k hk _ => Below.heap_alloc w.drew _ k hk⟩⟩
      · simp only [Array.size_append, List.size_toArray, size_zeroCells, hzs, hown.1, hr.1, ← Nat.add_mul]
        congr 1
        omega
      · simp only [Array.toList_append, List.append_assoc]
        rw [← List.append_assoc, ← hlen]
        exact List.take_left
    have hblk : ∀ old, blockOf (some (⟨w.heap.size, 0, none⟩ : Addr)) (grownCap w (n + m) old e) = some w.heap.size := by
      intro old
      have hge := grownCap_ge w (n + m) old e
      unfold blockOf
      rw [if_neg (by omega)]
      rfl
    by_cases hroom : n + m ≤ cap
    · rcases hown.2.2.2 with h0 | ⟨g, cur, rfl, hB, hb, hs, hx⟩
      · omega
      · obtain ⟨fr, hg, hfr⟩ := hb
        have hfit : n * i.size + news.length ≤ cur.size := by rw [hr.1, hs, ← Nat.add_mul]; exact Nat.mul_le_mul_right _ hroom
        have hst := run_storeCells_free (P := P) g (n * i.size) e fr news 0 cur w hg hfr (by simpa using hfit) h1
        simp only [Nat.add_zero] at hst
        refine ⟨_, cap, _, ?_, Own.ofBlk (cur := (cur.toList.take (n * i.size) ++ news ++ cur.toList.drop (n * i.size + news.length)).toArray) hB (Blk.row ⟨fr, hg, hfr⟩ _ ?_) hroom hcap ?_ ?_, ⟨rfl, rfl, rfl, by simp, fun k _ hk => setRow_other w g k _ (fun e => hk ?_)⟩, .inl rfl⟩
        · have hadd : (⟨g, 0, none⟩ : Addr).add (n * i.size) = ⟨g, n * i.size, none⟩ := by unfold Addr.add; split <;> simp_all
          simp [Builtin.append_, run_underlying ht, sizeOf, typeInfo, hi, Builtin.lenOf, hroom, hf, hadd, hst]
        · simp only [List.size_toArray, List.length_append, List.length_take, List.length_drop, Array.length_toList]
          omega
        · simp only [List.size_toArray, List.length_append, List.length_take, List.length_drop, Array.length_toList]
          omega
        · rw [List.toList_toArray, hx, ← hlen]
          exact List.take_left
        · subst e; unfold blockOf; rw [if_neg (by omega)]; rfl
    · have hg1 := grown cap
      have hn' : ¬ (n + m ≤ cap) := hroom
      have h63' : ¬ (9223372036854775807 < ((n : Int) + (m : Int))) := by omega
      have hfits := growslice_fits (need := n + m) (old := cap) (by omega) hbytes
      have h48' : ¬ (281474976710656 < Builtin.nextslicecap (n + m) cap * i.bytes) := by omega
      have hf' := run_firstCells_some (P := P) w.drew i.size m ⟨b', o', none⟩ m c news hr.1 hnews'
      have hfo : (Builtin.firstCells i.size n (.slice A n cap)).run P w.drew = .ok xs.toArray w.drew := by
        rcases hown.2.2.2 with h0 | ⟨g, cur, rfl, hB, hb, hs, hx⟩
        · have hn0 : n = 0 := by have := hown.2.1; omega
          subst hn0
          have hx0 : xs = [] := List.eq_nil_of_length_eq_zero (by simpa using hown.1)
          subst hx0
          rcases A with _ | ad <;> simp [Builtin.firstCells, loadCells, loadCellsFrom]
        · refine run_firstCells_some (P := P) w.drew i.size n ⟨g, 0, none⟩ n cap xs hown.1 fun j u hu => ?_
          have hadd : (⟨g, 0, none⟩ : Addr).add j = ⟨g, j, none⟩ := by unfold Addr.add; split <;> simp_all
          rw [hadd]
          refine (hb.cell j).trans ?_
          rw [← hx, List.getElem?_take] at hu
          split at hu
          · simpa using hu
          · cases hu
      refine ⟨_, _, _, ?_, hg1.1, hg1.2, .inr (hblk cap)⟩
      simp [Builtin.append_, run_underlying ht, sizeOf, typeInfo, zeroValue, hi, hz, Builtin.lenOf, hn', h63', h48', Question.forced, hf', hfo, newRow, grownCap]
      congr 2
      apply Array.ext'
      simp [List.append_assoc]

theorem wp_append_o {o : Oper} {a : Act} {K : Act → World → Prop} {Q : Exit → Act → World → Prop} (s x : Operand) (t : TypeId)
    (ho : o.op = .call { callee := .builtin .append, args := #[s, x], argTypes := #[t, t] })
    (B : Nat) (e : TypeId) (i : TypeInfo) (z : Value) (size bytes : Nat) (ht : P.underlying t = some (.slice e)) (hi : P.info? e = some i) (hz : i.zero = some z)
    (hsize : i.size = size) (hby : i.bytes = bytes) (hzs : z.cells.size = size) (hsz : 0 < size)
    {A : Option Addr} {n cap : Nat} {xs : List Value} (hs : a.eval s = .slice A n cap) (hown : Own w B e size A n cap xs)
    {D : Nat} {A' : Option Addr} {m c : Nat} {news : List Value} (hx : a.eval x = .slice A' m c) (hr : Sl w D size A' m c news) (h1 : ∀ u ∈ news, u.oneCell' = true)
    (h63 : n + m ≤ maxLen) (hbytes : (n + m) * bytes ≤ 140737488355328) (hbase : B ≤ w.heap.size)
    (h : ∀ A2 cap2 w', Own w' B e size A2 (n + m) cap2 (xs ++ news) → w.grownBy w' (blockOf A cap) → (blockOf A2 cap2 = blockOf A cap ∨ blockOf A2 cap2 = some w.heap.size) → K (a.put o.dst (.slice A2 (n + m) cap2)) w') : o.wp P a w K Q := by
  obtain ⟨A2, cap2, w', hrun, h2, h3, h4⟩ := run_append_o (P := P) w B t o.type e i z size bytes ht hi hz hsize hby hzs hsz hown hr h1 h63 hbytes hbase
  unfold Oper.wp execOp
  simp only [ho, resolve, invoke, builtin, Sem.run_bind, Sem.run_pure, Result.andThen_ok, List.map_toArray, List.map_cons, List.map_nil, hs, hx, hrun]
  exact h A2 cap2 w' h2 h3 h4

theorem wpList_append_o {ops : Array Oper} {rest : List Oper} {o : Oper} {a : Act} {Q : Exit → Act → World → Prop} (hgd : o.guard = none) (s x : Operand) (t : TypeId)
    (ho : o.op = .call { callee := .builtin .append, args := #[s, x], argTypes := #[t, t] })
    (B : Nat) (e : TypeId) (i : TypeInfo) (z : Value) (size bytes : Nat) (ht : P.underlying t = some (.slice e)) (hi : P.info? e = some i) (hz : i.zero = some z)
    (hsize : i.size = size) (hby : i.bytes = bytes) (hzs : z.cells.size = size) (hsz : 0 < size)
    {A : Option Addr} {n cap : Nat} {xs : List Value} (hs : a.eval s = .slice A n cap) (hown : Own w B e size A n cap xs)
    {D : Nat} {A' : Option Addr} {m c : Nat} {news : List Value} (hx : a.eval x = .slice A' m c) (hr : Sl w D size A' m c news) (h1 : ∀ u ∈ news, u.oneCell' = true)
    (h63 : n + m ≤ maxLen) (hbytes : (n + m) * bytes ≤ 140737488355328) (hbase : B ≤ w.heap.size)
    (h : ∀ A2 cap2 w', Own w' B e size A2 (n + m) cap2 (xs ++ news) → w.grownBy w' (blockOf A cap) → (blockOf A2 cap2 = blockOf A cap ∨ blockOf A2 cap2 = some w.heap.size) → wpList P ops Q rest (a.put o.dst (.slice A2 (n + m) cap2)) w') : wpList P ops Q (o :: rest) a w :=
  wpList_plain hgd fun _ hK => wp_append_o w s x t ho B e i z size bytes ht hi hz hsize hby hzs hsz hs hown hx hr h1 h63 hbytes hbase fun A2 cap2 w' h2 h3 h4 => hK _ _ (h A2 cap2 w' h2 h3 h4)

theorem step_append_o {ops : Array Oper} {o : Oper} {a : Act} {K : Act → World → Prop} {Q : Exit → Act → World → Prop} {E : Prop} (hgd : o.guard = none) (s x : Operand) (t : TypeId)
    (ho : o.op = .call { callee := .builtin .append, args := #[s, x], argTypes := #[t, t] })
    (B : Nat) (e : TypeId) (i : TypeInfo) (z : Value) (size bytes : Nat) (ht : P.underlying t = some (.slice e)) (hi : P.info? e = some i) (hz : i.zero = some z)
    (hsize : i.size = size) (hby : i.bytes = bytes) (hzs : z.cells.size = size) (hsz : 0 < size)
    {A : Option Addr} {n cap : Nat} {xs : List Value} (hs : a.eval s = .slice A n cap) (hown : Own w B e size A n cap xs)
    {D : Nat} {A' : Option Addr} {m c : Nat} {news : List Value} (hx : a.eval x = .slice A' m c) (hr : Sl w D size A' m c news) (h1 : ∀ u ∈ news, u.oneCell' = true)
    (h63 : n + m ≤ maxLen) (hbytes : (n + m) * bytes ≤ 140737488355328) (hbase : B ≤ w.heap.size)
    (h : ∀ A2 cap2 w', Own w' B e size A2 (n + m) cap2 (xs ++ news) → w.grownBy w' (blockOf A cap) → (blockOf A2 cap2 = blockOf A cap ∨ blockOf A2 cap2 = some w.heap.size) → K (a.put o.dst (.slice A2 (n + m) cap2)) w') :
    if Region.wanted o (yielded ops a.tmps) = true then Oper.wp P o a w K Q else E := by
  have hw : Region.wanted o (yielded ops a.tmps) = true := by simp [Region.wanted, hgd]
  rw [if_pos hw]
  exact wp_append_o w s x t ho B e i z size bytes ht hi hz hsize hby hzs hsz hs hown hx hr h1 h63 hbytes hbase h
end
/-- 'append(out, x)': the one new element lies in a block that has just been made. -/
theorem wpList_append_new {P : Program} {w0 : World} {ops : Array Oper} {rest : List Oper} {o : Oper} {a : Act} {Q : Exit → Act → World → Prop} (hgd : o.guard = none) (s x : Operand) (t : TypeId)
    (ho : o.op = .call { callee := .builtin .append, args := #[s, x], argTypes := #[t, t] })
    (B : Nat) (e : TypeId) (i : TypeInfo) (z : Value) (size bytes : Nat) (ht : P.underlying t = some (.slice e)) (hi : P.info? e = some i) (hz : i.zero = some z)
    (hsize : i.size = size) (hby : i.bytes = bytes) (hzs : z.cells.size = size) (hsz : 0 < size)
    {A : Option Addr} {n cap : Nat} {xs : List Value} (hs : a.eval s = .slice A n cap) (hown : Own w0 B e size A n cap xs)
    (news : Array Value) (hx : a.eval x = .slice (some ⟨w0.heap.size, 0, none⟩) 1 1) (hl : news.size = size) (h1 : ∀ u ∈ news.toList, u.oneCell' = true)
    (h63 : n + 1 ≤ maxLen) (hbytes : (n + 1) * bytes ≤ 140737488355328) (hbase : B ≤ w0.heap.size)
    (h : ∀ A2 cap2 w', Own w' B e size A2 (n + 1) cap2 (xs ++ news.toList) → w0.grownBy w' (blockOf A cap) → (blockOf A2 cap2 = blockOf A cap ∨ blockOf A2 cap2 = some (w0.heap.size + 1)) → wpList P ops Q rest (a.put o.dst (.slice A2 (n + 1) cap2)) w') :
    wpList P ops Q (o :: rest) a (w0.alloc (.cells news e)) := by
  have hsl : Sl (w0.alloc (.cells news e)) (w0.heap.size + 1) size (some ⟨w0.heap.size, 0, none⟩) 1 1 news.toList :=
    ⟨by simp [hl], Nat.le_refl _, by decide, fun _ => ⟨w0.heap.size, 0, rfl, by omega, fun j u hu => by
      rw [Nat.zero_add, (Blk.new w0 e news).cell j]; simpa using hu⟩⟩
  refine wpList_append_o _ hgd s x t ho B e i z size bytes ht hi hz hsize hby hzs hsz hs (hown.alloc _) hx hsl h1 h63 hbytes (by simp; omega) fun A2 cap2 w' h2 h3 h4 => h A2 cap2 w' h2 ?_ (by simpa using h4)
  exact ⟨h3.os, h3.tape, h3.output, Nat.le_trans (by simp) h3.size, fun k hk hne => (h3.block k (by simp; omega) hne).trans (Below.heap_alloc w0 _ k hk)⟩
/-- What an append leaves below the call's own blocks. -/
theorem grown_below {B : Nat} {a w w' : World} {A : Option Addr} {cap n : Nat} {e : TypeId} {size : Nat} {xs : List Value} (h : Below B a w) (hown : Own w B e size A n cap xs) (hg : w.grownBy w' (blockOf A cap)) (hB : B ≤ w.heap.size) : Below B a w' :=
  h.grown hg hB fun _ hk => (hown.lt hk).1
/-- '[]byte(s)': the new block. -/
theorem Blk.bytes (w : World) (s : ByteArray) (cap : Nat) (e : TypeId) : Blk (w.alloc (.cells (bytesRow s cap) e ((bytesRow s cap).size, (bytesRow s cap).size + 1))).drew w.heap.size e (bytesRow s cap) := ⟨_, heap_alloc_new w _, Free.tail _⟩
theorem bytesRow_get (l : List UInt8) (cap j : Nat) (hj : j < l.length) : (bytesRow ⟨l.toArray⟩ cap)[j]? = some (.int .u8 (l[j].toNat : Int)) := by
  have := bytesRow_at ⟨l.toArray⟩ cap j (by simpa using hj)
  simpa using this
theorem bytesRow_size (l : List UInt8) (cap : Nat) (h : l.length ≤ cap) : (bytesRow ⟨l.toArray⟩ cap).size = cap := by
  simp [bytesRow, ByteArray.size]; omega
/-- A byte of a string that is written as a list. -/
@[go_sem] theorem str_get (l : List UInt8) (k : Nat) (h : k < (ByteArray.mk l.toArray).size) : (ByteArray.mk l.toArray)[k]'h = l[k]'(by simpa [ByteArray.size] using h) := rfl
/-- A part of a string; two strings, one behind the other. -/
@[go_sem] theorem str_cut (l : List UInt8) (a b : Nat) : (ByteArray.mk l.toArray).extract a b = ⟨((l.take b).drop a).toArray⟩ := by
  apply ByteArray.ext
  rw [ByteArray.data_extract]
  simp [List.extract_eq_take_drop, List.drop_take]
@[go_sem] theorem str_cat (l m : List UInt8) : ByteArray.mk l.toArray ++ ByteArray.mk m.toArray = ⟨(l ++ m).toArray⟩ := by
  apply ByteArray.ext
  rw [ByteArray.data_append]
  simp
theorem take_snoc {α : Type} (l : List α) (k : Nat) (h : k < l.length) : l.take (k + 1) = l.take k ++ [l[k]] := by
  rw [List.take_succ_eq_append_getElem h]
theorem ret_int {k : IntKind} {a b : Int} (h : a = b) : Ending.returned (.int k a) = .returned (.int k b) := by rw [h]
end Go.Proofs.Ytbobpgjgknkogaa
