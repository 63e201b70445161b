/- The part that some bytes are: read. -/
import Derived.Test.YtfcbbolokhcknaaFa4
import Derived.Test.YtfcbbolokhcknaaFb
import Derived.Lib.BufferWrite
import Derived.Lib.SlBuf
import Derived.ChangeKeysEq
import Derived.Deep.MidRow
namespace Go.Proofs.Ytfcbbolokhcknaa
open Go.RowKit Go.Shelf
attribute [local go_sem] Oper.semAt_some
/-- Bytes that are the beginning of a frame. -/
def okG (m : Nat) (t : List UInt8) : Prop := ∀ k (hk : k < t.length), badN m k t[k].toNat = 0 ∧ wholeP (t.take (k + 1)) = false
theorem okG_snoc (m : Nat) (t : List UInt8) (b : UInt8) : okG m (t ++ [b]) ↔ okG m t ∧ badN m t.length b.toNat = 0 ∧ wholeP (t ++ [b]) = false := by
  constructor
  · intro h
    refine ⟨fun k hk => ?_, ?_⟩
    · have := h k (by simp; omega)
      rw [List.getElem_append_left hk, List.take_append_of_le_length (by omega)] at this
      exact this
    · have := h t.length (by simp)
      rw [List.getElem_append_right (Nat.le_refl _), List.take_of_length_le (by simp)] at this
      simpa using this
  · rintro ⟨h, h1, h2⟩ k hk
    rw [List.length_append, List.length_singleton] at hk
    by_cases hlt : k < t.length
    · rw [List.getElem_append_left hlt, List.take_append_of_le_length (by omega)]
      exact h k hlt
    · obtain rfl : k = t.length := by omega
      rw [List.getElem_append_right (Nat.le_refl _), List.take_of_length_le (by simp)]
      exact ⟨by simpa using h1, h2⟩
theorem okG_take (m : Nat) (t : List UInt8) (h : okG m t) (k : Nat) : okG m (t.take k) := fun j hj => by
  rw [List.length_take] at hj
  have := h j (by omega)
  rw [List.getElem_take, List.take_take, Nat.min_eq_left (by omega)]
  exact this
theorem okG_len (m : Nat) (t : List UInt8) (h : okG m t) : t.length ≤ 25 ∧ (2 ≤ t.length → b1 t ≤ 24 ∧ t.length < 2 + b1 t) := by
  have key : 2 ≤ t.length → b1 t ≤ 24 ∧ t.length < 2 + b1 t := fun h2 => by
    have e1 : b1 t = t[1].toNat := by unfold b1; rw [List.getD_eq_getElem?_getD, List.getElem?_eq_getElem (by omega)]; rfl
    have h1 := (h 1 (by omega)).1
    have hb : b1 t ≤ 24 := by
      rw [e1]
      rcases badN_cases m 1 t[1].toNat with ⟨h0, _⟩ | ⟨h0, _⟩ | ⟨h0, _⟩ | ⟨_, _, h3⟩ | ⟨_, _, _, h3⟩ | ⟨_, _, h3, _⟩ | ⟨h0, _⟩
      all_goals first | omega | (rw [h3] at h1; omega)
    refine ⟨hb, ?_⟩
    by_cases hlt : t.length < 2 + b1 t
    · exact hlt
    · have hw := (h (1 + b1 t) (by omega)).2
      unfold wholeP at hw
      have e2 : b1 (t.take (1 + b1 t + 1)) = b1 t := by
        rw [show 1 + b1 t + 1 = b1 t + 2 by omega]
        unfold b1
        rw [List.getD_eq_getElem?_getD, List.getD_eq_getElem?_getD, List.getElem?_take, if_pos (by omega)]
      rw [e2, List.length_take, decide_eq_true (by omega), decide_eq_true (by omega)] at hw
      cases hw
  refine ⟨?_, key⟩
  by_cases h2 : 2 ≤ t.length
  · have := key h2; omega
  · omega
/-- What lies still in a turn of what is no cells. -/
theorem Blk.turn {W W' : World} {g : Nat} {t : TypeId} {cs : Array Value} {row : Option Nat} {B : Nat} (h : Blk W g t cs) (hg : W.grownBy W' row) (hr : ∀ r, row = some r → B ≤ r ∧ ∃ o : Obj, W.heap[r]? = some o ∧ o.isCells = false) : Blk W' g t cs :=
  h.grown hg (fun e => by
    obtain ⟨_, o, ho, hc⟩ := hr g e.symm
    obtain ⟨fr, h1, _⟩ := h
    rw [h1] at ho; cases ho; cases hc)
theorem Pt.turn {W W' : World} {g : Nat} {l : List UInt8} {row : Option Nat} {B : Nat} (h : Pt W g l) (hg : W.grownBy W' row) (hr : ∀ r, row = some r → B ≤ r ∧ ∃ o : Obj, W.heap[r]? = some o ∧ o.isCells = false) : Pt W' g l := ⟨Blk.turn h.1 hg hr, h.2⟩
def ibB (pre : List IB) : List UInt8 := pre.map (·.1.2)
theorem ibB_snoc (pre : List IB) (x : IB) : ibB (pre ++ [x]) = ibB pre ++ [x.1.2] := by unfold ibB; rw [List.map_append]; rfl
def readI (m : Nat) (l : List UInt8) (w : World) (pre : List IB) (W : World) : Prop :=
  (okG m (ibB pre) ∧ Blk W w.heap.size 3 #[.int .i64 m] ∧ Pt W (w.heap.size + 1) (ibB pre) ∧ Blk W (w.heap.size + 2) 4 #[.bool false] ∧ Blk W (w.heap.size + 3) 9 #[.string ⟨l.toArray⟩]) ∧ Below w.heap.size w W
def readX (m : Nat) (w : World) (c : Code) (pre : List IB) (W : World) : Prop :=
  (c = .ret ∧ ¬ okG m (ibB pre) ∧ Pt W (w.heap.size + 1) [] ∧ Blk W (w.heap.size + 2) 4 #[.bool false]) ∧ Below w.heap.size w W
theorem run_loadVar_one {P : Program} (w : World) (g : Nat) (t ty : TypeId) (v : Value) (d : TypeDesc) (hg : Blk w g t #[v])
    (hu : P.underlying ty = some d) (hd : (match d with | .struct _ | .array _ _ => true | _ => false) = false) :
    (loadVar ty ⟨g, 0, none⟩).run P w = .ok v w := by
  have hc : w.cell? ⟨g, 0, none⟩ = some v := hg.cell 0
  have hu' := hu
  unfold Program.underlying at hu'
  cases d <;> simp_all [loadVar, isAgg, underlying, Program.underlying, Sem.run_bind, Result.andThen]
theorem eq_items (w : World) (d : Nat) (xs : Array Value) : ∀ is : List Nat, (∀ i ∈ is, ∃ x, xs[i]? = some (.int .u8 x)) → (Op.eqItems (d + 1) 5 1 xs xs is).run Try.prog w = .ok true w
  | [], _ => by simp [Op.eqItems]
  | i :: is, h => by
    obtain ⟨x, hx⟩ := h i (by simp)
    have hp := run_part_plain (P := Try.prog) w (e := 5) (by kernel_rfl) hx
    have he := run_equalIn_int (P := Try.prog) w d 5 .u8 .u8 x x Try.underlying5
    simp only [Op.eqItems, Nat.mul_one, Sem.run_bind, hp, Result.andThen_ok, he, beq_self_eq_true, Bool.not_true, Bool.false_eq_true, if_false]
    exact eq_items w d xs is (fun i hi => h i (by simp [hi]))
theorem byteC_get (l : List UInt8) (h : l.length ≤ 26) (i : Nat) (hi : i < 26) : ∃ x, (byteC l)[i]? = some (.int .u8 x) := by
  have hlen := byteC_len l h
  refine ⟨match (byteC l)[i]'(by omega) with | .int _ x => x | _ => 0, ?_⟩
  rw [List.getElem?_eq_getElem (by omega)]
  have hm : (byteC l)[i]'(by omega) ∈ byteC l := List.getElem_mem _
  generalize (byteC l)[i]'(by omega) = v at *
  unfold byteC at hm
  simp only [List.mem_append, List.mem_map, List.mem_replicate] at hm
  rcases hm with ⟨b, _, rfl⟩ | ⟨_, rfl⟩ <;> rfl
theorem eq_bytes (l : List UInt8) (h : l.length ≤ 26) (w : World) : (Op.equalIn 10000 51 (.agg (byteC l).toArray) (.agg (byteC l).toArray)).run Try.prog w = .ok true w := by
  obtain ⟨i, hi⟩ : ∃ i, Try.prog.info? 5 = some i := by
    cases hq : Try.prog.info? 5 with
    | none => have h0 : (Try.prog.info? 5).isSome = true := by kernel_rfl
              rw [hq] at h0; cases h0
    | some i => exact ⟨i, rfl⟩
  rw [show (10000 : Nat) = 9999 + 1 from rfl, run_equalIn_array (P := Try.prog) w 9999 _ _ Try.underlying51 hi, show Try.prog.cellsOf 5 = 1 by kernel_rfl]
  refine eq_items w 9998 _ _ (fun k hk => ?_)
  obtain ⟨x, hx⟩ := byteC_get l h k (by simpa using hk)
  exact ⟨x, by simpa using hx⟩
theorem copy_bytes (l : List UInt8) (h : l.length ≤ 26) (w : World) (g : Nat) (hg : w.heap[g]? = some (.cells #[.int .u8 0, .int .u8 0, .int .u8 0, .int .u8 0, .int .u8 0, .int .u8 0, .int .u8 0, .int .u8 0, .int .u8 0, .int .u8 0, .int .u8 0, .int .u8 0, .int .u8 0, .int .u8 0, .int .u8 0, .int .u8 0, .int .u8 0, .int .u8 0, .int .u8 0, .int .u8 0, .int .u8 0, .int .u8 0, .int .u8 0, .int .u8 0, .int .u8 0, .int .u8 0] 51 (0, 0))) (ty : TypeId) :
    (Builtin.copy_ #[41, 9] ty #[.slice (some ⟨g, 0, none⟩) 26 26, .string ⟨l.toArray⟩]).run Try.prog w = .ok (goInt l.length) (w.setRow g (byteC l).toArray) := by
  have hs : (⟨l.toArray⟩ : ByteArray).size = l.length := by simp [ByteArray.size]
  have hr := Lib.run_copy_row_string (P := Try.prog) w 41 9 ty 5 g 0 26 26 ⟨l.toArray⟩ _ 51 Try.underlying41 (by kernel_rfl) hg (by rw [hs]; exact h) (by rw [hs]; simpa using h)
  rw [hr, hs]
  congr 2
  unfold byteC Lib.byteCells
  have e : (#[.int .u8 0, .int .u8 0, .int .u8 0, .int .u8 0, .int .u8 0, .int .u8 0, .int .u8 0, .int .u8 0, .int .u8 0, .int .u8 0, .int .u8 0, .int .u8 0, .int .u8 0, .int .u8 0, .int .u8 0, .int .u8 0, .int .u8 0, .int .u8 0, .int .u8 0, .int .u8 0, .int .u8 0, .int .u8 0, .int .u8 0, .int .u8 0, .int .u8 0, .int .u8 0] : Array Value).toList.drop (0 + l.length) = List.replicate (26 - l.length) (.int .u8 0) := by
    rw [Nat.zero_add, show (#[.int .u8 0, .int .u8 0, .int .u8 0, .int .u8 0, .int .u8 0, .int .u8 0, .int .u8 0, .int .u8 0, .int .u8 0, .int .u8 0, .int .u8 0, .int .u8 0, .int .u8 0, .int .u8 0, .int .u8 0, .int .u8 0, .int .u8 0, .int .u8 0, .int .u8 0, .int .u8 0, .int .u8 0, .int .u8 0, .int .u8 0, .int .u8 0, .int .u8 0, .int .u8 0] : Array Value).toList = List.replicate 26 (.int .u8 0) from rfl, List.drop_replicate]
  rw [e]
  simp
theorem exec_load_blk {P : Program} {o : Oper} {ρ : Operand → Value} {w : World} (ty : TypeId) (x : Operand) (ho : o.op = .load ty x) (g : Nat) (hx : ρ x = .pointer (some ⟨g, 0, none⟩)) (t : TypeId) (cs : Array Value) (d : TypeDesc) (hg : Blk w g t cs)
    (hu : P.underlying ty = some d) (hd : (match d with | .struct _ | .array _ _ => true | _ => false) = true) (hi : (P.info? ty).map (·.size) = some cs.size) : (execOp ρ o).run P w = .ok (.value (.agg cs)) w := by
  obtain ⟨fr, hg, _⟩ := hg
  simp only [execOp, ho, hx, Instr.loadAt, Instr.sureAddr, Sem.run_bind, Sem.run_pure, Result.andThen_ok, run_loadVar_row w g t ty cs fr d hg hu hd hi]
theorem exec_load_mid {P : Program} {o : Oper} {ρ : Operand → Value} {w : World} (ty : TypeId) (x : Operand) (ho : o.op = .load ty x) (b off : Nat) (hx : ρ x = .pointer (some ⟨b, off, none⟩)) (cs : List Value) (d : TypeDesc) (hc : w.rangeAt b off cs)
    (hu : P.underlying ty = some d) (hd : d.isRow = true) (hi : (P.info? ty).map (·.size) = some cs.length) : (execOp ρ o).run P w = .ok (.value (.agg cs.toArray)) w := by
  simp only [execOp, ho, hx, Instr.loadAt, Instr.sureAddr, Sem.run_bind, Sem.run_pure, Result.andThen_ok, run_loadVar_mid w b off ty cs d hc hu hd hi]
theorem Pt.range {w : World} {g : Nat} {l : List UInt8} (h : Pt w g l) : w.rangeAt g 0 (byteC l) := fun j v hv => by
  rw [Nat.zero_add, h.1.cell j, List.getElem?_toArray]
  unfold partC
  rw [List.getElem?_append_left (List.getElem?_eq_some_iff.1 hv).1]
  exact hv
theorem results_c1 {P : Program} {fn : Func} {p q : Tmp} {tp tq : TypeId} (h : fn.results = #[.cell p tp, .cell q tq]) (tmps : Array Value) (w : World) (g : Nat) (t : TypeId) (cs : Array Value) (d : TypeDesc) (g2 : Nat) (t2 : TypeId) (v2 : Value) (d2 : TypeDesc)
    (hp : tmps.getD p undef = .pointer (some ⟨g, 0, none⟩)) (hg : Blk w g t cs)
    (hu : P.underlying tp = some d) (hd : (match d with | .struct _ | .array _ _ => true | _ => false) = true) (hi : (P.info? tp).map (·.size) = some cs.size)
    (hp2 : tmps.getD q undef = .pointer (some ⟨g2, 0, none⟩)) (hg2 : Blk w g2 t2 #[v2])
    (hu2 : P.underlying tq = some d2) (hd2 : (match d2 with | .struct _ | .array _ _ => true | _ => false) = false) :
    (results fn tmps).run P w = .ok (.tuple #[.agg cs, v2]) w := by
  have e2 := run_loadVar_one w g2 t2 tq v2 d2 hg2 hu2 hd2
  obtain ⟨fr, hg, _⟩ := hg
  have e1 := run_loadVar_row w g t tp cs fr d hg hu hd hi
  have hp' : tmps[p]?.getD undef = .pointer (some ⟨g, 0, none⟩) := by simpa using hp
  have hq' : tmps[q]?.getD undef = .pointer (some ⟨g2, 0, none⟩) := by simpa using hp2
  simp [results, h, hp', hq', asAddr, e1, e2]
set_option maxRecDepth 100000 in
set_option maxHeartbeats 3200000 in
theorem read_ok_any (m : Nat) (l : List UInt8) (w : World) (hl : l.length ≤ 1000) :
    Calls Try.prog 39 #[.int .i64 m, .string ⟨l.toArray⟩] w fun e w' => (okG m l ∧ e = .returned (.tuple #[partV l, .bool true]) ∨ ¬ okG m l ∧ e = .returned (.tuple #[partV [], .bool false])) ∧ Below w.heap.size w w' := by
  have HI := Lib.hid (fun W => bytesIt_any l W)
  have HS := Lib.hid (fun Bs W => bytes_stops Bs l hl W)
  refine calls_of_wpM Try.func39 rfl ?_
  simp only [Try.ntmps39, List.size_toArray, List.length_cons, List.length_nil, Nat.reduceAdd, Nat.reduceSub, Array.replicate_succ, Array.replicate_zero, List.push_toArray, List.append_toArray, List.nil_append, List.cons_append]
  go_wp2_with (go_at_call 36; refine (HI.out _).mono ?_; rintro e w3 ⟨rfl, rfl⟩)
  have HBad := Lib.hid (fun (t : List UInt8) (b : UInt8) (ht : t.length ≤ 26) W => bad_any t m b.toNat W ht b.toNat_lt)
  have HWi := Lib.hid (fun (t : List UInt8) (b : UInt8) (ht : t.length < 26) W => with_any t b.toNat W ht b.toNat_lt)
  have HWh := Lib.hid (fun (t : List UInt8) (ht : t.length ≤ 26) W => whole_any t W ht)
  have bT := (((Blk.new w 3 #[.int .i64 m]).alloc (.cells zeroP 53)).alloc (.cells #[.bool false] 4)).alloc (.cells #[.string ⟨l.toArray⟩] 9)
  have bP := ((Pt.zero (w.alloc (.cells #[.int .i64 m] 3)) (g := w.heap.size + 1) (by simp)).alloc (.cells #[.bool false] 4)).alloc (.cells #[.string ⟨l.toArray⟩] 9)
  have bO := (Blk.newAt ((w.alloc (.cells #[.int .i64 m] 3)).alloc (.cells zeroP 53)) 4 #[.bool false] (g := w.heap.size + 2) (by simp)).alloc (.cells #[.string ⟨l.toArray⟩] 9)
  have bS := Blk.newAt (((w.alloc (.cells #[.int .i64 m] 3)).alloc (.cells zeroP 53)).alloc (.cells #[.bool false] 4)) 9 #[.string ⟨l.toArray⟩] (g := w.heap.size + 3) (by simp)
  have hB0 := ((((Below.refl w.heap.size w).alloc (Nat.le_refl _) (.cells #[.int .i64 m] 3)).alloc (by simp) (.cells zeroP 53)).alloc (by simp; omega) (.cells #[.bool false] 4)).alloc (by simp; omega) (.cells #[.string ⟨l.toArray⟩] 9)
  unfold zeroP at bT bP bO bS hB0
  have hsz0 : ((((w.alloc (.cells #[.int .i64 m] 3)).alloc (.cells #[.int .u8 0, .int .u8 0, .int .u8 0, .int .u8 0, .int .u8 0, .int .u8 0, .int .u8 0, .int .u8 0, .int .u8 0, .int .u8 0, .int .u8 0, .int .u8 0, .int .u8 0, .int .u8 0, .int .u8 0, .int .u8 0, .int .u8 0, .int .u8 0, .int .u8 0, .int .u8 0, .int .u8 0, .int .u8 0, .int .u8 0, .int .u8 0, .int .u8 0, .int .u8 0, .int .i64 0] 53)).alloc (.cells #[.bool false] 4)).alloc (.cells #[.string ⟨l.toArray⟩] 9)).heap.size = w.heap.size + 4 := by simp
  simp only [Nat.add_assoc, Nat.reduceAdd] at *
  generalize (((w.alloc (.cells #[.int .i64 m] 3)).alloc (.cells #[.int .u8 0, .int .u8 0, .int .u8 0, .int .u8 0, .int .u8 0, .int .u8 0, .int .u8 0, .int .u8 0, .int .u8 0, .int .u8 0, .int .u8 0, .int .u8 0, .int .u8 0, .int .u8 0, .int .u8 0, .int .u8 0, .int .u8 0, .int .u8 0, .int .u8 0, .int .u8 0, .int .u8 0, .int .u8 0, .int .u8 0, .int .u8 0, .int .u8 0, .int .u8 0, .int .i64 0] 53)).alloc (.cells #[.bool false] 4)).alloc (.cells #[.string ⟨l.toArray⟩] 9) = w0 at *
  refine (wpIn_wide (n := 3)).1 ?_
  refine wpIn_rangeFunc_ownF rfl (by decide) (gf := 42) (lb := #[.pointer (some ⟨w.heap.size + 3, 0, none⟩)]) rfl trivial (enters_of Try.func42 (by kernel_rfl) rfl)
    (HS.out (w.heap.size + 3) w0 (bS.cell 0)) (fun h k => k.trans h) (fun W j o o' hj ho hc _ => World.cell?_of_block (World.putObj_heap_other (by simp only; omega))) (Below.refl _ _) (fun _ => rfl)
    (readI m l w) (readX m w)
    (fun pre W W' row hs hg hr => ⟨⟨hs.1.1, Blk.turn hs.1.2.1 hg hr, hs.1.2.2.1.turn hg hr, Blk.turn hs.1.2.2.2.1 hg hr, Blk.turn hs.1.2.2.2.2 hg hr⟩, hs.2.grown hg hs.2.size (fun k e => by have := (hr k e).1; omega)⟩)
    (fun c pre W W' row hs hg hr => ⟨⟨hs.1.1, hs.1.2.1, hs.1.2.2.1.turn hg hr, Blk.turn hs.1.2.2.2 hg hr⟩, hs.2.grown hg hs.2.size (fun k e => by have := (hr k e).1; omega)⟩)
    ⟨⟨fun k hk => by simp [ibB] at hk, bT, bP, bO, bS⟩, hB0⟩
    (fun x => { tmps := #[.int .i64 m, .string ⟨l.toArray⟩, .pointer (some ⟨w.heap.size, 0, none⟩), undef, .pointer (some ⟨w.heap.size + 1, 0, none⟩), .pointer (some ⟨w.heap.size + 2, 0, none⟩), undef, .int .u8 x.1.2.toNat, undef, .string ⟨l.toArray⟩, .func (Fn.func 42) #[] #[.pointer (some ⟨w.heap.size + 3, 0, none⟩)], .int .i64 x.1.1, .int .u8 x.1.2.toNat, undef, undef, undef, undef, undef, undef, undef, undef, undef, undef, undef, undef, undef, undef, undef, undef, undef, undef, undef, undef], defers := [] }) ?assign ?body ?done ?stop
  case assign =>
    intro l x W K hK
    unfold ibEnc
    gi_wp2
    exact hK
  case body =>
    rintro loop pre x W ⟨⟨hok, hT, hP, hO, hSt⟩, hB⟩ hlen
    have hx := ibB_snoc pre x
    obtain ⟨⟨i, b⟩, hi⟩ := x
    simp only at hx ⊢
    have ht25 := (okG_len m _ hok).1
    generalize ibB pre = t at *
    have hHK := KeepsOthers.refl W
    have cT := hT.cell 0
    have ht26 : t.length ≤ 26 := by omega
    have ht26' : t.length < 26 := by omega
    have htb26 : (t ++ [b]).length ≤ 26 := by simp; omega
    have HB1 := Lib.hid (HBad.out t b ht26)
    have HW1 := Lib.hid (HWi.out t b ht26')
    have HO1 := Lib.hid (HWh.out (t ++ [b]) htb26)
    rw [show UInt8.ofNat b.toNat = b by simp] at HW1
    have HX := Lib.hid hx
    have HSn := Lib.hid (okG_snoc m t b)
    clear HBad HWi HWh hx bT bP bO bS hB0 HI HS
    by_cases hbad : badN m t.length b.toNat = 0
    · rw [hbad] at HB1
      by_cases hwh : wholeP (t ++ [b]) = true
      · rw [hwh] at HO1
        have hno : ¬ okG m (t ++ [b]) := fun h => by
          have := (HSn.out.1 h).2.2
          rw [hwh] at this; cases this
        have HNo := Lib.hid hno
        clear hno hwh HSn
        gi_wp2_with (first
          | (refine wpListIn_load_part rfl _ rfl (w.heap.size + 1) rfl t hP ?_)
          | (refine ⟨trivial, ?_⟩; gi_at_call 32; refine (CallsIn.inRound loop (callsIn_wide.2 (HB1.out _))).mono ?_; rintro e w1 ⟨rfl, hb1⟩; have hP1 := hP.on hb1; have hO1 := Blk.on hO hb1)
          | (refine wpListIn_load_part rfl _ rfl (w.heap.size + 1) rfl t hP1 ?_)
          | (refine ⟨trivial, ?_⟩; gi_at_call 40; refine (CallsIn.inRound loop (callsIn_wide.2 (HW1.out _))).mono ?_; rintro e w2 ⟨rfl, hb2⟩; have hP2 := hP1.on hb2; have hO2 := Blk.on hO1 hb2; have hP3 := hP2.row htb26; have hO3 := hO2.rowFar (k := w.heap.size + 1) (by omega) (partC (t ++ [b])).toArray)
          | (refine wpListIn_store_part rfl _ _ rfl (w.heap.size + 1) rfl (t ++ [b]) htb26 rfl t hP2 ?_)
          | (refine wpListIn_load_part rfl _ rfl (w.heap.size + 1) rfl (t ++ [b]) hP3 ?_)
          | (refine ⟨trivial, ?_⟩; gi_at_call 41; refine (CallsIn.inRound loop (callsIn_wide.2 (HO1.out _))).mono ?_; rintro e w4 ⟨rfl, hb4⟩; have hP4 := hP3.on hb4; have hO4 := Blk.on hO3 hb4; have hO5 := hO4.rowFar (k := w.heap.size + 1) (by omega) (partC []).toArray; have c5 := hO5.cell 0; have f5 := hO5.frozen (i := 0) (by simp))
          | (refine wpListIn_store_part rfl _ _ rfl (w.heap.size + 1) rfl [] (by decide) rfl (t ++ [b]) hP4 ?_))
        refine ⟨((((keeps_below hb1).trans (keeps_below hb2)).trans (keeps_row hP2.1 _)).trans (keeps_below hb4)).trans ((keeps_row hP4.1 _).trans (KeepsOthers.setCell _ _ _)), ⟨rfl, by rw [HX.out]; exact HNo.out, (hP4.row (by decide)).far (p := ⟨w.heap.size + 2, 0, none⟩) (by simp) _, hO5.set 0 _⟩, ?_⟩
        exact (below_setRow (below_on (below_setRow (below_on (below_on hB hb1 (Nat.le_refl _)) hb2 (Nat.le_refl _)) (Nat.le_succ _) _) hb4 (Nat.le_refl _)) (Nat.le_succ _) _).setCell (p := ⟨w.heap.size + 2, 0, none⟩) (by simp) _
      · have hwf : wholeP (t ++ [b]) = false := by revert hwh; cases wholeP (t ++ [b]) <;> simp
        rw [hwf] at HO1
        have HYes := Lib.hid (HSn.out.2 ⟨hok, hbad, hwf⟩)
        clear hwh hwf HSn
        gi_wp2_with (first
          | (refine wpListIn_load_part rfl _ rfl (w.heap.size + 1) rfl t hP ?_)
          | (refine ⟨trivial, ?_⟩; gi_at_call 32; refine (CallsIn.inRound loop (callsIn_wide.2 (HB1.out _))).mono ?_; rintro e w1 ⟨rfl, hb1⟩; have hP1 := hP.on hb1; have hO1 := Blk.on hO hb1)
          | (refine wpListIn_load_part rfl _ rfl (w.heap.size + 1) rfl t hP1 ?_)
          | (refine ⟨trivial, ?_⟩; gi_at_call 40; refine (CallsIn.inRound loop (callsIn_wide.2 (HW1.out _))).mono ?_; rintro e w2 ⟨rfl, hb2⟩; have hP2 := hP1.on hb2; have hO2 := Blk.on hO1 hb2; have hP3 := hP2.row htb26; have hO3 := hO2.rowFar (k := w.heap.size + 1) (by omega) (partC (t ++ [b])).toArray)
          | (refine wpListIn_store_part rfl _ _ rfl (w.heap.size + 1) rfl (t ++ [b]) htb26 rfl t hP2 ?_)
          | (refine wpListIn_load_part rfl _ rfl (w.heap.size + 1) rfl (t ++ [b]) hP3 ?_)
          | (refine ⟨trivial, ?_⟩; gi_at_call 41; refine (CallsIn.inRound loop (callsIn_wide.2 (HO1.out _))).mono ?_; rintro e w4 ⟨rfl, hb4⟩))
        have hSt3 := (Blk.on (Blk.on hSt hb1) hb2).rowFar (k := w.heap.size + 1) (by omega) (partC (t ++ [b])).toArray
        have hT3 := (Blk.on (Blk.on hT hb1) hb2).rowFar (k := w.heap.size + 1) (by omega) (partC (t ++ [b])).toArray
        have hSt4 := Blk.on hSt3 hb4
        refine ⟨(((keeps_below hb1).trans (keeps_below hb2)).trans (keeps_row hP2.1 _)).trans (keeps_below hb4), (hSt4.cell 0).trans (hSt.cell 0).symm, ⟨by rw [HX.out]; exact HYes.out, Blk.on hT3 hb4, by rw [HX.out]; exact hP3.on hb4, Blk.on hO3 hb4, hSt4⟩, ?_⟩
        exact below_on (below_setRow (below_on (below_on hB hb1 (Nat.le_refl _)) hb2 (Nat.le_refl _)) (Nat.le_succ _) _) hb4 (Nat.le_refl _)
    · have HNo := Lib.hid (show ¬ okG m (t ++ [b]) from fun h => hbad (HSn.out.1 h).2.1)
      have hbz : (badN m t.length b.toNat == 0) = false := by simpa using hbad
      generalize badN m t.length b.toNat = e0 at *
      clear HSn HW1 HO1
      gi_wp2_with (first
        | (refine wpListIn_load_part rfl _ rfl (w.heap.size + 1) rfl t hP ?_)
        | (refine ⟨trivial, ?_⟩; gi_at_call 32; refine (CallsIn.inRound loop (callsIn_wide.2 (HB1.out _))).mono ?_; rintro e w1 ⟨rfl, hb1⟩; have hP1 := hP.on hb1; have hO1 := Blk.on hO hb1; have hO5 := hO1.rowFar (k := w.heap.size + 1) (by omega) (partC []).toArray; have c5 := hO5.cell 0; have f5 := hO5.frozen (i := 0) (by simp))
        | (refine wpListIn_store_part rfl _ _ rfl (w.heap.size + 1) rfl [] (by decide) rfl t hP1 ?_))
      refine ⟨(keeps_below hb1).trans ((keeps_row hP1.1 _).trans (KeepsOthers.setCell _ _ _)), ⟨rfl, by rw [HX.out]; exact HNo.out, (hP1.row (by decide)).far (p := ⟨w.heap.size + 2, 0, none⟩) (by simp) _, hO5.set 0 _⟩, ?_⟩
      exact (below_setRow (below_on hB hb1 (Nat.le_refl _)) (Nat.le_succ _) _).setCell (p := ⟨w.heap.size + 2, 0, none⟩) (by simp) _
  case done =>
    rintro D ys W hD rfl ⟨⟨hok, hT, hP, hO, hSt⟩, hB⟩ hK
    have hib : ibB (ibs 0 l) = l := ibs_bytes 0 l (by omega)
    rw [hib] at hok hP
    clear bT bP bO bS hB0 HI HS HBad HWi HWh hib
    have hl26 : l.length ≤ 26 := by have := (okG_len m l hok).1; omega
    gi_wp2_with fail
    have hP1 := hP.alloc (.cells #[.int .u8 0, .int .u8 0, .int .u8 0, .int .u8 0, .int .u8 0, .int .u8 0, .int .u8 0, .int .u8 0, .int .u8 0, .int .u8 0, .int .u8 0, .int .u8 0, .int .u8 0, .int .u8 0, .int .u8 0, .int .u8 0, .int .u8 0, .int .u8 0, .int .u8 0, .int .u8 0, .int .u8 0, .int .u8 0, .int .u8 0, .int .u8 0, .int .u8 0, .int .u8 0] 51)
    have hO1 := hO.alloc (.cells #[.int .u8 0, .int .u8 0, .int .u8 0, .int .u8 0, .int .u8 0, .int .u8 0, .int .u8 0, .int .u8 0, .int .u8 0, .int .u8 0, .int .u8 0, .int .u8 0, .int .u8 0, .int .u8 0, .int .u8 0, .int .u8 0, .int .u8 0, .int .u8 0, .int .u8 0, .int .u8 0, .int .u8 0, .int .u8 0, .int .u8 0, .int .u8 0, .int .u8 0, .int .u8 0] 51)
    have hne : w.heap.size + 1 ≠ W.heap.size := by have := hP.lt; omega
    have hne2 : w.heap.size + 2 ≠ W.heap.size := by have := hO.lt; omega
    have hcp := copy_bytes l hl26 (W.alloc (.cells #[.int .u8 0, .int .u8 0, .int .u8 0, .int .u8 0, .int .u8 0, .int .u8 0, .int .u8 0, .int .u8 0, .int .u8 0, .int .u8 0, .int .u8 0, .int .u8 0, .int .u8 0, .int .u8 0, .int .u8 0, .int .u8 0, .int .u8 0, .int .u8 0, .int .u8 0, .int .u8 0, .int .u8 0, .int .u8 0, .int .u8 0, .int .u8 0, .int .u8 0, .int .u8 0] 51)) W.heap.size (heap_alloc_new W _)
    have hP2 := hP1.rowFar (j := W.heap.size) hne (byteC l).toArray
    have hO2 := hO1.rowFar (k := W.heap.size) hne2 (byteC l).toArray
    have hA2 := (Blk.new W 51 #[.int .u8 0, .int .u8 0, .int .u8 0, .int .u8 0, .int .u8 0, .int .u8 0, .int .u8 0, .int .u8 0, .int .u8 0, .int .u8 0, .int .u8 0, .int .u8 0, .int .u8 0, .int .u8 0, .int .u8 0, .int .u8 0, .int .u8 0, .int .u8 0, .int .u8 0, .int .u8 0, .int .u8 0, .int .u8 0, .int .u8 0, .int .u8 0, .int .u8 0, .int .u8 0]).row (byteC l).toArray (by simp [byteC_len l hl26])
    have hB2 := below_setRow (hB.alloc hB.size (.cells #[.int .u8 0, .int .u8 0, .int .u8 0, .int .u8 0, .int .u8 0, .int .u8 0, .int .u8 0, .int .u8 0, .int .u8 0, .int .u8 0, .int .u8 0, .int .u8 0, .int .u8 0, .int .u8 0, .int .u8 0, .int .u8 0, .int .u8 0, .int .u8 0, .int .u8 0, .int .u8 0, .int .u8 0, .int .u8 0, .int .u8 0, .int .u8 0, .int .u8 0, .int .u8 0] 51)) hB.size (byteC l).toArray
    have hK2 : ((W.alloc (.cells #[.int .u8 0, .int .u8 0, .int .u8 0, .int .u8 0, .int .u8 0, .int .u8 0, .int .u8 0, .int .u8 0, .int .u8 0, .int .u8 0, .int .u8 0, .int .u8 0, .int .u8 0, .int .u8 0, .int .u8 0, .int .u8 0, .int .u8 0, .int .u8 0, .int .u8 0, .int .u8 0, .int .u8 0, .int .u8 0, .int .u8 0, .int .u8 0, .int .u8 0, .int .u8 0] 51)).setRow W.heap.size (byteC l).toArray).heap[D]? = some (.deferred (some [])) := by
      have hlt := (Array.getElem?_eq_some_iff.1 hK).1
      rw [setRow_other _ _ _ _ (by omega)]
      exact (Below.heap_alloc W _ D hlt).trans hK
    have hi26 : (Try.prog.info? 51).map (·.size) = some (byteC l).length := by rw [byteC_len l hl26]; kernel_rfl
    have heq := eq_bytes l hl26
    have heq2 : ∀ W, (binOp .eql 51 (.agg (byteC l).toArray) (.agg (byteC l).toArray)).run Try.prog W = .ok (.bool true) W := fun W => by
      rw [run_eql_struct, heq]; rfl
    have hP3 := hP2.drew.row (k := l) hl26
    have hO3 := hO2.drew.rowFar (k := w.heap.size + 1) (by omega) (partC l).toArray
    have hA3 := hA2.drew.rowFar (k := w.heap.size + 1) (by omega) (partC l).toArray
    have hB3 := below_setRow hB2.drew (show w.heap.size ≤ w.heap.size + 1 by omega) (partC l).toArray
    have hO4 := hO3.set 0 (.bool true)
    have hP4 := hP3.far (p := ⟨w.heap.size + 2, 0, none⟩) (by simp) (.bool true)
    have hA4 := hA3.far (p := ⟨w.heap.size + 2, 0, none⟩) hne2.symm (.bool true)
    have hB4 := hB3.setCell (p := ⟨w.heap.size + 2, 0, none⟩) (by simp) (.bool true)
    go_wp2_with (first
      | (at_builtin; refine Lib.wpList_copy_run _ rfl _ _ 41 9 rfl _ _ rfl rfl (hcp _) ?_))
    have KS : (fun W' => Pt W' (w.heap.size + 1) l ∧ Blk W' W.heap.size 51 (byteC l).toArray) ((W.alloc (.cells #[.int .u8 0, .int .u8 0, .int .u8 0, .int .u8 0, .int .u8 0, .int .u8 0, .int .u8 0, .int .u8 0, .int .u8 0, .int .u8 0, .int .u8 0, .int .u8 0, .int .u8 0, .int .u8 0, .int .u8 0, .int .u8 0, .int .u8 0, .int .u8 0, .int .u8 0, .int .u8 0, .int .u8 0, .int .u8 0, .int .u8 0, .int .u8 0, .int .u8 0, .int .u8 0] 51)).setRow W.heap.size (byteC l).toArray).drew := ⟨hP2.drew, hA2.drew⟩
    refine wp_region_noPanic ?_
    refine wp_region_held_drew (S := fun W' => Pt W' (w.heap.size + 1) l ∧ Blk W' W.heap.size 51 (byteC l).toArray) (by kernel_rfl) KS (fun _ => ?_)
    refine reg_take 0 _ 28 (partV l) rfl rfl (by kernel_rfl) (by kernel_rfl) (by kernel_rfl) (fun _ _ _ h => h) (by rfl) (fun W' hS => exec_load_blk 53 _ rfl (w.heap.size + 1) rfl 53 _ _ hS.1.1 Try.underlying53 rfl (part_in l hl26)) KS ?_
    refine reg_take 1 _ 29 (.pointer (some ⟨w.heap.size + 1, 0, none⟩)) rfl rfl (by kernel_rfl) (by kernel_rfl) (by kernel_rfl) (fun _ _ _ h => h) (by rfl) ?r1 KS ?_
    case r1 => intro W' _; go_simp
    refine reg_take 2 _ 30 (.agg (byteC l).toArray) rfl rfl (by kernel_rfl) (by kernel_rfl) (by kernel_rfl) (fun _ _ _ h => h) (by rfl) (fun W' hS => exec_load_mid 51 _ rfl (w.heap.size + 1) 0 rfl (byteC l) _ hS.1.range Try.underlying51 rfl hi26) KS ?_
    refine reg_take 3 _ 31 (.agg (byteC l).toArray) rfl rfl (by kernel_rfl) (by kernel_rfl) (by kernel_rfl) (fun _ _ _ h => h) (by rfl) (fun W' hS => exec_load_blk 51 _ rfl W.heap.size rfl 51 _ _ hS.2 Try.underlying51 rfl (by simpa using hi26)) KS ?_
    simp only [List.setIfInBounds_toArray, List.set_cons_zero, List.set_cons_succ]
    refine reg_take 4 _ 32 (.bool true) rfl rfl (by kernel_rfl) (by kernel_rfl) (by kernel_rfl) (fun _ _ _ h => h) (by rfl) ?r4 KS ?_
    case r4 =>
      intro W' _
      clear hP hP1 hP2 hP3 hP4 hO hO1 hO2 hO3 hO4 hA2 hA3 hA4 hB hB2 hB3 hB4 hcp hK hK2 KS hT hSt
      go_simp
    simp only [List.setIfInBounds_toArray, List.set_cons_zero, List.set_cons_succ]
    refine reg_step 5 _ undef _ rfl (by kernel_rfl) (by rfl) (fun K Q h => wp_store_part _ _ rfl (w.heap.size + 1) rfl l hl26 rfl l hP2.drew h) ⟨hP3, hA3⟩ _ rfl ?_
    refine reg_step 6 _ undef _ rfl (by kernel_rfl) (by rfl) (fun K Q h => wp_store1 4 _ _ rfl (w.heap.size + 2) (.bool true) _ _ rfl rfl hO3 (by kernel_rfl) rfl rfl h) ⟨hP4, hA4⟩ _ rfl ?_
    refine wpAnyH_done (by kernel_rfl) ?_ _
    refine NoPanic.normal ?_
    have hK4 : ((((W.alloc (.cells #[.int .u8 0, .int .u8 0, .int .u8 0, .int .u8 0, .int .u8 0, .int .u8 0, .int .u8 0, .int .u8 0, .int .u8 0, .int .u8 0, .int .u8 0, .int .u8 0, .int .u8 0, .int .u8 0, .int .u8 0, .int .u8 0, .int .u8 0, .int .u8 0, .int .u8 0, .int .u8 0, .int .u8 0, .int .u8 0, .int .u8 0, .int .u8 0, .int .u8 0, .int .u8 0] 51)).setRow W.heap.size (byteC l).toArray).drew.setRow (w.heap.size + 1) (partC l).toArray).setCell ⟨w.heap.size + 2, 0, none⟩ (.bool true)).heap[D]? = some (.deferred (some [])) := by
      refine setCell_obj ?_ (by simp only; omega)
      rw [setRow_other _ _ _ _ (by omega)]
      exact hK2
    go_wp2_with fail
    have hmk := (Marks.nil ((((W.alloc (.cells #[.int .u8 0, .int .u8 0, .int .u8 0, .int .u8 0, .int .u8 0, .int .u8 0, .int .u8 0, .int .u8 0, .int .u8 0, .int .u8 0, .int .u8 0, .int .u8 0, .int .u8 0, .int .u8 0, .int .u8 0, .int .u8 0, .int .u8 0, .int .u8 0, .int .u8 0, .int .u8 0, .int .u8 0, .int .u8 0, .int .u8 0, .int .u8 0, .int .u8 0, .int .u8 0] 51)).setRow W.heap.size (byteC l).toArray).drew.setRow (w.heap.size + 1) (partC l).toArray).setCell ⟨w.heap.size + 2, 0, none⟩ (.bool true)) w.heap.size).cons (r := D) (by omega) hK4 (by simp)
    refine leaves_marks (B := w.heap.size) (v := .tuple #[partV l, .bool true]) [D] _ hmk fun W' hs => ⟨results_c1 (fn := Try.f39) rfl _ W' _ _ _ _ _ _ _ _ rfl (hs.blk hP4.1) Try.underlying53 rfl (part_in l hl26) rfl (hs.blk hO4) Try.underlying4 rfl, ⟨rfl, hs.below hB4⟩⟩
  case stop =>
    rintro D c pre W hD ⟨k, hk, hpre⟩ ⟨⟨rfl, hno, hP, hO⟩, hB⟩ hK
    have hnl : ¬ okG m l := fun h => hno (by
      rw [hpre]
      unfold ibB
      rw [List.map_take, show (ibs 0 l).map (·.1.2) = l from ibs_bytes 0 l (by omega)]
      exact okG_take m l h k)
    clear bT bP bO bS hB0 HI HS HBad HWi HWh
    gi_wp2
    have hmk : Marks W w.heap.size [D] := (Marks.nil W _).cons (by omega) hK (by simp)
    refine leaves_marks (B := w.heap.size) (v := .tuple #[partV [], .bool false]) [D] W hmk fun W' hs => ⟨results_c1 (fn := Try.f39) rfl _ W' _ _ _ _ _ _ _ _ rfl (hs.blk hP.1) Try.underlying53 rfl (part_in [] (by decide)) rfl (hs.blk hO) Try.underlying4 rfl, ⟨.inr ⟨hnl, rfl⟩, hs.below hB⟩⟩
end Go.Proofs.Ytfcbbolokhcknaa
