/- Parts of a frame: bad, take. -/
import Derived.Test.YtfcbbolokhcknaaFa2
import Derived.Test.YtfcbbolokhcknaaTk
import Derived.Test.YtfcbbolokhcknaaRg
namespace Go.Proofs.Ytfcbbolokhcknaa
open Go.RowKit
/-- The error of a byte behind n bytes. -/
def badN (m : Nat) (n : Nat) (b : Nat) : Int := if n = 0 then (if 128 ≤ b then 26 else if m < b then 14 else 0) else if n = 1 then (if 128 ≤ b then 26 else if 24 < b then 4 else 0) else 0
theorem badN_cases (m n b : Nat) : (n = 0 ∧ 128 ≤ b ∧ badN m n b = 26) ∨ (n = 0 ∧ ¬ 128 ≤ b ∧ m < b ∧ badN m n b = 14) ∨ (n = 0 ∧ ¬ 128 ≤ b ∧ ¬ m < b ∧ badN m n b = 0) ∨
    (n = 1 ∧ 128 ≤ b ∧ badN m n b = 26) ∨ (n = 1 ∧ ¬ 128 ≤ b ∧ 24 < b ∧ badN m n b = 4) ∨ (n = 1 ∧ ¬ 128 ≤ b ∧ ¬ 24 < b ∧ badN m n b = 0) ∨ (2 ≤ n ∧ badN m n b = 0) := by
  unfold badN
  rcases Nat.lt_or_ge n 2 with h | h
  · rcases (by omega : n = 0 ∨ n = 1) with rfl | rfl
    · by_cases h1 : 128 ≤ b <;> by_cases h2 : m < b <;> simp [h1, h2]
    · by_cases h1 : 128 ≤ b <;> by_cases h2 : 24 < b <;> simp [h1, h2]
  · rw [if_neg (by omega), if_neg (by omega)]
    simp [h]
set_option maxRecDepth 100000 in
set_option maxHeartbeats 3200000 in
theorem bad_any (l : List UInt8) (m b : Nat) (w : World) (h : l.length ≤ 26) (hb8 : b < 256) : Calls Try.prog 32 #[partV l, .int .i64 m, .int .u8 b] w fun e w' => e = .returned (.int .i64 (badN m l.length b)) ∧ Below w.heap.size w w' := by
  have hb := (Below.refl w.heap.size w).alloc (Nat.le_refl _) (.cells (partC l).toArray 53)
  have hn := part_n l (by omega)
  have hc := badN_cases m l.length b
  generalize badN m l.length b = R at *
  unfold partV
  generalize partC l = cs at *
  generalize l.length = n at *
  rcases hc with ⟨rfl, h1, rfl⟩ | ⟨rfl, h1, h2, rfl⟩ | ⟨rfl, h1, h2, rfl⟩ | ⟨rfl, h1, rfl⟩ | ⟨rfl, h1, h2, rfl⟩ | ⟨rfl, h1, h2, rfl⟩ | ⟨h1, rfl⟩
  case inr.inr.inr.inr.inr.inr =>
    have e0 : ((n : Int) == 0) = false := by simpa using (by omega : ¬ (n : Int) = 0)
    have e1 : ((n : Int) == 1) = false := by simpa using (by omega : ¬ (n : Int) = 1)
    have e2 : ¬ n = 0 := by omega
    have e3 : ¬ n = 1 := by omega
    go_enter Try.func32, Try.ntmps32
    go_wp2
    go_ret
    exact ⟨rfl, hb⟩
  all_goals
    have hzb : (b : Int) < 256 := by omega
    have hwb : IntKind.i64.wrap (b : Int) = b := Go.IntWalk.i64_in _ (by omega)
    go_enter Try.func32, Try.ntmps32
    go_wp2
    go_ret
    exact ⟨rfl, hb⟩
theorem part_in (l : List UInt8) (h : l.length ≤ 26) : (Try.prog.info? 53).map (·.size) = some (partC l).toArray.size := by rw [part_size]; simp [partC_len l h]
/-- The part l lies in block g. -/
def Pt (w : World) (g : Nat) (l : List UInt8) : Prop := Blk w g 53 (partC l).toArray ∧ l.length ≤ 26
section
variable {w w' : World} {g : Nat} {l : List UInt8}
theorem Pt.lt (h : Pt w g l) : g < w.heap.size := h.1.lt
theorem Pt.on (h : Pt w g l) (hb : Below w.heap.size w w') : Pt w' g l := ⟨Blk.on h.1 hb, h.2⟩
theorem Pt.alloc (h : Pt w g l) (o : Obj) : Pt (w.alloc o) g l := ⟨h.1.alloc o, h.2⟩
theorem Pt.drew (h : Pt w g l) : Pt w.drew g l := ⟨h.1.drew, h.2⟩
theorem Pt.row (h : Pt w g l) {k : List UInt8} (hk : k.length ≤ 26) : Pt (w.setRow g (partC k).toArray) g k := ⟨h.1.row _ (by simp [partC_len k hk, partC_len l h.2]), hk⟩
theorem Pt.rowFar (h : Pt w g l) {j : Nat} (hj : g ≠ j) (ds : Array Value) : Pt (w.setRow j ds) g l := ⟨h.1.rowFar hj ds, h.2⟩
theorem Pt.far (h : Pt w g l) {p : Addr} (hp : g ≠ p.block) (u : Value) : Pt (w.setCell p u) g l := ⟨h.1.far hp u, h.2⟩
theorem Pt.n (h : Pt w g l) : w.cell? ⟨g, 26, none⟩ = some (.int .i64 l.length) := by rw [h.1.cell 26, List.getElem?_toArray]; exact part_n l h.2
theorem Pt.b0 (h : Pt w g l) : w.cell? ⟨g, 0, none⟩ = some (.int .u8 (b0 l)) := by rw [h.1.cell 0, List.getElem?_toArray]; exact part_0 l h.2
theorem Pt.b1 (h : Pt w g l) : w.cell? ⟨g, 1, none⟩ = some (.int .u8 (b1 l)) := by rw [h.1.cell 1, List.getElem?_toArray]; exact part_1 l h.2
end
theorem Pt.byte {w : World} {g : Nat} {l : List UInt8} (h : Pt w g l) {j : Nat} (hj : j < l.length) : w.cell? ⟨g, j, none⟩ = some (byteV l[j]) := by
  rw [h.1.cell j, List.getElem?_toArray]
  unfold partC byteC
  rw [List.append_assoc, List.getElem?_append_left (by simpa using hj), List.getElem?_map, List.getElem?_eq_getElem hj]
  rfl
theorem part_text {w : World} {g : Nat} {l : List UInt8} (h : Pt w g l) (h2 : 2 ≤ l.length) :
    (convert 41 9 (.slice (some ⟨g, 2, none⟩) (l.length - 2) 24)).run Try.prog w = .ok (.string ⟨(l.drop 2).toArray⟩) w := by
  refine run_bytes_back (P := Try.prog) 41 9 5 Try.underlying41 Try.underlying5 Try.underlying9 (D := g + 1) (by simp) ⟨by simp, by have := h.2; omega, by decide, fun _ => ⟨g, 2, rfl, by omega, fun j u hu => ?_⟩⟩
  rw [List.getElem?_map, List.getElem?_drop] at hu
  have hj : 2 + j < l.length := by
    by_cases hj : 2 + j < l.length
    · exact hj
    · rw [List.getElem?_eq_none (by omega)] at hu; cases hu
  rw [List.getElem?_eq_getElem hj] at hu
  rw [h.byte hj, ← hu]; rfl
theorem zeroP_part : zeroP = (partC []).toArray := rfl
theorem Pt.new (w : World) (l : List UInt8) (h : l.length ≤ 26) : Pt (w.alloc (.cells (partC l).toArray 53)) w.heap.size l := ⟨Blk.new w _ _, h⟩
theorem Pt.zero (w : World) {g : Nat} (hg : g = w.heap.size) : Pt (w.alloc (.cells zeroP 53)) g [] := by
  rw [zeroP_part]; subst hg; exact Pt.new w [] (by decide)
theorem wpList_load_part {ops : Array Oper} {rest : List Oper} {o : Oper} {a : Act} {w : World} {Q : Exit → Act → World → Prop} (hgd : o.guard = none) (x : Operand) (ho : o.op = .load 53 x)
    (g : Nat) (hx : a.eval x = .pointer (some ⟨g, 0, none⟩)) (l : List UInt8) (hg : Pt w g l)
    (h : wpList Try.prog ops Q rest (a.put o.dst (partV l)) w) : wpList Try.prog ops Q (o :: rest) a w :=
  wpList_load_blk hgd 53 x ho g hx 53 (partC l).toArray _ hg.1 Try.underlying53 rfl (part_in l hg.2) h
theorem wpList_store_part {ops : Array Oper} {rest : List Oper} {o : Oper} {a : Act} {w : World} {Q : Exit → Act → World → Prop} (hgd : o.guard = none) (x y : Operand) (ho : o.op = .store 53 x y)
    (g : Nat) (hx : a.eval x = .pointer (some ⟨g, 0, none⟩)) (k : List UInt8) (hk : k.length ≤ 26) (hy : a.eval y = partV k) (l : List UInt8) (hg : Pt w g l)
    (h : wpList Try.prog ops Q rest (a.put o.dst undef) (w.setRow g (partC k).toArray)) : wpList Try.prog ops Q (o :: rest) a w :=
  wpList_store_row hgd 53 x y ho g hx (partC k).toArray hy (partC l).toArray 53 hg.1 (part_in k hk) (by simp [partC_len k hk, partC_len l hg.2]) (by simpa using partC_one k) h
theorem tok_size : (Try.prog.info? 29).map (·.size) = some 3 := by kernel_rfl
theorem wpList_store_tok {ops : Array Oper} {rest : List Oper} {o : Oper} {a : Act} {w : World} {Q : Exit → Act → World → Prop} (hgd : o.guard = none) (x y : Operand) (ho : o.op = .store 29 x y)
    (g : Nat) (hx : a.eval x = .pointer (some ⟨g, 0, none⟩)) (s at_ : Int) (t : ByteArray) (hy : a.eval y = .agg #[.int .i64 s, .string t, .int .i64 at_]) (u v z : Value) (hg : Blk w g 29 #[u, v, z])
    (h : wpList Try.prog ops Q rest (a.put o.dst undef) (w.setRow g #[.int .i64 s, .string t, .int .i64 at_])) : wpList Try.prog ops Q (o :: rest) a w :=
  wpList_store_row hgd 29 x y ho g hx _ hy _ 29 hg tok_size rfl (by simp [Value.oneCell']) h
theorem results_cct {P : Program} {fn : Func} {p u q : Tmp} {tp tq : TypeId} (h : fn.results = #[.cell p tp, .cell q tq, .tmp u]) (tmps : Array Value) (w : World) (g : Nat) (t : TypeId) (cs : Array Value) (d : TypeDesc) (g2 : Nat) (t2 : TypeId) (ds : Array Value) (d2 : TypeDesc)
    (hp : tmps.getD p undef = .pointer (some ⟨g, 0, none⟩)) (hg : Blk w g t cs)
    (hu : P.underlying tp = some d) (hd : (match d with | .struct _ | .array _ _ => true | _ => false) = true) (hi : (P.info? tp).map (·.size) = some cs.size)
    (hp2 : tmps.getD q undef = .pointer (some ⟨g2, 0, none⟩)) (hg2 : Blk w g2 t2 ds)
    (hu2 : P.underlying tq = some d2) (hd2 : (match d2 with | .struct _ | .array _ _ => true | _ => false) = true) (hi2 : (P.info? tq).map (·.size) = some ds.size) :
    (results fn tmps).run P w = .ok (.tuple #[.agg cs, .agg ds, tmps.getD u undef]) w := by
  obtain ⟨fr, hg, _⟩ := hg
  obtain ⟨fr2, hg2, _⟩ := hg2
  have hp' : tmps[p]?.getD undef = .pointer (some ⟨g, 0, none⟩) := by simpa using hp
  have hq' : tmps[q]?.getD undef = .pointer (some ⟨g2, 0, none⟩) := by simpa using hp2
  simp [results, h, hp', hq', asAddr, run_loadVar_row w g t tp cs fr d hg hu hd hi, run_loadVar_row w g2 t2 tq ds fr2 d2 hg2 hu2 hd2 hi2]
theorem wp_store_part {o : Oper} {a : Act} {w : World} {K : Act → World → Prop} {Q : Exit → Act → World → Prop} (x y : Operand) (ho : o.op = .store 53 x y)
    (g : Nat) (hx : a.eval x = .pointer (some ⟨g, 0, none⟩)) (k : List UInt8) (hk : k.length ≤ 26) (hy : a.eval y = partV k) (l : List UInt8) (hg : Pt w g l)
    (h : K (a.put o.dst undef) (w.setRow g (partC k).toArray)) : o.wp Try.prog a w K Q :=
  wp_store_row 53 x y ho g hx (partC k).toArray hy (partC l).toArray 53 hg.1 (part_in k hk) (by simp [partC_len k hk, partC_len l hg.2]) (by simpa using partC_one k) h
theorem wp_store_tok {o : Oper} {a : Act} {w : World} {K : Act → World → Prop} {Q : Exit → Act → World → Prop} (x y : Operand) (ho : o.op = .store 29 x y)
    (g : Nat) (hx : a.eval x = .pointer (some ⟨g, 0, none⟩)) (s at_ : Int) (t : ByteArray) (hy : a.eval y = .agg #[.int .i64 s, .string t, .int .i64 at_]) (u v z : Value) (hg : Blk w g 29 #[u, v, z])
    (h : K (a.put o.dst undef) (w.setRow g #[.int .i64 s, .string t, .int .i64 at_])) : o.wp Try.prog a w K Q :=
  wp_store_row 29 x y ho g hx _ hy _ 29 hg tok_size rfl (by simp [Value.oneCell']) h
set_option maxRecDepth 100000 in
set_option maxHeartbeats 6400000 in
theorem take_any (l : List UInt8) (b : Nat) (w : World) (h : l.length < 26) (hb8 : b < 256) : Calls Try.prog 33 #[partV l, .int .u8 b] w fun e w' =>
    e = .returned (.tuple (if wholeP (l ++ [UInt8.ofNat b]) then #[partV [], .agg #[.int .i64 (b0 (l ++ [UInt8.ofNat b])), .string ⟨((l ++ [UInt8.ofNat b]).drop 2).toArray⟩, .int .i64 0], .bool true] else #[partV (l ++ [UInt8.ofNat b]), .agg #[.int .i64 0, .string ⟨#[]⟩, .int .i64 0], .bool false])) ∧ Below w.heap.size w w' := by
  have HW := Lib.hid (fun W => with_any l b W h hb8)
  have HO := Lib.hid (fun W => whole_any (l ++ [UInt8.ofNat b]) W (by simp; omega))
  have hlk : (l ++ [UInt8.ofNat b]).length = l.length + 1 := by simp
  have hl2 := h
  generalize l ++ [UInt8.ofNat b] = k at *
  have hk26 : k.length ≤ 26 := by omega
  have hP0 := ((Pt.new w l (by omega)).alloc (.cells zeroP 53)).alloc (.cells #[.int .i64 0, .string ⟨#[]⟩, .int .i64 0] 29)
  have hQ0 := (Pt.zero (w.alloc (.cells (partC l).toArray 53)) (g := w.heap.size + 1) (by simp)).alloc (.cells #[.int .i64 0, .string ⟨#[]⟩, .int .i64 0] 29)
  have hT0 := Blk.newAt ((w.alloc (.cells (partC l).toArray 53)).alloc (.cells zeroP 53)) 29 #[.int .i64 0, .string ⟨#[]⟩, .int .i64 0] (g := w.heap.size + 1 + 1) (by simp)
  have hb := (((Below.refl w.heap.size w).alloc (Nat.le_refl _) (.cells (partC l).toArray 53)).alloc (by simp) (.cells zeroP 53)).alloc (by simp; omega) (.cells #[.int .i64 0, .string ⟨#[]⟩, .int .i64 0] 29)
  unfold zeroP at hP0 hQ0 hT0 hb
  cases hw : wholeP k
  · rw [hw] at HO
    rw [if_neg (by decide)]
    rw [show partV l = .agg (partC l).toArray from rfl]
    go_enter Try.func33, Try.ntmps33
    go_wp2_with (first
      | (refine wpList_load_part rfl _ rfl w.heap.size rfl l hP0 ?_))
    refine (HW.out _).mono ?_
    rintro e w1 ⟨rfl, hb1⟩
    have hP1 := hP0.on hb1
    have hQ1 := hQ0.on hb1
    have hT1 := Blk.on hT0 hb1
    have hB1 := below_on hb hb1 (Nat.le_refl _)
    clear hP0 hQ0 hT0 hb hb1
    have hP2 := hP1.row hk26
    have hQ2 := hQ1.rowFar (j := w.heap.size) (by omega) (partC k).toArray
    have hT2 := hT1.rowFar (k := w.heap.size) (by omega) (partC k).toArray
    have hB2 := below_setRow hB1 (Nat.le_refl _) (partC k).toArray
    go_wp2_with (first
      | (refine wpList_store_part rfl _ _ rfl w.heap.size rfl k hk26 rfl l hP1 ?_)
      | (refine wpList_load_part rfl _ rfl w.heap.size rfl k hP2 ?_))
    refine (HO.out _).mono ?_
    rintro e w2 ⟨rfl, hb2⟩
    have hP3 := hP2.on hb2
    have hQ3 := hQ2.on hb2
    have hT3 := Blk.on hT2 hb2
    have hB3 := below_on hB2 hb2 (Nat.le_refl _)
    clear hP1 hP2 hQ1 hQ2 hT1 hT2 hB1 hB2 hb2
    have hP4 := hP3
    have hQ4 := hQ3.row hk26
    have hT4 := hT3.rowFar (k := w.heap.size + 1) (by omega) (partC k).toArray
    have hB4 := below_setRow hB3 (show w.heap.size ≤ w.heap.size + 1 by omega) (partC k).toArray
    have hQ5 := hQ4.rowFar (j := w.heap.size + 1 + 1) (by omega) #[.int .i64 0, .string ⟨#[]⟩, .int .i64 0]
    have hT5 := hT4.row #[.int .i64 0, .string ⟨#[]⟩, .int .i64 0] rfl
    have hB5 := below_setRow hB4 (show w.heap.size ≤ w.heap.size + 1 + 1 by omega) #[.int .i64 0, .string ⟨#[]⟩, .int .i64 0]
    go_wp2_with (first
      | (refine wpList_store_part rfl _ _ rfl (w.heap.size + 1) rfl k hk26 rfl [] hQ3 ?_)
      | (refine wpList_load_part rfl _ rfl w.heap.size rfl k hP3 ?_)
      | (refine wpList_store_tok rfl _ _ rfl (w.heap.size + 1 + 1) rfl 0 0 ⟨#[]⟩ rfl _ _ _ hT4 ?_))
    exact bodyPost_ret (results_cct rfl _ _ _ _ _ _ _ _ _ _ rfl hQ5.1 Try.underlying53 rfl (part_in k hk26) rfl hT5 Try.underlying29 rfl tok_size) rfl ⟨rfl, hB5⟩
  · rw [hw] at HO
    rw [if_pos rfl]
    have hk2 : 2 ≤ k.length := by
      unfold wholeP at hw; simp at hw; omega
    rw [show partV l = .agg (partC l).toArray from rfl]
    go_enter Try.func33, Try.ntmps33
    go_wp2_with (first
      | (refine wpList_load_part rfl _ rfl w.heap.size rfl l hP0 ?_))
    refine (HW.out _).mono ?_
    rintro e w1 ⟨rfl, hb1⟩
    have hP1 := hP0.on hb1
    have hQ1 := hQ0.on hb1
    have hT1 := Blk.on hT0 hb1
    have hB1 := below_on hb hb1 (Nat.le_refl _)
    clear hP0 hQ0 hT0 hb hb1
    have hP2 := hP1.row hk26
    have hQ2 := hQ1.rowFar (j := w.heap.size) (by omega) (partC k).toArray
    have hT2 := hT1.rowFar (k := w.heap.size) (by omega) (partC k).toArray
    have hB2 := below_setRow hB1 (Nat.le_refl _) (partC k).toArray
    go_wp2_with (first
      | (refine wpList_store_part rfl _ _ rfl w.heap.size rfl k hk26 rfl l hP1 ?_)
      | (refine wpList_load_part rfl _ rfl w.heap.size rfl k hP2 ?_))
    refine (HO.out _).mono ?_
    rintro e w2 ⟨rfl, hb2⟩
    have hP3 := hP2.on hb2
    have hQ3 := hQ2.on hb2
    have hT3 := Blk.on hT2 hb2
    have hB3 := below_on hB2 hb2 (Nat.le_refl _)
    clear hP1 hP2 hQ1 hQ2 hT1 hT2 hB1 hB2 hb2
    have hz0 : Try.prog.arrayLen 51 = 26 := by kernel_rfl
    have hkz : (k.length : Int) ≤ 26 := by omega
    have hkz2 : (2 : Int) ≤ k.length := by omega
    have hb0 := b0_lt k
    have hwb : IntKind.i64.wrap (b0 k : Int) = b0 k := Go.IntWalk.i64_in _ (by omega)
    have HS : ∀ W : World, Pt W w.heap.size k → (W.cell? ⟨w.heap.size, 0, none⟩ = some (.int .u8 (b0 k)) ∧ W.cell? ⟨w.heap.size, 26, none⟩ = some (.int .i64 k.length) ∧ (convert 41 9 (.slice (some ⟨w.heap.size, 2, none⟩) (k.length - 2) 24)).run Try.prog W = .ok (.string ⟨(k.drop 2).toArray⟩) W) := fun W hP => ⟨hP.b0, hP.n, part_text hP hk2⟩
    have KS := HS _ hP3.drew
    clear HW HO hlk
    go_wp2_with fail
    refine wp_region_noPanic ?_
    refine wp_region_held_drew (S := (fun W => W.cell? ⟨w.heap.size, 0, none⟩ = some (.int .u8 (b0 k)) ∧ W.cell? ⟨w.heap.size, 26, none⟩ = some (.int .i64 k.length) ∧ (convert 41 9 (.slice (some ⟨w.heap.size, 2, none⟩) (k.length - 2) 24)).run Try.prog W = .ok (.string ⟨(k.drop 2).toArray⟩) W)) (by kernel_rfl) KS (fun _ => ?_)
    refine reg_take 0 _ 12 (partV []) rfl rfl (by kernel_rfl) (by kernel_rfl) (by kernel_rfl) (fun _ _ _ h => h) (by rfl) ?r KS ?_
    case r =>
      rintro W ⟨s1, s2, s3⟩
      clear KS hP3 hQ3 hT3 hB3
      go_simp
      rfl
    refine reg_take 1 _ 13 (.pointer (some ⟨w.heap.size, 0, none⟩)) rfl rfl (by kernel_rfl) (by kernel_rfl) (by kernel_rfl) (fun _ _ _ h => h) (by rfl) ?r KS ?_
    case r =>
      rintro W ⟨s1, s2, s3⟩
      clear KS hP3 hQ3 hT3 hB3
      go_simp
    refine reg_take 2 _ 14 (.pointer (some ⟨w.heap.size, 0, none⟩)) rfl rfl (by kernel_rfl) (by kernel_rfl) (by kernel_rfl) (fun _ _ _ h => h) (by rfl) ?r KS ?_
    case r =>
      rintro W ⟨s1, s2, s3⟩
      clear KS hP3 hQ3 hT3 hB3
      go_simp
    refine reg_take 3 _ 15 (.int .u8 (b0 k)) rfl rfl (by kernel_rfl) (by kernel_rfl) (by kernel_rfl) (fun _ _ _ h => h) (by rfl) ?r KS ?_
    case r =>
      rintro W ⟨s1, s2, s3⟩
      clear KS hP3 hQ3 hT3 hB3
      go_simp
    refine reg_take 4 _ 16 (.int .i64 (b0 k)) rfl rfl (by kernel_rfl) (by kernel_rfl) (by kernel_rfl) (fun _ _ _ h => h) (by rfl) ?r KS ?_
    case r =>
      rintro W ⟨s1, s2, s3⟩
      clear KS hP3 hQ3 hT3 hB3
      go_simp
    refine reg_take 5 _ 17 (.pointer (some ⟨w.heap.size, 0, none⟩)) rfl rfl (by kernel_rfl) (by kernel_rfl) (by kernel_rfl) (fun _ _ _ h => h) (by rfl) ?r KS ?_
    case r =>
      rintro W ⟨s1, s2, s3⟩
      clear KS hP3 hQ3 hT3 hB3
      go_simp
    refine reg_take 6 _ 18 (.pointer (some ⟨w.heap.size, 26, none⟩)) rfl rfl (by kernel_rfl) (by kernel_rfl) (by kernel_rfl) (fun _ _ _ h => h) (by rfl) ?r KS ?_
    case r =>
      rintro W ⟨s1, s2, s3⟩
      clear KS hP3 hQ3 hT3 hB3
      go_simp
    refine reg_take 7 _ 19 (.int .i64 k.length) rfl rfl (by kernel_rfl) (by kernel_rfl) (by kernel_rfl) (fun _ _ _ h => h) (by rfl) ?r KS ?_
    case r =>
      rintro W ⟨s1, s2, s3⟩
      clear KS hP3 hQ3 hT3 hB3
      go_simp
    refine reg_take 8 _ 20 (.slice (some ⟨w.heap.size, 2, none⟩) (k.length - 2) 24) rfl rfl (by kernel_rfl) (by kernel_rfl) (by kernel_rfl) (fun _ _ _ h => h) (by rfl) ?r KS ?_
    case r =>
      rintro W ⟨s1, s2, s3⟩
      clear KS hP3 hQ3 hT3 hB3
      go_simp
    refine reg_take 9 _ 21 (.string ⟨(k.drop 2).toArray⟩) rfl rfl (by kernel_rfl) (by kernel_rfl) (by kernel_rfl) (fun _ _ _ h => h) (by rfl) ?r KS ?_
    case r =>
      rintro W ⟨s1, s2, s3⟩
      clear KS hP3 hQ3 hT3 hB3
      go_simp
    refine reg_take 10 _ 22 (.agg #[.int .i64 (b0 k), .string ⟨(k.drop 2).toArray⟩, .int .i64 0]) rfl rfl (by kernel_rfl) (by kernel_rfl) (by kernel_rfl) (fun _ _ _ h => h) (by rfl) ?r KS ?_
    case r =>
      rintro W ⟨s1, s2, s3⟩
      clear KS hP3 hQ3 hT3 hB3
      go_simp
    simp only [List.setIfInBounds_toArray, List.set_cons_zero, List.set_cons_succ]
    have hP4 := hP3.drew.rowFar (j := w.heap.size + 1) (by omega) (partC []).toArray
    have hQ4 := hQ3.drew.row (k := []) (by decide)
    have hT4 := hT3.drew.rowFar (k := w.heap.size + 1) (by omega) (partC []).toArray
    have hB4 := below_setRow hB3.drew (show w.heap.size ≤ w.heap.size + 1 by omega) (partC []).toArray
    have hP5 := hP4.rowFar (j := w.heap.size + 1 + 1) (by omega) #[.int .i64 (b0 k), .string ⟨(k.drop 2).toArray⟩, .int .i64 0]
    have hQ5 := hQ4.rowFar (j := w.heap.size + 1 + 1) (by omega) #[.int .i64 (b0 k), .string ⟨(k.drop 2).toArray⟩, .int .i64 0]
    have hT5 := hT4.row #[.int .i64 (b0 k), .string ⟨(k.drop 2).toArray⟩, .int .i64 0] rfl
    have hB5 := below_setRow hB4 (show w.heap.size ≤ w.heap.size + 1 + 1 by omega) #[.int .i64 (b0 k), .string ⟨(k.drop 2).toArray⟩, .int .i64 0]
    refine reg_step 11 _ undef _ rfl (by kernel_rfl) (by rfl) (fun K Q h => wp_store_part _ _ rfl (w.heap.size + 1) rfl [] (by decide) rfl [] hQ3.drew h) (HS _ hP4) _ rfl ?_
    refine reg_step 12 _ undef _ rfl (by kernel_rfl) (by rfl) (fun K Q h => wp_store_tok _ _ rfl (w.heap.size + 1 + 1) rfl (b0 k) 0 ⟨(k.drop 2).toArray⟩ rfl _ _ _ hT4 h) (HS _ hP5) _ rfl ?_
    refine reg_step 13 _ (.bool true) _ rfl (by kernel_rfl) (by rfl) (fun K Q h => wp_assign _ rfl h) (HS _ hP5) _ rfl ?_
    refine wpAnyH_done (by kernel_rfl) ?_ _
    refine NoPanic.normal ?_
    go_wp2_with fail
    exact bodyPost_ret (results_cct rfl _ _ _ _ _ _ _ _ _ _ rfl hQ5.1 Try.underlying53 rfl (part_in [] (by decide)) rfl hT5 Try.underlying29 rfl tok_size) rfl ⟨rfl, hB5⟩
end Go.Proofs.Ytfcbbolokhcknaa
