/- Lists at work: appending to a list without room; Clone, begun, room. No condition. -/
import Derived.Test.YtogldckkmjbohaaQ3
namespace Go.Proofs.Ytogldckkmjbohaa
open Go.RowKit
section
variable {P : Program} (w : World)
/-- append onto a slice without room, whatever it lies in: what comes lies in a new block. -/
theorem run_append_s (t ty e : TypeId) (i : TypeInfo) (z : Value) (size bytes : Nat) (ht : P.underlying t = some (.slice e)) (hi : P.info? e = some i) (hz : i.zero = some z)
    (hsize : i.size = size) (hby : i.bytes = bytes) (hzs : z.cells.size = size) (hsz : 0 < size)
    {D0 : Nat} {A : Option Addr} {n : Nat} {xs : List Value} (hs : Sl w D0 size A n n xs)
    {D : Nat} {A' : Option Addr} {m c : Nat} {news : List Value} (hr : Sl w D size A' m c news) (hm : 0 < m)
    (h63 : n + m ≤ maxLen) (hbytes : (n + m) * bytes ≤ 140737488355328) :
    ∃ A2 cap2 w', (Builtin.append_ #[t, t] ty #[.slice A n n, .slice A' m c]).run P w = .ok (.slice A2 (n + m) cap2) w' ∧ Own w' w.heap.size e size A2 (n + m) cap2 (xs ++ news) ∧ Below w.heap.size w w' := by
  subst hsize
  subst hby
  have hlen : (xs ++ news).length = (n + m) * i.size := by rw [List.length_append, hs.1, hr.1, Nat.add_mul]
  obtain ⟨b', o', rfl, _, hnews⟩ := hr.2.2.2 hm
  have hnews' : ∀ j u, news[j]? = some u → w.cell? ((⟨b', o', none⟩ : Addr).add j) = some u := fun j u hu => by
    have := hnews j u hu
    unfold Addr.add
    split <;> simp_all
  have hge := grownCap_ge w (n + m) n e
  have hcm : grownCap w (n + m) n e ≤ maxLen := grownCap_le_maxLen w (n + m) n e h63
  have hown : Own (w.drew.alloc (.cells (xs.toArray ++ news.toArray ++ Builtin.zeroCells z.cells (grownCap w (n + m) n e - (n + m))) e)) w.heap.size e i.size
      (some ⟨w.heap.size, 0, none⟩) (n + m) (grownCap w (n + m) n e) (xs ++ news) := by
    refine Own.ofBlk (Nat.le_refl _) (Blk.new w.drew e _) hge hcm ?_ ?_
    · simp only [Array.size_append, List.size_toArray, size_zeroCells, hzs, hs.1, hr.1, ← Nat.add_mul]
      congr 1
      omega
    · simp only [Array.toList_append, List.append_assoc]
      rw [← List.append_assoc, ← hlen]
      exact List.take_left
  have hb : Below w.heap.size w (w.drew.alloc (.cells (xs.toArray ++ news.toArray ++ Builtin.zeroCells z.cells (grownCap w (n + m) n e - (n + m))) e)) :=
    ⟨rfl, rfl, rfl, by simp, fun k hk => Below.heap_alloc w.drew _ k hk⟩
  have hn' : ¬ (n + m ≤ n) := by omega
  have h63' : ¬ (9223372036854775807 < ((n : Int) + (m : Int))) := by simp only [maxLen] at h63; omega
  have hfits := growslice_fits (need := n + m) (old := n) (by omega) hbytes
  have h48' : ¬ (281474976710656 < Builtin.nextslicecap (n + m) n * i.bytes) := by omega
  have hf' := run_firstCells_some (P := P) w.drew i.size m ⟨b', o', none⟩ m c news hr.1 hnews'
  have hfo : (Builtin.firstCells i.size n (.slice A n n)).run P w.drew = .ok xs.toArray w.drew := by
    by_cases hn0 : n = 0
    · subst hn0
      have hx0 : xs = [] := List.eq_nil_of_length_eq_zero (by simpa using hs.1)
      subst hx0
      rcases A with _ | ad <;> simp [Builtin.firstCells, loadCells, loadCellsFrom]
    · obtain ⟨b, o, rfl, _, hc⟩ := hs.2.2.2 (by omega)
      refine run_firstCells_some (P := P) w.drew i.size n ⟨b, o, none⟩ n n xs hs.1 fun j u hu => ?_
      have := hc j u hu
      unfold Addr.add
      split <;> simp_all
  refine ⟨_, _, _, ?_, hown, hb⟩
  simp [Builtin.append_, run_underlying ht, sizeOf, typeInfo, zeroValue, hi, hz, Builtin.lenOf, h63', h48', Question.forced, hf', hfo, newRow, grownCap]
  rw [if_neg hn']
  congr 2
  congr 1
  apply Array.ext'
  simp [List.append_assoc]
end
/-- A list at work: without room, or in a block of its own. -/
def QL (W : World) (B : Nat) (A : Option Addr) (n cap : Nat) (xs : List Value) : Prop := (n = cap ∧ Sl W W.heap.size 7 A n cap xs) ∨ Own W B 34 7 A n cap xs
theorem QL.sl {W : World} {B n cap : Nat} {A : Option Addr} {xs : List Value} (h : QL W B A n cap xs) : Sl W W.heap.size 7 A n cap xs := h.elim (·.2) (·.sl)
theorem QL.below {W W' : World} {B n cap : Nat} {A : Option Addr} {xs : List Value} (h : QL W B A n cap xs) (hb : Below W.heap.size W W') : QL W' B A n cap xs :=
  h.elim (fun h => .inl ⟨h.1, (h.2.below hb (Nat.le_refl _)).more hb.size⟩) (fun h => .inr (h.below hb (Nat.le_refl _)))
theorem run_append_q {P : Program} (w : World) (B : Nat) (t ty : TypeId) (i : TypeInfo) (z : Value) (bytes : Nat) (ht : P.underlying t = some (.slice 34)) (hi : P.info? 34 = some i) (hz : i.zero = some z)
    (hsize : i.size = 7) (hby : i.bytes = bytes) (hzs : z.cells.size = 7)
    {A : Option Addr} {n cap : Nat} {xs : List Value} (hq : QL w B A n cap xs)
    {D : Nat} {A' : Option Addr} {m c : Nat} {news : List Value} (hr : Sl w D 7 A' m c news) (h1 : ∀ u ∈ news, u.oneCell' = true) (hm : 0 < m)
    (h63 : n + m ≤ maxLen) (hbytes : (n + m) * bytes ≤ 140737488355328) (hbase : B ≤ w.heap.size) :
    ∃ A2 cap2 w', (Builtin.append_ #[t, t] ty #[.slice A n cap, .slice A' m c]).run P w = .ok (.slice A2 (n + m) cap2) w' ∧ Own w' B 34 7 A2 (n + m) cap2 (xs ++ news) ∧ Below B w w' := by
  rcases hq with ⟨rfl, hs⟩ | hown
  · obtain ⟨A2, cap2, w', h1, h2, h3⟩ := run_append_s w t ty 34 i z 7 bytes ht hi hz hsize hby hzs (by decide) hs hr hm h63 hbytes
    exact ⟨A2, cap2, w', h1, h2.base hbase, h3.mono hbase⟩
  · obtain ⟨A2, cap2, w', h1, h2, h3, _⟩ := run_append_o w B t ty 34 i z 7 bytes ht hi hz hsize hby hzs (by decide) hown hr h1 h63 hbytes hbase
    exact ⟨A2, cap2, w', h1, h2, (Below.refl B w).grown h3 hbase fun k hk => (hown.lt hk).1⟩
theorem step_append_q {P : Program} {w : World} {ops : Array Oper} {o : Oper} {a : Act} {K : Act → World → Prop} {Q : Exit → Act → World → Prop} {E : Prop} (hgd : o.guard = none) (s x : Operand) (t : TypeId)
    (ho : o.op = .call { callee := .builtin .append, args := #[s, x], argTypes := #[t, t] })
    (B : Nat) (i : TypeInfo) (z : Value) (bytes : Nat) (ht : P.underlying t = some (.slice 34)) (hi : P.info? 34 = some i) (hz : i.zero = some z)
    (hsize : i.size = 7) (hby : i.bytes = bytes) (hzs : z.cells.size = 7)
    {A : Option Addr} {n cap : Nat} {xs : List Value} (hs : a.eval s = .slice A n cap) (hq : QL w B A n cap xs)
    {D : Nat} {A' : Option Addr} {m c : Nat} {news : List Value} (hx : a.eval x = .slice A' m c) (hr : Sl w D 7 A' m c news) (h1 : ∀ u ∈ news, u.oneCell' = true) (hm : 0 < m)
    (h63 : n + m ≤ maxLen) (hbytes : (n + m) * bytes ≤ 140737488355328) (hbase : B ≤ w.heap.size)
    (h : ∀ A2 cap2 w', Own w' B 34 7 A2 (n + m) cap2 (xs ++ news) → Below B w w' → K (a.put o.dst (.slice A2 (n + m) cap2)) w') :
    if Region.wanted o (yielded ops a.tmps) = true then Oper.wp P o a w K Q else E := by
  have hw : Region.wanted o (yielded ops a.tmps) = true := by simp [Region.wanted, hgd]
  rw [if_pos hw]
  obtain ⟨A2, cap2, w', hrun, h2, h3⟩ := run_append_q (P := P) w B t o.type i z bytes ht hi hz hsize hby hzs hq hr h1 hm h63 hbytes hbase
  unfold Oper.wp execOp
  simp only [ho, resolve, invoke, builtin, Sem.run_bind, Sem.run_pure, Result.andThen_ok, List.map_toArray, List.map_cons, List.map_nil, hs, hx, hrun]
  exact h A2 cap2 w' h2 h3
theorem sl_new7 (w : World) (cs : Array Value) (h : cs.size = 7) : Sl (w.alloc (.cells cs 34)) (w.heap.size + 1) 7 (some ⟨w.heap.size, 0, none⟩) 1 1 cs.toList :=
  ⟨by simp [h], Nat.le_refl _, by decide, fun _ => ⟨w.heap.size, 0, rfl, by omega, fun j u hu => by
    rw [Nat.zero_add, (Blk.new w 34 cs).cell j]; simpa using hu⟩⟩
theorem Gb7 (W : World) (g i : Nat) (u : Value) : W.grownBy (W.setCell ⟨g, i, none⟩ u) (some g) :=
  ⟨rfl, rfl, rfl, by rw [World.size_setCell]; exact Nat.le_refl _, fun k _ hr => Below.heap_setCell W ⟨g, i, none⟩ u k (fun e => hr (by rw [e]))⟩
theorem Own.ne_lt {w : World} {B size n cap g : Nat} {e : TypeId} {A : Option Addr} {xs : List Value} (h : Own w B e size A n cap xs) (hg : g < B) : blockOf A cap = none ∨ blockOf A cap ≠ some g := by
  cases hb : blockOf A cap with
  | none => exact .inl rfl
  | some k =>
    refine .inr fun e => ?_
    injection e with e
    have := (h.lt hb).1
    omega
theorem infoE : (Try.prog.info? 34).map (fun i => (i.zero, i.size, i.bytes)) = some (some (.agg #[.int .i64 0, .int .i64 0, .int .i64 0, .int .i64 0, .int .i64 0, .string ⟨#[]⟩, .int .i64 0]), 7, 64) := by kernel_rfl
theorem evC_one (l : List Ev) : ∀ u ∈ evC l, u.oneCell' = true := by
  intro u hu
  unfold evC at hu
  obtain ⟨e, _, he⟩ := List.mem_flatMap.1 hu
  simp only [Ev.cs, List.mem_cons, List.not_mem_nil, or_false] at he
  rcases he with rfl | rfl | rfl | rfl | rfl | rfl | rfl <;> simp [Value.oneCell']
set_option maxRecDepth 100000 in
theorem clone_any (A : Option Addr) (cap D : Nat) (l : List Ev) (w : World) (hS : Sl w D 7 A l.length cap (evC l)) (hD : D ≤ w.heap.size) (hn : l.length ≤ 1000) :
    Calls Try.prog 37 #[.slice A l.length cap] w fun e w' => (∃ A2 cap2, e = .returned (.slice A2 l.length cap2) ∧ Own w' w.heap.size 34 7 A2 l.length cap2 (evC l)) ∧ Below w.heap.size w w' := by
  have qT : ∀ (w : World) (a : Option Addr) (n c n' c' : Nat), (binOp .eql 22 (.slice a n c) (.slice none n' c')).run Try.prog w = .ok (.bool a.isNone) w := fun w a n c n' c' => Lib.run_eql_slice_nil w _ _ a n c n' c' Try.underlying22
  obtain ⟨i0, hi0, hz0, hz1, hz2⟩ := info_parts infoE
  have hone := evC_one l
  have hm1 : 0 + l.length ≤ maxLen := by simp only [maxLen]; omega
  have hm2 : (0 + l.length) * 64 ≤ 140737488355328 := by omega
  cases A with
  | none =>
    have hl : l = [] := by
      refine List.eq_nil_of_length_eq_zero (Nat.eq_zero_of_not_pos fun h => ?_)
      obtain ⟨b, o, e, _⟩ := hS.2.2.2 h
      cases e
    subst hl
    go_enter Try.func37, Try.ntmps37
    go_wp2_with fail
    go_ret
    exact ⟨⟨none, 0, rfl, Own.nil _ _ _ _⟩, Below.refl _ _⟩
  | some ad =>
    have hS1 := hS.alloc hD (.cells #[] 34)
    have hO := (Own.bare w w.heap.size 34 7 (some ⟨w.heap.size, 0, none⟩)).alloc (.cells #[] 34)
    have hB := Lib.hid ((Below.refl w.heap.size w).alloc (Nat.le_refl _) (.cells #[] 34))
    have hbase : w.heap.size ≤ (w.alloc (.cells #[] 34)).heap.size := hB.out.size
    clear hS
    go_enter Try.func37, Try.ntmps37
    go_wp2_with (at_builtin; refine wpList_append_o _ rfl _ _ _ rfl w.heap.size 34 i0 _ 7 64 Try.underlying22 hi0 hz0 hz1 hz2 rfl (by decide) rfl hO rfl hS1 hone hm1 hm2 hbase ?_; intro A5 cap5 W5 hown5 hg5 hat5)
    go_ret
    refine ⟨⟨A5, cap5, by rw [← Nat.zero_add l.length]; rfl, by simpa using hown5⟩, grown_below hB.out hO hg5 hbase⟩
set_option maxRecDepth 100000 in
theorem begun_any (q : Int) (A : Option Addr) (cap D : Nat) (l : List Ev) (w : World) (hS : Sl w D 7 A l.length cap (evC l)) (hD : D ≤ w.heap.size) (hn : l.length ≤ 1000) :
    Calls Try.prog 31 #[.int .i64 q, .slice A l.length cap] w fun e w' => (∃ A2 g, w.heap.size ≤ g ∧ w'.heap.size = g + 1 ∧ e = .returned (.pointer (some ⟨g, 0, none⟩)) ∧ Blk w' g 57 #[.int .i64 q, .slice A2 l.length l.length] ∧
      Sl w' g 7 A2 l.length l.length (evC l)) ∧ Below w.heap.size w w' := by
  have HC := Lib.hid (clone_any A cap D l w hS hD hn)
  clear hS
  have hlm : l.length ≤ maxLen := by simp only [maxLen]; omega
  go_enter Try.func31, Try.ntmps31
  go_wp2_with fail
  refine HC.out.mono ?_
  rintro e w1 ⟨⟨A2, cap2, rfl, hO⟩, hb1⟩
  have hs := hO.sl
  have hle := hs.2.1
  have hlez : (l.length : Int) ≤ cap2 := by omega
  have HB := Lib.hid (And.intro hs hb1)
  clear hs hO hb1 HC
  go_wp2_with fail
  go_ret
  obtain ⟨hs, hb1⟩ := HB.out
  have hs' : Sl w1 w1.heap.size 7 A2 l.length l.length (evC l) := ⟨hs.1, Nat.le_refl _, hlm, hs.2.2.2⟩
  exact ⟨⟨A2, w1.heap.size, hb1.size, by simp, rfl, Blk.new _ _ _, hs'.alloc (Nat.le_refl _) _⟩, hb1.alloc hb1.size _⟩
set_option maxRecDepth 100000 in
theorem room_any (q : Int) (g n cap : Nat) (A : Option Addr) (w : World) (hb : Blk w g 57 #[.int .i64 q, .slice A n cap]) (h1 : 1 ≤ q) (h2 : q ≤ 100) (hn : n ≤ 1000) :
    Calls Try.prog 34 #[.pointer (some ⟨g, 0, none⟩)] w fun e w' => e = .returned (.int .i64 (q - n)) ∧ Below w.heap.size w w' := by
  obtain ⟨c0, c1, _, _⟩ := cells2 hb
  have hw : IntKind.i64.wrap (q - (n : Int)) = q - n := Go.IntWalk.i64_in _ (by omega)
  have hw2 : wrap64 (q - (n : Int)) = q - n := by unfold wrap64; omega
  go_enter Try.func34, Try.ntmps34
  go_wp2_with fail
  go_quiet (fail)
  go_wp2_with fail
  go_ret
  exact ⟨by first | rfl | rw [hw2] | rw [hw], (Below.refl _ _).trans ⟨rfl, rfl, rfl, Nat.le_refl _, fun _ _ => rfl⟩⟩
set_option maxRecDepth 100000 in
set_option maxHeartbeats 3200000 in
theorem put_any (q : Int) (g B cap : Nat) (A : Option Addr) (l : List Ev) (t : Ev) (w : World) (hb : Blk w g 57 #[.int .i64 q, .slice A l.length cap]) (h1 : 1 ≤ q) (h2 : q ≤ 100) (hn : l.length ≤ 1000)
    (hq : QL w B A l.length cap (evC l)) (hgB : g < B) (hBw : B ≤ w.heap.size) :
    Calls Try.prog 33 #[.pointer (some ⟨g, 0, none⟩), t.v] w fun e w' =>
      (q - l.length ≤ 0 ∧ e = .returned (.bool false) ∧ Below w.heap.size w w') ∨
      (0 < q - l.length ∧ e = .returned (.bool true) ∧ ∃ A2 cap2 X, Blk w' g 57 #[.int .i64 q, .slice A2 (l.length + 1) cap2] ∧ Own w' B 34 7 A2 (l.length + 1) cap2 (evC (l ++ [t])) ∧ Below B w X ∧ X.grownBy w' (some g)) := by
  obtain ⟨i0, hi0, hz0, hz1, hz2⟩ := info_parts infoE
  obtain ⟨k, sy, pr, rc, a, x, er⟩ := t
  unfold Ev.v
  unfold Ev.cs
  simp only
  have hB1 := (Below.refl w.heap.size w).alloc (Nat.le_refl _) (.cells #[.int .i64 k, .int .i64 sy, .int .i64 pr, .int .i64 rc, .int .i64 a, .string ⟨x.toArray⟩, .int .i64 er] 34)
  have b1 := hb.alloc (.cells #[.int .i64 k, .int .i64 sy, .int .i64 pr, .int .i64 rc, .int .i64 a, .string ⟨x.toArray⟩, .int .i64 er] 34)
  have be := Blk.new w 34 #[.int .i64 k, .int .i64 sy, .int .i64 pr, .int .i64 rc, .int .i64 a, .string ⟨x.toArray⟩, .int .i64 er]
  have q1 := hq.below hB1
  have HRo := Lib.hid (room_any q g l.length cap A _ b1 h1 h2 hn)
  have hs1 : (w.alloc (.cells #[.int .i64 k, .int .i64 sy, .int .i64 pr, .int .i64 rc, .int .i64 a, .string ⟨x.toArray⟩, .int .i64 er] 34)).heap.size = w.heap.size + 1 := by simp
  by_cases hr : q - (l.length : Int) ≤ 0
  · have HB := Lib.hid hB1
    have HR := Lib.hid hr
    have hrb : decide (q - (l.length : Int) ≤ 0) = true := decide_eq_true hr
    clear hB1 b1 be q1 hq hb
    go_enter Try.func33, Try.ntmps33
    go_wp2_with fail
    refine HRo.out.mono ?_
    rintro e w2 ⟨rfl, hb2⟩
    have HB2 := Lib.hid (below_on HB.out hb2 (Nat.le_refl _))
    clear hb2 HRo
    go_wp2_with fail
    go_ret
    exact .inl ⟨HR.out, rfl, HB2.out⟩
  · have HB := Lib.hid (And.intro hB1 (And.intro b1 (And.intro be q1)))
    have hrp : 0 < q - (l.length : Int) := by omega
    have hrb : decide (q - (l.length : Int) ≤ 0) = false := decide_eq_false hr
    clear hB1 b1 be q1 hq hb
    go_enter Try.func33, Try.ntmps33
    go_wp2_with fail
    refine HRo.out.mono ?_
    rintro e w2 ⟨rfl, hb2⟩
    obtain ⟨hB1, b1, be, q1⟩ := HB.out
    have hB2 := below_on hB1 hb2 (Nat.le_refl _)
    have b2 := Blk.on b1 hb2
    have be2 := Blk.on be hb2
    have q2 := q1.below hb2
    have hs2 := hb2.size
    have bN := (b2.alloc (.cells #[.int .i64 k, .int .i64 sy, .int .i64 pr, .int .i64 rc, .int .i64 a, .string ⟨x.toArray⟩, .int .i64 er] 34)).drew
    have qN : QL (w2.alloc (.cells #[.int .i64 k, .int .i64 sy, .int .i64 pr, .int .i64 rc, .int .i64 a, .string ⟨x.toArray⟩, .int .i64 er] 34)).drew B A l.length cap (evC l) := q2.below (((Below.refl w2.heap.size w2).alloc (Nat.le_refl _) _).drew)
    have hsl := (Sl.drew (sl_new7 w2 #[.int .i64 k, .int .i64 sy, .int .i64 pr, .int .i64 rc, .int .i64 a, .string ⟨x.toArray⟩, .int .i64 er] rfl))
    have hone : ∀ u ∈ #[Value.int .i64 k, .int .i64 sy, .int .i64 pr, .int .i64 rc, .int .i64 a, .string ⟨x.toArray⟩, .int .i64 er].toList, u.oneCell' = true := by simp [Value.oneCell']
    have hBN := (hB2.alloc hB2.size (.cells #[.int .i64 k, .int .i64 sy, .int .i64 pr, .int .i64 rc, .int .i64 a, .string ⟨x.toArray⟩, .int .i64 er] 34)).drew
    have hm1 : l.length + 1 ≤ maxLen := by simp only [maxLen]; omega
    have hm2 : (l.length + 1) * 64 ≤ 140737488355328 := by omega
    have hbs : B ≤ (w2.alloc (.cells #[.int .i64 k, .int .i64 sy, .int .i64 pr, .int .i64 rc, .int .i64 a, .string ⟨x.toArray⟩, .int .i64 er] 34)).drew.heap.size := Nat.le_trans hBw hBN.size
    obtain ⟨c0, c1, c2, c3⟩ := cells2 b2
    obtain ⟨n0, n1, n2, n3⟩ := cells2 bN
    obtain ⟨⟨e0, e1, e2, e3, e4, e5, e6⟩, _⟩ := cells7 be2
    have HR := Lib.hid (hBN.mono hBw)
    clear hB1 b1 be q1 HB hb2 hB2 q2 HRo be2
    go_wp2_with fail
    go_region_law (refine step_append_q (by rfl) (.tmp 12) (.tmp 14) 22 (by rfl) B i0 _ 64 Try.underlying22 hi0 hz0 hz1 hz2 rfl (by rfl) qN (by rfl) hsl hone (by decide) hm1 hm2 hbs ?_; intro A4 cap4 W4 hown4 hb4; have b4 := bN.below hb4 hgB; obtain ⟨d0, d1, z0, z1⟩ := cells2 b4)
    all_goals go_wp2_with fail
    all_goals go_ret
    all_goals exact .inr ⟨hrp, rfl, A4, cap4, W4, b4.set 1 _, (by rw [evC_append]; exact hown4.grown (Gb7 W4 g 1 _) (Own.ne_lt hown4 hgB)), HR.out.trans hb4, Gb7 W4 g 1 _⟩
end Go.Proofs.Ytogldckkmjbohaa
