/- record.split. No condition. -/
import Derived.Test.YtdndomjmnlpjgaaP8
namespace Go.Proofs.Ytdndomjmnlpjgaa
open Go.RowKit
theorem wp_callFn {P : Program} {o : Oper} {a : Act} {w : World} {K : Act → World → Prop} {Q : Exit → Act → World → Prop} (f : FuncId) (xs : Array Operand) (ats : Array TypeId)
    (ho : o.op = .call { callee := .value (.func f), args := xs, argTypes := ats }) (args : Array Value) (hx : xs.map a.eval = args) (ef : ∀ args w, (callFunc f args).run P w = .ok (.enter f args) w)
    {R : Ending → World → Prop} (hc : Calls P f args w R) (h : ∀ e w', R e w' → ∃ v, e = .returned v ∧ K (a.put o.dst v) w') : o.wp P a w K Q := by
  subst hx
  unfold Oper.wp execOp
  simp only [ho]
  simp [resolve, invoke, go_sem, ef]
  refine Calls.mono hc fun e w' hR => ?_
  obtain ⟨v, rfl, hk⟩ := h e w' hR
  exact hk
theorem step_callFn {P : Program} {w : World} {ops : Array Oper} {o : Oper} {a : Act} {K : Act → World → Prop} {Q : Exit → Act → World → Prop} {E : Prop} (hgd : o.guard = none) (f : FuncId) (xs : Array Operand) (ats : Array TypeId)
    (ho : o.op = .call { callee := .value (.func f), args := xs, argTypes := ats }) (args : Array Value) (hx : xs.map a.eval = args) (ef : ∀ args w, (callFunc f args).run P w = .ok (.enter f args) w)
    {R : Ending → World → Prop} (hc : Calls P f args w R) (h : ∀ e w', R e w' → ∃ v, e = .returned v ∧ K (a.put o.dst v) w') :
    if Region.wanted o (yielded ops a.tmps) = true then Oper.wp P o a w K Q else E := by
  have hw : Region.wanted o (yielded ops a.tmps) = true := by simp [Region.wanted, hgd]
  rw [if_pos hw]
  exact wp_callFn f xs ats ho args hx ef hc h
theorem grown_below' {B : Nat} {a w w' : World} {r : Option Nat} (h : Below B a w) (hg : w.grownBy w' r) (hB : B ≤ w.heap.size) (hr : ∀ k, r = some k → B ≤ k) : Below B a w' := h.grown hg hB hr
theorem Own.ne_blk {w : World} {B s n cap g : Nat} {e e' : TypeId} {A : Option Addr} {xs : List Value} {cs : Array Value} (he : e ≠ e') (h : Own w B e s A n cap xs) (hb : Blk w g e' cs) :
    blockOf A cap = none ∨ blockOf A cap ≠ some g := by
  refine Classical.or_iff_not_imp_left.2 fun _ hq => he ?_
  rcases h.2.2.2 with h0 | ⟨g1, cur, rfl, _, hk, _, _⟩
  · simp [blockOf, h0] at hq
  · unfold blockOf at hq
    split at hq
    · cases hq
    · simp at hq
      subst hq
      obtain ⟨c1, f1, q1⟩ := hk
      obtain ⟨c2, f2, q2⟩ := hb
      rw [f1] at f2
      injection f2 with q3
      injection q3
theorem rcO.grownG {W W' : World} {D g : Nat} {e : TypeId} {cs : Array Value} {l : List RcM} (h : rcO W D l) (he : 41 ≠ e) (hb : Blk W g e cs) (hg : W.grownBy W' (some g)) : rcO W' D l := fun x hx =>
  ⟨(h x hx).1.grown hg ((h x hx).1.ne_blk he hb), (h x hx).2⟩
theorem setG (W : World) (g i : Nat) (v : Value) : W.grownBy (W.setCell ⟨g, i, none⟩ v) (some g) := Gb.set (World.grownBy.refl W (some g)) i v
theorem sep_step {w wr w5 w6 : World} {B co cr cap6 : Nat} {L : List RcM} {rest : List Tok} {Ao Ar A6 : Option Addr} {a : Int} {xs : List Value} {T : TypeId} {cs cs6 : Array Value} (o1 o5 : Obj) (v : Value) (hT1 : 41 ≠ T)
    (hO : Own wr (w.heap.size + 1) 43 3 Ao L.length co (rcC L)) (hwB : w.heap.size + 1 ≤ B) (hBW : B ≤ wr.heap.size) (hR : rcO wr B L) (hT : Own wr B 41 3 Ar rest.length cr (tokC rest)) (hB : Below w.heap.size w wr)
    (hK : Blk (wr.alloc o1).drew w.heap.size T cs) (hG5 : (wr.alloc o1).drew.grownBy w5 (some w.heap.size))
    (hO6 : Own w6 (w.heap.size + 1) 43 3 A6 (L.length + 1) cap6 xs) (hg6 : (w5.alloc o5).grownBy w6 (blockOf Ao co)) (hK6 : Blk w6 w.heap.size T cs6) :
    rcO (w6.setCell ⟨w.heap.size, 3, none⟩ v) (w6.setCell ⟨w.heap.size, 3, none⟩ v).heap.size (L ++ [⟨Ar, cr, ⟨rest, 1, a⟩⟩]) ∧ Own (w6.setCell ⟨w.heap.size, 3, none⟩ v) (w.heap.size + 1) 43 3 A6 (L.length + 1) cap6 xs ∧
      Below w.heap.size w (w6.setCell ⟨w.heap.size, 3, none⟩ v) ∧ w.heap.size + 1 ≤ (w6.setCell ⟨w.heap.size, 3, none⟩ v).heap.size := by
  have hO5 := ((hO.alloc o1).drew.grown hG5 ((hO.alloc o1).drew.ne_lt (by omega))).alloc o5
  have hT5 := ((hT.alloc o1).drew.grown hG5 ((hT.alloc o1).drew.ne_lt (by omega))).alloc o5
  have hT6 := hT5.grown hg6 (Own.ne_type (by decide) hT5 hO5)
  have hT7 := hT6.grown (setG w6 w.heap.size 3 v) (hT6.ne_lt (by omega))
  have hR0 : rcO (wr.alloc o1).drew B L := hR.alloc o1
  have hR5 := (hR0.grownG hT1 hK hG5).alloc o5
  have hR6 := hR5.grownR (by decide) hO5 hg6
  have hR7 := hR6.grownG hT1 hK6 (setG w6 w.heap.size 3 v)
  have hs1 := hG5.size
  have hs2 := hg6.size
  have e1 : (wr.alloc o1).drew.heap.size = wr.heap.size + 1 := by simp
  have e2 : (w5.alloc o5).heap.size = w5.heap.size + 1 := by simp
  have e3 : (w6.setCell ⟨w.heap.size, 3, none⟩ v).heap.size = w6.heap.size := World.size_setCell _ _ _
  have hB1 : Below w.heap.size w (wr.alloc o1).drew := (hB.alloc hB.size o1).drew
  have hB5 := (hB1.grown hG5 hB1.size (fun k hk => by injection hk with hk; omega)).alloc (by omega) o5
  have hB6 := grown_below hB5 (hO5.base (Nat.le_succ _)) hg6 (by omega)
  have hB7 := hB6.setCell (p := ⟨w.heap.size, 3, none⟩) (Nat.le_refl _) v
  refine ⟨?_, hO6.grown (setG w6 w.heap.size 3 v) (hO6.ne_lt (by omega)), hB7, by omega⟩
  intro x hx
  rcases List.mem_append.1 hx with hx | hx
  · exact hR7.more (by omega) x hx
  · simp only [List.mem_cons, List.not_mem_nil, or_false] at hx
    subst hx
    exact ⟨hT7.base (Nat.zero_le _), fun g hg => (hT7.lt hg).2⟩
theorem tok_step {w wr X w6 : World} {B co cr : Nat} {L : List RcM} {rest : List Tok} {Ao Ar : Option Addr} {T : TypeId} {cs : Array Value} (o1 : Obj) (hT1 : 41 ≠ T)
    (hO : Own wr (w.heap.size + 1) 43 3 Ao L.length co (rcC L)) (hwB : w.heap.size + 1 ≤ B) (hBW : B ≤ wr.heap.size) (hR : rcO wr B L) (hT : Own wr B 41 3 Ar rest.length cr (tokC rest)) (hB : Below w.heap.size w wr)
    (hK : Blk (wr.alloc o1).drew w.heap.size T cs) (hg5 : (wr.alloc o1).drew.grownBy X (blockOf Ar cr)) (hG6 : X.grownBy w6 (some w.heap.size)) :
    rcO w6 B L ∧ Own w6 (w.heap.size + 1) 43 3 Ao L.length co (rcC L) ∧ Below w.heap.size w w6 ∧ B ≤ w6.heap.size := by
  have hT0 := (hT.alloc o1).drew
  have hO0 := (hO.alloc o1).drew
  have hR0 : rcO (wr.alloc o1).drew B L := hR.alloc o1
  have hO5 := hO0.grown hg5 (Own.ne_type (by decide) hO0 hT0)
  have hR5 := hR0.grownT hT0 hg5
  have hK5 := hK.grown hg5 (hT0.some_ne (by omega))
  have hs1 := hg5.size
  have hs2 := hG6.size
  have e1 : (wr.alloc o1).drew.heap.size = wr.heap.size + 1 := by simp
  have hB1 : Below w.heap.size w (wr.alloc o1).drew := (hB.alloc hB.size o1).drew
  have hB5 := grown_below hB1 (hT0.base (by omega)) hg5 (by omega)
  exact ⟨hR5.grownG hT1 hK5 hG6, hO5.grown hG6 (hO5.ne_lt (by omega)), hB5.grown hG6 (by omega) (fun k hk => by injection hk with hk; omega), by omega⟩
set_option maxRecDepth 100000 in
set_option maxHeartbeats 3200000 in
theorem split_any (A : Option Addr) (cap D : Nat) (l : List Tok) (m : Int) (w : World) (hS : Sl w D 3 A l.length cap (tokC l)) (hD : D ≤ w.heap.size) (hn : l.length ≤ 20000) :
    Calls Try.prog 56 #[.slice A l.length cap, .int .i64 m] w fun e w' => (∃ (L : List RcM) (rest : List Tok) (Ao Ar : Option Addr) (co cr : Nat), divA m l [] = (L.map (·.r), rest) ∧ e = .returned (.tuple #[.slice Ao L.length co, .slice Ar rest.length cr]) ∧
      Own w' w.heap.size 43 3 Ao L.length co (rcC L) ∧ rcO w' w'.heap.size L ∧ Own w' w.heap.size 41 3 Ar rest.length cr (tokC rest)) ∧ Below w.heap.size w w' := by
  obtain ⟨i0, hi0, hz0, hz1, hz2⟩ := info_parts infoR
  have HCl := Lib.hid (fun g T cs A n cap e0 a0 en a w => close_any g T cs A n cap e0 a0 en a w)
  have HEn := Lib.hid (enters_of Try.func57 (by kernel_rfl) rfl)
  have HEa := Lib.hid (enters_of Try.func77 (by kernel_rfl) rfl)
  have HAd := Lib.hid (fun g B T cs A cap l t w => add_any g B T cs A cap l t w)
  go_enter Try.func56, Try.ntmps56
  go_wp2_with fail
  go_loopw [13] (fun v13 W => ∃ (i : Nat) (L : List RcM) (rest : List Tok) (Ao Ar : Option Addr) (co cr B : Nat), i ≤ l.length ∧ v13 = .int .i64 i ∧ Blk W w.heap.size 111 #[.slice Ar rest.length cr, .int .i64 0, .int .i64 0, .slice Ao L.length co] ∧ divA m l [] = (L.map (·.r) ++ (divA m (l.drop i) rest).1, (divA m (l.drop i) rest).2) ∧ L.length ≤ i ∧ rest.length ≤ i ∧
    Own W (w.heap.size + 1) 43 3 Ao L.length co (rcC L) ∧ w.heap.size + 1 ≤ B ∧ B ≤ W.heap.size ∧ rcO W B L ∧ Own W B 41 3 Ar rest.length cr (tokC rest) ∧ Below w.heap.size w W) (fun v13 _ => l.length - (intOf v13).toNat)
  case atStart => exact ⟨0, [], [], none, none, 0, 0, w.heap.size + 1, Nat.zero_le _, rfl, Blk.new w 111 #[.slice none 0 0, .int .i64 0, .int .i64 0, .slice none 0 0], by simp, Nat.le_refl _, Nat.le_refl _, Own.nil _ _ _ _, Nat.le_refl _, by simp, rcO.nil _ _, Own.nil _ _ _ _, (Below.refl _ _).alloc (Nat.le_refl _) _⟩
  case round =>
    obtain ⟨i, L, rest, Ao, Ar, co, cr, B, hi, rfl, hK, hdv, hLi, hri, hO, hwB, hBW, hR, hT, hB⟩ := hrel
    by_cases hlt : i < l.length
    · obtain ⟨b, o, rfl, hb, c0, c1, c2⟩ := sl_tok (hS.below hB hD) hlt
      rw [divA_at m hlt] at hdv
      generalize l[i] = t at *
      obtain ⟨sy, x, a⟩ := t
      simp only at *
      have hm1 : L.length + 1 ≤ maxLen := by simp only [maxLen]; omega
      have hm2 : (L.length + 1) * 40 ≤ 140737488355328 := by omega
      have hwW : w.heap.size ≤ wr.heap.size := by omega
      have hgl := hK.lt
      have hgne : w.heap.size ≠ wr.heap.size := by omega
      have hKb := (hK.alloc (.cells #[.int .i64 sy, .string ⟨x.toArray⟩, .int .i64 a] 41)).drew
      have hTb := (Blk.new wr 41 #[.int .i64 sy, .string ⟨x.toArray⟩, .int .i64 a]).drew
      have hOb := (hO.alloc (.cells #[.int .i64 sy, .string ⟨x.toArray⟩, .int .i64 a] 41)).drew
      have hTo := (hT.alloc (.cells #[.int .i64 sy, .string ⟨x.toArray⟩, .int .i64 a] 41)).drew
      have hGb := Gb.drew (World.grownBy_alloc wr (.cells #[.int .i64 sy, .string ⟨x.toArray⟩, .int .i64 a] 41) (some w.heap.size))
      have k3 := hKb.cell 3
      have q2 := hTb.cell 2
      by_cases hsy : sy = m
      · rw [if_pos hsy] at hdv
        subst hsy
        have HDv := Lib.hid hdv
        have HG := Lib.hid (And.intro hR (And.intro hT (And.intro hB hGb)))
        have HS := Lib.hid hS
        clear hdv hR hT hB hGb hK hS
        go_wp2_with fail
        go_region_law (first
          | (refine step_callFn (by rfl) 57 _ _ (by rfl) _ (by simp only [List.map_toArray, List.map_cons, List.map_nil]; rfl) HEn.out (HCl.out w.heap.size 111 #[.slice Ar rest.length cr, .int .i64 0, .int .i64 0, .slice Ao L.length co] Ar rest.length cr 0 0 1 a _ hKb (by simp) rfl rfl rfl) ?_; rintro e w5 ⟨rfl, hK5, hG5⟩; refine ⟨_, rfl, ?_⟩; have k5 := hK5.cell 3; have hK5b := hK5.alloc (.cells #[.slice Ar rest.length cr, .int .i64 1, .int .i64 a] 43); have k5b := hK5b.cell 3; have hz5 : w.heap.size + 1 ≤ (w5.alloc (.cells #[.slice Ar rest.length cr, .int .i64 1, .int .i64 a] 43)).heap.size := by have := hG5.size; simp at this; simp; omega)
          | (refine step_append_o _ (by rfl) (.tmp 25) (.tmp 32) 35 (by rfl) (w.heap.size + 1) 43 i0 _ 3 40 Try.underlying35 hi0 hz0 hz1 hz2 rfl (by decide) (by rfl) ((hOb.grown hG5 (hOb.ne_lt (by omega))).alloc _) (by rfl) (sl_new1 w5 #[.slice Ar rest.length cr, .int .i64 1, .int .i64 a] 43 3 rfl) (by simp [Value.oneCell']) hm1 hm2 hz5 ?_; intro A6 cap6 w6 hO6 hg6 hat6; have hK6 := hK5b.grown hg6 (hOb.some_ne (by omega)); have k6 := hK6.cell 3; have f6 := hK6.frozen (i := 3) (by simp)))
        all_goals go_wp2_with fail
        all_goals obtain ⟨hR, hT, hB, _⟩ := HG.out
        all_goals have hst := sep_step (a := a) (.cells #[.int .i64 sy, .string ⟨x.toArray⟩, .int .i64 a] 41) (.cells #[.slice Ar rest.length cr, .int .i64 1, .int .i64 a] 43) (.slice A6 (L.length + 1) cap6) (by decide) hO hwB hBW hR hT hB hKb hG5 hO6 hg6 hK6
        all_goals go_roundw
        all_goals first
          | (case rel => exact ⟨i + 1, L ++ [⟨Ar, cr, ⟨rest, 1, a⟩⟩], [], A6, none, cap6, 0, _, by omega, by go_num, (by rw [List.length_append]; exact hK6.set 3 _), (by rw [HDv.out]; simp), (by rw [List.length_append]; simp; omega), Nat.zero_le _, (by rw [List.length_append, rcC_append]; exact hst.2.1), hst.2.2.2, Nat.le_refl _, hst.1, Own.nil _ _ _ _, hst.2.2.1⟩)
          | (case measure => simp [intOf]; omega)
      · rw [if_neg hsy] at hdv
        have hsyb : (sy == m) = false := by simpa using hsy
        have HDv := Lib.hid hdv
        have HG := Lib.hid (And.intro hR (And.intro hT (And.intro hB hO)))
        have HS := Lib.hid hS
        have t0 := hTb.cell 0
        have t1 := hTb.cell 1
        clear hdv hR hT hB hGb hK hS hsy hO
        go_wp2_with fail
        go_region_law (refine step_callFn (by rfl) 77 _ _ (by rfl) _ (by simp only [List.map_toArray, List.map_cons, List.map_nil]; rfl) HEa.out (HAd.out w.heap.size B 111 #[.slice Ar rest.length cr, .int .i64 0, .int .i64 0, .slice Ao L.length co] Ar cr rest ⟨sy, x, a⟩ _ hKb (by simp) rfl hTo (by omega) (by simp; omega) (by omega)) ?_; rintro e w6 ⟨A6, cap6, rfl, hK6, hO6, X, hg5, hG6⟩; refine ⟨_, rfl, ?_⟩)
        all_goals go_wp2_with fail
        all_goals obtain ⟨hR, hT, hB, hO⟩ := HG.out
        all_goals have hst := tok_step (.cells #[.int .i64 sy, .string ⟨x.toArray⟩, .int .i64 a] 41) (by decide) hO hwB hBW hR hT hB hKb hg5 hG6
        all_goals go_roundw
        all_goals first
          | (case rel => exact ⟨i + 1, L, rest ++ [⟨sy, x, a⟩], Ao, A6, co, cap6, B, by omega, by go_num, (by rw [List.length_append]; exact hK6), HDv.out, (by omega), (by rw [List.length_append]; simp; omega), hst.2.1, hwB, hst.2.2.2, hst.1, (by rw [List.length_append]; exact hO6), hst.2.2.1⟩)
          | (case measure => simp [intOf]; omega)
    · obtain rfl : i = l.length := by omega
      rw [List.drop_length] at hdv
      have hdv' : divA m l [] = (L.map (·.r), rest) := by rw [hdv]; simp [divA]
      have HDv := Lib.hid hdv'
      have k0 := hK.cell 0
      have k3 := hK.cell 3
      have HG := Lib.hid (And.intro hR (And.intro hT (And.intro hO hB)))
      clear hdv hdv' hR hT hO hB
      go_wp2_with fail
      go_quiet (fail)
      go_wp2_with fail
      obtain ⟨hR, hT, hO, hB⟩ := HG.out
      go_ret2
      exact ⟨⟨L, rest, Ao, Ar, co, cr, HDv.out, rfl, hO.base (Nat.le_succ _), hR.more hBW, hT.base (by omega)⟩, hB.trans ⟨rfl, rfl, rfl, Nat.le_refl _, fun _ _ => rfl⟩⟩
end Go.Proofs.Ytdndomjmnlpjgaa
