/- Text of both. No condition. -/
import Derived.Test.YtklfaccjbdkfhaaX24
import Derived.Test.YtklfaccjbdkfhaaShx
namespace Go.Proofs.Ytklfaccjbdkfhaa
open Go.RowKit
def textE : List Lx → Int
  | [] => 0
  | x :: l => if checkL x ≠ 0 then checkL x else textE l
def textT (l : List Lx) : List UInt8 := if textE l = 0 then joinT (l.map (·.text)) else []
theorem textE_at {l : List Lx} {j : Nat} (h : j < l.length) : textE (l.drop j) = if checkL l[j] ≠ 0 then checkL l[j] else textE (l.drop (j + 1)) := by
  rw [List.drop_eq_getElem_cons h]; rfl
theorem joinT_lib : ∀ ls : List (List UInt8), Lib.join ls [32] = joinT ls
  | [] => rfl
  | [x] => by simp [Lib.join, joinT, List.intercalate]
  | x :: y :: l => by
    have ih := joinT_lib (y :: l)
    unfold Lib.join List.intercalate at *
    rw [List.intersperse_cons_cons, List.flatten_cons, List.flatten_cons, ih]
    rfl
theorem joinT_len (M : Nat) : ∀ ls : List (List UInt8), (∀ x ∈ ls, x.length ≤ M) → (joinT ls).length ≤ ls.length * (M + 1)
  | [], _ => by simp [joinT]
  | [x], h => by
    have := h x (by simp)
    simp [joinT]; omega
  | x :: y :: l, h => by
    have ih := joinT_len M (y :: l) (fun z hz => h z (List.mem_cons_of_mem _ hz))
    have := h x (by simp)
    have e : (x :: y :: l).length * (M + 1) = (y :: l).length * (M + 1) + (M + 1) := Nat.succ_mul _ _
    have e2 : (joinT (x :: y :: l)).length = x.length + (joinT (y :: l)).length + 1 := by
      show (x ++ 32 :: joinT (y :: l)).length = _
      rw [List.length_append, List.length_cons]
      omega
    rw [e, e2]
    omega
theorem joinT_snoc : ∀ (ls : List (List UInt8)) (x : List UInt8), joinT (ls ++ [x]) = if ls = [] then x else joinT ls ++ 32 :: x
  | [], x => rfl
  | [y], x => rfl
  | y :: z :: l, x => by
    have ih := joinT_snoc (z :: l) x
    rw [if_neg (by simp)] at ih ⊢
    show y ++ 32 :: joinT (z :: l ++ [x]) = (y ++ 32 :: joinT (z :: l)) ++ 32 :: x
    rw [ih]
    simp
theorem infoS : (Try.prog.info? 9).map (fun i => (i.zero, i.size, i.bytes)) = some (some (.string ⟨#[]⟩), 1, 16) := by kernel_rfl
def strX (x : Lx) : Value := .string ⟨x.text.toArray⟩
theorem join_any (bk o c : Nat) (l : List Lx) (w : World) (hcells : ∀ (j : Nat) x, l[j]? = some x → w.cell? ⟨bk, o + j, none⟩ = some (strX x)) (hbk : bk < w.heap.size) (hn : l.length ≤ 100000) (hcap : l.length ≤ c) (hx : ∀ x ∈ l, x.text.length ≤ 30000) :
    Calls Try.prog 36 #[.slice (some ⟨bk, o, none⟩) l.length c, .string ⟨#[32]⟩] w fun e w' => e = .returned (.string ⟨(joinT (l.map (·.text))).toArray⟩) ∧ Below w.heap.size w w' := by
  have hm : (l.map (fun x => (⟨x.text.toArray⟩ : ByteArray))).map (·.data.toList) = l.map (·.text) := by
    rw [List.map_map]
    exact List.map_congr_left (fun _ _ => rfl)
  have hj : (joinT (l.map (·.text))).length ≤ l.length * 30001 := by
    have := joinT_len 30000 (l.map (·.text)) (fun y hy => by
      obtain ⟨x, hx1, rfl⟩ := List.mem_map.1 hy
      exact hx x hx1)
    rw [List.length_map] at this
    exact this
  have H := Try.strings_Join bk o c (l.map (fun x => (⟨x.text.toArray⟩ : ByteArray))) ⟨#[32]⟩ w (by
    intro j x hx
    rw [List.getElem?_map] at hx
    cases hj : l[j]? with
    | none => rw [hj] at hx; cases hx
    | some y => rw [hj] at hx; cases hx; exact hcells j y hj) hbk (by rw [List.length_map]; omega) (by rw [List.length_map]; exact hcap) (by
      rw [hm, show (ByteArray.mk #[32]).data.toList = [32] from rfl, joinT_lib]
      have : l.length * 30001 ≤ 100000 * 30001 := Nat.mul_le_mul_right _ hn
      omega)
  rw [hm, show (ByteArray.mk #[32]).data.toList = [32] from rfl, joinT_lib, List.length_map] at H
  exact H
set_option maxRecDepth 100000 in
set_option maxHeartbeats 3200000 in
theorem Text_any (A : Option Addr) (cap D : Nat) (l : List Lx) (w : World) (hS : Sl w D 3 A l.length cap (lxC l)) (hD : D ≤ w.heap.size) (hn : l.length ≤ 2000) (hx : ∀ x ∈ l, x.text.length ≤ 30000) :
    Calls Try.prog 19 #[.slice A l.length cap] w fun e w' => e = .returned (.tuple #[.string ⟨(textT l).toArray⟩, .int .i64 (textE l)]) ∧ Below w.heap.size w w' := by
  have HX := Lib.hid hx
  obtain ⟨i0, hi0, hz0, hz1, hz2⟩ := info_parts infoS
  clear hx
  go_enter Try.func19, Try.ntmps19
  go_wp2_with fail
  go_loopw [4, 10] (fun v4 v10 W => ∃ (j : Nat) (A4 : Option Addr) (cap4 : Nat), j ≤ l.length ∧ v10 = .int .i64 j ∧ v4 = .slice A4 j cap4 ∧ textE l = textE (l.drop j) ∧ Own W w.heap.size 9 1 A4 j cap4 ((l.take j).map strX) ∧ Below w.heap.size w W) (fun _ i _ => l.length - (intOf i).toNat)
  case atStart => exact ⟨0, none, 0, Nat.zero_le _, rfl, rfl, rfl, Own.nil _ _ _ _, Below.refl _ _⟩
  case round =>
    obtain ⟨j, A4, cap4, hj, rfl, rfl, hE, hown, hBr⟩ := hrel
    have hsr := hBr.size
    by_cases hlt : j < l.length
    · have HC := Lib.hid (fun W => Check_any l[j] W (HX.out _ (List.getElem_mem hlt)))
      have hsn : (l.take (j + 1)).map strX = (l.take j).map strX ++ [.string ⟨l[j].text.toArray⟩] := by rw [take_snoc l j hlt, List.map_append]; rfl
      obtain ⟨b, o, rfl, hb, c0, c1, c2⟩ := sl_lx (hS.below hBr hD) hlt
      rw [textE_at hlt] at hE
      generalize l[j] = t at *
      generalize checkL t = C at *
      obtain ⟨sy, x, a⟩ := t
      unfold Lx.v at HC
      simp only at *
      have X1 := Blk.new wr 31 #[.int .i64 sy, .string ⟨x.toArray⟩, .int .i64 a]
      have hb2 := (Below.refl wr.heap.size wr).alloc (Nat.le_refl _) (.cells #[.int .i64 sy, .string ⟨x.toArray⟩, .int .i64 a] 31)
      have hB2 := below_on hBr hb2 (Nat.le_refl _)
      have hown2 := hown.alloc (.cells #[.int .i64 sy, .string ⟨x.toArray⟩, .int .i64 a] 31)
      have hltX := X1.lt
      obtain ⟨x0, x1, x2, _, _, _⟩ := cells3 X1
      have HG := Lib.hid (And.intro X1 (And.intro hB2 hown2))
      have hbw : b < wr.heap.size := by omega
      clear X1 hb2 hB2 hown2 hBr hown
      by_cases hc : C = 0
      · rw [if_neg (fun h => h hc)] at hE
        subst hc
        have HE := Lib.hid hE
        have HSn := Lib.hid hsn
        clear hE hsn
        go_wp2_with fail
        obtain ⟨X1, hB2, hown2⟩ := HG.out
        clear HG c0 c1 c2 x0 x1 x2
        generalize wr.alloc (.cells #[.int .i64 sy, .string ⟨x.toArray⟩, .int .i64 a] 31) = wv at *
        refine (HC.out _).mono ?_
        rintro e w3 ⟨rfl, hb3⟩
        have X3 := Blk.on X1 hb3
        obtain ⟨x0, x1, x2, _, _, _⟩ := cells3 X3
        have hB3 := below_on hB2 hb3 (Nat.le_refl _)
        have hs3 := hB3.size
        have ho := hown2.below hb3 (Nat.le_refl _)
        have hm1 : j + 1 ≤ maxLen := by simp only [maxLen]; omega
        have hm2 : (j + 1) * 16 ≤ 140737488355328 := by omega
        clear X1 X3 hB2 hown2 hb3 HC
        go_wp2_with (at_builtin; refine wpList_append_new rfl _ _ _ rfl w.heap.size 9 i0 _ 1 16 Try.underlying64 hi0 hz0 hz1 hz2 rfl (by decide) rfl ho #[.string ⟨x.toArray⟩] rfl rfl (by simp [Value.oneCell']) hm1 hm2 hs3 ?_; intro A5 cap5 W5 hown5 hg5 hat5)
        go_roundw
        case rel => exact ⟨j + 1, A5, cap5, by omega, by go_num, rfl, HE.out, by rw [HSn.out]; exact hown5, grown_below hB3 ho hg5 hs3⟩
        case measure => simp [intOf]; omega
      · rw [if_pos hc] at hE
        have hcb : (C == 0) = false := by simpa using hc
        have HR : textT l = [] := by unfold textT; rw [if_neg (by rw [hE]; exact hc)]
        have HR2 := Lib.hid HR
        have HE := Lib.hid hE
        clear HR hE hc hsn
        go_wp2_with fail
        obtain ⟨X1, hB2, hown2⟩ := HG.out
        clear HG c0 c1 c2 x0 x1 x2 X1 hown2
        generalize wr.alloc (.cells #[.int .i64 sy, .string ⟨x.toArray⟩, .int .i64 a] 31) = wv at *
        refine (HC.out _).mono ?_
        rintro e w3 ⟨rfl, hb3⟩
        have hB3 := below_on hB2 hb3 (Nat.le_refl _)
        go_wp2_with fail
        go_ret2
        rw [HR2.out, HE.out]
        exact ⟨rfl, hB3⟩
    · obtain rfl : j = l.length := by omega
      rw [List.drop_length] at hE
      have hE0 : textE l = 0 := hE
      have HR : textT l = joinT (l.map (·.text)) := by unfold textT; rw [if_pos hE0]
      have HR2 := Lib.hid HR
      have HE := Lib.hid hE0
      rw [List.take_length] at hown
      clear HR hE hE0
      have HJ : Calls Try.prog 36 #[.slice A4 l.length cap4, .string ⟨#[32]⟩] wr fun e w' => e = .returned (.string ⟨(joinT (l.map (·.text))).toArray⟩) ∧ Below wr.heap.size wr w' := by
        have hsl := hown.sl
        by_cases hl0 : l.length = 0
        · have hln : l = [] := List.length_eq_zero_iff.1 hl0
          subst hln
          refine (Try.strings_Join_none A4 cap4 ⟨#[32]⟩ wr).mono ?_
          rintro e w' ⟨rfl, rfl⟩
          exact ⟨rfl, Below.refl _ _⟩
        · obtain ⟨b, o, rfl, hb, hc⟩ := hsl.2.2.2 (by omega)
          refine join_any b o cap4 l wr (fun i x h => hc i _ (by rw [List.getElem?_map, h]; rfl)) hb (by omega) hsl.2.1 HX.out
      have HJ2 := Lib.hid HJ
      clear HJ hown
      go_wp2_with fail
      refine HJ2.out.mono ?_
      rintro e w3 ⟨rfl, hb3⟩
      have hB3 := below_on hBr hb3 (Nat.le_refl _)
      go_wp2_with fail
      go_ret2
      rw [HR2.out, HE.out]
      exact ⟨rfl, hB3⟩
set_option maxRecDepth 100000 in
set_option maxHeartbeats 3200000 in
theorem rText_any (A : Option Addr) (cap D : Nat) (l : List Lx) (w : World) (hS : Sl w D 3 A l.length cap (lxC l)) (hD : D ≤ w.heap.size) (hn : l.length ≤ 2000) (hx : ∀ x ∈ l, x.text.length ≤ 30000) :
    Calls Try.prog 30 #[.slice A l.length cap] w fun e w' => e = .returned (.tuple #[.string ⟨(textT l).toArray⟩, .int .i64 (textE l)]) ∧ Below w.heap.size w w' := by
  have HX := Lib.hid hx
  clear hx
  go_enter Try.func30, Try.ntmps30
  go_wp2_with fail
  go_loopw [4, 5] (fun v4 v5 W => ∃ (j : Nat) (s : List UInt8), j ≤ l.length ∧ v5 = .int .i64 j ∧ v4 = .string ⟨s.toArray⟩ ∧ s = joinT ((l.take j).map (·.text)) ∧ textE l = textE (l.drop j) ∧ Below w.heap.size w W) (fun _ i _ => l.length - (intOf i).toNat)
  case atStart => exact ⟨0, [], Nat.zero_le _, rfl, rfl, rfl, rfl, Below.refl _ _⟩
  case round =>
    obtain ⟨j, s, hj, rfl, rfl, hsj, hE, hBr⟩ := hrel
    have hsr := hBr.size
    by_cases hlt : j < l.length
    · have HC := Lib.hid (fun W => rCheck_any l[j] W (HX.out _ (List.getElem_mem hlt)))
      have hxl := HX.out _ (List.getElem_mem hlt)
      have hsn : joinT ((l.take (j + 1)).map (·.text)) = if j = 0 then l[j].text else s ++ 32 :: l[j].text := by
        rw [take_snoc l j hlt, List.map_append, List.map_cons, List.map_nil, joinT_snoc, ← hsj]
        by_cases h0 : j = 0
        · subst h0; rfl
        · rw [if_neg h0, if_neg]
          intro h
          have := congrArg List.length h
          rw [List.length_map, List.length_take] at this
          simp only [List.length_nil] at this
          omega
      have hsl : s.length ≤ j * 30001 := by
        rw [hsj]
        have := joinT_len 30000 ((l.take j).map (·.text)) (fun y hy => by
          obtain ⟨x, hx1, rfl⟩ := List.mem_map.1 hy
          exact HX.out x (List.mem_of_mem_take hx1))
        rw [List.length_map, List.length_take, Nat.min_eq_left hj] at this
        exact this
      obtain ⟨b, o, rfl, hb, c0, c1, c2⟩ := sl_lx (hS.below hBr hD) hlt
      rw [textE_at hlt] at hE
      generalize l[j] = t at *
      generalize checkL t = C at *
      obtain ⟨sy, x, a⟩ := t
      unfold Lx.v at HC
      simp only at *
      have hbw : b < wr.heap.size := by omega
      have HBr := Lib.hid hBr
      clear hsj hBr
      by_cases hc : C = 0
      · rw [if_neg (fun h => h hc)] at hE
        subst hc
        have HE := Lib.hid hE
        clear hE
        by_cases h0 : j = 0
        · rw [if_pos h0] at hsn
          have hs0 : s = [] := List.length_eq_zero_iff.1 (by rw [h0] at hsl; omega)
          subst hs0
          have h0z : ¬ (0 : Int) < j := by omega
          have HSn := Lib.hid hsn
          clear hsn hsl h0
          go_wp2_with fail
          refine (HC.out _).mono ?_
          rintro e w3 ⟨rfl, hb3⟩
          have d0 := (hb3.cell (p := ⟨b, o + j * 3, none⟩) hbw).trans c0
          have d1 := (hb3.cell (p := ⟨b, o + j * 3 + 1, none⟩) hbw).trans c1
          have d2 := (hb3.cell (p := ⟨b, o + j * 3 + 2, none⟩) hbw).trans c2
          have hB3 := below_on HBr.out hb3 (Nat.le_refl _)
          clear hb3 c0 c1 c2
          go_wp2_with fail
          go_roundw
          case rel => exact ⟨j + 1, x, by omega, by go_num, rfl, HSn.out.symm, HE.out, hB3⟩
          case measure => simp [intOf]; omega
        · rw [if_neg h0] at hsn
          have h0z : (0 : Int) < j := by omega
          have HSn := Lib.hid hsn
          clear hsn
          go_wp2_with fail
          refine (HC.out _).mono ?_
          rintro e w3 ⟨rfl, hb3⟩
          have d0 := (hb3.cell (p := ⟨b, o + j * 3, none⟩) hbw).trans c0
          have d1 := (hb3.cell (p := ⟨b, o + j * 3 + 1, none⟩) hbw).trans c1
          have d2 := (hb3.cell (p := ⟨b, o + j * 3 + 2, none⟩) hbw).trans c2
          have hB3 := below_on HBr.out hb3 (Nat.le_refl _)
          clear hb3 c0 c1 c2
          go_wp2_with fail
          go_roundw
          case rel => exact ⟨j + 1, _, by omega, by go_num, rfl, HSn.out.symm, HE.out, hB3⟩
          case measure => simp [intOf]; omega
      · rw [if_pos hc] at hE
        have hcb : (C == 0) = false := by simpa using hc
        have HR : textT l = [] := by unfold textT; rw [if_neg (by rw [hE]; exact hc)]
        have HR2 := Lib.hid HR
        have HE := Lib.hid hE
        clear HR hE hc hsn
        go_wp2_with fail
        refine (HC.out _).mono ?_
        rintro e w3 ⟨rfl, hb3⟩
        have hB3 := below_on HBr.out hb3 (Nat.le_refl _)
        go_wp2_with fail
        go_ret2
        rw [HR2.out, HE.out]
        exact ⟨rfl, hB3⟩
    · obtain rfl : j = l.length := by omega
      rw [List.drop_length] at hE
      have hE0 : textE l = 0 := hE
      rw [List.take_length] at hsj
      have HR : textT l = s := by unfold textT; rw [if_pos hE0, hsj]
      have HR2 := Lib.hid HR
      have HE := Lib.hid hE0
      clear HR hE hE0 hsj
      go_wp2_with fail
      go_ret2
      rw [HR2.out, HE.out]
      exact ⟨rfl, hBr⟩
end Go.Proofs.Ytklfaccjbdkfhaa
