/- law06: InternKnown. No condition. -/
import Derived.Test.YtbobpgjgknkogaaI21
namespace Go.Proofs.Ytbobpgjgknkogaa
open Go.RowKit Go.Maps
theorem Sl.on {w w' : World} {size n cap : Nat} {A : Option Addr} {xs : List Value} (h : Sl w w.heap.size size A n cap xs) (hb : Below w.heap.size w w') : Sl w' w'.heap.size size A n cap xs := (h.below hb (Nat.le_refl _)).more hb.size
theorem kn1 : internR shownL [97] false = ([[97], [66], [99, 49]], 0, 0) := by decide +kernel
theorem kn2 : internR shownL [97] true = ([], 0, 8) := by decide +kernel
theorem kn3 : nameR shownL 2 = ([99, 49], 0) := by decide +kernel
theorem kn4 : nameR shownL 3 = ([], 2) := by decide +kernel
theorem kn5 : nameR shownL (-1) = ([], 2) := by decide +kernel
theorem kn6 : mergeR shownL [[99, 49], [120], [97]] = ([[97], [66], [99, 49], [120]], [2, 3, 0], 0) := by decide +kernel
theorem kn7 : keepR shownL [2, 0] = ([[99, 49], [97]], 0) := by decide +kernel
theorem kn8 : ofR [[97], [97]] = ([], 8) := by decide +kernel
theorem mk33 (w : World) : (Instr.makeSlice 22 (.int .i64 33) (.int .i64 33)).run Try.prog w = .ok (.slice (some ⟨w.heap.size, 0, none⟩) 33 33) (w.alloc (.cells ((List.replicate 33 []).map strV).toArray 9)) := by kernel_rfl
theorem kn9 : chkT (List.replicate 33 []) = (6, 0) := by decide +kernel
theorem kn10 : (keepR shownL [0, 0]).2 = 8 := by decide +kernel
theorem kn11 : (keepR shownL [3]).2 = 2 := by decide +kernel
theorem kn12 : nameE [] = 5 := by decide +kernel
set_option maxRecDepth 100000 in
set_option maxHeartbeats 12800000 in
theorem InternKnown_any (w : World) : Calls Try.prog 5 #[] w fun e w' => e = .returned (.bool true) ∧ Below w.heap.size w w' := by
  have HSh := Lib.hid shown_any
  have H1 := Lib.hid (fun A W hS => Intern_any A 3 W.heap.size shownL [97] W hS (Nat.le_refl _) (by decide) (by decide) (by decide))
  have H2 := Lib.hid (fun A W hS => Add_any A 3 W.heap.size shownL [97] W hS (Nat.le_refl _) (by decide) (by decide) (by decide))
  have H3 := Lib.hid (fun A W hS => Name_any A 3 W.heap.size shownL 2 W hS (Nat.le_refl _) (by decide) (by decide))
  have H4 := Lib.hid (fun A W hS => Name_any A 3 W.heap.size shownL 3 W hS (Nat.le_refl _) (by decide) (by decide))
  have H5 := Lib.hid (fun A W hS => Name_any A 3 W.heap.size shownL (-1) W hS (Nat.le_refl _) (by decide) (by decide))
  have H6 := Lib.hid (fun A Ab D W hS hSb hD => Merge_any A Ab 3 3 D shownL [[99, 49], [120], [97]] W hS hSb hD (by decide) (by decide) (by decide) (by decide))
  have H7 := Lib.hid (fun A Ab D W hS hSb hD => Keep_any A Ab 3 2 D shownL [2, 0] W hS hSb hD (by decide) (by decide) (by decide))
  have H8 := Lib.hid (fun A D W hS hD => Of_any A 2 D [[97], [97]] W hS hD (by decide) (by decide))
  have H9 := Lib.hid (fun A D W hS hD => iCheck_any A 33 D (List.replicate 33 []) W hS hD (by decide) (by decide))
  rw [kn1] at H1
  rw [kn2] at H2
  rw [kn3] at H3
  rw [kn4] at H4
  rw [kn5] at H5
  rw [kn6] at H6
  rw [kn7] at H7
  rw [kn8] at H8
  rw [kn9] at H9
  unfold tabPost at H1 H2
  unfold mergePost at H6
  unfold tab2Post at H7 H8
  go_enter Try.func5, Try.ntmps5
  go_wp2_with fail
  refine (HSh.out _).mono ?_
  rintro e w1 ⟨⟨A1, rfl, s1⟩, hb1⟩
  have HB1 := Lib.hid (hb1)
  have Q := Lib.hid (H1.out A1 w1 s1)
  clear s1 hb1
  go_wp2_with fail
  refine Q.out.mono ?_
  rintro e w2 ⟨⟨A2, c2, rfl, s2⟩, hb2⟩
  clear Q
  have HB2 := Lib.hid (below_on HB1.out hb2 (Nat.le_refl _))
  have HBt2 := Lib.hid (HB2.out.alloc HB2.out.size (.cells #[.slice A2 3 c2] 24))
  have HT := Lib.hid (TB.new (l := [[97], [66], [99, 49]]) s2)
  clear s2 hb2 H1
  go_wp2_with fail
  refine (HSh.out _).mono ?_
  rintro e w3 ⟨⟨A3, rfl, s3⟩, hb3⟩
  have HB3 := Lib.hid (below_on HBt2.out hb3 (Nat.le_refl _))
  have HT3 := Lib.hid (HT.out.on hb3)
  clear HT
  have HT := HT3
  clear HT3
  have Q := Lib.hid (H2.out A3 w3 s3)
  clear s3 hb3
  go_wp2_with fail
  refine Q.out.mono ?_
  rintro e w4 ⟨⟨A4, c4, rfl, s4⟩, hb4⟩
  clear Q
  have HB4 := Lib.hid (below_on HB3.out hb4 (Nat.le_refl _))
  have HT4 := Lib.hid (HT.out.on hb4)
  clear HT
  have HT := HT4
  clear HT4
  have HBt4 := Lib.hid (HB4.out.alloc HB4.out.size (.cells #[.slice A4 0 c4] 24))
  have HT4 := Lib.hid (HT.out.on ((Below.refl _ _).alloc (Nat.le_refl _) (.cells #[.slice A4 0 c4] 24)))
  clear HT
  have HT := HT4
  clear HT4
  clear s4 hb4 H2
  go_wp2_with fail
  refine (HSh.out _).mono ?_
  rintro e w5 ⟨⟨A5, rfl, s5⟩, hb5⟩
  have HB5 := Lib.hid (below_on HBt4.out hb5 (Nat.le_refl _))
  have HT5 := Lib.hid (HT.out.on hb5)
  clear HT
  have HT := HT5
  clear HT5
  have Q := Lib.hid (H3.out A5 w5 s5)
  clear s5 hb5
  go_wp2_with fail
  refine Q.out.mono ?_
  rintro e w6 ⟨rfl, hb6⟩
  clear Q
  have HB6 := Lib.hid (below_on HB5.out hb6 (Nat.le_refl _))
  have HT6 := Lib.hid (HT.out.on hb6)
  clear HT
  have HT := HT6
  clear HT6
  clear hb6 H3
  go_wp2_with fail
  refine (HSh.out _).mono ?_
  rintro e w7 ⟨⟨A7, rfl, s7⟩, hb7⟩
  have HB7 := Lib.hid (below_on HB6.out hb7 (Nat.le_refl _))
  have HT7 := Lib.hid (HT.out.on hb7)
  clear HT
  have HT := HT7
  clear HT7
  have Q := Lib.hid (H4.out A7 w7 s7)
  clear s7 hb7
  go_wp2_with fail
  refine Q.out.mono ?_
  rintro e w8 ⟨rfl, hb8⟩
  clear Q
  have HB8 := Lib.hid (below_on HB7.out hb8 (Nat.le_refl _))
  have HT8 := Lib.hid (HT.out.on hb8)
  clear HT
  have HT := HT8
  clear HT8
  clear hb8 H4
  go_wp2_with fail
  refine (HSh.out _).mono ?_
  rintro e w9 ⟨⟨A9, rfl, s9⟩, hb9⟩
  have HB9 := Lib.hid (below_on HB8.out hb9 (Nat.le_refl _))
  have HT9 := Lib.hid (HT.out.on hb9)
  clear HT
  have HT := HT9
  clear HT9
  have Q := Lib.hid (H5.out A9 w9 s9)
  clear s9 hb9
  go_wp2_with fail
  refine Q.out.mono ?_
  rintro e w10 ⟨rfl, hb10⟩
  clear Q
  have HB10 := Lib.hid (below_on HB9.out hb10 (Nat.le_refl _))
  have HT10 := Lib.hid (HT.out.on hb10)
  clear HT
  have HT := HT10
  clear HT10
  clear hb10 H5
  go_wp2_with fail
  refine (HSh.out _).mono ?_
  rintro e w11 ⟨⟨A11, rfl, s11⟩, hb11⟩
  have HB11 := Lib.hid (below_on HB10.out hb11 (Nat.le_refl _))
  have HT11 := Lib.hid (HT.out.on hb11)
  clear HT
  have HT := HT11
  clear HT11
  have HBa11 := Lib.hid (HB11.out.alloc HB11.out.size (.cells #[.string ⟨#[99, 49]⟩, .string ⟨#[120]⟩, .string ⟨#[97]⟩] 9))
  have HTa11 := Lib.hid (HT.out.on ((Below.refl _ _).alloc (Nat.le_refl _) (.cells #[.string ⟨#[99, 49]⟩, .string ⟨#[120]⟩, .string ⟨#[97]⟩] 9)))
  clear HT
  have HT := HTa11
  clear HTa11
  have Q := Lib.hid (H6.out A11 _ (w11.heap.size + 1) _ ((s11.alloc (Nat.le_refl _) (.cells #[.string ⟨#[99, 49]⟩, .string ⟨#[120]⟩, .string ⟨#[97]⟩] 9)).more (by omega)) (sl_row w11 #[.string ⟨#[99, 49]⟩, .string ⟨#[120]⟩, .string ⟨#[97]⟩] 9 3 rfl (by decide)) (by simp))
  clear s11 hb11
  go_wp2_with fail
  refine Q.out.mono ?_
  rintro e w12 ⟨⟨A12, c12, B12, d12, rfl, s12, i12⟩, hb12⟩
  clear Q
  have HB12 := Lib.hid (below_on HBa11.out hb12 (Nat.le_refl _))
  have HT12 := Lib.hid (HT.out.on hb12)
  clear HT
  have HT := HT12
  clear HT12
  have HI := Lib.hid i12
  clear i12
  have HBt12 := Lib.hid (HB12.out.alloc HB12.out.size (.cells #[.slice A12 4 c12] 24))
  have HT12 := Lib.hid (HT.out.on ((Below.refl _ _).alloc (Nat.le_refl _) (.cells #[.slice A12 4 c12] 24)))
  clear HT
  have HT := HT12
  clear HT12
  have HI12 := Lib.hid (HI.out.on ((Below.refl _ _).alloc (Nat.le_refl _) (.cells #[.slice A12 4 c12] 24)))
  clear HI
  have HI := HI12
  clear HI12
  have HU := Lib.hid (TB.new (l := [[97], [66], [99, 49], [120]]) s12)
  clear s12 hb12 H6
  go_wp2_with fail
  refine (HSh.out _).mono ?_
  rintro e w13 ⟨⟨A13, rfl, s13⟩, hb13⟩
  have HB13 := Lib.hid (below_on HBt12.out hb13 (Nat.le_refl _))
  have HT13 := Lib.hid (HT.out.on hb13)
  have HI13 := Lib.hid (HI.out.on hb13)
  have HU13 := Lib.hid (HU.out.on hb13)
  clear HT HI HU
  have HT := HT13
  clear HT13
  have HI := HI13
  clear HI13
  have HU := HU13
  clear HU13
  have HBa13 := Lib.hid (HB13.out.alloc HB13.out.size (.cells #[.int .i64 2, .int .i64 0] 3))
  have HTa13 := Lib.hid (HT.out.on ((Below.refl _ _).alloc (Nat.le_refl _) (.cells #[.int .i64 2, .int .i64 0] 3)))
  clear HT
  have HT := HTa13
  clear HTa13
  have HIa13 := Lib.hid (HI.out.on ((Below.refl _ _).alloc (Nat.le_refl _) (.cells #[.int .i64 2, .int .i64 0] 3)))
  clear HI
  have HI := HIa13
  clear HIa13
  have HUa13 := Lib.hid (HU.out.on ((Below.refl _ _).alloc (Nat.le_refl _) (.cells #[.int .i64 2, .int .i64 0] 3)))
  clear HU
  have HU := HUa13
  clear HUa13
  have Q := Lib.hid (H7.out A13 _ (w13.heap.size + 1) _ ((s13.alloc (Nat.le_refl _) (.cells #[.int .i64 2, .int .i64 0] 3)).more (by omega)) (sl_row w13 #[.int .i64 2, .int .i64 0] 3 2 rfl (by decide)) (by simp))
  clear s13 hb13
  go_wp2_with fail
  refine Q.out.mono ?_
  rintro e w14 ⟨⟨A14, c14, rfl, s14⟩, hb14⟩
  clear Q
  have HB14 := Lib.hid (below_on HBa13.out hb14 (Nat.le_refl _))
  have HT14 := Lib.hid (HT.out.on hb14)
  clear HT
  have HT := HT14
  clear HT14
  have HI14 := Lib.hid (HI.out.on hb14)
  clear HI
  have HI := HI14
  clear HI14
  have HU14 := Lib.hid (HU.out.on hb14)
  clear HU
  have HU := HU14
  clear HU14
  have HBt14 := Lib.hid (HB14.out.alloc HB14.out.size (.cells #[.slice A14 2 c14] 24))
  have HT14 := Lib.hid (HT.out.on ((Below.refl _ _).alloc (Nat.le_refl _) (.cells #[.slice A14 2 c14] 24)))
  clear HT
  have HT := HT14
  clear HT14
  have HI14 := Lib.hid (HI.out.on ((Below.refl _ _).alloc (Nat.le_refl _) (.cells #[.slice A14 2 c14] 24)))
  clear HI
  have HI := HI14
  clear HI14
  have HU14 := Lib.hid (HU.out.on ((Below.refl _ _).alloc (Nat.le_refl _) (.cells #[.slice A14 2 c14] 24)))
  clear HU
  have HU := HU14
  clear HU14
  have HV := Lib.hid (TB.new (l := [[99, 49], [97]]) s14)
  clear s14 hb14 H7
  generalize hW14 : w14.alloc (.cells #[.slice A14 2 c14] 24) = v14 at *
  go_wp2_with fail
  have HBa8 := Lib.hid (HBt14.out.alloc HBt14.out.size (.cells #[.string ⟨#[97]⟩, .string ⟨#[97]⟩] 9))
  have HTa8 := Lib.hid (HT.out.on ((Below.refl _ _).alloc (Nat.le_refl _) (.cells #[.string ⟨#[97]⟩, .string ⟨#[97]⟩] 9)))
  clear HT
  have HT := HTa8
  clear HTa8
  have HIa8 := Lib.hid (HI.out.on ((Below.refl _ _).alloc (Nat.le_refl _) (.cells #[.string ⟨#[97]⟩, .string ⟨#[97]⟩] 9)))
  clear HI
  have HI := HIa8
  clear HIa8
  have HUa8 := Lib.hid (HU.out.on ((Below.refl _ _).alloc (Nat.le_refl _) (.cells #[.string ⟨#[97]⟩, .string ⟨#[97]⟩] 9)))
  clear HU
  have HU := HUa8
  clear HUa8
  have HVa8 := Lib.hid (HV.out.on ((Below.refl _ _).alloc (Nat.le_refl _) (.cells #[.string ⟨#[97]⟩, .string ⟨#[97]⟩] 9)))
  clear HV
  have HV := HVa8
  clear HVa8
  have Q := Lib.hid (H8.out _ (v14.heap.size + 1) _ (sl_row v14 #[.string ⟨#[97]⟩, .string ⟨#[97]⟩] 9 2 rfl (by decide)) (by simp))
  refine Q.out.mono ?_
  rintro e w15 ⟨⟨A15, c15, rfl, s15⟩, hb15⟩
  clear Q
  have HB15 := Lib.hid (below_on HBa8.out hb15 (Nat.le_refl _))
  have HT15 := Lib.hid (HT.out.on hb15)
  clear HT
  have HT := HT15
  clear HT15
  have HI15 := Lib.hid (HI.out.on hb15)
  clear HI
  have HI := HI15
  clear HI15
  have HU15 := Lib.hid (HU.out.on hb15)
  clear HU
  have HU := HU15
  clear HU15
  have HV15 := Lib.hid (HV.out.on hb15)
  clear HV
  have HV := HV15
  clear HV15
  have HBt15 := Lib.hid (HB15.out.alloc HB15.out.size (.cells #[.slice A15 0 c15] 24))
  have HT15 := Lib.hid (HT.out.on ((Below.refl _ _).alloc (Nat.le_refl _) (.cells #[.slice A15 0 c15] 24)))
  clear HT
  have HT := HT15
  clear HT15
  have HI15 := Lib.hid (HI.out.on ((Below.refl _ _).alloc (Nat.le_refl _) (.cells #[.slice A15 0 c15] 24)))
  clear HI
  have HI := HI15
  clear HI15
  have HU15 := Lib.hid (HU.out.on ((Below.refl _ _).alloc (Nat.le_refl _) (.cells #[.slice A15 0 c15] 24)))
  clear HU
  have HU := HU15
  clear HU15
  have HV15 := Lib.hid (HV.out.on ((Below.refl _ _).alloc (Nat.le_refl _) (.cells #[.slice A15 0 c15] 24)))
  clear HV
  have HV := HV15
  clear HV15
  clear s15 hb15 H8
  generalize hW15 : w15.alloc (.cells #[.slice A15 0 c15] 24) = v15 at *
  have hmk := mk33 v15
  go_wp2_with fail
  have s33 := sl_row v15 ((List.replicate 33 []).map strV).toArray 9 33 rfl (by decide)
  have HBa9 := Lib.hid (HBt15.out.alloc HBt15.out.size (.cells ((List.replicate 33 []).map strV).toArray 9))
  have HTa9 := Lib.hid (HT.out.on ((Below.refl _ _).alloc (Nat.le_refl _) (.cells ((List.replicate 33 []).map strV).toArray 9)))
  clear HT
  have HT := HTa9
  clear HTa9
  have HIa9 := Lib.hid (HI.out.on ((Below.refl _ _).alloc (Nat.le_refl _) (.cells ((List.replicate 33 []).map strV).toArray 9)))
  clear HI
  have HI := HIa9
  clear HIa9
  have HUa9 := Lib.hid (HU.out.on ((Below.refl _ _).alloc (Nat.le_refl _) (.cells ((List.replicate 33 []).map strV).toArray 9)))
  clear HU
  have HU := HUa9
  clear HUa9
  have HVa9 := Lib.hid (HV.out.on ((Below.refl _ _).alloc (Nat.le_refl _) (.cells ((List.replicate 33 []).map strV).toArray 9)))
  clear HV
  have HV := HVa9
  clear HVa9
  have Q := Lib.hid (H9.out _ (v15.heap.size + 1) _ s33 (by simp))
  refine Q.out.mono ?_
  rintro e w16 ⟨rfl, hb16⟩
  clear Q
  have HB16 := Lib.hid (below_on HBa9.out hb16 (Nat.le_refl _))
  have HT16 := Lib.hid (HT.out.on hb16)
  clear HT
  have HT := HT16
  clear HT16
  have HI16 := Lib.hid (HI.out.on hb16)
  clear HI
  have HI := HI16
  clear HI16
  have HU16 := Lib.hid (HU.out.on hb16)
  clear HU
  have HU := HU16
  clear HU16
  have HV16 := Lib.hid (HV.out.on hb16)
  clear HV
  have HV := HV16
  clear HV16
  clear s33 hmk hb16 H9
  obtain ⟨At, ct, bt, st⟩ := HT.out
  have ct0 : w16.cell? ⟨w2.heap.size, 0, none⟩ = some (.slice At 3 ct) := (cells1 bt).1
  have hlt := bt.lt
  have HSt := Lib.hid st
  clear bt st HT
  have HN := Lib.hid (fun W => nCheck_any [] W (by decide))
  have HD := Lib.hid (fun W => finds_any [] W (by decide))
  rw [find_no] at HD
  rw [kn12] at HN
  have hz0 := (Below.refl w16.heap.size w16).drew
  go_wp2_with fail
  go_region_held3 (fun X => Below w16.heap.size w16 X ∧ X.cell? ⟨w2.heap.size, 0, none⟩ = some (.slice At 3 ct))
    (exact ⟨by assumption, ((by assumption : Below w16.heap.size w16 _).cell (p := ⟨w2.heap.size, 0, none⟩) hlt).trans ct0⟩)
    (first
      | (go_at_call 16; have Q := Lib.hid (equal_any _ _ _ _ wA.heap.size [[97], [66], [99, 49]] shownL wA ((HSt.out.below hzA (Nat.le_refl _)).more hzA.size) sA (Nat.le_refl _) (by decide) (by decide)); refine Q.out.mono ?_; rintro e wB ⟨rfl, hbB⟩; have hzB : Below w16.heap.size w16 wB := below_on hzA hbB (Nat.le_refl _))
      | (go_at_call 35; have hzC2 := hzC; refine (HN.out _).mono ?_; rintro e wD ⟨rfl, hbD⟩; have hzD : Below w16.heap.size w16 wD := below_on hzC hbD (Nat.le_refl _))
      | (go_at_call 34; have hzD2 := hzD; refine (HD.out _).mono ?_; rintro e wE ⟨rfl, hbE⟩; have hzE : Below w16.heap.size w16 wE := below_on hzD hbE (Nat.le_refl _))
      | (go_at_call 34; refine (HD.out _).mono ?_; rintro e wC ⟨rfl, hbC⟩; have hzC : Below w16.heap.size w16 wC := below_on hzB hbC (Nat.le_refl _))
      | (go_at_call 33; refine (HSh.out _).mono ?_; rintro e wA ⟨⟨AA, rfl, sA⟩, hbA⟩; have hzA : Below w16.heap.size w16 wA := below_on hz0 hbA (Nat.le_refl _)))
  have HBe := Lib.hid (below_on HB16.out hzE (Nat.le_refl _))
  have HIe := Lib.hid (HI.out.on hzE)
  clear HI
  have HI := HIe
  clear HIe
  have HUe := Lib.hid (HU.out.on hzE)
  clear HU
  have HU := HUe
  clear HUe
  have HVe := Lib.hid (HV.out.on hzE)
  clear HV
  have HV := HVe
  clear HVe
  clear hzE hzD hzD2 hzC hzC2 hzB hzA hz0 hbA hbB hbC hbD hbE ct0 hlt HSt HN HD sA
  obtain ⟨Au, cu, bu, su⟩ := HU.out
  have cu0 : wE.cell? ⟨w12.heap.size, 0, none⟩ = some (.slice Au 4 cu) := (cells1 bu).1
  have HSu := Lib.hid su
  clear bu su HU
  have HBax1 := Lib.hid (HBe.out.alloc HBe.out.size (.cells #[.string ⟨#[97]⟩, .string ⟨#[66]⟩, .string ⟨#[99, 49]⟩, .string ⟨#[120]⟩] 9))
  have HIax1 := Lib.hid (HI.out.on ((Below.refl _ _).alloc (Nat.le_refl _) (.cells #[.string ⟨#[97]⟩, .string ⟨#[66]⟩, .string ⟨#[99, 49]⟩, .string ⟨#[120]⟩] 9)))
  clear HI
  have HI := HIax1
  clear HIax1
  have HVax1 := Lib.hid (HV.out.on ((Below.refl _ _).alloc (Nat.le_refl _) (.cells #[.string ⟨#[97]⟩, .string ⟨#[66]⟩, .string ⟨#[99, 49]⟩, .string ⟨#[120]⟩] 9)))
  clear HV
  have HV := HVax1
  clear HVax1
  go_wp2_with fail
  clear cu0
  have sN := sl_row wE #[.string ⟨#[97]⟩, .string ⟨#[66]⟩, .string ⟨#[99, 49]⟩, .string ⟨#[120]⟩] 9 4 rfl (by decide)
  have Q := Lib.hid (SameTexts_any _ _ _ _ (wE.heap.size + 1) [[97], [66], [99, 49], [120]] [[97], [66], [99, 49], [120]] _ ((HSu.out.alloc (Nat.le_refl _) (.cells #[.string ⟨#[97]⟩, .string ⟨#[66]⟩, .string ⟨#[99, 49]⟩, .string ⟨#[120]⟩] 9)).more (by omega)) sN (by decide) (by decide))
  refine Q.out.mono ?_
  rintro e w17 ⟨rfl, hb17⟩
  clear Q
  have HB17 := Lib.hid (below_on HBax1.out hb17 (Nat.le_refl _))
  have HI17 := Lib.hid (HI.out.on hb17)
  clear HI
  have HI := HI17
  clear HI17
  have HV17 := Lib.hid (HV.out.on hb17)
  clear HV
  have HV := HV17
  clear HV17
  clear sN HSu hb17
  have HBax2 := Lib.hid (HB17.out.alloc HB17.out.size (.cells #[.int .i64 2, .int .i64 3, .int .i64 0] 3))
  have HIax2 := Lib.hid (HI.out.on ((Below.refl _ _).alloc (Nat.le_refl _) (.cells #[.int .i64 2, .int .i64 3, .int .i64 0] 3)))
  clear HI
  have HI := HIax2
  clear HIax2
  have HVax2 := Lib.hid (HV.out.on ((Below.refl _ _).alloc (Nat.le_refl _) (.cells #[.int .i64 2, .int .i64 3, .int .i64 0] 3)))
  clear HV
  have HV := HVax2
  clear HVax2
  go_wp2_with fail
  have sN := sl_row w17 #[.int .i64 2, .int .i64 3, .int .i64 0] 3 3 rfl (by decide)
  have Q := Lib.hid (SameInts_any _ _ _ _ _ [2, 3, 0] [2, 3, 0] _ HI.out (by have h := sN.more (show w17.heap.size + 1 ≤ (w17.alloc (.cells #[.int .i64 2, .int .i64 3, .int .i64 0] 3)).heap.size by simp); exact h) (by decide) (by decide))
  refine Q.out.mono ?_
  rintro e w18 ⟨rfl, nq, hw18⟩
  clear Q sN HI
  have hb18 : Below (w17.alloc (.cells #[.int .i64 2, .int .i64 3, .int .i64 0] 3)).heap.size (w17.alloc (.cells #[.int .i64 2, .int .i64 3, .int .i64 0] 3)) w18 := by rw [hw18]; exact ⟨rfl, rfl, rfl, Nat.le_refl _, fun _ _ => rfl⟩
  clear hw18
  have HB18 := Lib.hid (below_on HBax2.out hb18 (Nat.le_refl _))
  have HV18 := Lib.hid (HV.out.on hb18)
  clear HV
  have HV := HV18
  clear HV18
  obtain ⟨Av, cv, bv, sv⟩ := HV.out
  have cv0 : w18.cell? ⟨w14.heap.size, 0, none⟩ = some (.slice Av 2 cv) := (cells1 bv).1
  have HSv := Lib.hid sv
  clear bv sv HV hb18
  go_wp2_with fail
  clear cv0
  have HBax3 := Lib.hid (HB18.out.alloc HB18.out.size (.cells #[.string ⟨#[99, 49]⟩, .string ⟨#[97]⟩] 9))
  have sN := sl_row w18 #[.string ⟨#[99, 49]⟩, .string ⟨#[97]⟩] 9 2 rfl (by decide)
  have Q := Lib.hid (SameTexts_any _ _ _ _ (w18.heap.size + 1) [[99, 49], [97]] [[99, 49], [97]] _ ((HSv.out.alloc (Nat.le_refl _) (.cells #[.string ⟨#[99, 49]⟩, .string ⟨#[97]⟩] 9)).more (by omega)) sN (by decide) (by decide))
  refine Q.out.mono ?_
  rintro e w19 ⟨rfl, hb19⟩
  clear Q
  have HB19 := Lib.hid (below_on HBax3.out hb19 (Nat.le_refl _))
  clear sN HSv hb19
  have HBax4 := Lib.hid (HB19.out.alloc HB19.out.size (.cells #[.int .i64 0, .int .i64 0] 3))
  go_wp2_with fail
  have sN := sl_row w19 #[.int .i64 0, .int .i64 0] 3 2 rfl (by decide)
  have Qk := Lib.hid (keeps_any _ 2 (w19.heap.size + 1) [0, 0] _ sN (by simp) (by decide))
  rw [kn10] at Qk
  have Q := Lib.hid (Qk.out)
  refine Q.out.mono ?_
  rintro e w20 ⟨rfl, hb20⟩
  clear Q
  have HB20 := Lib.hid (below_on HBax4.out hb20 (Nat.le_refl _))
  clear sN Qk hb20
  have HBax5 := Lib.hid (HB20.out.alloc HB20.out.size (.cells #[.int .i64 3] 3))
  go_wp2_with fail
  have sN := sl_row w20 #[.int .i64 3] 3 1 rfl (by decide)
  have Qk := Lib.hid (keeps_any _ 1 (w20.heap.size + 1) [3] _ sN (by simp) (by decide))
  rw [kn11] at Qk
  have Q := Lib.hid (Qk.out)
  refine Q.out.mono ?_
  rintro e w21 ⟨rfl, hb21⟩
  clear Q
  have HB21 := Lib.hid (below_on HBax5.out hb21 (Nat.le_refl _))
  clear sN Qk hb21
  have HA := Lib.hid awake_any
  go_wp2_with fail
  have Q := Lib.hid (HA.out w21)
  refine Q.out.mono ?_
  rintro e w22 ⟨rfl, hb22⟩
  clear Q
  have HB22 := Lib.hid (below_on HB21.out hb22 (Nat.le_refl _))
  go_wp2_with fail
  go_ret
  exact ⟨rfl, HB22.out⟩
end Go.Proofs.Ytbobpgjgknkogaa
