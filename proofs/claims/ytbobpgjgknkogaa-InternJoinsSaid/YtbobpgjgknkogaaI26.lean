/- law06: InternJoins. No condition. -/
import Derived.Test.YtbobpgjgknkogaaI25
import Derived.Deep.CutRange
namespace Go.Proofs.Ytbobpgjgknkogaa
open Go.RowKit Go.Maps
theorem Merge_ML (A Ab : Option Addr) (cap capb : Nat) (l b U : List (List UInt8)) (ns : List Int) (hl : ML l) (hb : ML b) (hm : mergeR l b = (U, ns, 0)) (hn : ns.length = b.length) (W : World) (h1 : Sl W W.heap.size 1 A l.length cap (l.map strV)) (h2 : Sl W W.heap.size 1 Ab b.length capb (b.map strV)) :
    Calls Try.prog 26 #[.agg #[.slice A l.length cap], .agg #[.slice Ab b.length capb]] W fun e w' => (∃ A2 c2 A3 c3, e = .returned (.tuple #[.agg #[.slice A2 U.length c2], .slice A3 b.length c3, .int .i64 0]) ∧ Sl w' w'.heap.size 1 A2 U.length c2 (U.map strV) ∧ Sl w' w'.heap.size 1 A3 b.length c3 (ns.map intV)) ∧ Below W.heap.size W w' := by
  have h := Merge_any A Ab cap capb W.heap.size l b W h1 h2 (Nat.le_refl _) (by have := hl.len; omega) (by have := hb.len; omega) hl.short hb.short
  rw [hm] at h
  unfold mergePost at h
  simp only [hn] at h
  exact h
theorem equal_same (A1 A2 : Option Addr) (c1 c2 : Nat) (l : List (List UInt8)) (hl : l.length ≤ 1000) (W : World) (h1 : Sl W W.heap.size 1 A1 l.length c1 (l.map strV)) (h2 : Sl W W.heap.size 1 A2 l.length c2 (l.map strV)) :
    Calls Try.prog 16 #[.agg #[.slice A1 l.length c1], .agg #[.slice A2 l.length c2]] W fun e w' => e = .returned (.bool true) ∧ Below W.heap.size W w' := by
  have h := equal_any A1 A2 c1 c2 W.heap.size l l W h1 h2 (Nat.le_refl _) (by omega) (by omega)
  rw [decide_eq_true (rfl : l = l)] at h
  exact h
theorem nameR_at {l : List (List UInt8)} {j : Nat} {s : List UInt8} (hc : (chkT l).1 = 0) (h : l[j]? = some s) : nameR l j = (s, 0) := by
  have hj : j < l.length := (List.getElem?_eq_some_iff.1 h).1
  unfold nameR
  rw [if_neg (by simpa using hc), if_neg (by omega), Int.toNat_natCast, List.getD_eq_getElem?_getD, h]
  rfl
theorem cat_take (x y : List (List UInt8)) : (cat x y).take x.length = x := by unfold cat; simp
theorem cat_len (x y : List (List UInt8)) : x.length ≤ (cat x y).length := by unfold cat; simp
set_option maxRecDepth 100000 in
set_option maxHeartbeats 25600000 in
theorem InternJoins_any (Aa Ab Ac : Option Addr) (ca cb cc D : Nat) (xs ys zs : List Int) (w : World) (hSa : Sl w D 1 Aa xs.length ca (xs.map intV)) (hSb : Sl w D 1 Ab ys.length cb (ys.map intV)) (hSc : Sl w D 1 Ac zs.length cc (zs.map intV)) (hD : D ≤ w.heap.size) (ha : xs.length ≤ maxLen) (hb : ys.length ≤ maxLen) (hc : zs.length ≤ maxLen) :
    Calls Try.prog 7 #[.slice Aa xs.length ca, .slice Ab ys.length cb, .slice Ac zs.length cc] w fun e w' => e = .returned (.bool true) ∧ Below w.heap.size w w' := by
  have HKn := Lib.hid InternKnown_any
  have HM1 := Lib.hid (fun W h hD => made_any Aa ca D xs W h hD ha)
  have HM2 := Lib.hid (fun W h hD => made_any Ab cb D ys W h hD hb)
  have HM3 := Lib.hid (fun W h hD => made_any Ac cc D zs W h hD hc)
  have HSa := Lib.hid hSa
  have HSb := Lib.hid hSb
  have HSc := Lib.hid hSc
  clear hSa hSb hSc ha hb hc
  go_enter Try.func7, Try.ntmps7
  go_wp2_with fail
  refine (HKn.out _).mono ?_
  rintro e w1 ⟨rfl, hb1⟩
  have HB := Lib.hid hb1
  clear hb1 HKn
  go_wp2_with fail
  have Q := Lib.hid (HM1.out _ (HSa.out.below HB.out hD) (Nat.le_trans hD HB.out.size))
  refine Q.out.mono ?_
  rintro e w2 ⟨⟨x, AX, cX, hx, rfl, sHX⟩, hb2⟩
  clear Q
  have HBn := Lib.hid (below_on HB.out hb2 (Nat.le_refl _))
  clear HB
  have HB := HBn
  clear HBn
  clear hb2
  clear HM1 HSa
  have hbt := (Below.refl w2.heap.size w2).alloc (Nat.le_refl _) (.cells #[.slice AX x.length cX] 24)
  have HBn := Lib.hid (below_on HB.out hbt (Nat.le_refl _))
  clear HB
  have HB := HBn
  clear HBn
  clear hbt
  have HX := Lib.hid (TA.new sHX)
  clear sHX
  go_wp2_with fail
  have Q := Lib.hid (HM2.out _ (HSb.out.below HB.out hD) (Nat.le_trans hD HB.out.size))
  refine Q.out.mono ?_
  rintro e w3 ⟨⟨y, AY, cY, hy, rfl, sHY⟩, hb3⟩
  clear Q
  have HXn := Lib.hid (HX.out.on hb3)
  clear HX
  have HX := HXn
  clear HXn
  have HBn := Lib.hid (below_on HB.out hb3 (Nat.le_refl _))
  clear HB
  have HB := HBn
  clear HBn
  clear hb3
  clear HM2 HSb
  have hbt := (Below.refl w3.heap.size w3).alloc (Nat.le_refl _) (.cells #[.slice AY y.length cY] 24)
  have HXn := Lib.hid (HX.out.on hbt)
  clear HX
  have HX := HXn
  clear HXn
  have HBn := Lib.hid (below_on HB.out hbt (Nat.le_refl _))
  clear HB
  have HB := HBn
  clear HBn
  clear hbt
  have HY := Lib.hid (TA.new sHY)
  clear sHY
  go_wp2_with fail
  have Q := Lib.hid (HM3.out _ (HSc.out.below HB.out hD) (Nat.le_trans hD HB.out.size))
  refine Q.out.mono ?_
  rintro e w4 ⟨⟨z, AZ, cZ, hz, rfl, sHZ⟩, hb4⟩
  clear Q
  have HXn := Lib.hid (HX.out.on hb4)
  clear HX
  have HX := HXn
  clear HXn
  have HYn := Lib.hid (HY.out.on hb4)
  clear HY
  have HY := HYn
  clear HYn
  have HBn := Lib.hid (below_on HB.out hb4 (Nat.le_refl _))
  clear HB
  have HB := HBn
  clear HBn
  clear hb4
  clear HM3 HSc
  have hbt := (Below.refl w4.heap.size w4).alloc (Nat.le_refl _) (.cells #[.slice AZ z.length cZ] 24)
  have HXn := Lib.hid (HX.out.on hbt)
  clear HX
  have HX := HXn
  clear HXn
  have HYn := Lib.hid (HY.out.on hbt)
  clear HY
  have HY := HYn
  clear HYn
  have HBn := Lib.hid (below_on HB.out hbt (Nat.le_refl _))
  clear HB
  have HB := HBn
  clear HBn
  clear hbt
  have HZ := Lib.hid (TA.new sHZ)
  clear sHZ
  obtain ⟨n1, m1, l1, f1, -⟩ := merge_facts hx hx
  have s1 := self_facts hx f1 l1
  rw [cat_self] at m1
  obtain ⟨n2, m2, l2, f2, hU⟩ := merge_facts hx hy
  have t2 := cat_take x y
  have e2 := cat_len x y
  obtain ⟨n3, m3, l3, -, -⟩ := merge_facts hU hz
  obtain ⟨n4, m4, l4, -, hYZ⟩ := merge_facts hy hz
  obtain ⟨n5, m5, l5, -, -⟩ := merge_facts hx hYZ
  rw [← cat_assoc] at m5
  have hVl : (cat (cat x y) z).length ≤ 1000 := by have h := hx; have := (merge_facts hU hz).elim fun _ h => h.2.2.2.len; omega
  generalize cat (cat x y) z = V at *
  generalize cat y z = YZ at *
  generalize cat x y = U at *
  have hxl : x.length ≤ 1000 := by have := hx.len; omega
  have hyl : y.length ≤ 1000 := by have := hy.len; omega
  have hUl : U.length ≤ 1000 := by have := hU.len; omega
  have K1 := Lib.hid (fun A c W h => Merge_ML A A c c x x x n1 hx hx m1 l1 W h h)
  have K2 := Lib.hid (fun A Ab c cb W h h' => Merge_ML A Ab c cb x y U n2 hx hy m2 l2 W h h')
  have K3 := Lib.hid (fun A Ab c cb W h h' => Merge_ML A Ab c cb U z V n3 hU hz m3 l3 W h h')
  have K4 := Lib.hid (fun A Ab c cb W h h' => Merge_ML A Ab c cb y z YZ n4 hy hz m4 l4 W h h')
  have K5 := Lib.hid (fun A Ab c cb W h h' => Merge_ML A Ab c cb x YZ V n5 hx hYZ m5 l5 W h h')
  have KN := Lib.hid (fun A c W h n => Name_any A c W.heap.size U n W h (Nat.le_refl _) hUl hU.short)
  have HF := Lib.hid (And.intro s1 (And.intro l1 (And.intro l2 (And.intro f2 (And.intro t2 e2)))))
  have HUg := Lib.hid ((chk_good U).1.2 hU.1)
  clear m1 m2 m3 m4 m5 l1 l2 l3 l4 l5 f1 f2 s1 t2 e2 hU hYZ hx hy hz
  have qHX := HX.out.cell
  go_wp2_with fail
  clear qHX
  have Q := Lib.hid (K1.out _ _ _ HX.out.2)
  refine Q.out.mono ?_
  rintro e w5 ⟨⟨AS, cS, BS, dS, rfl, sHS, sNS⟩, hb5⟩
  clear Q
  have HXn := Lib.hid (HX.out.on hb5)
  clear HX
  have HX := HXn
  clear HXn
  have HYn := Lib.hid (HY.out.on hb5)
  clear HY
  have HY := HYn
  clear HYn
  have HZn := Lib.hid (HZ.out.on hb5)
  clear HZ
  have HZ := HZn
  clear HZn
  have HBn := Lib.hid (below_on HB.out hb5 (Nat.le_refl _))
  clear HB
  have HB := HBn
  clear HBn
  clear hb5
  have HN1 := Lib.hid sNS
  clear sNS
  have hbt := (Below.refl w5.heap.size w5).alloc (Nat.le_refl _) (.cells #[.slice AS x.length cS] 24)
  have HXn := Lib.hid (HX.out.on hbt)
  clear HX
  have HX := HXn
  clear HXn
  have HYn := Lib.hid (HY.out.on hbt)
  clear HY
  have HY := HYn
  clear HYn
  have HZn := Lib.hid (HZ.out.on hbt)
  clear HZ
  have HZ := HZn
  clear HZn
  have HN1n := Lib.hid (HN1.out.on hbt)
  clear HN1
  have HN1 := HN1n
  clear HN1n
  have HBn := Lib.hid (below_on HB.out hbt (Nat.le_refl _))
  clear HB
  have HB := HBn
  clear HBn
  clear hbt
  have HS := Lib.hid (TA.new sHS)
  clear sHS
  have qHX := HX.out.cell
  have qHY := HY.out.cell
  go_wp2_with fail
  clear qHX qHY
  have Q := Lib.hid (K2.out _ _ _ _ _ HX.out.2 HY.out.2)
  refine Q.out.mono ?_
  rintro e w6 ⟨⟨AU, cU, BU, dU, rfl, sHU, sNU⟩, hb6⟩
  clear Q
  have HXn := Lib.hid (HX.out.on hb6)
  clear HX
  have HX := HXn
  clear HXn
  have HYn := Lib.hid (HY.out.on hb6)
  clear HY
  have HY := HYn
  clear HYn
  have HZn := Lib.hid (HZ.out.on hb6)
  clear HZ
  have HZ := HZn
  clear HZn
  have HN1n := Lib.hid (HN1.out.on hb6)
  clear HN1
  have HN1 := HN1n
  clear HN1n
  have HSn := Lib.hid (HS.out.on hb6)
  clear HS
  have HS := HSn
  clear HSn
  have HBn := Lib.hid (below_on HB.out hb6 (Nat.le_refl _))
  clear HB
  have HB := HBn
  clear HBn
  clear hb6
  have HN2 := Lib.hid sNU
  clear sNU
  have hbt := (Below.refl w6.heap.size w6).alloc (Nat.le_refl _) (.cells #[.slice AU U.length cU] 24)
  have HXn := Lib.hid (HX.out.on hbt)
  clear HX
  have HX := HXn
  clear HXn
  have HYn := Lib.hid (HY.out.on hbt)
  clear HY
  have HY := HYn
  clear HYn
  have HZn := Lib.hid (HZ.out.on hbt)
  clear HZ
  have HZ := HZn
  clear HZn
  have HN1n := Lib.hid (HN1.out.on hbt)
  clear HN1
  have HN1 := HN1n
  clear HN1n
  have HSn := Lib.hid (HS.out.on hbt)
  clear HS
  have HS := HSn
  clear HSn
  have HN2n := Lib.hid (HN2.out.on hbt)
  clear HN2
  have HN2 := HN2n
  clear HN2n
  have HBn := Lib.hid (below_on HB.out hbt (Nat.le_refl _))
  clear HB
  have HB := HBn
  clear HBn
  clear hbt
  have HU := Lib.hid (TA.new sHU)
  clear sHU
  have qHU := HU.out.cell
  have qHZ := HZ.out.cell
  go_wp2_with fail
  clear qHU qHZ
  have Q := Lib.hid (K3.out _ _ _ _ _ HU.out.2 HZ.out.2)
  refine Q.out.mono ?_
  rintro e w7 ⟨⟨AV, cV, BV, dV, rfl, sHV, sNV⟩, hb7⟩
  clear Q
  have HXn := Lib.hid (HX.out.on hb7)
  clear HX
  have HX := HXn
  clear HXn
  have HYn := Lib.hid (HY.out.on hb7)
  clear HY
  have HY := HYn
  clear HYn
  have HZn := Lib.hid (HZ.out.on hb7)
  clear HZ
  have HZ := HZn
  clear HZn
  have HN1n := Lib.hid (HN1.out.on hb7)
  clear HN1
  have HN1 := HN1n
  clear HN1n
  have HSn := Lib.hid (HS.out.on hb7)
  clear HS
  have HS := HSn
  clear HSn
  have HN2n := Lib.hid (HN2.out.on hb7)
  clear HN2
  have HN2 := HN2n
  clear HN2n
  have HUn := Lib.hid (HU.out.on hb7)
  clear HU
  have HU := HUn
  clear HUn
  have HBn := Lib.hid (below_on HB.out hb7 (Nat.le_refl _))
  clear HB
  have HB := HBn
  clear HBn
  clear hb7
  clear sNV
  have hbt := (Below.refl w7.heap.size w7).alloc (Nat.le_refl _) (.cells #[.slice AV V.length cV] 24)
  have HXn := Lib.hid (HX.out.on hbt)
  clear HX
  have HX := HXn
  clear HXn
  have HYn := Lib.hid (HY.out.on hbt)
  clear HY
  have HY := HYn
  clear HYn
  have HZn := Lib.hid (HZ.out.on hbt)
  clear HZ
  have HZ := HZn
  clear HZn
  have HN1n := Lib.hid (HN1.out.on hbt)
  clear HN1
  have HN1 := HN1n
  clear HN1n
  have HSn := Lib.hid (HS.out.on hbt)
  clear HS
  have HS := HSn
  clear HSn
  have HN2n := Lib.hid (HN2.out.on hbt)
  clear HN2
  have HN2 := HN2n
  clear HN2n
  have HUn := Lib.hid (HU.out.on hbt)
  clear HU
  have HU := HUn
  clear HUn
  have HBn := Lib.hid (below_on HB.out hbt (Nat.le_refl _))
  clear HB
  have HB := HBn
  clear HBn
  clear hbt
  have HV := Lib.hid (TA.new sHV)
  clear sHV
  have qHY := HY.out.cell
  have qHZ := HZ.out.cell
  go_wp2_with fail
  clear qHY qHZ
  have Q := Lib.hid (K4.out _ _ _ _ _ HY.out.2 HZ.out.2)
  refine Q.out.mono ?_
  rintro e w8 ⟨⟨AW, cW, BW, dW, rfl, sHW, sNW⟩, hb8⟩
  clear Q
  have HXn := Lib.hid (HX.out.on hb8)
  clear HX
  have HX := HXn
  clear HXn
  have HYn := Lib.hid (HY.out.on hb8)
  clear HY
  have HY := HYn
  clear HYn
  have HZn := Lib.hid (HZ.out.on hb8)
  clear HZ
  have HZ := HZn
  clear HZn
  have HN1n := Lib.hid (HN1.out.on hb8)
  clear HN1
  have HN1 := HN1n
  clear HN1n
  have HSn := Lib.hid (HS.out.on hb8)
  clear HS
  have HS := HSn
  clear HSn
  have HN2n := Lib.hid (HN2.out.on hb8)
  clear HN2
  have HN2 := HN2n
  clear HN2n
  have HUn := Lib.hid (HU.out.on hb8)
  clear HU
  have HU := HUn
  clear HUn
  have HVn := Lib.hid (HV.out.on hb8)
  clear HV
  have HV := HVn
  clear HVn
  have HBn := Lib.hid (below_on HB.out hb8 (Nat.le_refl _))
  clear HB
  have HB := HBn
  clear HBn
  clear hb8
  clear sNW
  have hbt := (Below.refl w8.heap.size w8).alloc (Nat.le_refl _) (.cells #[.slice AW YZ.length cW] 24)
  have HXn := Lib.hid (HX.out.on hbt)
  clear HX
  have HX := HXn
  clear HXn
  have HYn := Lib.hid (HY.out.on hbt)
  clear HY
  have HY := HYn
  clear HYn
  have HZn := Lib.hid (HZ.out.on hbt)
  clear HZ
  have HZ := HZn
  clear HZn
  have HN1n := Lib.hid (HN1.out.on hbt)
  clear HN1
  have HN1 := HN1n
  clear HN1n
  have HSn := Lib.hid (HS.out.on hbt)
  clear HS
  have HS := HSn
  clear HSn
  have HN2n := Lib.hid (HN2.out.on hbt)
  clear HN2
  have HN2 := HN2n
  clear HN2n
  have HUn := Lib.hid (HU.out.on hbt)
  clear HU
  have HU := HUn
  clear HUn
  have HVn := Lib.hid (HV.out.on hbt)
  clear HV
  have HV := HVn
  clear HVn
  have HBn := Lib.hid (below_on HB.out hbt (Nat.le_refl _))
  clear HB
  have HB := HBn
  clear HBn
  clear hbt
  have HW := Lib.hid (TA.new sHW)
  clear sHW
  generalize hv : w8.alloc (.cells #[.slice AW YZ.length cW] 24) = v8 at *
  have HV8 := Lib.hid hv
  clear hv
  have qHX := HX.out.cell
  have qHW := HW.out.cell
  go_upto_region 9 with fail
  go_cut [26, 27, 28] from 33 to 83 (fun s26 s27 s28 wx => ∃ gT AT cT, s26 = .pointer (some ⟨gT, 0, none⟩) ∧ s28 = .int .i64 0 ∧ TA wx gT AT cT V ∧ Below v8.heap.size v8 wx)
  case first =>
    rw [HV8.out]
    clear HB HY HN1 HS HN2 HU HV HF KN K1 K2 K3 K4
    go_wp2_with fail
    refine (K5.out _ _ _ _ _ HX.out.2 HW.out.2).mono ?_
    rintro e w9 ⟨⟨AT, cT, BT, dT, rfl, sT, -⟩, hb9⟩
    have hT := TA.new sT
    have HT := Lib.hid (And.intro hT (hb9.alloc hb9.size (.cells #[.slice AT V.length cT] 24)))
    clear hT sT hb9 HX HW K5 qHX qHW
    go_wp2_with fail
    go_meet
    case rel => exact ⟨w9.heap.size, AT, cT, rfl, rfl, HT.out.1, HT.out.2⟩
  case rest =>
  obtain ⟨gT, AT, cT, rfl, rfl, hT, hbt⟩ := hcut
  clear qHX qHW
  clear K1 K2 K3 K4 K5 HW HZ HV8
  have HXn := Lib.hid (HX.out.on hbt)
  clear HX
  have HX := HXn
  clear HXn
  have HYn := Lib.hid (HY.out.on hbt)
  clear HY
  have HY := HYn
  clear HYn
  have HN1n := Lib.hid (HN1.out.on hbt)
  clear HN1
  have HN1 := HN1n
  clear HN1n
  have HSn := Lib.hid (HS.out.on hbt)
  clear HS
  have HS := HSn
  clear HSn
  have HN2n := Lib.hid (HN2.out.on hbt)
  clear HN2
  have HN2 := HN2n
  clear HN2n
  have HUn := Lib.hid (HU.out.on hbt)
  clear HU
  have HU := HUn
  clear HUn
  have HVn := Lib.hid (HV.out.on hbt)
  clear HV
  have HV := HVn
  clear HVn
  have HBn := Lib.hid (below_on HB.out hbt (Nat.le_refl _))
  clear HB
  have HB := HBn
  clear HBn
  have HT := Lib.hid hT
  clear hT hbt
  have hv : wc = wc := rfl
  generalize wc = v at *
  clear hv
  have qHX := HX.out.cell
  have qHY := HY.out.cell
  have qHS := HS.out.cell
  have qHU := HU.out.cell
  have qHV := HV.out.cell
  have qHT := HT.out.cell
  have tHX := HX.out.1.lt
  have tHY := HY.out.1.lt
  have tHS := HS.out.1.lt
  have tHU := HU.out.1.lt
  have tHV := HV.out.1.lt
  have tHT := HT.out.1.lt
  have E1 := Lib.hid (fun X (hb : Below v.heap.size v X) => equal_same AS AX cS cX x hxl X (HS.out.on hb).2 (HX.out.on hb).2)
  have E2 := Lib.hid (fun X (hb : Below v.heap.size v X) => equal_same AV AT cV cT V hVl X (HV.out.on hb).2 (HT.out.on hb).2)
  have E3 := Lib.hid (fun X (hb : Below v.heap.size v X) => equal_same AU AX cU cX x hxl X (by have h := (HU.out.on hb).2.take HF.out.2.2.2.2.2; rw [Nat.mul_one, ← List.map_take, HF.out.2.2.2.2.1] at h; exact h) (HX.out.on hb).2)
  have hle : x.length ≤ U.length := HF.out.2.2.2.2.2
  have hcU := HU.out.2.2.1
  have u1 : decide ((U.length : Int) < x.length) = false := decide_eq_false (by omega)
  have u0 : decide (U.length < x.length) = false := decide_eq_false (by omega)
  have u2 : x.length ≤ cU := by omega
  have u3 : (x.length : Int) ≤ cU := by omega
  have hz0 := (Below.refl v.heap.size v).drew
  have HVs := Lib.hid (And.intro HS.out (And.intro HV.out HT.out))
  clear HS HV HT
  go_upto_region 10 with fail
  go_cut [162] from 33 to 162 (fun s162 wx => s162 = .bool false ∧ Below v.heap.size v wx)
  case first =>
    simp only [List.append]
    go_region_held3 (fun X => Below v.heap.size v X ∧ X.cell? ⟨w2.heap.size, 0, none⟩ = some (.slice AX x.length cX) ∧ X.cell? ⟨w3.heap.size, 0, none⟩ = some (.slice AY y.length cY) ∧ X.cell? ⟨w5.heap.size, 0, none⟩ = some (.slice AS x.length cS) ∧ X.cell? ⟨w6.heap.size, 0, none⟩ = some (.slice AU U.length cU) ∧ X.cell? ⟨w7.heap.size, 0, none⟩ = some (.slice AV V.length cV) ∧ X.cell? ⟨gT, 0, none⟩ = some (.slice AT V.length cT))
      (exact ⟨by assumption, ((by assumption : Below v.heap.size v _).cell (p := ⟨w2.heap.size, 0, none⟩) tHX).trans qHX, ((by assumption : Below v.heap.size v _).cell (p := ⟨w3.heap.size, 0, none⟩) tHY).trans qHY, ((by assumption : Below v.heap.size v _).cell (p := ⟨w5.heap.size, 0, none⟩) tHS).trans qHS, ((by assumption : Below v.heap.size v _).cell (p := ⟨w6.heap.size, 0, none⟩) tHU).trans qHU, ((by assumption : Below v.heap.size v _).cell (p := ⟨w7.heap.size, 0, none⟩) tHV).trans qHV, ((by assumption : Below v.heap.size v _).cell (p := ⟨gT, 0, none⟩) tHT).trans qHT⟩)
      (first
        | (go_at_call 16; refine (E1.out _ (by assumption : _ ∧ _).1).mono ?_; rintro e x1 ⟨rfl, hx1⟩; have hz1 : Below v.heap.size v x1 := below_on (by assumption : _ ∧ _).1 hx1 (Nat.le_refl _))
        | (go_at_call 16; refine (E2.out _ (by assumption : _ ∧ _).1).mono ?_; rintro e x2 ⟨rfl, hx2⟩; have hz2 : Below v.heap.size v x2 := below_on (by assumption : _ ∧ _).1 hx2 (Nat.le_refl _))
        | (go_at_call 16; refine (E3.out _ (by assumption : _ ∧ _).1).mono ?_; rintro e x3 ⟨rfl, hx3⟩; have hz3 : Below v.heap.size v x3 := below_on (by assumption : _ ∧ _).1 hx3 (Nat.le_refl _)))
    clear hx1 hx2 hz1 hz2 E1 E2 E3
    have HZ3 := Lib.hid hz3
    clear hz3 hx3 qHX qHY qHS qHU qHV qHT tHX tHY tHS tHU tHV tHT u0 u1 u2 u3 hle hcU hz0
    go_wp2_with fail
    go_meet
    case rel => exact ⟨rfl, HZ3.out⟩
  case rest =>
  obtain ⟨rfl, hz⟩ := hcut
  clear E1 E2 E3 HVs qHX qHY qHS qHU qHV qHT tHX tHY tHS tHU tHV tHT u0 u1 u2 u3 hle hcU hz0
  have HXn := Lib.hid (HX.out.on hz)
  clear HX
  have HX := HXn
  clear HXn
  have HYn := Lib.hid (HY.out.on hz)
  clear HY
  have HY := HYn
  clear HYn
  have HN1n := Lib.hid (HN1.out.on hz)
  clear HN1
  have HN1 := HN1n
  clear HN1n
  have HN2n := Lib.hid (HN2.out.on hz)
  clear HN2
  have HN2 := HN2n
  clear HN2n
  have HUn := Lib.hid (HU.out.on hz)
  clear HU
  have HU := HUn
  clear HUn
  have HBn := Lib.hid (below_on HB.out hz (Nat.le_refl _))
  clear HB
  have HB := HBn
  clear HBn
  clear hz HX
  have hn1 := HN1.out
  rw [← HF.out.2.1] at hn1
  have HN1' := Lib.hid hn1
  have HS1 := Lib.hid HF.out.1
  have HL1 := Lib.hid HF.out.2.1
  clear hn1 HN1
  go_wp2_with fail
  go_loopw [29] (fun i W => wc = W ∧ ∃ k : Nat, k ≤ x.length ∧ i = .int .i64 k) (fun i _ => x.length - (intOf i).toNat)
  case atStart => exact ⟨rfl, 0, Nat.zero_le _, rfl⟩
  case round =>
    obtain ⟨rfl, k, hk, rfl⟩ := hrel
    by_cases hlt : k < x.length
    · obtain ⟨bb, o, rfl, hbb, d0⟩ := sl_int HN1'.out (show k < n1.length by have := HL1.out; omega)
      rw [HS1.out k] at d0
      go_wp2_with fail
      go_roundw
      case rel => exact ⟨trivial, k + 1, by omega, by go_num⟩
      case measure => simp [intOf]; omega
    · obtain rfl : k = x.length := by omega
      clear HN1' HS1 HL1
      have HF2 := Lib.hid HF.out.2.2.2.1
      have HL2 := Lib.hid HF.out.2.2.1
      have hn2 := HN2.out
      rw [← HF.out.2.2.1] at hn2
      have HN2' := Lib.hid hn2
      clear hn2 HN2 HF
      go_wp2_with fail
      go_loopw [30] (fun i W => ∃ k : Nat, k ≤ y.length ∧ i = .int .i64 k ∧ TA W w6.heap.size AU cU U ∧ TA W w3.heap.size AY cY y ∧ Sl W W.heap.size 1 BU n2.length dU (n2.map intV) ∧ Below w.heap.size w W) (fun i _ => y.length - (intOf i).toNat)
      case atStart => exact ⟨0, Nat.zero_le _, rfl, HU.out, HY.out, HN2'.out, HB.out⟩
      case round =>
        obtain ⟨k, hk, rfl, hU, hY, hN, hB⟩ := hrel
        by_cases hlt : k < y.length
        · have hlt2 : k < n2.length := by have := HL2.out; omega
          obtain ⟨bb, o, rfl, hbb, d0⟩ := sl_int hN hlt2
          obtain ⟨by_, oy, rfl, _, e0⟩ := sl_str hY.2 hlt
          have hget : y[k]? = some y[k] := List.getElem?_eq_getElem hlt
          obtain ⟨j, hj, hUj⟩ := HF2.out k _ hget
          rw [List.getElem?_eq_getElem hlt2] at hj
          injection hj with hj
          rw [hj] at d0
          have hK := KN.out AU cU wr.drew (hU.on ((Below.refl _ _).drew)).2 (j : Int)
          rw [nameR_at HUg.out hUj] at hK
          generalize y[k] = s at *
          have HG := Lib.hid hget
          have HK := Lib.hid hK
          have c0 := hU.cell
          have HH := Lib.hid (And.intro hU (And.intro hY (And.intro hN hB)))
          clear hU hY hN hB hget hK hj hUj e0 HU HY HB HN2'
          go_wp2_with fail
          go_region_held3 (fun W => W.cell? ⟨w6.heap.size, 0, none⟩ = some (.slice AU U.length cU) ∧ W.cell? ⟨bb, o + k, none⟩ = some (.int .i64 (j : Int)))
            (first
              | exact ⟨c0, d0⟩
              | exact ⟨c3, d3⟩)
            (first
              | (go_at_call 23; refine HK.out.mono ?_; rintro e x3 ⟨rfl, hx3⟩; have hu3 := (HH.out.1.on ((Below.refl _ _).drew)).on hx3; have c3 := hu3.cell; have d3 := (hx3.cell (p := ⟨bb, o + k, none⟩) hbb).trans d0))
          have hY3 := (HH.out.2.1.on ((Below.refl _ _).drew)).on hx3
          have hN3 := (HH.out.2.2.1.on ((Below.refl _ _).drew)).on hx3
          have hB3 := below_on HH.out.2.2.2.drew hx3 (Nat.le_refl _)
          obtain ⟨y3, z3⟩ := hY3.pair HG.out
          have HH3 := Lib.hid (And.intro hu3 (And.intro hY3 (And.intro hN3 hB3)))
          clear hu3 hY3 hN3 hB3 hx3 HH HK c0 d0 c3 d3
          go_wp2_with fail
          go_roundw
          case rel => exact ⟨k + 1, by omega, by go_num, HH3.out.1, HH3.out.2.1, HH3.out.2.2.1, HH3.out.2.2.2⟩
          case measure => simp [intOf]; omega
        · obtain rfl : k = y.length := by omega
          have HB' := Lib.hid hB
          clear hU hY hN hB HU HY HB HN2' HF2 HL2
          go_wp2_with fail
          go_ret
          exact ⟨rfl, HB'.out⟩
end Go.Proofs.Ytbobpgjgknkogaa
