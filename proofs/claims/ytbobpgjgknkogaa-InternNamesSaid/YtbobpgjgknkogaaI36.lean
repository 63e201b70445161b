/- law06: InternNames. No condition. -/
import Derived.Test.YtbobpgjgknkogaaI35
namespace Go.Proofs.Ytbobpgjgknkogaa
open Go.RowKit Go.Maps
set_option maxRecDepth 100000 in
set_option maxHeartbeats 25600000 in
theorem InternNames_any (A : Option Addr) (cap : Nat) (l : List (List UInt8)) (s : List UInt8) (n : Int) (w : World) (hS : Sl w w.heap.size 1 A l.length cap (l.map strV)) (hl : ∀ s ∈ l, s.length ≤ maxLen) (hs : s.length ≤ maxLen) :
    Calls Try.prog 3 #[.agg #[.slice A l.length cap], .string ⟨s.toArray⟩, .int .i64 n] w fun e w' => e = .returned (.bool true) ∧ Below w.heap.size w w' := by
  have hsm : s.length ≤ 9223372036854775807 := by simpa only [maxLen] using hs
  have hX := TA.new hS
  have hB0 := (Below.refl w.heap.size w).alloc (Nat.le_refl _) (.cells #[.slice A l.length cap] 24)
  have HLt := Lib.hid (light_any A cap _ l _ hX.2 (Nat.le_refl _) hl)
  have HAw := Lib.hid awake_any
  have hq := light_yes (l := l)
  generalize lightB l = q at *
  have HX := Lib.hid hX
  have HB := Lib.hid hB0
  clear hS hX hB0 hl
  go_enter Try.func3, Try.ntmps3
  go_wp2_with fail
  refine HLt.out.mono ?_
  rintro e w1 ⟨rfl, hb1⟩
  have HX1 := Lib.hid (HX.out.on hb1)
  have HB1 := Lib.hid (below_on HB.out hb1 (Nat.le_refl _))
  clear HX HB hb1 HLt
  have HX := HX1
  have HB := HB1
  clear HX1 HB1
  cases q
  · clear hq
    go_wp2_with fail
    refine (HAw.out w1).mono ?_
    rintro e w2 ⟨rfl, hb2⟩
    have HB2 := Lib.hid (below_on HB.out hb2 (Nat.le_refl _))
    clear hb2
    go_wp2_with fail
    go_ret
    exact ⟨rfl, HB2.out⟩
  · obtain ⟨h40, h30⟩ := hq rfl
    clear hq
    by_cases hs30 : 30 < s.length
    · have hz : (30 : Int) < s.length := by omega
      go_wp2_with fail
      refine (HAw.out w1).mono ?_
      rintro e w2 ⟨rfl, hb2⟩
      have HB2 := Lib.hid (below_on HB.out hb2 (Nat.le_refl _))
      clear hb2
      go_wp2_with fail
      go_ret
      exact ⟨rfl, HB2.out⟩
    · have hz : ¬ (30 : Int) < s.length := by omega
      have hn1 : l.length ≤ 1000 := by omega
      have hlm : ∀ s ∈ l, s.length ≤ maxLen := fun x hx => Nat.le_trans (h30 x hx) (by decide)
      have KO := Lib.hid (fun A c W h => lown_any A c W.heap.size l W h (Nat.le_refl _) hn1)
      have K1 := Lib.hid (fun A c W h => iCheck_any A c W.heap.size l W h (Nat.le_refl _) hn1 hlm)
      have K2 := Lib.hid (fun A c W h => rCheck_any A c W.heap.size l W h (Nat.le_refl _) hn1 hlm)
      have K3 := Lib.hid (fun A c W h => Of_any A c W.heap.size l W h (Nat.le_refl _) hn1 hlm)
      have K4 := Lib.hid (fun A c W h => rOf_any A c W.heap.size l W h (Nat.le_refl _) hn1 hlm)
      have K5 := Lib.hid (fun A c W h => Intern_any A c W.heap.size l s W h (Nat.le_refl _) hn1 hlm hs)
      have K6 := Lib.hid (fun A c W h => rIntern_any A c W.heap.size l s W h (Nat.le_refl _) hn1 hlm hs)
      have K7 := Lib.hid (fun A c W h => Add_any A c W.heap.size l s W h (Nat.le_refl _) hn1 hlm hs)
      have K8 := Lib.hid (fun A c W h => rAdd_any A c W.heap.size l s W h (Nat.le_refl _) hn1 hlm hs)
      have K9 := Lib.hid (fun A c W h => Find_any A c W.heap.size l s W h (Nat.le_refl _) hn1 hlm hs)
      have K10 := Lib.hid (fun A c W h => rFind_any A c W.heap.size l s W h (Nat.le_refl _) hn1 hlm hs)
      have K11 := Lib.hid (fun A c W h => Name_any A c W.heap.size l n W h (Nat.le_refl _) hn1 hlm)
      have K12 := Lib.hid (fun A c W h => rNameAt_any A c W.heap.size l n W h (Nat.le_refl _) hn1 hlm)
      have e1 := ofR_len l
      have e2 := internR_len l s false
      have e3 := internR_len l s true
      unfold tab2Post at K3 K4
      unfold tabPost at K5 K7
      unfold tabO at K6 K8
      generalize chkT l = C at *
      generalize ofR l = RO at *
      generalize internR l s false = RI at *
      generalize internR l s true = RA at *
      generalize findR l s = RF at *
      generalize nameR l n = RN at *
      have z1 : RO.1.length ≤ 1000 := by omega
      have z2 : RI.1.length ≤ 1000 := by omega
      have z3 : RA.1.length ≤ 1000 := by omega
      clear e1 e2 e3 h40 h30 hlm
      have qHX := HX.out.cell
      go_wp2_with fail
      clear qHX
      have Q := Lib.hid (KO.out _ _ _ HX.out.2)
      refine Q.out.mono ?_
      rintro e w2 ⟨⟨A2, c2, rfl, s2⟩, hb2⟩
      clear Q
      have HXn := Lib.hid (HX.out.on hb2)
      clear HX
      have HX := HXn
      clear HXn
      have HBn := Lib.hid (below_on HB.out hb2 (Nat.le_refl _))
      clear HB
      have HB := HBn
      clear HBn
      clear hb2
      have hbt := (Below.refl w2.heap.size w2).alloc (Nat.le_refl _) (.cells #[.slice A2 l.length c2] 24)
      have hgeHH : w.heap.size ≤ w2.heap.size := HB.out.size
      have ne_HX_HH : w.heap.size ≠ w2.heap.size := Nat.ne_of_lt HX.out.1.lt
      have HXn := Lib.hid (HX.out.on hbt)
      clear HX
      have HX := HXn
      clear HXn
      have HBn := Lib.hid (below_on HB.out hbt (Nat.le_refl _))
      clear HB
      have HB := HBn
      clear HBn
      clear hbt
      have HH := Lib.hid (TA.new s2)
      clear s2
      have qHH := HH.out.cell
      go_wp2_with fail
      clear qHH
      have Q := Lib.hid (K1.out _ _ _ HH.out.2)
      refine Q.out.mono ?_
      rintro e w3 ⟨rfl, hb3⟩
      clear Q
      have HXn := Lib.hid (HX.out.on hb3)
      clear HX
      have HX := HXn
      clear HXn
      have HHn := Lib.hid (HH.out.on hb3)
      clear HH
      have HH := HHn
      clear HHn
      have HBn := Lib.hid (below_on HB.out hb3 (Nat.le_refl _))
      clear HB
      have HB := HBn
      clear HBn
      clear hb3
      have qHX := HX.out.cell
      go_wp2_with fail
      clear qHX
      have Q := Lib.hid (K2.out _ _ _ HX.out.2)
      refine Q.out.mono ?_
      rintro e w4 ⟨rfl, hb4⟩
      clear Q
      have HXn := Lib.hid (HX.out.on hb4)
      clear HX
      have HX := HXn
      clear HXn
      have HHn := Lib.hid (HH.out.on hb4)
      clear HH
      have HH := HHn
      clear HHn
      have HBn := Lib.hid (below_on HB.out hb4 (Nat.le_refl _))
      clear HB
      have HB := HBn
      clear HBn
      clear hb4
      have qHH := HH.out.cell
      go_wp2_with fail
      clear qHH
      have Q := Lib.hid (K3.out _ _ _ HH.out.2)
      refine Q.out.mono ?_
      rintro e w5 ⟨⟨A5, c5, rfl, s5⟩, hb5⟩
      clear Q
      have HXn := Lib.hid (HX.out.on hb5)
      clear HX
      have HX := HXn
      clear HXn
      have HHn := Lib.hid (HH.out.on hb5)
      clear HH
      have HH := HHn
      clear HHn
      have HBn := Lib.hid (below_on HB.out hb5 (Nat.le_refl _))
      clear HB
      have HB := HBn
      clear HBn
      clear hb5
      have hbt := (Below.refl w5.heap.size w5).alloc (Nat.le_refl _) (.cells #[.slice A5 RO.1.length c5] 24)
      have hgeHA : w.heap.size ≤ w5.heap.size := HB.out.size
      have ne_HX_HA : w.heap.size ≠ w5.heap.size := Nat.ne_of_lt HX.out.1.lt
      have ne_HH_HA : w2.heap.size ≠ w5.heap.size := Nat.ne_of_lt HH.out.1.lt
      have HXn := Lib.hid (HX.out.on hbt)
      clear HX
      have HX := HXn
      clear HXn
      have HHn := Lib.hid (HH.out.on hbt)
      clear HH
      have HH := HHn
      clear HHn
      have HBn := Lib.hid (below_on HB.out hbt (Nat.le_refl _))
      clear HB
      have HB := HBn
      clear HBn
      clear hbt
      have HA := Lib.hid (TA.new s5)
      clear s5
      have qHX := HX.out.cell
      go_wp2_with fail
      clear qHX
      have Q := Lib.hid (K4.out _ _ _ HX.out.2)
      refine Q.out.mono ?_
      rintro e w6 ⟨⟨A6, c6, rfl, s6⟩, hb6⟩
      clear Q
      have HXn := Lib.hid (HX.out.on hb6)
      clear HX
      have HX := HXn
      clear HXn
      have HHn := Lib.hid (HH.out.on hb6)
      clear HH
      have HH := HHn
      clear HHn
      have HAn := Lib.hid (HA.out.on hb6)
      clear HA
      have HA := HAn
      clear HAn
      have HBn := Lib.hid (below_on HB.out hb6 (Nat.le_refl _))
      clear HB
      have HB := HBn
      clear HBn
      clear hb6
      have hbt := (Below.refl w6.heap.size w6).alloc (Nat.le_refl _) (.cells #[.slice A6 RO.1.length c6] 24)
      have hgeHE : w.heap.size ≤ w6.heap.size := HB.out.size
      have ne_HX_HE : w.heap.size ≠ w6.heap.size := Nat.ne_of_lt HX.out.1.lt
      have ne_HH_HE : w2.heap.size ≠ w6.heap.size := Nat.ne_of_lt HH.out.1.lt
      have ne_HA_HE : w5.heap.size ≠ w6.heap.size := Nat.ne_of_lt HA.out.1.lt
      have HXn := Lib.hid (HX.out.on hbt)
      clear HX
      have HX := HXn
      clear HXn
      have HHn := Lib.hid (HH.out.on hbt)
      clear HH
      have HH := HHn
      clear HHn
      have HAn := Lib.hid (HA.out.on hbt)
      clear HA
      have HA := HAn
      clear HAn
      have HBn := Lib.hid (below_on HB.out hbt (Nat.le_refl _))
      clear HB
      have HB := HBn
      clear HBn
      clear hbt
      have HE := Lib.hid (TA.new s6)
      clear s6
      have qHA := HA.out.cell
      have qHE := HE.out.cell
      go_wp2_with fail
      clear qHA qHE
      have Q := Lib.hid (eqT_any _ _ _ _ RO.1 z1 _ HA.out.2 HE.out.2)
      refine Q.out.mono ?_
      rintro e w7 ⟨rfl, hb7⟩
      clear Q
      have HXn := Lib.hid (HX.out.on hb7)
      clear HX
      have HX := HXn
      clear HXn
      have HHn := Lib.hid (HH.out.on hb7)
      clear HH
      have HH := HHn
      clear HHn
      have HAn := Lib.hid (HA.out.on hb7)
      clear HA
      have HA := HAn
      clear HAn
      have HEn := Lib.hid (HE.out.on hb7)
      clear HE
      have HE := HEn
      clear HEn
      have HBn := Lib.hid (below_on HB.out hb7 (Nat.le_refl _))
      clear HB
      have HB := HBn
      clear HBn
      clear hb7
      have qHH := HH.out.cell
      go_wp2_with fail
      clear qHH
      have Q := Lib.hid (K5.out _ _ _ HH.out.2)
      refine Q.out.mono ?_
      rintro e w8 ⟨⟨A8, c8, rfl, s8⟩, hb8⟩
      clear Q
      have HXn := Lib.hid (HX.out.on hb8)
      clear HX
      have HX := HXn
      clear HXn
      have HHn := Lib.hid (HH.out.on hb8)
      clear HH
      have HH := HHn
      clear HHn
      have HAn := Lib.hid (HA.out.on hb8)
      clear HA
      have HA := HAn
      clear HAn
      have HEn := Lib.hid (HE.out.on hb8)
      clear HE
      have HE := HEn
      clear HEn
      have HBn := Lib.hid (below_on HB.out hb8 (Nat.le_refl _))
      clear HB
      have HB := HBn
      clear HBn
      clear hb8
      obtain ⟨qs, fs⟩ := cells1 HA.out.1
      have HXn := Lib.hid (HX.out.far HA.out ne_HX_HA (.slice A8 RI.1.length c8))
      have HHn := Lib.hid (HH.out.far HA.out ne_HH_HA (.slice A8 RI.1.length c8))
      have HEn := Lib.hid (HE.out.far HA.out ne_HA_HE.symm (.slice A8 RI.1.length c8))
      have HAn := Lib.hid (HA.out.again s8)
      have HBn := Lib.hid (HB.out.setCell (p := ⟨w5.heap.size, 0, none⟩) hgeHA (.slice A8 RI.1.length c8))
      clear HX HH HA HE HB s8
      have HX := HXn
      clear HXn
      have HH := HHn
      clear HHn
      have HA := HAn
      clear HAn
      have HE := HEn
      clear HEn
      have HB := HBn
      clear HBn
      have qHX := HX.out.cell
      go_wp2_with fail
      clear qHX qs fs
      have Q := Lib.hid (K6.out _ _ _ HX.out.2)
      refine Q.out.mono ?_
      rintro e w9 ⟨⟨A9, c9, rfl, o9⟩, hb9⟩
      clear Q
      have HXn := Lib.hid (HX.out.on hb9)
      clear HX
      have HX := HXn
      clear HXn
      have HHn := Lib.hid (HH.out.on hb9)
      clear HH
      have HH := HHn
      clear HHn
      have HAn := Lib.hid (HA.out.on hb9)
      clear HA
      have HA := HAn
      clear HAn
      have HEn := Lib.hid (HE.out.on hb9)
      clear HE
      have HE := HEn
      clear HEn
      have HBn := Lib.hid (below_on HB.out hb9 (Nat.le_refl _))
      clear HB
      have HB := HBn
      clear HBn
      clear hb9
      have s9 := o9.sl
      clear o9
      obtain ⟨qs, fs⟩ := cells1 HE.out.1
      have HXn := Lib.hid (HX.out.far HE.out ne_HX_HE (.slice A9 RI.1.length c9))
      have HHn := Lib.hid (HH.out.far HE.out ne_HH_HE (.slice A9 RI.1.length c9))
      have HAn := Lib.hid (HA.out.far HE.out ne_HA_HE (.slice A9 RI.1.length c9))
      have HEn := Lib.hid (HE.out.again s9)
      have HBn := Lib.hid (HB.out.setCell (p := ⟨w6.heap.size, 0, none⟩) hgeHE (.slice A9 RI.1.length c9))
      clear HX HH HA HE HB s9
      have HX := HXn
      clear HXn
      have HH := HHn
      clear HHn
      have HA := HAn
      clear HAn
      have HE := HEn
      clear HEn
      have HB := HBn
      clear HBn
      have qHA := HA.out.cell
      have qHE := HE.out.cell
      go_wp2_with fail
      clear qHA qHE
      clear qs fs
      have Q := Lib.hid (eqT_any _ _ _ _ RI.1 z2 _ HA.out.2 HE.out.2)
      refine Q.out.mono ?_
      rintro e w10 ⟨rfl, hb10⟩
      clear Q
      have HXn := Lib.hid (HX.out.on hb10)
      clear HX
      have HX := HXn
      clear HXn
      have HHn := Lib.hid (HH.out.on hb10)
      clear HH
      have HH := HHn
      clear HHn
      have HAn := Lib.hid (HA.out.on hb10)
      clear HA
      have HA := HAn
      clear HAn
      have HEn := Lib.hid (HE.out.on hb10)
      clear HE
      have HE := HEn
      clear HEn
      have HBn := Lib.hid (below_on HB.out hb10 (Nat.le_refl _))
      clear HB
      have HB := HBn
      clear HBn
      clear hb10
      have qHH := HH.out.cell
      go_wp2_with fail
      clear qHH
      have Q := Lib.hid (K7.out _ _ _ HH.out.2)
      refine Q.out.mono ?_
      rintro e w11 ⟨⟨A11, c11, rfl, s11⟩, hb11⟩
      clear Q
      have HXn := Lib.hid (HX.out.on hb11)
      clear HX
      have HX := HXn
      clear HXn
      have HHn := Lib.hid (HH.out.on hb11)
      clear HH
      have HH := HHn
      clear HHn
      have HAn := Lib.hid (HA.out.on hb11)
      clear HA
      have HA := HAn
      clear HAn
      have HEn := Lib.hid (HE.out.on hb11)
      clear HE
      have HE := HEn
      clear HEn
      have HBn := Lib.hid (below_on HB.out hb11 (Nat.le_refl _))
      clear HB
      have HB := HBn
      clear HBn
      clear hb11
      obtain ⟨qs, fs⟩ := cells1 HA.out.1
      have HXn := Lib.hid (HX.out.far HA.out ne_HX_HA (.slice A11 RA.1.length c11))
      have HHn := Lib.hid (HH.out.far HA.out ne_HH_HA (.slice A11 RA.1.length c11))
      have HEn := Lib.hid (HE.out.far HA.out ne_HA_HE.symm (.slice A11 RA.1.length c11))
      have HAn := Lib.hid (HA.out.again s11)
      have HBn := Lib.hid (HB.out.setCell (p := ⟨w5.heap.size, 0, none⟩) hgeHA (.slice A11 RA.1.length c11))
      clear HX HH HA HE HB s11
      have HX := HXn
      clear HXn
      have HH := HHn
      clear HHn
      have HA := HAn
      clear HAn
      have HE := HEn
      clear HEn
      have HB := HBn
      clear HBn
      have qHX := HX.out.cell
      go_wp2_with fail
      clear qHX qs fs
      have Q := Lib.hid (K8.out _ _ _ HX.out.2)
      refine Q.out.mono ?_
      rintro e w12 ⟨⟨A12, c12, rfl, o12⟩, hb12⟩
      clear Q
      have HXn := Lib.hid (HX.out.on hb12)
      clear HX
      have HX := HXn
      clear HXn
      have HHn := Lib.hid (HH.out.on hb12)
      clear HH
      have HH := HHn
      clear HHn
      have HAn := Lib.hid (HA.out.on hb12)
      clear HA
      have HA := HAn
      clear HAn
      have HEn := Lib.hid (HE.out.on hb12)
      clear HE
      have HE := HEn
      clear HEn
      have HBn := Lib.hid (below_on HB.out hb12 (Nat.le_refl _))
      clear HB
      have HB := HBn
      clear HBn
      clear hb12
      have s12 := o12.sl
      clear o12
      obtain ⟨qs, fs⟩ := cells1 HE.out.1
      have HXn := Lib.hid (HX.out.far HE.out ne_HX_HE (.slice A12 RA.1.length c12))
      have HHn := Lib.hid (HH.out.far HE.out ne_HH_HE (.slice A12 RA.1.length c12))
      have HAn := Lib.hid (HA.out.far HE.out ne_HA_HE (.slice A12 RA.1.length c12))
      have HEn := Lib.hid (HE.out.again s12)
      have HBn := Lib.hid (HB.out.setCell (p := ⟨w6.heap.size, 0, none⟩) hgeHE (.slice A12 RA.1.length c12))
      clear HX HH HA HE HB s12
      have HX := HXn
      clear HXn
      have HH := HHn
      clear HHn
      have HA := HAn
      clear HAn
      have HE := HEn
      clear HEn
      have HB := HBn
      clear HBn
      have qHA := HA.out.cell
      have qHE := HE.out.cell
      go_wp2_with fail
      clear qHA qHE
      clear qs fs
      have Q := Lib.hid (eqT_any _ _ _ _ RA.1 z3 _ HA.out.2 HE.out.2)
      refine Q.out.mono ?_
      rintro e w13 ⟨rfl, hb13⟩
      clear Q
      have HXn := Lib.hid (HX.out.on hb13)
      clear HX
      have HX := HXn
      clear HXn
      have HHn := Lib.hid (HH.out.on hb13)
      clear HH
      have HH := HHn
      clear HHn
      have HAn := Lib.hid (HA.out.on hb13)
      clear HA
      have HA := HAn
      clear HAn
      have HEn := Lib.hid (HE.out.on hb13)
      clear HE
      have HE := HEn
      clear HEn
      have HBn := Lib.hid (below_on HB.out hb13 (Nat.le_refl _))
      clear HB
      have HB := HBn
      clear HBn
      clear hb13
      clear HA HE
      have qHH := HH.out.cell
      go_wp2_with fail
      clear qHH
      have Q := Lib.hid (K9.out _ _ _ HH.out.2)
      refine Q.out.mono ?_
      rintro e w14 ⟨rfl, hb14⟩
      clear Q
      have HXn := Lib.hid (HX.out.on hb14)
      clear HX
      have HX := HXn
      clear HXn
      have HHn := Lib.hid (HH.out.on hb14)
      clear HH
      have HH := HHn
      clear HHn
      have HBn := Lib.hid (below_on HB.out hb14 (Nat.le_refl _))
      clear HB
      have HB := HBn
      clear HBn
      clear hb14
      have qHX := HX.out.cell
      go_wp2_with fail
      clear qHX
      have Q := Lib.hid (K10.out _ _ _ HX.out.2)
      refine Q.out.mono ?_
      rintro e w15 ⟨rfl, hb15⟩
      clear Q
      have HXn := Lib.hid (HX.out.on hb15)
      clear HX
      have HX := HXn
      clear HXn
      have HHn := Lib.hid (HH.out.on hb15)
      clear HH
      have HH := HHn
      clear HHn
      have HBn := Lib.hid (below_on HB.out hb15 (Nat.le_refl _))
      clear HB
      have HB := HBn
      clear HBn
      clear hb15
      have qHH := HH.out.cell
      go_wp2_with fail
      clear qHH
      have Q := Lib.hid (K11.out _ _ _ HH.out.2)
      refine Q.out.mono ?_
      rintro e w16 ⟨rfl, hb16⟩
      clear Q
      have HXn := Lib.hid (HX.out.on hb16)
      clear HX
      have HX := HXn
      clear HXn
      have HHn := Lib.hid (HH.out.on hb16)
      clear HH
      have HH := HHn
      clear HHn
      have HBn := Lib.hid (below_on HB.out hb16 (Nat.le_refl _))
      clear HB
      have HB := HBn
      clear HBn
      clear hb16
      have qHX := HX.out.cell
      go_wp2_with fail
      clear qHX
      have Q := Lib.hid (K12.out _ _ _ HX.out.2)
      refine Q.out.mono ?_
      rintro e w17 ⟨rfl, hb17⟩
      clear Q
      have HXn := Lib.hid (HX.out.on hb17)
      clear HX
      have HX := HXn
      clear HXn
      have HHn := Lib.hid (HH.out.on hb17)
      clear HH
      have HH := HHn
      clear HHn
      have HBn := Lib.hid (below_on HB.out hb17 (Nat.le_refl _))
      clear HB
      have HB := HBn
      clear HBn
      clear hb17
      have qHH := HH.out.cell
      have qHX := HX.out.cell
      go_wp2_with fail
      clear qHH qHX
      have Q := Lib.hid (eqT_any _ _ _ _ l hn1 _ HH.out.2 HX.out.2)
      refine Q.out.mono ?_
      rintro e w18 ⟨rfl, hb18⟩
      clear Q
      have HXn := Lib.hid (HX.out.on hb18)
      clear HX
      have HX := HXn
      clear HXn
      have HHn := Lib.hid (HH.out.on hb18)
      clear HH
      have HH := HHn
      clear HHn
      have HBn := Lib.hid (below_on HB.out hb18 (Nat.le_refl _))
      clear HB
      have HB := HBn
      clear HBn
      clear hb18
      go_wp2_with fail
      refine (HAw.out _).mono ?_
      rintro e w19 ⟨rfl, hb19⟩
      have HBf := Lib.hid (below_on HB.out hb19 (Nat.le_refl _))
      clear hb19 HB
      go_wp2_with fail
      go_ret
      exact ⟨rfl, HBf.out⟩
end Go.Proofs.Ytbobpgjgknkogaa
