/- TextChecks. No condition. -/
import Derived.Test.YtklfaccjbdkfhaaX25
namespace Go.Proofs.Ytklfaccjbdkfhaa
open Go.RowKit
theorem lxC_one (l : List Lx) : ∀ u ∈ lxC l, u.oneCell' = true := by
  intro u hu
  unfold lxC at hu
  obtain ⟨x, _, h⟩ := List.mem_flatMap.1 hu
  simp only [List.mem_cons, List.not_mem_nil, or_false] at h
  rcases h with rfl | rfl | rfl <;> rfl
theorem light_of {l : List Lx} (h : lightL l = true) : l.length ≤ 100 ∧ ∀ x ∈ l, x.text.length ≤ 100 := of_decide_eq_true h
set_option maxRecDepth 100000 in
set_option maxHeartbeats 6400000 in
theorem TextChecks_any (x : Lx) (least most : Int) (s : List UInt8) (A1 A2 : Option Addr) (cap1 cap2 D : Nat) (l k : List Lx) (w : World) (hS1 : Sl w D 3 A1 l.length cap1 (lxC l)) (hS2 : Sl w D 3 A2 k.length cap2 (lxC k)) (hD : D ≤ w.heap.size) :
    Calls Try.prog 8 #[x.v, .int .i64 least, .int .i64 most, .string ⟨s.toArray⟩, .slice A1 l.length cap1, .slice A2 k.length cap2] w fun e w' => e = .returned (.bool true) ∧ Below w.heap.size w w' := by
  have HA := Lib.hid awake04_any
  have hl0 : l.length ≤ maxLen := Nat.le_trans hS1.2.1 hS1.2.2.1
  have hk0 : k.length ≤ maxLen := Nat.le_trans hS2.2.1 hS2.2.2.1
  obtain ⟨kd, tx, a⟩ := x
  have bX := Blk.new w 31 #[.int .i64 kd, .string ⟨tx.toArray⟩, .int .i64 a]
  have hB := (Below.refl w.heap.size w).alloc (Nat.le_refl _) (.cells #[.int .i64 kd, .string ⟨tx.toArray⟩, .int .i64 a] 31)
  have T1 := hS1.below ((Below.refl w.heap.size w).alloc (Nat.le_refl _) (.cells #[.int .i64 kd, .string ⟨tx.toArray⟩, .int .i64 a] 31)) hD
  have T2 := hS2.below ((Below.refl w.heap.size w).alloc (Nat.le_refl _) (.cells #[.int .i64 kd, .string ⟨tx.toArray⟩, .int .i64 a] 31)) hD
  obtain ⟨x0, x1, x2, _, _, _⟩ := cells3 bX
  show Calls Try.prog 8 #[.agg #[.int .i64 kd, .string ⟨tx.toArray⟩, .int .i64 a], .int .i64 least, .int .i64 most, .string ⟨s.toArray⟩, .slice A1 l.length cap1, .slice A2 k.length cap2] w fun e w' => e = .returned (.bool true) ∧ Below w.heap.size w w'
  have HL1 := Lib.hid (light_any A1 cap1 D l _ T1 hl0)
  have HL2 := Lib.hid (light_any A2 cap2 D k _ T2 hk0)
  have HG := Lib.hid (And.intro bX (And.intro hB (And.intro T1 T2)))
  clear bX hB T1 T2 hS1 hS2 hl0 hk0
  by_cases h1 : 100 < tx.length
  · have h1' : (100 : Int) < tx.length := by omega
    go_enter Try.func8, Try.ntmps8
    go_wp2_with fail
    refine (HA.out _).mono ?_
    rintro e w1 ⟨rfl, hb⟩
    have hB3 := below_on HG.out.2.1 hb (Nat.le_refl _)
    clear hb x0 x1 x2
    go_wp2_with fail
    go_ret
    exact ⟨rfl, hB3⟩
  · have h1' : (tx.length : Int) ≤ 100 := by omega
    by_cases h2 : 100 < s.length
    · have h2' : (100 : Int) < s.length := by omega
      go_enter Try.func8, Try.ntmps8
      go_wp2_with fail
      refine (HA.out _).mono ?_
      rintro e w1 ⟨rfl, hb⟩
      have hB3 := below_on HG.out.2.1 hb (Nat.le_refl _)
      clear hb x0 x1 x2
      go_wp2_with fail
      go_ret
      exact ⟨rfl, hB3⟩
    · have h2' : (s.length : Int) ≤ 100 := by omega
      cases hl : lightL l with
      | false =>
        rw [hl] at HL1
        go_enter Try.func8, Try.ntmps8
        go_wp2_with fail
        refine HL1.out.mono ?_
        rintro e w1 ⟨rfl, rfl⟩
        go_wp2_with fail
        refine (HA.out _).mono ?_
        rintro e w1 ⟨rfl, hb⟩
        have hB3 := below_on HG.out.2.1 hb (Nat.le_refl _)
        clear hb x0 x1 x2
        go_wp2_with fail
        go_ret
        exact ⟨rfl, hB3⟩
      | true =>
        rw [hl] at HL1
        cases hk : lightL k with
        | false =>
          rw [hk] at HL2
          go_enter Try.func8, Try.ntmps8
          go_wp2_with fail
          refine HL1.out.mono ?_
          rintro e w1 ⟨rfl, rfl⟩
          go_wp2_with fail
          refine HL2.out.mono ?_
          rintro e w1 ⟨rfl, rfl⟩
          go_wp2_with fail
          refine (HA.out _).mono ?_
          rintro e w1 ⟨rfl, hb⟩
          have hB3 := below_on HG.out.2.1 hb (Nat.le_refl _)
          clear hb x0 x1 x2
          go_wp2_with fail
          go_ret
          exact ⟨rfl, hB3⟩
        | true =>
          rw [hk] at HL2
          obtain ⟨hl1, hl2⟩ := light_of hl
          obtain ⟨hk1, hk2⟩ := light_of hk
          have hl3 : ∀ x ∈ l, x.text.length ≤ 30000 := fun x hx => by have := hl2 x hx; omega
          have HN1 := Lib.hid (fun W => Number_any ⟨kd, tx, a⟩ least most W (by simp only; omega))
          have HN2 := Lib.hid (fun W => rNumber_any ⟨kd, tx, a⟩ least most W (by simp only; omega))
          have HC1 := Lib.hid (fun W => Check_any ⟨kd, tx, a⟩ W (by simp only; omega))
          have HC2 := Lib.hid (fun W => rCheck_any ⟨kd, tx, a⟩ W (by simp only; omega))
          have HI1 := Lib.hid (fun i t W => Is_any ⟨kd, tx, a⟩ i t W)
          have HI2 := Lib.hid (fun i t W => rIs_any ⟨kd, tx, a⟩ i t W)
          have HT1 := Lib.hid (fun A cap D W h hD => Text_any A cap D l W h hD (by omega) hl3)
          have HT2 := Lib.hid (fun A cap D W h hD => rText_any A cap D l W h hD (by omega) hl3)
          have HS1 := Lib.hid (fun A A' cap cap' D W h h' hD => Same_any A A' cap cap' D l k W h h' hD (by omega))
          have HS2 := Lib.hid (fun A A' cap cap' D W h h' => rSame_any A A' cap cap' D l k W h h' (by omega))
          have HZ := Lib.hid (fun A A' cap cap' D W h h' => sameList_any A A' cap cap' D l l W h h' (by omega) (by omega))
          rw [decide_eq_true rfl] at HZ
          unfold Lx.v at HN1 HN2 HC1 HC2 HI1 HI2
          simp only at HN1 HN2 HC1 HC2 HI1 HI2
          generalize numL ⟨kd, tx, a⟩ least most = NL at *
          obtain ⟨n1, n2⟩ := NL
          generalize checkL ⟨kd, tx, a⟩ = CL at *
          generalize textT l = TT at *
          generalize textE l = TE at *
          generalize decide (l.map keyL = k.map keyL) = SM at *
          simp only at HN1 HN2
          have hl100 : l.length ≤ 100 := hl1
          have hLO := Lib.hid (lxC_one l)
          clear hl hk hl1 hl3 hl2 hk1 hk2 h1 h2
          obtain ⟨i0, hi0, hz0, hz1, hz2⟩ := info_parts infoL
          go_enter Try.func8, Try.ntmps8
          go_wp2_with fail
          refine HL1.out.mono ?_
          rintro e w1 ⟨rfl, rfl⟩
          go_wp2_with fail
          refine HL2.out.mono ?_
          rintro e w1 ⟨rfl, rfl⟩
          go_wp2_with fail
          clear x0 x1 x2
          obtain ⟨bX, hB, T1, T2⟩ := HG.out
          clear HG HL1 HL2
          generalize w.alloc (.cells #[.int .i64 kd, .string ⟨tx.toArray⟩, .int .i64 a] 31) = v1 at *
          have hDv : D ≤ v1.heap.size := Nat.le_trans hD hB.size
          refine (HN1.out _).mono ?_
          rintro e w2 ⟨rfl, hb2⟩
          have bX := Blk.on bX hb2
          have hB := below_on hB hb2 (Nat.le_refl _)
          have T1 := T1.below hb2 hDv
          have T2 := T2.below hb2 hDv
          have hDv := Nat.le_trans hDv hb2.size
          clear hb2 HN1
          obtain ⟨x0, x1, x2, _, _, _⟩ := cells3 bX
          go_wp2_with fail
          clear x0 x1 x2
          refine (HN2.out _).mono ?_
          rintro e w3 ⟨rfl, hb3⟩
          have bX := Blk.on bX hb3
          have hB := below_on hB hb3 (Nat.le_refl _)
          have T1 := T1.below hb3 hDv
          have T2 := T2.below hb3 hDv
          have hDv := Nat.le_trans hDv hb3.size
          have hlX := bX.lt
          clear hb3 HN2
          obtain ⟨x0, x1, x2, _, _, _⟩ := cells3 bX
          have KC1 := Lib.hid (fun W (hW : Below w3.heap.size w3 W) => (HC1.out W).mono fun e W' ⟨he, hb⟩ => And.intro he (hW.trans (hb.mono hW.size)))
          have KC2 := Lib.hid (fun W (hW : Below w3.heap.size w3 W) => (HC2.out W).mono fun e W' ⟨he, hb⟩ => And.intro he (hW.trans (hb.mono hW.size)))
          have KI1 := Lib.hid (fun i t W (hW : Below w3.heap.size w3 W) => (HI1.out i t W).mono fun e W' ⟨he, hb⟩ => And.intro he (hW.trans (hb.mono hW.size)))
          have KI2 := Lib.hid (fun i t W (hW : Below w3.heap.size w3 W) => (HI2.out i t W).mono fun e W' ⟨he, hb⟩ => And.intro he (hW.trans (hb.mono hW.size)))
          have hb0 := (Below.refl w3.heap.size w3).drew
          have HH := Lib.hid (And.intro hB (And.intro T1 T2))
          clear HC1 HC2 HI1 HI2 hB T1 T2 bX
          go_wp2_with fail
          go_region_held3 (fun W => Below w3.heap.size w3 W ∧ W.cell? ⟨w.heap.size, 0, none⟩ = some (.int .i64 kd) ∧ W.cell? ⟨w.heap.size, 1, none⟩ = some (.string ⟨tx.toArray⟩) ∧ W.cell? ⟨w.heap.size, 2, none⟩ = some (.int .i64 a))
            (exact ⟨by assumption, ((by assumption : Below w3.heap.size w3 _).cell (p := ⟨w.heap.size, 0, none⟩) hlX).trans x0, ((by assumption : Below w3.heap.size w3 _).cell (p := ⟨w.heap.size, 1, none⟩) hlX).trans x1, ((by assumption : Below w3.heap.size w3 _).cell (p := ⟨w.heap.size, 2, none⟩) hlX).trans x2⟩)
            (first
              | (go_at_call 15; refine (KC1.out _ ?_).mono ?_; (exact (by assumption : _ ∧ _).1); rintro e w4 ⟨rfl, hb4⟩)
              | (go_at_call 27; refine (KC2.out _ ?_).mono ?_; (exact (by assumption : _ ∧ _).1); rintro e w4 ⟨rfl, hb4⟩)
              | (go_at_call 28; refine (KI1.out _ _ _ ?_).mono ?_; (exact (by assumption : _ ∧ _).1); rintro e w4 ⟨rfl, hb4⟩)
              | (go_at_call 29; refine (KI2.out _ _ _ ?_).mono ?_; (exact (by assumption : _ ∧ _).1); rintro e w4 ⟨rfl, hb4⟩))
          have hb4 : Below w3.heap.size w3 w4 := by assumption
          obtain ⟨hB, T1, T2⟩ := HH.out
          have hB := below_on hB hb4 (Nat.le_refl _)
          have T1 := T1.below hb4 hDv
          have T2 := T2.below hb4 hDv
          have hDv := Nat.le_trans hDv hb4.size
          clear HH hb4 KC1 KC2 KI1 KI2 x0 x1 x2
          have hB4 := hB.alloc hB.size (.cells #[] 31)
          have T1 := T1.below ((Below.refl w4.heap.size w4).alloc (Nat.le_refl _) (.cells #[] 31)) hDv
          have T2 := T2.below ((Below.refl w4.heap.size w4).alloc (Nat.le_refl _) (.cells #[] 31)) hDv
          have hO := (Own.bare w4 w4.heap.size 31 3 (some ⟨w4.heap.size, 0, none⟩)).alloc (.cells #[] 31)
          have hs4 := hB.size
          have hz4 : w4.heap.size ≤ (w4.alloc (.cells #[] 31)).heap.size := by simp
          have hm1 : 0 + l.length ≤ maxLen := by simp only [maxLen]; omega
          have hm2 : (0 + l.length) * 32 ≤ 140737488355328 := by omega
          clear hB
          go_wp2_with (at_builtin; refine wpList_append_o _ rfl _ _ _ rfl w4.heap.size 31 i0 _ 3 32 Try.underlying23 hi0 hz0 hz1 hz2 rfl (by decide) rfl hO rfl T1 hLO.out hm1 hm2 hz4 ?_; intro A5 cap5 w5 hown5 hg5 hat5)
          simp only [Nat.zero_add, List.nil_append] at hown5
          have hb45 := grown_below (Below.refl w4.heap.size _) hO hg5 hz4
          have hB5 := grown_below hB4 (hO.base hs4) hg5 (by omega)
          have S5 := hown5.sl
          have hD5 : D ≤ w5.heap.size := Nat.le_trans hDv (Nat.le_trans hz4 hb45.size)
          have T1 := (T1.below hb45 hDv).more hD5
          have T2 := (T2.below hb45 hDv).more hD5
          clear hB4 hO hown5 hg5 hat5 hb45 hz4 hDv hm1 hm2 hD5
          refine (HT1.out _ _ _ _ S5 (Nat.le_refl _)).mono ?_
          rintro e w6 ⟨rfl, hb6⟩
          have hB6 := below_on hB5 hb6 (Nat.le_refl _)
          have S6 := S5.below hb6 (Nat.le_refl _)
          have T16 := T1.below hb6 (Nat.le_refl _)
          have T26 := T2.below hb6 (Nat.le_refl _)
          have z6 := hb6.size
          clear hB5 S5 T1 T2 hb6 HT1
          go_wp2_with fail
          refine (HT2.out _ _ _ _ T16 z6).mono ?_
          rintro e w7 ⟨rfl, hb7⟩
          have hB7 := below_on hB6 hb7 (Nat.le_refl _)
          have S7 := S6.below hb7 z6
          have T17 := T16.below hb7 z6
          have T27 := T26.below hb7 z6
          have z7 := Nat.le_trans z6 hb7.size
          clear hB6 S6 T16 T26 hb7 HT2
          go_wp2_with fail
          refine (HS1.out _ _ _ _ _ _ S7 T27 z7).mono ?_
          rintro e w8 ⟨rfl, hb8⟩
          have hB8 := below_on hB7 hb8 (Nat.le_refl _)
          have S8 := S7.below hb8 z7
          have T18 := T17.below hb8 z7
          have T28 := T27.below hb8 z7
          have z8 := Nat.le_trans z7 hb8.size
          clear hB7 S7 T17 T27 hb8 HS1
          go_wp2_with fail
          refine (HS2.out _ _ _ _ _ _ T18 T28).mono ?_
          rintro e w9 ⟨rfl, hb9⟩
          have hB9 := below_on hB8 hb9 (Nat.le_refl _)
          have S9 := S8.below hb9 z8
          have T19 := T18.below hb9 z8
          clear hB8 S8 T18 T28 hb9 HS2
          go_wp2_with fail
          refine (HZ.out _ _ _ _ _ _ S9 T19).mono ?_
          rintro e w10 ⟨rfl, hb10⟩
          have hB10 := below_on hB9 hb10 (Nat.le_refl _)
          clear hB9 S9 T19 hb10 HZ
          go_wp2_with fail
          refine (HA.out _).mono ?_
          rintro e w11 ⟨rfl, hb11⟩
          have hB11 := below_on hB10 hb11 (Nat.le_refl _)
          clear hB10 hb11
          go_wp2_with fail
          go_ret
          exact ⟨rfl, hB11⟩
end Go.Proofs.Ytklfaccjbdkfhaa
