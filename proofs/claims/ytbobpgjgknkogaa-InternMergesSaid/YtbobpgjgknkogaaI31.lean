/- The reference: Of, put. No condition. -/
import Derived.Test.YtbobpgjgknkogaaI30
namespace Go.Proofs.Ytbobpgjgknkogaa
open Go.RowKit Go.Maps
theorem atR_in {l : List (List UInt8)} {s : List UInt8} (h : s ∈ l) : atR l s = (((idxF l s).getD 0 : Nat) : Int) := by
  unfold atR
  cases hq : idxF l s with
  | none => exact absurd h (idxF_none.1 hq)
  | some i => rfl
theorem atR_out {l : List (List UInt8)} {s : List UInt8} (h : s ∉ l) : atR l s = -1 := by
  unfold atR
  rw [idxF_none.2 h]
set_option maxRecDepth 100000 in
set_option maxHeartbeats 3200000 in
theorem rOf_any (A : Option Addr) (cap D : Nat) (l : List (List UInt8)) (w : World) (hS : Sl w D 1 A l.length cap (l.map strV)) (hD : D ≤ w.heap.size) (hn : l.length ≤ 1000) (hl : ∀ s ∈ l, s.length ≤ maxLen) :
    Calls Try.prog 15 #[.slice A l.length cap] w fun e w' => tab2Post (ofR l) e w' ∧ Below w.heap.size w w' := by
  have hB0 := (Below.refl w.heap.size w).alloc (Nat.le_refl _) (.cells #[.slice none 0 0] 24)
  have b0 := Blk.new w 24 #[.slice none 0 0]
  have HO := Lib.hid (rOwn_any A cap D l _ (hS.below hB0 hD) (Nat.le_trans hD hB0.size) hn)
  have HC := Lib.hid (fun A2 c2 W h => rOk_any A2 c2 W.heap.size l W h (Nat.le_refl _) hn hl)
  have hR : ofR l = if (chkT l).1 ≠ 0 then ([], (chkT l).1) else (l, 0) := rfl
  generalize ofR l = R at *
  generalize (chkT l).1 = c0 at *
  have HB := Lib.hid (And.intro b0 hB0)
  unfold tab2Post
  clear hS hl hB0 b0
  go_enter Try.func15, Try.ntmps15
  go_wp2_with fail
  refine HO.out.mono ?_
  rintro e w1 ⟨⟨A2, c2, rfl, o1⟩, hb1⟩
  have hT := TA.new o1.sl
  have b1 := (HB.out.1.on hb1).alloc (.cells #[.slice A2 l.length c2] 24)
  have hB1 := (below_on HB.out.2 hb1 (Nat.le_refl _))
  have hB2 := hB1.alloc hB1.size (.cells #[.slice A2 l.length c2] 24)
  have HT := Lib.hid (And.intro hT (And.intro b1 hB2))
  have HC1 := Lib.hid (HC.out A2 c2 _ hT.2)
  clear hT b1 hB1 hB2 hb1 o1 HO HB HC
  go_wp2_with fail
  refine HC1.out.mono ?_
  rintro e w2 ⟨rfl, hb2⟩
  have hT := HT.out.1.on hb2
  have b2 := HT.out.2.1.on hb2
  have hB2 := below_on HT.out.2.2 hb2 (Nat.le_refl _)
  obtain ⟨q0, f0⟩ := cells1 b2
  have c1 := hT.cell
  have HT2 := Lib.hid (And.intro hT (And.intro b2 hB2))
  clear hT b2 hB2 hb2 HC1 HT
  by_cases hc : c0 = 0
  · rw [if_neg (by simpa using hc)] at hR
    subst hc
    subst hR
    have HS := Lib.hid (HT2.out.1.2.farT HT2.out.2.1 (fun i b e => by cases i <;> simp at e) 0 (.slice A2 l.length c2))
    go_wp2_with fail
    refine bodyPost_ret (results_ct rfl _ _ _ _ _ _ rfl (HT2.out.2.1.set 0 (.slice A2 l.length c2)) Try.underlying24 rfl (by kernel_rfl)) rfl ⟨⟨A2, c2, rfl, ?_⟩, HT2.out.2.2.setCell (p := ⟨w.heap.size, 0, none⟩) (Nat.le_refl _) _⟩
    rw [World.size_setCell]
    exact HS.out
  · rw [if_pos hc] at hR
    subst hR
    have hcb : (c0 != 0) = true := bne_iff_ne.2 hc
    go_wp2_with fail
    exact bodyPost_ret (results_ct rfl _ _ _ _ _ _ rfl (HT2.out.2.1.set 0 (.slice none 0 0)) Try.underlying24 rfl (by kernel_rfl)) rfl ⟨⟨none, 0, rfl, Sl.nil _ _ _⟩, HT2.out.2.2.setCell (p := ⟨w.heap.size, 0, none⟩) (Nat.le_refl _) _⟩
/-- put at work: the table's block and the result's. -/
def PU (w W : World) (A : Option Addr) (cap : Nat) (l : List (List UInt8)) (D : Nat) : Prop :=
  Blk W w.heap.size 24 #[.slice A l.length cap] ∧ Blk W (w.heap.size + 1) 24 #[.slice none 0 0] ∧ Sl W D 1 A l.length cap (l.map strV) ∧ Below w.heap.size w W ∧ D ≤ w.heap.size
theorem PU.on {w W W' : World} {A : Option Addr} {cap D : Nat} {l : List (List UInt8)} (h : PU w W A cap l D) (hb : Below W.heap.size W W') : PU w W' A cap l D :=
  ⟨h.1.on hb, h.2.1.on hb, h.2.2.1.below hb (Nat.le_trans h.2.2.2.2 h.2.2.2.1.size), below_on h.2.2.2.1 hb (Nat.le_refl _), h.2.2.2.2⟩
theorem PU.facts {w W : World} {A : Option Addr} {cap D : Nat} {l : List (List UInt8)} (h : PU w W A cap l D) : W.cell? ⟨w.heap.size, 0, none⟩ = some (.slice A l.length cap) ∧ W.cell? ⟨w.heap.size + 1, 0, none⟩ = some (.slice none 0 0) ∧ W.frozen? ⟨w.heap.size, 0, none⟩ = false ∧ W.frozen? ⟨w.heap.size + 1, 0, none⟩ = false :=
  ⟨h.1.cell 0, h.2.1.cell 0, h.1.frozen (by simp), h.2.1.frozen (by simp)⟩
theorem PU.size {w W : World} {A : Option Addr} {cap D : Nat} {l : List (List UInt8)} (h : PU w W A cap l D) : D ≤ W.heap.size := Nat.le_trans h.2.2.2.2 h.2.2.2.1.size
/-- A table of the call's own. -/
def tabO (B : Nat) (R : List (List UInt8) × Nat × Int) (e : Ending) (w' : World) : Prop :=
  ∃ A2 c2, e = .returned (.tuple #[.agg #[.slice A2 R.1.length c2], .int .i64 (R.2.1 : Int), .int .i64 R.2.2]) ∧ Own w' B 9 1 A2 R.1.length c2 (R.1.map strV)
set_option maxRecDepth 100000 in
set_option maxHeartbeats 6400000 in
theorem rPut_any (A : Option Addr) (cap D : Nat) (l : List (List UInt8)) (s : List UInt8) (fresh : Bool) (w : World) (hS : Sl w D 1 A l.length cap (l.map strV)) (hD : D ≤ w.heap.size) (hn : l.length ≤ 1000) (hl : ∀ s ∈ l, s.length ≤ maxLen) (hs : s.length ≤ maxLen) :
    Calls Try.prog 48 #[.agg #[.slice A l.length cap], .string ⟨s.toArray⟩, .bool fresh] w fun e w' => tabO w.heap.size (internR l s fresh) e w' ∧ Below w.heap.size w w' := by
  obtain ⟨i0, hi0, hz0, hz1, hz2⟩ := info_parts infoS
  obtain ⟨b0, b1, hB0⟩ := two w (.slice A l.length cap)
  have hP0 : PU w ((w.alloc (.cells #[.slice A l.length cap] 24)).alloc (.cells #[.slice none 0 0] 24)) A cap l D := ⟨b0, b1, hS.below hB0 hD, hB0, hD⟩
  have HC := Lib.hid (rOk_any A cap D l _ hP0.2.2.1 hP0.size hn hl)
  have HN := Lib.hid (fun W => rName_any s W hs)
  have HA := Lib.hid (fun W h => rAt_any A cap D l s W h hn)
  have HO := Lib.hid (fun W h hD => rOwn_any A cap D l W h hD hn)
  have hR : internR l s fresh = if (chkT l).1 ≠ 0 then ([], 0, (chkT l).1) else if nameE s ≠ 0 then ([], 0, nameE s) else if s ∈ l then (if fresh = true then ([], 0, 8) else (l, (idxF l s).getD 0, 0)) else if 32 ≤ l.length then ([], 0, 6) else (l ++ [s], l.length, 0) := rfl
  have h32 : (chkT l).1 = 0 → l.length ≤ 32 := fun h => ((chk_good l).1.1 h).1
  generalize internR l s fresh = R at *
  generalize (chkT l).1 = c0 at *
  generalize nameE s = ne at *
  have HP0 := Lib.hid hP0
  have p0 := hP0.facts.1
  unfold tabO
  clear hS hl b0 b1 hB0 hP0
  go_enter Try.func48, Try.ntmps48
  go_wp2_with fail
  refine HC.out.mono ?_
  rintro e w1 ⟨rfl, hb1⟩
  have hP1 := HP0.out.on hb1
  obtain ⟨p1, r1, fp1, fr1⟩ := hP1.facts
  have HP1 := Lib.hid hP1
  clear hP1 hb1 HC HP0 p0
  by_cases hc : c0 = 0
  · rw [if_neg (by simpa using hc)] at hR
    have h32 := h32 hc
    subst hc
    go_wp2_with fail
    refine (HN.out _).mono ?_
    rintro e w2 ⟨rfl, rfl⟩
    clear HN
    by_cases hne : ne = 0
    · rw [if_neg (by simpa using hne)] at hR
      subst hne
      go_wp2_with fail
      refine (HA.out _ HP1.out.2.2.1).mono ?_
      rintro e w3 ⟨rfl, rfl⟩
      by_cases hin : s ∈ l
      · rw [if_pos hin] at hR
        rw [atR_in hin]
        generalize (idxF l s).getD 0 = ix at *
        clear HA
        cases fresh
        · rw [if_neg (by decide)] at hR
          subst hR
          go_wp2_with fail
          refine (HO.out _ HP1.out.2.2.1 HP1.out.size).mono ?_
          rintro e w4 ⟨⟨A2, c2, rfl, o4⟩, hb4⟩
          have hP4 := HP1.out.on hb4
          obtain ⟨p4, r4, fp4, fr4⟩ := hP4.facts
          have HP4 := Lib.hid hP4
          have HS4 := Lib.hid ((o4.base HP1.out.2.2.2.1.size).farNe (p := ⟨w.heap.size + 1, 0, none⟩) (o4.ne_blk (by decide) hP4.2.1) (.slice A2 l.length c2))
          clear hP4 hb4 o4 HO HP1 p1 r1 fp1 fr1
          go_wp2_with fail
          refine bodyPost_ret (results_ctt rfl _ _ _ _ _ _ rfl (HP4.out.2.1.set 0 (.slice A2 l.length c2)) Try.underlying24 rfl (by kernel_rfl)) rfl ⟨⟨A2, c2, rfl, HS4.out⟩, HP4.out.2.2.2.1.setCell (p := ⟨w.heap.size + 1, 0, none⟩) (by show w.heap.size ≤ w.heap.size + 1; omega) _⟩
        · rw [if_pos rfl] at hR
          subst hR
          clear HO
          go_wp2_with fail
          exact bodyPost_ret (results_ctt rfl _ _ _ _ _ _ rfl (HP1.out.2.1.set 0 (.slice none 0 0)) Try.underlying24 rfl (by kernel_rfl)) rfl ⟨⟨none, 0, rfl, Own.nil _ _ _ _⟩, HP1.out.2.2.2.1.setCell (p := ⟨w.heap.size + 1, 0, none⟩) (by show w.heap.size ≤ w.heap.size + 1; omega) _⟩
      · rw [if_neg hin] at hR
        rw [atR_out hin]
        clear HA
        by_cases hf : 32 ≤ l.length
        · rw [if_pos hf] at hR
          subst hR
          have hl32 : l.length = 32 := by omega
          have hlb : ((l.length : Int) == 32) = true := by simp [hl32]
          clear HO
          go_wp2_with fail
          exact bodyPost_ret (results_ctt rfl _ _ _ _ _ _ rfl (HP1.out.2.1.set 0 (.slice none 0 0)) Try.underlying24 rfl (by kernel_rfl)) rfl ⟨⟨none, 0, rfl, Own.nil _ _ _ _⟩, HP1.out.2.2.2.1.setCell (p := ⟨w.heap.size + 1, 0, none⟩) (by show w.heap.size ≤ w.heap.size + 1; omega) _⟩
        · rw [if_neg hf] at hR
          subst hR
          have hlb : ((l.length : Int) == 32) = false := by simp; omega
          go_wp2_with fail
          refine (HO.out _ HP1.out.2.2.1 HP1.out.size).mono ?_
          rintro e w4 ⟨⟨A2, c2, rfl, o4⟩, hb4⟩
          have hP4 := HP1.out.on hb4
          obtain ⟨p4, r4, fp4, fr4⟩ := hP4.facts
          have b5 : Blk (w4.setCell ⟨w.heap.size, 0, none⟩ (.slice A2 l.length c2)) w.heap.size 24 #[.slice A2 l.length c2] := hP4.1.set 0 _
          have b6 := hP4.2.1.far (p := ⟨w.heap.size, 0, none⟩) (by show w.heap.size + 1 ≠ w.heap.size; omega) (.slice A2 l.length c2)
          have o5 := o4.farNe (p := ⟨w.heap.size, 0, none⟩) (o4.ne_blk (by decide) hP4.1) (.slice A2 l.length c2)
          have hB5 := hP4.2.2.2.1.setCell (p := ⟨w.heap.size, 0, none⟩) (Nat.le_refl _) (.slice A2 l.length c2)
          have hz5 : (w4.setCell ⟨w.heap.size, 0, none⟩ (.slice A2 l.length c2)).heap.size = w4.heap.size := World.size_setCell _ _ _
          have hsl := sl_row (w4.setCell ⟨w.heap.size, 0, none⟩ (.slice A2 l.length c2)) #[.string ⟨s.toArray⟩] 9 1 rfl (by decide)
          rw [hz5] at hsl
          have hone : ∀ u ∈ #[Value.string ⟨s.toArray⟩].toList, u.oneCell' = true := by simp [Value.oneCell']
          have o5a := o5.alloc (.cells #[.string ⟨s.toArray⟩] 9)
          have hbase : w3.heap.size ≤ ((w4.setCell ⟨w.heap.size, 0, none⟩ (.slice A2 l.length c2)).alloc (.cells #[.string ⟨s.toArray⟩] 9)).heap.size := by rw [World.size_alloc, hz5]; exact Nat.le_trans hb4.size (Nat.le_succ _)
          have hw3 := HP1.out.2.2.2.1.size
          have hw5 : w.heap.size ≤ (w4.setCell ⟨w.heap.size, 0, none⟩ (.slice A2 l.length c2)).heap.size := hB5.size
          have HK := Lib.hid (And.intro (b5.alloc (.cells #[.string ⟨s.toArray⟩] 9)) (And.intro (b6.alloc (.cells #[.string ⟨s.toArray⟩] 9)) (hB5.alloc hw5 (.cells #[.string ⟨s.toArray⟩] 9))))
          have hm1 : l.length + 1 ≤ maxLen := by simp only [maxLen]; omega
          have hm2 : (l.length + 1) * 16 ≤ 140737488355328 := by omega
          have HZ := Lib.hid hz5
          clear hP4 b5 b6 hB5 hb4 o4 HO HP1 p1 r1 fp1 fr1 h32 hz5 hw5 o5
          go_wp2_with (at_builtin; refine wpList_append_o _ rfl _ _ _ rfl w3.heap.size 9 i0 _ 1 16 Try.underlying22 hi0 hz0 hz1 hz2 rfl (by decide) rfl o5a rfl hsl hone hm1 hm2 hbase ?_; intro A5 c5 w5 o6 hg5 hat5; have k5 := HK.out.1.grown hg5 (fun e => o5a.ne_blk (by decide) HK.out.1 e.symm); have k6 := HK.out.2.1.grown hg5 (fun e => o5a.ne_blk (by decide) HK.out.2.1 e.symm); obtain ⟨x5, y5⟩ := cells1 k5)
          have hB6 := (grown_below HK.out.2.2 (o5a.base hw3) hg5 (Nat.le_trans hw3 hbase)).setCell (p := ⟨w.heap.size, 0, none⟩) (Nat.le_refl _) (.slice A5 (l.length + 1) c5)
          have k7 : Blk (w5.setCell ⟨w.heap.size, 0, none⟩ (.slice A5 (l.length + 1) c5)) w.heap.size 24 #[.slice A5 (l.length + 1) c5] := k5.set 0 _
          have k8 := k6.far (p := ⟨w.heap.size, 0, none⟩) (by show w.heap.size + 1 ≠ w.heap.size; omega) (.slice A5 (l.length + 1) c5)
          have o7 := o6.farNe (p := ⟨w.heap.size, 0, none⟩) (o6.ne_blk (by decide) k5) (.slice A5 (l.length + 1) c5)
          go_wp2_with fail
          generalize w5.setCell ⟨w.heap.size, 0, none⟩ (.slice A5 (l.length + 1) c5) = v at *
          have hl2 : (l ++ [s]).length = l.length + 1 := by simp
          have hmap : (l ++ [s]).map strV = l.map strV ++ [.string ⟨s.toArray⟩] := by simp [strV]
          have o8 : Own v w3.heap.size 9 1 A5 (l ++ [s]).length c5 ((l ++ [s]).map strV) := by rw [hl2, hmap]; exact o7
          have s9 := (o8.base hw3).farNe (p := ⟨w.heap.size + 1, 0, none⟩) (o8.ne_blk (by decide) k8) (.slice A5 (l.length + 1) c5)
          have k9 := k7.far (p := ⟨w.heap.size + 1, 0, none⟩) (by show w.heap.size ≠ w.heap.size + 1; omega) (.slice A5 (l.length + 1) c5)
          have k10 : Blk (v.setCell ⟨w.heap.size + 1, 0, none⟩ (.slice A5 (l.length + 1) c5)) (w.heap.size + 1) 24 #[.slice A5 (l.length + 1) c5] := k8.set 0 _
          have hB9 := hB6.setCell (p := ⟨w.heap.size + 1, 0, none⟩) (by show w.heap.size ≤ w.heap.size + 1; omega) (.slice A5 (l.length + 1) c5)
          obtain ⟨x7, y7⟩ := cells1 k7
          obtain ⟨x8, y8⟩ := cells1 k8
          obtain ⟨x9, y9⟩ := cells1 k9
          obtain ⟨x10, y10⟩ := cells1 k10
          have HR := Lib.hid (And.intro k10 (And.intro hB9 (And.intro s9 (And.intro hl2 hmap))))
          have hw2 : IntKind.i64.wrap (l.length : Int) = l.length := by rw [IntKind.wrap_i64]; omega
          clear k5 k6 k7 k8 k9 k10 o6 o7 o8 s9 hg5 hat5 x5 y5 hB6 hB9 HK hl2 hmap hsl o5a hone
          go_region_held3 (fun W => W.cell? ⟨w.heap.size, 0, none⟩ = some (.slice A5 (l.length + 1) c5) ∧ W.frozen? ⟨w.heap.size + 1, 0, none⟩ = false)
            (first
              | exact ⟨x7, y8⟩
              | exact ⟨x9, y10⟩)
            (fail)
          go_wp2_with fail
          refine bodyPost_ret (results_ctt rfl _ _ _ _ _ _ rfl HR.out.1.drew Try.underlying24 rfl (by kernel_rfl)) rfl ⟨⟨A5, c5, rfl, ?_⟩, HR.out.2.1.drew⟩
          · have h := HR.out.2.2.1
            rw [HR.out.2.2.2.1, HR.out.2.2.2.2] at h
            exact h.drew
    · rw [if_pos hne] at hR
      subst hR
      have hnb : (ne != 0) = true := bne_iff_ne.2 hne
      clear HO HA
      go_wp2_with fail
      exact bodyPost_ret (results_ctt rfl _ _ _ _ _ _ rfl (HP1.out.2.1.set 0 (.slice none 0 0)) Try.underlying24 rfl (by kernel_rfl)) rfl ⟨⟨none, 0, rfl, Own.nil _ _ _ _⟩, HP1.out.2.2.2.1.setCell (p := ⟨w.heap.size + 1, 0, none⟩) (by show w.heap.size ≤ w.heap.size + 1; omega) _⟩
  · rw [if_pos hc] at hR
    subst hR
    have hcb : (c0 != 0) = true := bne_iff_ne.2 hc
    have hcb2 : (c0 == 0) = false := by simpa using hc
    clear HO HA HN
    go_wp2_with fail
    exact bodyPost_ret (results_ctt rfl _ _ _ _ _ _ rfl (HP1.out.2.1.set 0 (.slice none 0 0)) Try.underlying24 rfl (by kernel_rfl)) rfl ⟨⟨none, 0, rfl, Own.nil _ _ _ _⟩, HP1.out.2.2.2.1.setCell (p := ⟨w.heap.size + 1, 0, none⟩) (by show w.heap.size ≤ w.heap.size + 1; omega) _⟩
set_option maxRecDepth 100000 in
set_option maxHeartbeats 1600000 in
theorem rIntern_any (A : Option Addr) (cap D : Nat) (l : List (List UInt8)) (s : List UInt8) (w : World) (hS : Sl w D 1 A l.length cap (l.map strV)) (hD : D ≤ w.heap.size) (hn : l.length ≤ 1000) (hl : ∀ s ∈ l, s.length ≤ maxLen) (hs : s.length ≤ maxLen) :
    Calls Try.prog 18 #[.agg #[.slice A l.length cap], .string ⟨s.toArray⟩] w fun e w' => tabO w.heap.size (internR l s false) e w' ∧ Below w.heap.size w w' := by
  obtain ⟨b0, b1, hB0⟩ := two w (.slice A l.length cap)
  have HC := Lib.hid (rPut_any A cap D l s false _ (hS.below hB0 hD) (Nat.le_trans hD hB0.size) hn hl hs)
  generalize internR l s false = R at *
  have HB := Lib.hid (And.intro b1 hB0)
  have hB0s := hB0.size
  unfold tabO at *
  clear hS hl b0 b1 hB0
  go_enter Try.func18, Try.ntmps18
  go_wp2_with fail
  refine HC.out.mono ?_
  rintro e w1 ⟨⟨A2, c2, rfl, s2⟩, hb1⟩
  have b1 := Blk.on HB.out.1 hb1
  have hB1 := below_on HB.out.2 hb1 (Nat.le_refl _)
  obtain ⟨q1, f1⟩ := cells1 b1
  have HS := Lib.hid s2
  go_wp2_with fail
  refine bodyPost_ret (results_ctt rfl _ _ _ _ _ _ rfl (b1.set 0 (.slice A2 R.1.length c2)) Try.underlying24 rfl (by kernel_rfl)) rfl ⟨⟨A2, c2, rfl, ?_⟩, hB1.setCell (p := ⟨w.heap.size + 1, 0, none⟩) (by show w.heap.size ≤ w.heap.size + 1; omega) _⟩
  exact (HS.out.base hB0s).farNe (p := ⟨w.heap.size + 1, 0, none⟩) (HS.out.ne_blk (by decide) b1) (.slice A2 R.1.length c2)
set_option maxRecDepth 100000 in
set_option maxHeartbeats 1600000 in
theorem rAdd_any (A : Option Addr) (cap D : Nat) (l : List (List UInt8)) (s : List UInt8) (w : World) (hS : Sl w D 1 A l.length cap (l.map strV)) (hD : D ≤ w.heap.size) (hn : l.length ≤ 1000) (hl : ∀ s ∈ l, s.length ≤ maxLen) (hs : s.length ≤ maxLen) :
    Calls Try.prog 20 #[.agg #[.slice A l.length cap], .string ⟨s.toArray⟩] w fun e w' => tabO w.heap.size (internR l s true) e w' ∧ Below w.heap.size w w' := by
  obtain ⟨b0, b1, hB0⟩ := two w (.slice A l.length cap)
  have HC := Lib.hid (rPut_any A cap D l s true _ (hS.below hB0 hD) (Nat.le_trans hD hB0.size) hn hl hs)
  generalize internR l s true = R at *
  have HB := Lib.hid (And.intro b1 hB0)
  have hB0s := hB0.size
  unfold tabO at *
  clear hS hl b0 b1 hB0
  go_enter Try.func20, Try.ntmps20
  go_wp2_with fail
  refine HC.out.mono ?_
  rintro e w1 ⟨⟨A2, c2, rfl, s2⟩, hb1⟩
  have b1 := Blk.on HB.out.1 hb1
  have hB1 := below_on HB.out.2 hb1 (Nat.le_refl _)
  obtain ⟨q1, f1⟩ := cells1 b1
  have HS := Lib.hid s2
  go_wp2_with fail
  refine bodyPost_ret (results_ctt rfl _ _ _ _ _ _ rfl (b1.set 0 (.slice A2 R.1.length c2)) Try.underlying24 rfl (by kernel_rfl)) rfl ⟨⟨A2, c2, rfl, ?_⟩, hB1.setCell (p := ⟨w.heap.size + 1, 0, none⟩) (by show w.heap.size ≤ w.heap.size + 1; omega) _⟩
  exact (HS.out.base hB0s).farNe (p := ⟨w.heap.size + 1, 0, none⟩) (HS.out.ne_blk (by decide) b1) (.slice A2 R.1.length c2)
end Go.Proofs.Ytbobpgjgknkogaa
