/- intern: Keep. No condition. -/
import Derived.Test.YtbobpgjgknkogaaI19
namespace Go.Proofs.Ytbobpgjgknkogaa
open Go.RowKit Go.Maps
def badK (m : Nat) (n : Int) : Bool := decide (n < 0) || decide ((m : Int) ≤ n)
def dupF : List Int → List Int → Bool
  | _, [] => false
  | s, x :: r => s.contains x || dupF (s ++ [x]) r
def keepL (l : List (List UInt8)) (ws : List Int) : List (List UInt8) := ws.map fun n => l.getD n.toNat []
theorem badK_lo {m : Nat} {n : Int} (h : n < 0) : badK m n = true := by simp [badK, h]
theorem badK_hi {m : Nat} {n : Int} (h : (m : Int) ≤ n) : badK m n = true := by simp [badK, h]
theorem badK_ok {m : Nat} {n : Int} (h : ¬ n < 0) (h2 : ¬ (m : Int) ≤ n) : badK m n = false := by simp [badK, h, h2]
/-- What Keep answers. -/
def keepR (l : List (List UInt8)) (ws : List Int) : List (List UInt8) × Int :=
  if (chkT l).1 ≠ 0 then ([], (chkT l).1) else if ws.any (badK l.length) = true then ([], 2) else if dupF [] ws = true then ([], 8) else (keepL l ws, 0)
theorem dup_drop (ws : List Int) (k : Nat) (h : k < ws.length) : dupF (ws.take k) (ws.drop k) = ((ws.take k).contains ws[k] || dupF (ws.take (k + 1)) (ws.drop (k + 1))) := by
  rw [List.drop_eq_getElem_cons h, takeSnoc ws k h]
  rfl
theorem keepL_snoc (l : List (List UInt8)) (ws : List Int) (k m : Nat) (h : k < ws.length) (hm : m < l.length) (he : ws[k] = (m : Int)) : keepL l (ws.take (k + 1)) = keepL l (ws.take k) ++ [l[m]] := by
  unfold keepL
  rw [takeSnoc ws k h, List.map_append]
  simp [he, hm]
theorem keepL_len (l : List (List UInt8)) (ws : List Int) : (keepL l ws).length = ws.length := by simp [keepL]
theorem any_take (ws : List Int) (m k : Nat) (h : k < ws.length) (hb : badK m ws[k] = true) : ws.any (badK m) = true := List.any_eq_true.2 ⟨ws[k], List.getElem_mem h, hb⟩
theorem any_snoc (ws : List Int) (m k : Nat) (h : k < ws.length) (h0 : (ws.take k).any (badK m) = false) (hb : badK m ws[k] = false) : (ws.take (k + 1)).any (badK m) = false := by
  rw [takeSnoc ws k h, List.any_append, h0]
  simp [hb]
theorem in_range (ws : List Int) (m k : Nat) (h : k < ws.length) (h0 : ws.any (badK m) = false) : ∃ n : Nat, ws[k] = (n : Int) ∧ n < m := by
  have h1 := List.any_eq_false.1 h0 ws[k] (List.getElem_mem h)
  unfold badK at h1
  simp at h1
  exact ⟨ws[k].toNat, by omega, by omega⟩
theorem contains_take (A : Option Addr) (cap D : Nat) (ws : List Int) (k : Nat) (hk : k ≤ ws.length) (x : Int) (w : World) (hS : Sl w D 1 A ws.length cap (ws.map intV)) (hn : ws.length ≤ 1000) :
    Calls Try.prog 50 #[.slice A k cap, .int .i64 x] w fun e w' => e = .returned (.bool ((ws.take k).contains x)) ∧ w' = w := by
  have h1 : (ws.take k).length = k := by rw [List.length_take]; exact Nat.min_eq_left hk
  have h2 := hS.take hk
  rw [Nat.mul_one, ← List.map_take] at h2
  have h := contains_any A cap D (ws.take k) x w (by rw [h1]; exact h2) (by omega)
  rw [h1] at h
  exact h
/-- Keep at work. -/
def KP (w W : World) (G : Nat) (v : Value) (os : List (List UInt8)) (A : Option Addr) (n c : Nat) : Prop :=
  Blk W w.heap.size 24 #[v] ∧ Blk W (w.heap.size + 1) 24 #[.slice none 0 0] ∧ Blk W G 24 #[.slice A n c] ∧ Own W (G + 1) 9 1 A n c (os.map strV) ∧ Below w.heap.size w W ∧ w.heap.size + 2 ≤ G ∧ G < W.heap.size
set_option maxRecDepth 100000 in
set_option maxHeartbeats 6400000 in
theorem Keep_any (A Aw : Option Addr) (cap capw D : Nat) (l : List (List UInt8)) (ws : List Int) (w : World) (hS : Sl w D 1 A l.length cap (l.map strV)) (hSw : Sl w D 1 Aw ws.length capw (ws.map intV)) (hD : D ≤ w.heap.size) (hn : l.length ≤ 1000) (hnw : ws.length ≤ 1000) (hl : ∀ s ∈ l, s.length ≤ maxLen) :
    Calls Try.prog 29 #[.agg #[.slice A l.length cap], .slice Aw ws.length capw] w fun e w' => tab2Post (keepR l ws) e w' ∧ Below w.heap.size w w' := by
  obtain ⟨i0, hi0, hz0, hz1, hz2⟩ := info_parts infoS
  obtain ⟨b0, b1, hB0⟩ := two w (.slice A l.length cap)
  have HC := Lib.hid (iCheck_any A cap D l _ (hS.below hB0 hD) (Nat.le_trans hD hB0.size) hn hl)
  have hR : keepR l ws = if (chkT l).1 ≠ 0 then ([], (chkT l).1) else if ws.any (badK l.length) = true then ([], 2) else if dupF [] ws = true then ([], 8) else (keepL l ws, 0) := rfl
  generalize keepR l ws = R at *
  generalize chkT l = C at *
  have HB := Lib.hid (And.intro b0 (And.intro b1 hB0))
  have HS := Lib.hid hS
  have HSw := Lib.hid hSw
  have HL := Lib.hid hl
  have p0 := (cells1 b0).1
  unfold tab2Post
  clear hS hSw hl b0 b1 hB0
  by_cases hc : C.1 ≠ 0
  · rw [if_pos hc] at hR
    subst hR
    have hcb : (C.1 != 0) = true := bne_iff_ne.2 hc
    go_enter Try.func29, Try.ntmps29
    go_wp2_with fail
    refine HC.out.mono ?_
    rintro e w1 ⟨rfl, hb1⟩
    have b1 := Blk.on HB.out.2.1 hb1
    have hB1 := below_on HB.out.2.2 hb1 (Nat.le_refl _)
    obtain ⟨q0, f0⟩ := cells1 b1
    have HB1 := Lib.hid (And.intro b1 hB1)
    clear b1 hB1 hb1 HC HB p0
    go_wp2_with fail
    exact bodyPost_ret (results_ct rfl _ _ _ _ _ _ rfl (HB1.out.1.set 0 (.slice none 0 0)) Try.underlying24 rfl (by kernel_rfl)) rfl ⟨⟨none, 0, rfl, Sl.nil _ _ _⟩, HB1.out.2.setCell (p := ⟨w.heap.size + 1, 0, none⟩) (by show w.heap.size ≤ w.heap.size + 1; omega) _⟩
  · rw [if_neg hc] at hR
    have hc0 : C.1 = 0 := by simpa using hc
    clear hc
    go_enter Try.func29, Try.ntmps29
    go_wp2_with fail
    refine HC.out.mono ?_
    rintro e w1 ⟨rfl, hb1⟩
    have b0 := Blk.on HB.out.1 hb1
    have b1 := Blk.on HB.out.2.1 hb1
    have hB1 := below_on HB.out.2.2 hb1 (Nat.le_refl _)
    obtain ⟨q0, f0⟩ := cells1 b1
    have p1 := (cells1 b0).1
    have HSw1 := Lib.hid (HSw.out.below hB1 hD)
    have hsz : w.heap.size + 2 ≤ w1.heap.size := by have := hb1.size; simp at this; omega
    have HB1 := Lib.hid (And.intro b0 (And.intro b1 hB1))
    clear b0 b1 hB1 hb1 HC HB p0
    go_wp2_with fail
    go_loopw [24] (fun i W => w1 = W ∧ ∃ k : Nat, k ≤ ws.length ∧ i = .int .i64 k ∧ (ws.take k).any (badK l.length) = false) (fun i _ => ws.length - (intOf i).toNat)
    case atStart => exact ⟨rfl, 0, Nat.zero_le _, rfl, rfl⟩
    case round =>
      obtain ⟨rfl, k, hk, rfl, hany⟩ := hrel
      by_cases hlt : k < ws.length
      · obtain ⟨bb, o, rfl, hb, d0⟩ := sl_int HSw1.out hlt
        have h1 := any_take ws l.length k hlt
        have h2 := any_snoc ws l.length k hlt hany
        generalize ws[k] = n at *
        have H1 := Lib.hid h1
        have H2 := Lib.hid h2
        clear h1 h2 hany
        by_cases hn0 : n < 0
        · rw [if_pos (H1.out (badK_lo hn0))] at hR
          subst hR
          clear H1 H2
          go_wp2_with fail
          exact bodyPost_ret (results_ct rfl _ _ _ _ _ _ rfl (HB1.out.2.1.set 0 (.slice none 0 0)) Try.underlying24 rfl (by kernel_rfl)) rfl ⟨⟨none, 0, rfl, Sl.nil _ _ _⟩, HB1.out.2.2.setCell (p := ⟨w.heap.size + 1, 0, none⟩) (by show w.heap.size ≤ w.heap.size + 1; omega) _⟩
        · by_cases hn1 : (l.length : Int) ≤ n
          · rw [if_pos (H1.out (badK_hi hn1))] at hR
            subst hR
            clear H1 H2
            go_wp2_with fail
            exact bodyPost_ret (results_ct rfl _ _ _ _ _ _ rfl (HB1.out.2.1.set 0 (.slice none 0 0)) Try.underlying24 rfl (by kernel_rfl)) rfl ⟨⟨none, 0, rfl, Sl.nil _ _ _⟩, HB1.out.2.2.setCell (p := ⟨w.heap.size + 1, 0, none⟩) (by show w.heap.size ≤ w.heap.size + 1; omega) _⟩
          · have h3 := H2.out (badK_ok hn0 hn1)
            have H3 := Lib.hid h3
            clear h3 H1 H2
            go_wp2_with fail
            go_roundw
            case rel => exact ⟨trivial, k + 1, by omega, by go_num, H3.out⟩
            case measure => simp [intOf]; omega
      · obtain rfl : k = ws.length := by omega
        rw [List.take_length] at hany
        rw [if_neg (by rw [hany]; decide)] at hR
        have HANY := Lib.hid hany
        clear hany
        have k0 := HB1.out.1.alloc (.cells #[.slice none 0 0] 24)
        have k1 := HB1.out.2.1.alloc (.cells #[.slice none 0 0] 24)
        have k2 := Blk.new w1 24 #[.slice none 0 0]
        have hB2 := HB1.out.2.2.alloc (by omega) (.cells #[.slice none 0 0] 24)
        have HK := Lib.hid (show KP w (w1.alloc (.cells #[.slice none 0 0] 24)) w1.heap.size (.slice A l.length cap) [] none 0 0 from ⟨k0, k1, k2, Own.nil _ _ _ _, hB2, hsz, by simp⟩)
        clear k0 k1 k2 hB2 p1 q0 f0 HSw1 HB1
        go_wp2_with fail
        go_loopw [41] (fun i W => ∃ (k : Nat) (A4 : Option Addr) (c4 : Nat), k ≤ ws.length ∧ i = .int .i64 k ∧ dupF [] ws = dupF (ws.take k) (ws.drop k) ∧ KP w W w1.heap.size (.slice A l.length cap) (keepL l (ws.take k)) A4 k c4) (fun i _ => ws.length - (intOf i).toNat)
        case atStart => exact ⟨0, none, 0, Nat.zero_le _, rfl, rfl, HK.out⟩
        case round =>
          obtain ⟨k, A4, c4, hk, rfl, hdup, hP⟩ := hrel
          by_cases hlt : k < ws.length
          · obtain ⟨bb, o, rfl, hb, d0⟩ := sl_int (HSw.out.below hP.2.2.2.2.1 hD) hlt
            have hCon := contains_take (some ⟨bb, o, none⟩) capw D ws k hk ws[k] wr (HSw.out.below hP.2.2.2.2.1 hD) hnw
            have hdr := dup_drop ws k hlt
            obtain ⟨m, hm, hml⟩ := in_range ws l.length k hlt HANY.out
            have hks := keepL_snoc l ws k m hlt hml hm
            have hsl := HL.out l[m] (List.getElem_mem hml)
            have hkc : k ≤ capw := Nat.le_trans hk HSw.out.2.1
            have hkc2 : (k : Int) ≤ capw := by omega
            have hSs := fun W h => sl_str (w := W) (D := D) (A := A) (cap := cap) (ls := l) h hml
            rw [hm] at d0 hdr hCon
            rw [hdr] at hdup
            clear hm hdr
            generalize l[m] = s at *
            obtain ⟨b2, o2, rfl, hb2, e0⟩ := hSs wr (HS.out.below hP.2.2.2.2.1 hD)
            have HCon := Lib.hid hCon
            have HD := Lib.hid hdup
            have HKS := Lib.hid hks
            have HP := Lib.hid hP
            clear hCon hdup hks hP HK hSs
            generalize (ws.take k).contains (m : Int) = cn at *
            cases cn
            · go_wp2_with fail
              refine HCon.out.mono ?_
              rintro e w3 ⟨rfl, rfl⟩
              obtain ⟨h0, h1, h2, hO, hB, hG1, hG2⟩ := HP.out
              have hkl : k ≤ 1000 := by omega
              have hbN := (h2.alloc (.cells #[.string ⟨s.toArray⟩] 9)).drew
              have hON := (hO.alloc (.cells #[.string ⟨s.toArray⟩] 9)).drew
              have hslN := (sl_row w3 #[.string ⟨s.toArray⟩] 9 1 rfl (by decide)).drew
              have hone : ∀ u ∈ #[Value.string ⟨s.toArray⟩].toList, u.oneCell' = true := by simp [Value.oneCell']
              have hm1 : k + 1 ≤ maxLen := by simp only [maxLen]; omega
              have hm2 : (k + 1) * 16 ≤ 140737488355328 := by omega
              have hm3 : w1.heap.size + 1 ≤ (w3.alloc (.cells #[.string ⟨s.toArray⟩] 9)).drew.heap.size := by show w1.heap.size + 1 ≤ (w3.alloc (.cells #[.string ⟨s.toArray⟩] 9)).heap.size; rw [World.size_alloc]; omega
              have x0 := (cells1 h0).1
              obtain ⟨x2, f2⟩ := cells1 h2
              have HH := Lib.hid (And.intro h0 (And.intro h1 hB))
              have x0N := (cells1 (h0.alloc (.cells #[.string ⟨s.toArray⟩] 9)).drew).1
              clear h0 h1 hB HCon HP HSw HS
              go_wp2_with fail
              go_region_law (refine step_append_o _ (by rfl) (.tmp 53) (.tmp 59) 22 (by rfl) (w1.heap.size + 1) 9 i0 _ 1 16 Try.underlying22 hi0 hz0 hz1 hz2 rfl (by decide) (by rfl) hON (by rfl) hslN hone hm1 hm2 hm3 ?_; intro A6 c6 W4 o6 hg6 hat6; have b6 := hbN.grown hg6 (hON.ne (by omega)); obtain ⟨y2, g2⟩ := cells1 b6)
              all_goals have g0 := ((HH.out.1.alloc (.cells #[.string ⟨s.toArray⟩] 9)).drew.grown hg6 (hON.ne (by omega))).far (p := ⟨w1.heap.size, 0, none⟩) (by show w.heap.size ≠ w1.heap.size; omega) (.slice A6 (k + 1) c6)
              all_goals have g1 := ((HH.out.2.1.alloc (.cells #[.string ⟨s.toArray⟩] 9)).drew.grown hg6 (hON.ne (by omega))).far (p := ⟨w1.heap.size, 0, none⟩) (by show w.heap.size + 1 ≠ w1.heap.size; omega) (.slice A6 (k + 1) c6)
              all_goals have o7 := o6.far (p := ⟨w1.heap.size, 0, none⟩) (by show w1.heap.size < w1.heap.size + 1; omega) (.slice A6 (k + 1) c6)
              all_goals have hB7 := (grown_below ((HH.out.2.2.alloc (by omega) (.cells #[.string ⟨s.toArray⟩] 9)).drew) (hON.base (by omega)) hg6 (by omega)).setCell (p := ⟨w1.heap.size, 0, none⟩) (by show w.heap.size ≤ w1.heap.size; omega) (.slice A6 (k + 1) c6)
              all_goals have o8 : Own (W4.setCell ⟨w1.heap.size, 0, none⟩ (.slice A6 (k + 1) c6)) (w1.heap.size + 1) 9 1 A6 (k + 1) c6 ((keepL l (ws.take (k + 1))).map strV) := by rw [HKS.out, List.map_append]; exact o7
              all_goals have hP7 : KP w (W4.setCell ⟨w1.heap.size, 0, none⟩ (.slice A6 (k + 1) c6)) w1.heap.size (.slice (some ⟨b2, o2, none⟩) l.length cap) (keepL l (ws.take (k + 1))) A6 (k + 1) c6 := ⟨g0, g1, b6.set 0 _, o8, hB7, hG1, by rw [World.size_setCell]; have := hg6.size; omega⟩
              all_goals have HP7 := Lib.hid hP7
              all_goals clear hP7 hB7 o7 o8 g0 g1 o6 hg6 b6
              all_goals go_wp2_with fail
              all_goals go_roundw
              all_goals first
                | exact ⟨k + 1, A6, c6, by omega, by go_num, HD.out.trans (Bool.false_or _), HP7.out⟩
                | (simp [intOf]; omega)
            · rw [if_pos (HD.out.trans (Bool.true_or _))] at hR
              subst hR
              obtain ⟨q0, f0⟩ := cells1 HP.out.2.1
              go_wp2_with fail
              refine HCon.out.mono ?_
              rintro e w3 ⟨rfl, rfl⟩
              clear HCon
              go_wp2_with fail
              exact bodyPost_ret (results_ct rfl _ _ _ _ _ _ rfl (HP.out.2.1.set 0 (.slice none 0 0)) Try.underlying24 rfl (by kernel_rfl)) rfl ⟨⟨none, 0, rfl, Sl.nil _ _ _⟩, HP.out.2.2.2.2.1.setCell (p := ⟨w.heap.size + 1, 0, none⟩) (by show w.heap.size ≤ w.heap.size + 1; omega) _⟩
          · obtain rfl : k = ws.length := by omega
            rw [List.take_length, List.drop_length] at hdup
            rw [List.take_length] at hP
            rw [if_neg (by rw [hdup]; simp [dupF])] at hR
            have HP := Lib.hid hP
            obtain ⟨q0, f0⟩ := cells1 hP.2.1
            obtain ⟨p2, _⟩ := cells1 hP.2.2.1
            have hkl := keepL_len l ws
            have hR2 : R = (keepL l ws, 0) := hR
            clear hR
            subst hR2
            clear hdup hP HK
            go_wp2_with fail
            have o1 := HP.out.2.2.2.1.far (p := ⟨w.heap.size + 1, 0, none⟩) (by show w.heap.size + 1 < w1.heap.size + 1; omega) (.slice A4 ws.length c4)
            exact bodyPost_ret (results_ct rfl _ _ _ _ _ _ rfl (HP.out.2.1.set 0 (.slice A4 ws.length c4)) Try.underlying24 rfl (by kernel_rfl)) rfl ⟨⟨A4, c4, rfl, o1.sl⟩, HP.out.2.2.2.2.1.setCell (p := ⟨w.heap.size + 1, 0, none⟩) (by show w.heap.size ≤ w.heap.size + 1; omega) _⟩
end Go.Proofs.Ytbobpgjgknkogaa
