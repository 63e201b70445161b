/- The reference: Keep. No condition. -/
import Derived.Test.YtbobpgjgknkogaaI33
namespace Go.Proofs.Ytbobpgjgknkogaa
open Go.RowKit Go.Maps
theorem contains_keep {l : List (List UInt8)} (hl : goodT l) {ws : List Int} (hr : ∀ x ∈ ws, ∃ i : Nat, x = (i : Int) ∧ i < l.length) {m : Nat} (hm : m < l.length) : (keepL l ws).contains l[m] = ws.contains (m : Int) := by
  have hnd := hl.nodup
  have key : l[m] ∈ keepL l ws ↔ (m : Int) ∈ ws := by
    constructor
    · intro h
      obtain ⟨x, hx, e⟩ := List.mem_map.1 h
      obtain ⟨i, rfl, hi⟩ := hr x hx
      have e' : l[i] = l[m] := by
        have h2 : l.getD (i : Int).toNat [] = l[m] := e
        rw [Int.toNat_natCast, List.getD_eq_getElem?_getD, List.getElem?_eq_getElem hi] at h2
        exact h2
      have h3 : l[i]? = l[m]? := by rw [List.getElem?_eq_getElem hi, List.getElem?_eq_getElem hm, e']
      have h4 := (List.getElem?_inj hi hnd).1 h3
      rw [← h4]
      exact hx
    · intro h
      refine List.mem_map.2 ⟨(m : Int), h, ?_⟩
      show l.getD (m : Int).toNat [] = l[m]
      rw [Int.toNat_natCast, List.getD_eq_getElem?_getD, List.getElem?_eq_getElem hm]
      rfl
  rw [List.contains_eq_mem, List.contains_eq_mem]
  exact decide_eq_decide.2 key
theorem below_dn {B : Nat} {a w : World} (h : Below B a w) (n : Nat) : Below B a (w.drewN n) := h.trans ⟨rfl, rfl, rfl, Nat.le_refl _, fun _ _ => rfl⟩
theorem KP.dn {w W : World} {G : Nat} {v : Value} {os : List (List UInt8)} {A : Option Addr} {n c : Nat} (h : KP w W G v os A n c) (q : Nat) : KP w (W.drewN q) G v os A n c :=
  ⟨h.1.drewN q, h.2.1.drewN q, h.2.2.1.drewN q, h.2.2.2.1.drewN q, below_dn h.2.2.2.2.1 q, h.2.2.2.2.2⟩
set_option maxRecDepth 100000 in
set_option maxHeartbeats 12800000 in
theorem rKeep_any (A Aw : Option Addr) (cap capw D : Nat) (l : List (List UInt8)) (ws : List Int) (w : World) (hS : Sl w D 1 A l.length cap (l.map strV)) (hSw : Sl w D 1 Aw ws.length capw (ws.map intV)) (hD : D ≤ w.heap.size) (hn : l.length ≤ 1000) (hnw : ws.length ≤ 1000) (hl : ∀ s ∈ l, s.length ≤ maxLen) :
    Calls Try.prog 30 #[.agg #[.slice A l.length cap], .slice Aw ws.length capw] w fun e w' => tab2Post (keepR l ws) e w' ∧ Below w.heap.size w w' := by
  obtain ⟨i0, hi0, hz0, hz1, hz2⟩ := info_parts infoS
  obtain ⟨b0, b1, hB0⟩ := two w (.slice A l.length cap)
  have HC := Lib.hid (rOk_any A cap D l _ (hS.below hB0 hD) (Nat.le_trans hD hB0.size) hn hl)
  have hR : keepR l ws = if (chkT l).1 ≠ 0 then ([], (chkT l).1) else if ws.any (badK l.length) = true then ([], 2) else if dupF [] ws = true then ([], 8) else (keepL l ws, 0) := rfl
  have hgd := (chk_good l).1
  generalize keepR l ws = R at *
  generalize (chkT l).1 = C at *
  have HB := Lib.hid (And.intro b0 (And.intro b1 hB0))
  have HS := Lib.hid hS
  have HSw := Lib.hid hSw
  have HGd := Lib.hid hgd
  have p0 := (cells1 b0).1
  unfold tab2Post
  clear hS hSw hl b0 b1 hB0 hgd
  go_enter Try.func30, Try.ntmps30
  go_wp2_with fail
  refine HC.out.mono ?_
  rintro e w1 ⟨rfl, hb1⟩
  have b0 := HB.out.1.on hb1
  have b1 := HB.out.2.1.on hb1
  have hB1 := below_on HB.out.2.2 hb1 (Nat.le_refl _)
  obtain ⟨q0, f0⟩ := cells1 b1
  have hsz : w.heap.size + 2 ≤ w1.heap.size := by have := hb1.size; simp at this; omega
  have HB1 := Lib.hid (And.intro b0 (And.intro b1 hB1))
  clear b0 b1 hB1 hb1 HC HB p0
  by_cases hc : C ≠ 0
  · rw [if_pos hc] at hR
    subst hR
    have hcb : (C != 0) = true := bne_iff_ne.2 hc
    go_wp2_with fail
    exact bodyPost_ret (results_ct rfl _ _ _ _ _ _ rfl (HB1.out.2.1.set 0 (.slice none 0 0)) Try.underlying24 rfl (by kernel_rfl)) rfl ⟨⟨none, 0, rfl, Sl.nil _ _ _⟩, HB1.out.2.2.setCell (p := ⟨w.heap.size + 1, 0, none⟩) (by show w.heap.size ≤ w.heap.size + 1; omega) _⟩
  · rw [if_neg hc] at hR
    have hc0 : C = 0 := by simpa using hc
    clear hc
    subst hc0
    have HGl := Lib.hid (HGd.out.1 (by first | rfl | trivial))
    clear HGd
    go_wp2_with fail
    clear q0 f0
    go_loopw [7] (fun i W => ∃ k : Nat, k ≤ ws.length ∧ i = .int .i64 k ∧ (ws.take k).any (badK l.length) = false ∧ Blk W w.heap.size 24 #[.slice A l.length cap] ∧ Blk W (w.heap.size + 1) 24 #[.slice none 0 0] ∧ Below w.heap.size w W ∧ w.heap.size + 2 ≤ W.heap.size) (fun i _ => ws.length - (intOf i).toNat)
    case atStart => exact ⟨0, Nat.zero_le _, rfl, rfl, HB1.out.1, HB1.out.2.1, HB1.out.2.2, hsz⟩
    case round =>
      obtain ⟨k, hk, rfl, hany, b0, b1, hB, hsz2⟩ := hrel
      have c0 := (cells1 b0).1
      by_cases hlt : k < ws.length
      · obtain ⟨bb, o, rfl, hb, d0⟩ := sl_int (HSw.out.below hB hD) hlt
        have h1 := any_take ws l.length k hlt
        have h2 := any_snoc ws l.length k hlt hany
        generalize ws[k] = n at *
        obtain ⟨q0, f0⟩ := cells1 b1
        have H1 := Lib.hid h1
        have H2 := Lib.hid h2
        have HK := Lib.hid (And.intro b0 (And.intro b1 (And.intro hB hsz2)))
        clear h1 h2 hany b0 b1 hB HB1 hsz hsz2
        by_cases hn0 : n < 0
        · rw [if_pos (H1.out (badK_lo hn0))] at hR
          subst hR
          clear H1 H2
          go_wp2_with fail
          go_quiet (fail)
          go_wp2_with fail
          exact bodyPost_ret (results_ct rfl _ _ _ _ _ _ rfl ((HK.out.2.1.drewN _).set 0 (.slice none 0 0)) Try.underlying24 rfl (by kernel_rfl)) rfl ⟨⟨none, 0, rfl, Sl.nil _ _ _⟩, (below_dn HK.out.2.2.1 nq).setCell (p := ⟨w.heap.size + 1, 0, none⟩) (by show w.heap.size ≤ w.heap.size + 1; omega) _⟩
        · by_cases hn1 : (l.length : Int) ≤ n
          · rw [if_pos (H1.out (badK_hi hn1))] at hR
            subst hR
            clear H1 H2
            go_wp2_with fail
            go_quiet (fail)
            go_wp2_with fail
            exact bodyPost_ret (results_ct rfl _ _ _ _ _ _ rfl ((HK.out.2.1.drewN _).set 0 (.slice none 0 0)) Try.underlying24 rfl (by kernel_rfl)) rfl ⟨⟨none, 0, rfl, Sl.nil _ _ _⟩, (below_dn HK.out.2.2.1 nq).setCell (p := ⟨w.heap.size + 1, 0, none⟩) (by show w.heap.size ≤ w.heap.size + 1; omega) _⟩
          · have h3 := H2.out (badK_ok hn0 hn1)
            have H3 := Lib.hid h3
            clear h3 H1 H2
            have hn2 : decide ((l.length : Int) ≤ n) = false := decide_eq_false hn1
            go_wp2_with fail
            go_quiet (fail)
            go_wp2_with fail
            go_roundw
            case rel => exact ⟨k + 1, by omega, by go_num, H3.out, HK.out.1.drewN _, HK.out.2.1.drewN _, HK.out.2.2.1.trans ⟨rfl, rfl, rfl, Nat.le_refl _, fun _ _ => rfl⟩, HK.out.2.2.2⟩
            case measure => simp [intOf]; omega
      · obtain rfl : k = ws.length := by omega
        rw [List.take_length] at hany
        rw [if_neg (by rw [hany]; decide)] at hR
        have HANY := Lib.hid hany
        have k0 := b0.alloc (.cells #[.slice none 0 0] 24)
        have k1 := b1.alloc (.cells #[.slice none 0 0] 24)
        have k2 := Blk.new wr 24 #[.slice none 0 0]
        have hB2 := hB.alloc hB.size (.cells #[.slice none 0 0] 24)
        have HK := Lib.hid (show KP w (wr.alloc (.cells #[.slice none 0 0] 24)) wr.heap.size (.slice A l.length cap) [] none 0 0 from ⟨k0, k1, k2, Own.nil _ _ _ _, hB2, hsz2, by simp⟩)
        clear k0 k1 k2 hB2 hany b0 b1 hB c0 HB1
        go_wp2_with fail
        generalize wr.alloc (.cells #[.slice none 0 0] 24) = v at *
        generalize wr.heap.size = G at *
        go_loopw [9] (fun i W => ∃ (k : Nat) (A4 : Option Addr) (c4 : Nat), k ≤ ws.length ∧ i = .int .i64 k ∧ dupF [] ws = dupF (ws.take k) (ws.drop k) ∧ KP w W G (.slice A l.length cap) (keepL l (ws.take k)) A4 k c4) (fun i _ => ws.length - (intOf i).toNat)
        case atStart => exact ⟨0, none, 0, Nat.zero_le _, rfl, rfl, HK.out⟩
        case round =>
          obtain ⟨k, A4, c4, hk, rfl, hdup, hP⟩ := hrel
          by_cases hlt : k < ws.length
          · obtain ⟨bb, o, rfl, hb, d0⟩ := sl_int (HSw.out.below hP.2.2.2.2.1 hD) hlt
            have hdr := dup_drop ws k hlt
            obtain ⟨m, hm, hml⟩ := in_range ws l.length k hlt HANY.out
            have hks := keepL_snoc l ws k m hlt hml hm
            have hsl := good_short HGl.out l[m] (List.getElem_mem hml)
            have hin : ∀ x ∈ ws.take k, ∃ i : Nat, x = (i : Int) ∧ i < l.length := fun x hx => by
              obtain ⟨j, hj, rfl⟩ := List.getElem_of_mem (List.mem_of_mem_take hx)
              exact in_range ws l.length j hj HANY.out
            have hck := contains_keep HGl.out hin hml
            have hkl := keepL_len l (ws.take k)
            rw [List.length_take, Nat.min_eq_left hk] at hkl
            have hge := atR_ge (keepL l (ws.take k)) l[m]
            rw [hck] at hge
            have HA := Lib.hid (fun W D (h : Sl W D 1 A4 k c4 ((keepL l (ws.take k)).map strV)) => (by have h2 := rAt_any A4 c4 D (keepL l (ws.take k)) l[m] W (by rw [hkl]; exact h) (by omega); rw [hkl] at h2; exact h2 : Calls Try.prog 43 #[.slice A4 k c4, .string ⟨l[m].toArray⟩] W fun e w' => e = .returned (.int .i64 (atR (keepL l (ws.take k)) l[m])) ∧ w' = W))
            generalize atR (keepL l (ws.take k)) l[m] = ar at *
            obtain ⟨b2, o2, rfl, hb2, e0⟩ := sl_str (HS.out.below hP.2.2.2.2.1 hD) hml
            rw [hm] at d0 hdr
            rw [hdr] at hdup
            clear hm hdr hck hkl hin
            generalize l[m] = s at *
            generalize (ws.take k).contains (m : Int) = cn at *
            have HGe := Lib.hid hge
            have HD := Lib.hid hdup
            have HKS := Lib.hid hks
            have c0 := (cells1 hP.1).1
            have HP := Lib.hid hP
            clear hdup hks hP HK hge
            go_wp2_with fail
            go_quiet (fail)
            have HP2 := Lib.hid (HP.out.dn nq)
            generalize wr.drewN nq = u at *
            obtain ⟨x2, y2⟩ := cells1 HP2.out.2.2.1
            obtain ⟨x1, y1⟩ := cells1 HP2.out.2.1
            have HA2 := Lib.hid (HA.out u _ HP2.out.2.2.2.1.sl)
            clear HA HP c0 d0 e0
            cases cn
            · have hlt0 : ¬ (0 : Int) ≤ ar := of_decide_eq_false HGe.out
              have hD2 : dupF [] ws = dupF (ws.take (k + 1)) (ws.drop (k + 1)) := HD.out.trans (Bool.false_or _)
              have HD2 := Lib.hid hD2
              clear hD2 HD HGe
              have hO := HP2.out.2.2.2.1
              have hm1 : k + 1 ≤ maxLen := by simp only [maxLen]; omega
              have hm2 : (k + 1) * 16 ≤ 140737488355328 := by omega
              have hbs : G + 1 ≤ u.heap.size := HP2.out.2.2.2.2.2.2
              go_wp2_with fail
              refine HA2.out.mono ?_
              rintro e w5 ⟨rfl, rfl⟩
              clear HA2
              go_wp2_with (at_builtin; refine wpList_append_new rfl _ _ _ rfl (G + 1) 9 i0 _ 1 16 Try.underlying22 hi0 hz0 hz1 hz2 rfl (by decide) rfl hO #[.string ⟨s.toArray⟩] rfl rfl (by simp [Value.oneCell']) hm1 hm2 hbs ?_; intro A6 c6 w6 o6 hg6 hat6; have b6 := HP2.out.2.2.1.grown hg6 (hO.ne (by omega)); obtain ⟨y3, z3⟩ := cells1 b6)
              have g0 := (HP2.out.1.grown hg6 (hO.ne (by omega))).far (p := ⟨G, 0, none⟩) (by show w.heap.size ≠ G; omega) (.slice A6 (k + 1) c6)
              have g1 := (HP2.out.2.1.grown hg6 (hO.ne (by omega))).far (p := ⟨G, 0, none⟩) (by show w.heap.size + 1 ≠ G; omega) (.slice A6 (k + 1) c6)
              have o7 := o6.far (p := ⟨G, 0, none⟩) (by show G < G + 1; omega) (.slice A6 (k + 1) c6)
              have hB7 := (grown_below HP2.out.2.2.2.2.1 (hO.base (by omega)) hg6 (by omega)).setCell (p := ⟨G, 0, none⟩) (by show w.heap.size ≤ G; omega) (.slice A6 (k + 1) c6)
              have o8 : Own (w6.setCell ⟨G, 0, none⟩ (.slice A6 (k + 1) c6)) (G + 1) 9 1 A6 (k + 1) c6 ((keepL l (ws.take (k + 1))).map strV) := by rw [HKS.out, List.map_append]; exact o7
              have hP7 : KP w (w6.setCell ⟨G, 0, none⟩ (.slice A6 (k + 1) c6)) G (.slice (some ⟨b2, o2, none⟩) l.length cap) (keepL l (ws.take (k + 1))) A6 (k + 1) c6 := ⟨g0, g1, b6.set 0 _, o8, hB7, hsz2, by rw [World.size_setCell]; have := hg6.size; omega⟩
              have HP7 := Lib.hid hP7
              clear hP7 hB7 o7 o8 g0 g1 o6 hg6 b6 y3 z3 hat6 hO x1 y1 x2 y2
              go_wp2_with fail
              go_roundw
              case rel => exact ⟨k + 1, A6, c6, by omega, by go_num, HD2.out, HP7.out⟩
              case measure => simp [intOf]; omega
            · have hlt0 : (0 : Int) ≤ ar := of_decide_eq_true HGe.out
              rw [if_pos (HD.out.trans (Bool.true_or _))] at hR
              subst hR
              clear HD HGe
              go_wp2_with fail
              refine HA2.out.mono ?_
              rintro e w5 ⟨rfl, rfl⟩
              clear HA2
              go_wp2_with fail
              exact bodyPost_ret (results_ct rfl _ _ _ _ _ _ rfl (HP2.out.2.1.set 0 (.slice none 0 0)) Try.underlying24 rfl (by kernel_rfl)) rfl ⟨⟨none, 0, rfl, Sl.nil _ _ _⟩, HP2.out.2.2.2.2.1.setCell (p := ⟨w.heap.size + 1, 0, none⟩) (by show w.heap.size ≤ w.heap.size + 1; omega) _⟩
          · obtain rfl : k = ws.length := by omega
            rw [List.take_length, List.drop_length] at hdup
            rw [List.take_length] at hP
            rw [if_neg (by rw [hdup]; simp [dupF])] at hR
            have HP := Lib.hid hP
            obtain ⟨q0, f0⟩ := cells1 hP.2.1
            obtain ⟨p2, _⟩ := cells1 hP.2.2.1
            have hkl := keepL_len l ws
            have hR2 : R = (keepL l ws, 0) := hR
            clear hR
            subst hR2
            clear hdup hP HK
            go_wp2_with fail
            have o1 := HP.out.2.2.2.1.far (p := ⟨w.heap.size + 1, 0, none⟩) (by show w.heap.size + 1 < G + 1; omega) (.slice A4 ws.length c4)
            exact bodyPost_ret (results_ct rfl _ _ _ _ _ _ rfl (HP.out.2.1.set 0 (.slice A4 ws.length c4)) Try.underlying24 rfl (by kernel_rfl)) rfl ⟨⟨A4, c4, rfl, o1.sl⟩, HP.out.2.2.2.2.1.setCell (p := ⟨w.heap.size + 1, 0, none⟩) (by show w.heap.size ≤ w.heap.size + 1; omega) _⟩
end Go.Proofs.Ytbobpgjgknkogaa
