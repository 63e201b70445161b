/- The walk of TokenPlaces. -/
import Derived.Test.YtdndomjmnlpjgaaT27
namespace Go.Proofs.Ytdndomjmnlpjgaa
open Go.RowKit
def intV (x : Int) : Value := .int .i64 x
theorem sl_int {w : World} {D : Nat} {A : Option Addr} {cap : Nat} {ls : List Int} (h : Sl w D 1 A ls.length cap (ls.map intV)) {k : Nat} (hk : k < ls.length) :
    ∃ b o, A = some ⟨b, o, none⟩ ∧ b < D ∧ w.cell? ⟨b, o + k, none⟩ = some (.int .i64 ls[k]) := by
  obtain ⟨b, o, u, e, hb, hu, hc⟩ := h.at_ hk
  refine ⟨b, o, e, hb, ?_⟩
  rw [hc, ← hu]
  simp [hk, intV]
theorem cell_up {w w' : World} {p : Addr} {v : Value} (h : w.cell? p = some v) (hb : Below w.heap.size w w') (hp : p.block < w.heap.size) (o o' : Obj) : ((w'.alloc o).alloc o').cell? p = some v := by
  have hs := hb.size
  rw [World.cell?_alloc_lt _ _ _ (by rw [World.size_alloc]; omega), World.cell?_alloc_lt _ _ _ (by omega), hb.cell hp, h]
theorem sl_on {w w' : World} {size n cap : Nat} {A : Option Addr} {xs : List Value} (h : Sl w w.heap.size size A n cap xs) (hb : Below w.heap.size w w') : Sl w' w'.heap.size size A n cap xs := (h.below hb (Nat.le_refl _)).more hb.size
set_option maxRecDepth 100000 in
set_option maxHeartbeats 1600000 in
theorem TokenPlaces_any (A : Option Addr) (cap : Nat) (ls : List Int) (n a b : Int) (w : World) (hS : Sl w w.heap.size 1 A ls.length cap (ls.map intV)) :
    Calls Try.prog 14 #[.slice A ls.length cap, .int .i64 n, .int .i64 a, .int .i64 b] w fun e w' => e = .returned (.bool true) ∧ Below w.heap.size w w' := by
  obtain ⟨i0, hi0, hz0, hz1, hz2⟩ := info_parts infoT
  have hSc := hS.2.1
  have hSm := hS.2.2.1
  unfold maxLen at hSm
  have HA := Lib.hid (fun W => awake07_any W)
  obtain ⟨r, m, hr, hrm, h1, h8⟩ := mod_terms n
  have HM := fun W => Mod_any n 8 W (by decide) (by decide)
  rw [hr] at HM
  have HM' := Lib.hid HM; clear HM hr
  have HD := Lib.hid (fun k W => made07_agg k m W h1 h8)
  have HMa := fun W => Mod_any a 1073741824 W (by decide) (by decide)
  have HMb := fun W => Mod_any b 1073741824 W (by decide) (by decide)
  have ha : 0 ≤ a % 1073741824 ∧ a % 1073741824 ≤ 1073741824 := by omega
  have hb : 0 ≤ b % 1073741824 ∧ b % 1073741824 ≤ 1073741824 := by omega
  generalize a % 1073741824 = a' at *
  generalize b % 1073741824 = b' at *
  have HMa' := Lib.hid HMa; clear HMa
  have HMb' := Lib.hid HMb; clear HMb
  obtain ⟨ha1, ha2⟩ := ha
  obtain ⟨hb1, hb2⟩ := hb
  go_enter Try.func14, Try.ntmps14
  go_wp2_with (go_at_call 17; refine (HM'.out _).mono ?_; rintro e w1 ⟨rfl, rfl⟩)
  clear HM'
  go_loopw [10, 11] (fun out i W => ∃ (k : Nat) (ts : List Tok) (A2 : Option Addr) (cap2 : Nat), k ≤ ls.length ∧ k ≤ 12 ∧ ts.length = k ∧ (∀ t ∈ ts, checkE t m = 0) ∧ i = .int .i64 k ∧ out = .slice A2 k cap2 ∧ Own W w.heap.size 41 3 A2 k cap2 (tokC ts) ∧ Below w.heap.size w W) (fun _ i _ => ls.length - (intOf i).toNat)
  case atStart => exact ⟨0, [], none, 0, Nat.zero_le _, Nat.zero_le _, rfl, by simp, rfl, rfl, Own.nil _ _ _ _, Below.refl _ _⟩
  case round =>
    obtain ⟨k, ts, A2, cap2, hk, hk12, hts, hall, rfl, rfl, hown, hB⟩ := hrel
    by_cases hlt : k < ls.length ∧ k < 12
    · obtain ⟨hlt1, hlt2⟩ := hlt
      obtain ⟨bb, o, rfl, hbb, c0⟩ := sl_int (hS.below hB (Nat.le_refl _)) hlt1
      generalize ls[k] = x at *
      have hsz := hB.size
      have HT := Lib.hid hts
      have HAll := Lib.hid hall
      have HS := Lib.hid hS
      clear hts hall hS
      go_wp2_with fail
      refine (HD.out _ _).mono ?_
      rintro e w3 ⟨⟨sy, tx, ta, hck, rfl⟩, hb3⟩
      have hB3 := below_on hB hb3 (Nat.le_refl _)
      have hown3 := hown.below hb3 (Nat.le_refl _)
      have hsz3 := hB3.size
      have HC := Lib.hid hck
      clear hck hown hB hb3 c0
      go_wp2_with (at_builtin; refine wpList_append_new rfl _ _ _ rfl w.heap.size 41 i0 _ 3 32 Try.underlying24 hi0 hz0 hz1 hz2 rfl (by decide) rfl hown3 #[.int .i64 sy, .string ⟨tx.toArray⟩, .int .i64 ta] rfl rfl (by simp [Value.oneCell']) (by simp only [maxLen]; omega) (by omega) hsz3 ?_; intro A4 cap4 W4 hown4 hg4 hat4)
      go_roundw
      case rel =>
        refine ⟨k + 1, ts ++ [⟨sy, tx, ta⟩], A4, cap4, by omega, by omega, by rw [List.length_append, HT.out]; rfl, ?_, by go_num, rfl, ?_, grown_below hB3 hown3 hg4 hsz3⟩
        · intro t ht
          rcases List.mem_append.1 ht with ht | ht
          · exact HAll.out t ht
          · rw [List.mem_singleton.1 ht]; exact HC.out
        · rw [tokC_append]
          exact hown4
      case measure => simp [intOf]; omega
    · have hex : ¬ k < ls.length ∨ k < ls.length ∧ ¬ k < 12 := by omega
      clear hlt HD
      subst hts
      have hXall := (listE1_place ts m a' hall ha1 (by omega)).2
      have hYall := (listE1_place ts m b' hall hb1 (by omega)).2
      have hXl := placeL_len ts a'
      have hYl := placeL_len ts b'
      have p1 := place_ok ts m a' hall (by omega) ha1 ha2
      have p2 := place_ok (placeL ts a') m b' hXall (by omega) hb1 hb2
      have p3 := place_ok (placeL ts b') m a' hYall (by omega) ha1 ha2
      rw [placeL_placeL] at p2 p3
      have p4 := placed_ok ts m a' hall (by omega) ha1 ha2
      have hget := placeL_at ts a'
      have hlX : ∀ t ∈ placeL ts a', t.text.length ≤ 10000 := fun t ht => by have := (frame_bounds t m (hXall t ht)).1; omega
      have hlY : ∀ t ∈ placeL ts b', t.text.length ≤ 10000 := fun t ht => by have := (frame_bounds t m (hYall t ht)).1; omega
      have hlT : ∀ t ∈ ts, t.text.length ≤ 10000 := fun t ht => by have := (frame_bounds t m (hall t ht)).1; omega
      generalize placeL ts a' = X at *
      generalize placeL ts b' = Y at *
      have HP1 := Place_any A2 cap2 wr.heap.size ts m a' wr hown.sl (Nat.le_refl _) (by omega) hlT
      rw [p1.1, p1.2, hXl] at HP1
      have HP2 := fun A3 cap3 (W : World) (h : Sl W W.heap.size 3 A3 X.length cap3 (tokC X)) => Place_any A3 cap3 W.heap.size X m b' W h (Nat.le_refl _) (by omega) hlX
      rw [p2.1, p2.2, hYl, hXl] at HP2
      have HP3 := fun A3 cap3 (W : World) (h : Sl W W.heap.size 3 A3 Y.length cap3 (tokC Y)) => Place_any A3 cap3 W.heap.size Y m a' W h (Nat.le_refl _) (by omega) hlY
      rw [p3.1, p3.2, hYl, hXl] at HP3
      have HP4 := fun A3 cap3 (W : World) (h : Sl W W.heap.size 3 A3 X.length cap3 (tokC X)) => Placed_any A3 cap3 W.heap.size X m W h (Nat.le_refl _) (by omega) hlX
      rw [p4.1, hXl] at HP4
      have HSa := fun A3 cap3 A4 cap4 (W : World) (h : Sl W W.heap.size 3 A3 X.length cap3 (tokC X)) (h' : Sl W W.heap.size 3 A4 X.length cap4 (tokC X)) => SameTokens_any A3 A4 cap3 cap4 W.heap.size X X W h h' (by omega) (by omega)
      rw [decide_eq_true rfl, hXl] at HSa
      have HLi := fun A3 cap3 (W : World) (h : Sl W W.heap.size 3 A3 X.length cap3 (tokC X)) => List_any A3 cap3 W.heap.size X m W h (Nat.le_refl _) (by omega) hlX
      rw [p4.2, hXl] at HLi
      have HX := Lib.hid (listL_ok X m p4.2)
      obtain ⟨s0, hs0⟩ : ∃ s0, listL X m = s0 := ⟨_, rfl⟩
      rw [hs0] at HLi HX
      clear hs0
      have S1 := hown.sl
      have H1 := Lib.hid HP1; clear HP1
      have H2 := Lib.hid HP2; clear HP2
      have H3 := Lib.hid HP3; clear HP3
      have H4 := Lib.hid HP4; clear HP4
      have H5 := Lib.hid HSa; clear HSa
      have H6 := Lib.hid HLi; clear HLi
      have HG := Lib.hid hget
      have HXa := Lib.hid hXall
      have HXl := Lib.hid hXl
      have hn12 : ts.length ≤ 12 := hk12
      clear hget p1 p2 p3 p4 hlX hlY hlT hYall hXall hXl hYl hall hown hS ha1 ha2 hb1 hb2
      rcases hex with hx | ⟨hx, hx'⟩
      all_goals
        go_wp2_with fail
        refine (HMa'.out _).mono ?_
        rintro e w3 ⟨rfl, rfl⟩
        go_wp2_with fail
        refine (HMb'.out _).mono ?_
        rintro e w3 ⟨rfl, rfl⟩
        go_wp2_with fail
        refine H1.out.mono ?_
        rintro e w4 ⟨A3, cap3, rfl, hown3, hb4⟩
        have hB4 := below_on hB hb4 (Nat.le_refl _)
        have S2 := sl_on S1 hb4
        have X2 := hown3.sl
        have h2 := Lib.hid (H2.out A3 cap3 w4 X2)
        clear hown3 hb4 hB S1 H1 H2 HMa' HMb'
        go_wp2_with fail
        refine h2.out.mono ?_
        rintro e w5 ⟨A4, cap4, rfl, hown4, hb5⟩
        have hB5 := below_on hB4 hb5 (Nat.le_refl _)
        have S3 := sl_on S2 hb5
        have X3 := sl_on X2 hb5
        have h3 := Lib.hid (H3.out A4 cap4 w5 hown4.sl)
        clear h2 H3 hown4 hb5 hB4 S2 X2
        go_wp2_with fail
        refine h3.out.mono ?_
        rintro e w6 ⟨A5, cap5, rfl, hown5, hb6⟩
        have hB6 := below_on hB5 hb6 (Nat.le_refl _)
        have S4 := sl_on S3 hb6
        have X4 := sl_on X3 hb6
        have Z4 := hown5.sl
        have h4 := Lib.hid (H4.out A3 cap3 w6 X4)
        clear h3 H4 hown5 hb6 hB5 S3 X3
        go_wp2_with fail
        refine h4.out.mono ?_
        rintro e w7 ⟨rfl, hb7⟩
        have hB7 := below_on hB6 hb7 (Nat.le_refl _)
        have S5 := sl_on S4 hb7
        have X5 := sl_on X4 hb7
        have Z5 := sl_on Z4 hb7
        have h5 := Lib.hid (H5.out A3 cap3 A5 cap5 w7 X5 Z5)
        clear h4 H5 hb7 hB6 S4 X4 Z4 Z5
        go_wp2_with fail
        refine h5.out.mono ?_
        rintro e w8 ⟨rfl, hb8⟩
        have hB8 := below_on hB7 hb8 (Nat.le_refl _)
        have S6 := sl_on S5 hb8
        have X6 := sl_on X5 hb8
        have h6 := Lib.hid (H6.out A3 cap3 w8 X6)
        clear h5 H6 hb8 hB7 S5 X5
        go_wp2_with fail
        refine h6.out.mono ?_
        rintro e w9 ⟨rfl, hb9⟩
        have hB9 := below_on hB8 hb9 (Nat.le_refl _)
        have S7 := sl_on S6 hb9
        have X7 := sl_on X6 hb9
        clear h6 hb9 hB8 S6 X6
        go_wp2_with fail
        go_loopw [20, 21] (fun v i W => ∃ j : Nat, j ≤ ts.length ∧ i = .int .i64 j ∧ v = .string ⟨(((X.drop j).map (fun t => bytesL t m)).flatten).toArray⟩ ∧ Below w9.heap.size w9 W) (fun _ i _ => ts.length - (intOf i).toNat)
        case atStart => exact ⟨0, Nat.zero_le _, rfl, by rw [List.drop_zero, HX.out], Below.refl _ _⟩
        case round =>
          obtain ⟨j, hj, rfl, rfl, hBj⟩ := hrel
          by_cases hjt : j < ts.length
          · have hjX : j < X.length := by rw [HXl.out]; exact hjt
            obtain ⟨b1, o1, rfl, hbb1, c0, c1, c2⟩ := sl_tok (S7.below hBj (Nat.le_refl _)) hjt
            obtain ⟨b2, o2, rfl, hbb2, d0, d1, d2⟩ := sl_tok (by rw [HXl.out]; exact X7.below hBj (Nat.le_refl _)) hjX
            obtain ⟨g1, g2⟩ := HG.out j hjt hjX
            rw [← g1] at c0
            rw [← g2] at c1
            have hck := HXa.out X[j] (List.getElem_mem hjX)
            have hfl : ((X.drop j).map (fun t => bytesL t m)).flatten = bytesL X[j] m ++ ((X.drop (j + 1)).map (fun t => bytesL t m)).flatten := by
              rw [List.drop_eq_getElem_cons hjX]; rfl
            have hFl : ((X.drop (j + 1)).map (fun t => bytesL t m)).flatten.length ≤ 400 := by
              have hh := flat_len (N := 26) ((X.drop (j + 1)).map (fun t => bytesL t m)) (fun y hy => by
                obtain ⟨u, hu, rfl⟩ := List.mem_map.1 hy
                have hu2 := HXa.out u (List.mem_of_mem_drop hu)
                rw [bytes_len u m hu2]
                have := (frame_bounds u m hu2).1
                omega)
              rw [List.length_map, List.length_drop, HXl.out] at hh
              omega
            obtain ⟨q1, q2, q3, _, _⟩ := read_frame X[j] m hck ((X.drop (j + 1)).map (fun t => bytesL t m)).flatten
            have hLl := bytes_len X[j] m hck
            have htl := (frame_bounds X[j] m hck).1
            have HR := fun W => Read_any (bytesL X[j] m ++ ((X.drop (j + 1)).map (fun t => bytesL t m)).flatten) m X[j].at_ W (by rw [List.length_append]; omega)
            rw [q1, q2, q3] at HR
            rw [hfl]
            generalize hF : ((X.drop (j + 1)).map (fun t => bytesL t m)).flatten = F at *
            have HF := Lib.hid hF
            clear hF hfl g1 g2 hck q1 q2 q3
            generalize bytesL X[j] m = L at *
            generalize X[j] = t at *
            obtain ⟨sy, x, ta⟩ := t
            unfold Tok.v Fault.v at HR
            simp only at *
            have HR' := Lib.hid HR
            have hz := hBj.size
            have hB1 := Lib.hid (below_on hB9 hBj (Nat.le_refl _))
            have HBj := Lib.hid hBj
            have hL2 : L.length ≤ 26 := by omega
            clear HR hLl hBj
            go_wp2_with fail
            refine (HR'.out _).mono ?_
            rintro e w10 ⟨rfl, hb10⟩
            have e0 := cell_up c0 hb10 (by simp only; omega)
            have e1 := cell_up c1 hb10 (by simp only; omega)
            have k0 := cell_up d0 hb10 (by simp only; omega)
            have k1 := cell_up d1 hb10 (by simp only; omega)
            have k2 := cell_up d2 hb10 (by simp only; omega)
            have hBx := below_on HBj.out hb10 (Nat.le_refl _)
            clear c0 c1 c2 d0 d1 d2 hb10 HR'
            go_wp2_with fail
            go_quiet (fail)
            have hBq := ((hBx.alloc hBx.size (.cells #[.int .i64 sy, .string ⟨x.toArray⟩, .int .i64 ta] 41)).alloc (by have := hBx.size; simp; omega) (.cells #[.int .i64 0, .int .i64 0] 27)).trans (show Below w9.heap.size _ (((w10.alloc (.cells #[.int .i64 sy, .string ⟨x.toArray⟩, .int .i64 ta] 41)).alloc (.cells #[.int .i64 0, .int .i64 0] 27)).drewN nq) from ⟨rfl, rfl, rfl, Nat.le_refl _, fun _ _ => rfl⟩)
            clear e0 e1 k0 k1 k2 hBx
            go_wp2_with fail
            go_roundw
            case rel => exact ⟨j + 1, by omega, by go_num, by rw [HF.out, ← List.length_append, List.take_length, List.drop_left], hBq⟩
            case measure => simp [intOf]; omega
          · have hnil : ((X.drop j).map (fun t => bytesL t m)).flatten = [] := by
              rw [List.drop_eq_nil_of_le (by rw [HXl.out]; omega)]; rfl
            rw [hnil]
            clear hnil S7 X7
            go_wp2_with (go_at_call 30; refine (HA.out _).mono ?_; rintro e w11 ⟨rfl, hb11⟩)
            go_ret
            exact ⟨rfl, below_on (below_on hB9 hBj (Nat.le_refl _)) hb11 (Nat.le_refl _)⟩
end Go.Proofs.Ytdndomjmnlpjgaa
