/- Mod; Made. No condition. -/
import Derived.Test.YtklfaccjbdkfhaaX25
namespace Go.Proofs.Ytklfaccjbdkfhaa
open Go.RowKit
set_option maxHeartbeats 1600000 in
theorem Mod_any (a n : Int) (w : World) (h1 : 1 ≤ n) (h2 : n ≤ 9223372036854775807) :
    Calls Try.prog 21 #[.int .i64 a, .int .i64 n] w fun e w' => e = .returned (.int .i64 (a % n)) ∧ w = w' := by
  have hlo : -n < a.tmod n := by
    have := Int.lt_tmod_of_pos a (show 0 < n by omega)
    omega
  have hhi : a.tmod n < n := Int.tmod_lt_of_pos a (by omega)
  have hbase : a % n = a.tmod n % n := by
    have h := Int.mul_tdiv_add_tmod a n
    have h2 := Int.mul_add_emod_self_left n (a.tdiv n) (a.tmod n)
    rw [h] at h2
    exact h2
  by_cases hneg : a.tmod n < 0
  · have he : a % n = a.tmod n + n := by
      rw [hbase, ← Int.add_emod_right, Int.emod_eq_of_lt (by omega) (by omega)]
    rw [he]
    go_enter Try.func21, Try.ntmps21
    go_wp2
    go_ret
    exact ⟨rfl, rfl⟩
  · have he : a % n = a.tmod n := by
      rw [hbase, Int.emod_eq_of_lt (by omega) (by omega)]
    rw [he]
    go_enter Try.func21, Try.ntmps21
    go_wp2
    go_ret
    exact ⟨rfl, rfl⟩
def intV (x : Int) : Value := .int .i64 x
theorem sl_int {w : World} {D : Nat} {A : Option Addr} {cap : Nat} {ls : List Int} (h : Sl w D 1 A ls.length cap (ls.map intV)) {k : Nat} (hk : k < ls.length) :
    ∃ b o, A = some ⟨b, o, none⟩ ∧ b < D ∧ w.cell? ⟨b, o + k, none⟩ = some (.int .i64 ls[k]) := by
  obtain ⟨b, o, u, e, hb, hu, hc⟩ := h.at_ hk
  refine ⟨b, o, e, hb, ?_⟩
  rw [hc, ← hu]
  simp [hk, intV]
def wordsL : List (List UInt8) := [[97], [90, 57], [116, 111, 107, 101, 110], [120, 95, 49], [108, 111, 111, 107, 97, 104, 101, 97, 100]]
def numsL : List (List UInt8) := [[48], [55], [49, 48], [50, 48, 48, 48]]
def signsL : List (List UInt8) := [[61], [124], [59], [44]]
def madeX (n : Int) : Lx :=
  if (n % 1048576).toNat % 3 = 0 then ⟨1, wordsL.getD ((n % 1048576).toNat / 3 % 5) [], n % 1048576⟩
  else if (n % 1048576).toNat % 3 = 1 then ⟨2, numsL.getD ((n % 1048576).toNat / 3 % 4) [], n % 1048576⟩
  else ⟨3, signsL.getD ((n % 1048576).toNat / 3 % 4) [], n % 1048576⟩
def madeL (ns : List Int) : List Lx := (ns.take 40).map madeX
theorem goods : (∀ x ∈ wordsL, lexB x = (1, x.length) ∧ x.length ≤ 9) ∧ (∀ x ∈ numsL, lexB x = (2, x.length) ∧ x.length ≤ 9) ∧ (∀ x ∈ signsL, lexB x = (3, x.length) ∧ x.length ≤ 9) := by decide +kernel
theorem getD_mem {l : List (List UInt8)} {i : Nat} (h : i < l.length) : l.getD i [] ∈ l := by
  rw [List.getD_eq_getElem?_getD, List.getElem?_eq_getElem h]
  exact List.getElem_mem h
theorem madeX_good (n : Int) : goodL (madeX n) ∧ (madeX n).text.length ≤ 9 ∧ checkL (madeX n) = 0 := by
  have h0 : 0 ≤ n % 1048576 := Int.emod_nonneg _ (by decide)
  obtain ⟨g1, g2, g3⟩ := goods
  have key : ∀ (k : Nat) (t : List UInt8), 1 ≤ k → k ≤ 3 → (lexB t = (k, t.length) ∧ t.length ≤ 9) → goodL ⟨k, t, n % 1048576⟩ ∧ (⟨k, t, n % 1048576⟩ : Lx).text.length ≤ 9 ∧ checkL ⟨k, t, n % 1048576⟩ = 0 := by
    intro k t hk hk3 ht
    refine ⟨⟨k, rfl, by omega, ht.1⟩, ht.2, ?_⟩
    unfold checkL
    simp only
    rw [if_neg (by omega), ht.1, Int.toNat_natCast, if_neg (fun h => h rfl), if_neg (by omega)]
  unfold madeX
  by_cases h1 : (n % 1048576).toNat % 3 = 0
  · rw [if_pos h1]; exact key 1 _ (by decide) (by decide) (g1 _ (getD_mem (Nat.mod_lt _ (by decide))))
  · rw [if_neg h1]
    by_cases h2 : (n % 1048576).toNat % 3 = 1
    · rw [if_pos h2]; exact key 2 _ (by decide) (by decide) (g2 _ (getD_mem (Nat.mod_lt _ (by decide))))
    · rw [if_neg h2]; exact key 3 _ (by decide) (by decide) (g3 _ (getD_mem (Nat.mod_lt _ (by decide))))
set_option maxRecDepth 100000 in
set_option maxHeartbeats 6400000 in
theorem Made_any (A : Option Addr) (cap D : Nat) (ns : List Int) (w : World) (hS : Sl w D 1 A ns.length cap (ns.map intV)) (hD : D ≤ w.heap.size) :
    Calls Try.prog 18 #[.slice A ns.length cap] w fun e w' => (∃ A' cap', e = .returned (.slice A' (madeL ns).length cap') ∧ Sl w' w'.heap.size 3 A' (madeL ns).length cap' (lxC (madeL ns))) ∧ Below w.heap.size w w' := by
  have HX := Lib.hid lexeme_any
  obtain ⟨i0, hi0, hz0, hz1, hz2⟩ := info_parts infoL
  have hm0 : ns.length ≤ maxLen := Nat.le_trans hS.2.1 hS.2.2.1
  unfold maxLen at hm0
  go_enter Try.func18, Try.ntmps18
  go_wp2_with fail
  go_loopw [3, 4] (fun v3 v4 W => ∃ (j : Nat) (A3 : Option Addr) (cap3 : Nat), j ≤ ns.length ∧ j ≤ 40 ∧ v4 = .int .i64 j ∧ v3 = .slice A3 j cap3 ∧ Own W w.heap.size 31 3 A3 j cap3 (lxC ((ns.take j).map madeX)) ∧ Below w.heap.size w W) (fun _ i _ => ns.length - (intOf i).toNat)
  case atStart => exact ⟨0, none, 0, Nat.zero_le _, by omega, rfl, rfl, Own.nil _ _ _ _, Below.refl _ _⟩
  case round =>
    obtain ⟨j, A3, cap3, hj, hj40, rfl, rfl, hown, hBr⟩ := hrel
    have hsr := hBr.size
    by_cases hfin : j = ns.length ∨ j = 40
    · have hmd : (ns.take j).map madeX = madeL ns ∧ j = (madeL ns).length := by
        unfold madeL
        rw [List.length_map, List.length_take]
        rcases hfin with h | h
        · rw [h, List.take_length, List.take_of_length_le (by omega)]; exact ⟨rfl, by omega⟩
        · rw [h]; exact ⟨rfl, by omega⟩
      rw [hmd.1] at hown
      have HM := Lib.hid hmd.2
      have hcs : ¬ (j : Int) < ns.length ∨ ((j : Int) < ns.length ∧ ¬ (j : Int) < 40) := by omega
      have hown2 := Lib.hid hown
      clear hmd hfin hown
      rcases hcs with h | ⟨h, h2⟩
      all_goals
        go_wp2_with fail
        go_ret
        have h1 := HM.out
        have h2 := hown2.out.sl
        subst h1
        exact ⟨⟨A3, cap3, rfl, h2⟩, hBr⟩
    · have hlt : j < ns.length := by omega
      have hlt40 : (j : Int) < 40 := by omega
      have hltz : (j : Int) < ns.length := by omega
      obtain ⟨b, o, rfl, hb, hc⟩ := sl_int (hS.below hBr hD) hlt
      have hsn : lxC ((ns.take (j + 1)).map madeX) = lxC ((ns.take j).map madeX) ++ [.int .i64 (madeX ns[j]).kind, .string ⟨(madeX ns[j]).text.toArray⟩, .int .i64 (madeX ns[j]).at_] := by
        rw [take_snoc ns j hlt, List.map_append, lxC_append]; rfl
      have HM := Lib.hid (fun W => Mod_any ns[j] 1048576 W (by decide) (by decide))
      have h0 : 0 ≤ ns[j] % 1048576 := Int.emod_nonneg _ (by decide)
      have h1 : ns[j] % 1048576 < 1048576 := Int.emod_lt_of_pos _ (by decide)
      unfold madeX at hsn
      generalize ns[j] = y at *
      obtain ⟨K, hK⟩ := Int.eq_ofNat_of_zero_le h0
      rw [hK] at HM hsn h1
      rw [Int.toNat_natCast] at hsn
      clear hK h0
      have hm1 : j + 1 ≤ maxLen := by simp only [maxLen]; omega
      have hm2 : (j + 1) * 32 ≤ 140737488355328 := by omega
      obtain ⟨q, hq⟩ : ∃ q, K / 3 = q := ⟨_, rfl⟩
      have t1 : (K : Int).tdiv 3 = (q : Int) := by rw [← hq]; rfl
      rw [hq] at hsn
      have hbw : b < wr.heap.size := by omega
      have hfar : ¬ b = wr.heap.size := by omega
      have hq9 : (q : Int) ≤ 1048576 := by omega
      have hK9 : (K : Int) ≤ 1048576 := by omega
      have hr3 : K % 3 = 0 ∨ K % 3 = 1 ∨ K % 3 = 2 := by omega
      rcases hr3 with hr | hr | hr
      · have t2 : (K : Int).tmod 3 = 0 := by rw [show (K : Int).tmod 3 = ((K % 3 : Nat) : Int) from rfl, hr]; rfl
        have hqm : q % 5 = 0 ∨ q % 5 = 1 ∨ q % 5 = 2 ∨ q % 5 = 3 ∨ q % 5 = 4 := by omega
        rcases hqm with hqm | hqm | hqm | hqm | hqm
        · have t3 : (q : Int).tmod 5 = 0 := by rw [show (q : Int).tmod 5 = ((q % 5 : Nat) : Int) from rfl, hqm]; rfl
          have hsn2 : lxC ((ns.take (j + 1)).map madeX) = lxC ((ns.take j).map madeX) ++ [.int .i64 1, .string ⟨#[97]⟩, .int .i64 K] := by
            rw [hqm, if_pos hr] at hsn
            exact hsn
          have HSn := Lib.hid hsn2
          clear hsn hsn2 hqm hq hr h1 hfin
          have X1 := Blk.new wr 9 #[.string ⟨#[97]⟩, .string ⟨#[90, 57]⟩, .string ⟨#[116, 111, 107, 101, 110]⟩, .string ⟨#[120, 95, 49]⟩, .string ⟨#[108, 111, 111, 107, 97, 104, 101, 97, 100]⟩]
          have hb2 := (Below.refl wr.heap.size wr).alloc (Nat.le_refl _) (.cells #[.string ⟨#[97]⟩, .string ⟨#[90, 57]⟩, .string ⟨#[116, 111, 107, 101, 110]⟩, .string ⟨#[120, 95, 49]⟩, .string ⟨#[108, 111, 111, 107, 97, 104, 101, 97, 100]⟩] 9)
          have hB2 := below_on hBr hb2 (Nat.le_refl _)
          have hown2 := hown.alloc (.cells #[.string ⟨#[97]⟩, .string ⟨#[90, 57]⟩, .string ⟨#[116, 111, 107, 101, 110]⟩, .string ⟨#[120, 95, 49]⟩, .string ⟨#[108, 111, 111, 107, 97, 104, 101, 97, 100]⟩] 9)
          have xc : (wr.alloc (.cells #[.string ⟨#[97]⟩, .string ⟨#[90, 57]⟩, .string ⟨#[116, 111, 107, 101, 110]⟩, .string ⟨#[120, 95, 49]⟩, .string ⟨#[108, 111, 111, 107, 97, 104, 101, 97, 100]⟩] 9)).cell? ⟨wr.heap.size, 0, none⟩ = some (.string ⟨#[97]⟩) := X1.cell 0
          have HG := Lib.hid (And.intro hB2 hown2)
          clear X1 hb2 hB2 hown2 hBr hown
          go_wp2_with fail
          refine (HM.out _).mono ?_
          rintro e w1 ⟨rfl, rfl⟩
          go_wp2_with fail
          obtain ⟨hB2, hown2⟩ := HG.out
          clear HG xc
          refine (HX.out _ _ _ _).mono ?_
          rintro e w3 ⟨rfl, hb3⟩
          have hB3 := below_on hB2 hb3 (Nat.le_refl _)
          have hs3 := hB3.size
          have ho := hown2.below hb3 (Nat.le_refl _)
          clear hB2 hown2 hb3 HM
          go_wp2_with (at_builtin; refine wpList_append_new rfl _ _ _ rfl w.heap.size 31 i0 _ 3 32 Try.underlying23 hi0 hz0 hz1 hz2 rfl (by decide) rfl ho #[.int .i64 1, .string ⟨#[97]⟩, .int .i64 K] rfl rfl (by simp [Value.oneCell']) hm1 hm2 hs3 ?_; intro A5 cap5 W5 hown5 hg5 hat5)
          go_roundw
          case rel => exact ⟨j + 1, A5, cap5, by omega, by omega, by go_num, rfl, by rw [HSn.out]; exact hown5, grown_below hB3 ho hg5 hs3⟩
          case measure => simp [intOf]; omega
        · have t3 : (q : Int).tmod 5 = 1 := by rw [show (q : Int).tmod 5 = ((q % 5 : Nat) : Int) from rfl, hqm]; rfl
          have hsn2 : lxC ((ns.take (j + 1)).map madeX) = lxC ((ns.take j).map madeX) ++ [.int .i64 1, .string ⟨#[90, 57]⟩, .int .i64 K] := by
            rw [hqm, if_pos hr] at hsn
            exact hsn
          have HSn := Lib.hid hsn2
          clear hsn hsn2 hqm hq hr h1 hfin
          have X1 := Blk.new wr 9 #[.string ⟨#[97]⟩, .string ⟨#[90, 57]⟩, .string ⟨#[116, 111, 107, 101, 110]⟩, .string ⟨#[120, 95, 49]⟩, .string ⟨#[108, 111, 111, 107, 97, 104, 101, 97, 100]⟩]
          have hb2 := (Below.refl wr.heap.size wr).alloc (Nat.le_refl _) (.cells #[.string ⟨#[97]⟩, .string ⟨#[90, 57]⟩, .string ⟨#[116, 111, 107, 101, 110]⟩, .string ⟨#[120, 95, 49]⟩, .string ⟨#[108, 111, 111, 107, 97, 104, 101, 97, 100]⟩] 9)
          have hB2 := below_on hBr hb2 (Nat.le_refl _)
          have hown2 := hown.alloc (.cells #[.string ⟨#[97]⟩, .string ⟨#[90, 57]⟩, .string ⟨#[116, 111, 107, 101, 110]⟩, .string ⟨#[120, 95, 49]⟩, .string ⟨#[108, 111, 111, 107, 97, 104, 101, 97, 100]⟩] 9)
          have xc : (wr.alloc (.cells #[.string ⟨#[97]⟩, .string ⟨#[90, 57]⟩, .string ⟨#[116, 111, 107, 101, 110]⟩, .string ⟨#[120, 95, 49]⟩, .string ⟨#[108, 111, 111, 107, 97, 104, 101, 97, 100]⟩] 9)).cell? ⟨wr.heap.size, 1, none⟩ = some (.string ⟨#[90, 57]⟩) := X1.cell 1
          have HG := Lib.hid (And.intro hB2 hown2)
          clear X1 hb2 hB2 hown2 hBr hown
          go_wp2_with fail
          refine (HM.out _).mono ?_
          rintro e w1 ⟨rfl, rfl⟩
          go_wp2_with fail
          obtain ⟨hB2, hown2⟩ := HG.out
          clear HG xc
          refine (HX.out _ _ _ _).mono ?_
          rintro e w3 ⟨rfl, hb3⟩
          have hB3 := below_on hB2 hb3 (Nat.le_refl _)
          have hs3 := hB3.size
          have ho := hown2.below hb3 (Nat.le_refl _)
          clear hB2 hown2 hb3 HM
          go_wp2_with (at_builtin; refine wpList_append_new rfl _ _ _ rfl w.heap.size 31 i0 _ 3 32 Try.underlying23 hi0 hz0 hz1 hz2 rfl (by decide) rfl ho #[.int .i64 1, .string ⟨#[90, 57]⟩, .int .i64 K] rfl rfl (by simp [Value.oneCell']) hm1 hm2 hs3 ?_; intro A5 cap5 W5 hown5 hg5 hat5)
          go_roundw
          case rel => exact ⟨j + 1, A5, cap5, by omega, by omega, by go_num, rfl, by rw [HSn.out]; exact hown5, grown_below hB3 ho hg5 hs3⟩
          case measure => simp [intOf]; omega
        · have t3 : (q : Int).tmod 5 = 2 := by rw [show (q : Int).tmod 5 = ((q % 5 : Nat) : Int) from rfl, hqm]; rfl
          have hsn2 : lxC ((ns.take (j + 1)).map madeX) = lxC ((ns.take j).map madeX) ++ [.int .i64 1, .string ⟨#[116, 111, 107, 101, 110]⟩, .int .i64 K] := by
            rw [hqm, if_pos hr] at hsn
            exact hsn
          have HSn := Lib.hid hsn2
          clear hsn hsn2 hqm hq hr h1 hfin
          have X1 := Blk.new wr 9 #[.string ⟨#[97]⟩, .string ⟨#[90, 57]⟩, .string ⟨#[116, 111, 107, 101, 110]⟩, .string ⟨#[120, 95, 49]⟩, .string ⟨#[108, 111, 111, 107, 97, 104, 101, 97, 100]⟩]
          have hb2 := (Below.refl wr.heap.size wr).alloc (Nat.le_refl _) (.cells #[.string ⟨#[97]⟩, .string ⟨#[90, 57]⟩, .string ⟨#[116, 111, 107, 101, 110]⟩, .string ⟨#[120, 95, 49]⟩, .string ⟨#[108, 111, 111, 107, 97, 104, 101, 97, 100]⟩] 9)
          have hB2 := below_on hBr hb2 (Nat.le_refl _)
          have hown2 := hown.alloc (.cells #[.string ⟨#[97]⟩, .string ⟨#[90, 57]⟩, .string ⟨#[116, 111, 107, 101, 110]⟩, .string ⟨#[120, 95, 49]⟩, .string ⟨#[108, 111, 111, 107, 97, 104, 101, 97, 100]⟩] 9)
          have xc : (wr.alloc (.cells #[.string ⟨#[97]⟩, .string ⟨#[90, 57]⟩, .string ⟨#[116, 111, 107, 101, 110]⟩, .string ⟨#[120, 95, 49]⟩, .string ⟨#[108, 111, 111, 107, 97, 104, 101, 97, 100]⟩] 9)).cell? ⟨wr.heap.size, 2, none⟩ = some (.string ⟨#[116, 111, 107, 101, 110]⟩) := X1.cell 2
          have HG := Lib.hid (And.intro hB2 hown2)
          clear X1 hb2 hB2 hown2 hBr hown
          go_wp2_with fail
          refine (HM.out _).mono ?_
          rintro e w1 ⟨rfl, rfl⟩
          go_wp2_with fail
          obtain ⟨hB2, hown2⟩ := HG.out
          clear HG xc
          refine (HX.out _ _ _ _).mono ?_
          rintro e w3 ⟨rfl, hb3⟩
          have hB3 := below_on hB2 hb3 (Nat.le_refl _)
          have hs3 := hB3.size
          have ho := hown2.below hb3 (Nat.le_refl _)
          clear hB2 hown2 hb3 HM
          go_wp2_with (at_builtin; refine wpList_append_new rfl _ _ _ rfl w.heap.size 31 i0 _ 3 32 Try.underlying23 hi0 hz0 hz1 hz2 rfl (by decide) rfl ho #[.int .i64 1, .string ⟨#[116, 111, 107, 101, 110]⟩, .int .i64 K] rfl rfl (by simp [Value.oneCell']) hm1 hm2 hs3 ?_; intro A5 cap5 W5 hown5 hg5 hat5)
          go_roundw
          case rel => exact ⟨j + 1, A5, cap5, by omega, by omega, by go_num, rfl, by rw [HSn.out]; exact hown5, grown_below hB3 ho hg5 hs3⟩
          case measure => simp [intOf]; omega
        · have t3 : (q : Int).tmod 5 = 3 := by rw [show (q : Int).tmod 5 = ((q % 5 : Nat) : Int) from rfl, hqm]; rfl
          have hsn2 : lxC ((ns.take (j + 1)).map madeX) = lxC ((ns.take j).map madeX) ++ [.int .i64 1, .string ⟨#[120, 95, 49]⟩, .int .i64 K] := by
            rw [hqm, if_pos hr] at hsn
            exact hsn
          have HSn := Lib.hid hsn2
          clear hsn hsn2 hqm hq hr h1 hfin
          have X1 := Blk.new wr 9 #[.string ⟨#[97]⟩, .string ⟨#[90, 57]⟩, .string ⟨#[116, 111, 107, 101, 110]⟩, .string ⟨#[120, 95, 49]⟩, .string ⟨#[108, 111, 111, 107, 97, 104, 101, 97, 100]⟩]
          have hb2 := (Below.refl wr.heap.size wr).alloc (Nat.le_refl _) (.cells #[.string ⟨#[97]⟩, .string ⟨#[90, 57]⟩, .string ⟨#[116, 111, 107, 101, 110]⟩, .string ⟨#[120, 95, 49]⟩, .string ⟨#[108, 111, 111, 107, 97, 104, 101, 97, 100]⟩] 9)
          have hB2 := below_on hBr hb2 (Nat.le_refl _)
          have hown2 := hown.alloc (.cells #[.string ⟨#[97]⟩, .string ⟨#[90, 57]⟩, .string ⟨#[116, 111, 107, 101, 110]⟩, .string ⟨#[120, 95, 49]⟩, .string ⟨#[108, 111, 111, 107, 97, 104, 101, 97, 100]⟩] 9)
          have xc : (wr.alloc (.cells #[.string ⟨#[97]⟩, .string ⟨#[90, 57]⟩, .string ⟨#[116, 111, 107, 101, 110]⟩, .string ⟨#[120, 95, 49]⟩, .string ⟨#[108, 111, 111, 107, 97, 104, 101, 97, 100]⟩] 9)).cell? ⟨wr.heap.size, 3, none⟩ = some (.string ⟨#[120, 95, 49]⟩) := X1.cell 3
          have HG := Lib.hid (And.intro hB2 hown2)
          clear X1 hb2 hB2 hown2 hBr hown
          go_wp2_with fail
          refine (HM.out _).mono ?_
          rintro e w1 ⟨rfl, rfl⟩
          go_wp2_with fail
          obtain ⟨hB2, hown2⟩ := HG.out
          clear HG xc
          refine (HX.out _ _ _ _).mono ?_
          rintro e w3 ⟨rfl, hb3⟩
          have hB3 := below_on hB2 hb3 (Nat.le_refl _)
          have hs3 := hB3.size
          have ho := hown2.below hb3 (Nat.le_refl _)
          clear hB2 hown2 hb3 HM
          go_wp2_with (at_builtin; refine wpList_append_new rfl _ _ _ rfl w.heap.size 31 i0 _ 3 32 Try.underlying23 hi0 hz0 hz1 hz2 rfl (by decide) rfl ho #[.int .i64 1, .string ⟨#[120, 95, 49]⟩, .int .i64 K] rfl rfl (by simp [Value.oneCell']) hm1 hm2 hs3 ?_; intro A5 cap5 W5 hown5 hg5 hat5)
          go_roundw
          case rel => exact ⟨j + 1, A5, cap5, by omega, by omega, by go_num, rfl, by rw [HSn.out]; exact hown5, grown_below hB3 ho hg5 hs3⟩
          case measure => simp [intOf]; omega
        · have t3 : (q : Int).tmod 5 = 4 := by rw [show (q : Int).tmod 5 = ((q % 5 : Nat) : Int) from rfl, hqm]; rfl
          have hsn2 : lxC ((ns.take (j + 1)).map madeX) = lxC ((ns.take j).map madeX) ++ [.int .i64 1, .string ⟨#[108, 111, 111, 107, 97, 104, 101, 97, 100]⟩, .int .i64 K] := by
            rw [hqm, if_pos hr] at hsn
            exact hsn
          have HSn := Lib.hid hsn2
          clear hsn hsn2 hqm hq hr h1 hfin
          have X1 := Blk.new wr 9 #[.string ⟨#[97]⟩, .string ⟨#[90, 57]⟩, .string ⟨#[116, 111, 107, 101, 110]⟩, .string ⟨#[120, 95, 49]⟩, .string ⟨#[108, 111, 111, 107, 97, 104, 101, 97, 100]⟩]
          have hb2 := (Below.refl wr.heap.size wr).alloc (Nat.le_refl _) (.cells #[.string ⟨#[97]⟩, .string ⟨#[90, 57]⟩, .string ⟨#[116, 111, 107, 101, 110]⟩, .string ⟨#[120, 95, 49]⟩, .string ⟨#[108, 111, 111, 107, 97, 104, 101, 97, 100]⟩] 9)
          have hB2 := below_on hBr hb2 (Nat.le_refl _)
          have hown2 := hown.alloc (.cells #[.string ⟨#[97]⟩, .string ⟨#[90, 57]⟩, .string ⟨#[116, 111, 107, 101, 110]⟩, .string ⟨#[120, 95, 49]⟩, .string ⟨#[108, 111, 111, 107, 97, 104, 101, 97, 100]⟩] 9)
          have xc : (wr.alloc (.cells #[.string ⟨#[97]⟩, .string ⟨#[90, 57]⟩, .string ⟨#[116, 111, 107, 101, 110]⟩, .string ⟨#[120, 95, 49]⟩, .string ⟨#[108, 111, 111, 107, 97, 104, 101, 97, 100]⟩] 9)).cell? ⟨wr.heap.size, 4, none⟩ = some (.string ⟨#[108, 111, 111, 107, 97, 104, 101, 97, 100]⟩) := X1.cell 4
          have HG := Lib.hid (And.intro hB2 hown2)
          clear X1 hb2 hB2 hown2 hBr hown
          go_wp2_with fail
          refine (HM.out _).mono ?_
          rintro e w1 ⟨rfl, rfl⟩
          go_wp2_with fail
          obtain ⟨hB2, hown2⟩ := HG.out
          clear HG xc
          refine (HX.out _ _ _ _).mono ?_
          rintro e w3 ⟨rfl, hb3⟩
          have hB3 := below_on hB2 hb3 (Nat.le_refl _)
          have hs3 := hB3.size
          have ho := hown2.below hb3 (Nat.le_refl _)
          clear hB2 hown2 hb3 HM
          go_wp2_with (at_builtin; refine wpList_append_new rfl _ _ _ rfl w.heap.size 31 i0 _ 3 32 Try.underlying23 hi0 hz0 hz1 hz2 rfl (by decide) rfl ho #[.int .i64 1, .string ⟨#[108, 111, 111, 107, 97, 104, 101, 97, 100]⟩, .int .i64 K] rfl rfl (by simp [Value.oneCell']) hm1 hm2 hs3 ?_; intro A5 cap5 W5 hown5 hg5 hat5)
          go_roundw
          case rel => exact ⟨j + 1, A5, cap5, by omega, by omega, by go_num, rfl, by rw [HSn.out]; exact hown5, grown_below hB3 ho hg5 hs3⟩
          case measure => simp [intOf]; omega
      · have t2 : (K : Int).tmod 3 = 1 := by rw [show (K : Int).tmod 3 = ((K % 3 : Nat) : Int) from rfl, hr]; rfl
        have hqm : q % 4 = 0 ∨ q % 4 = 1 ∨ q % 4 = 2 ∨ q % 4 = 3 := by omega
        rcases hqm with hqm | hqm | hqm | hqm
        · have t3 : (q : Int).tmod 4 = 0 := by rw [show (q : Int).tmod 4 = ((q % 4 : Nat) : Int) from rfl, hqm]; rfl
          have hsn2 : lxC ((ns.take (j + 1)).map madeX) = lxC ((ns.take j).map madeX) ++ [.int .i64 2, .string ⟨#[48]⟩, .int .i64 K] := by
            rw [hqm, if_neg (by omega), if_pos hr] at hsn
            exact hsn
          have HSn := Lib.hid hsn2
          clear hsn hsn2 hqm hq hr h1 hfin
          have X1 := Blk.new wr 9 #[.string ⟨#[48]⟩, .string ⟨#[55]⟩, .string ⟨#[49, 48]⟩, .string ⟨#[50, 48, 48, 48]⟩]
          have hb2 := (Below.refl wr.heap.size wr).alloc (Nat.le_refl _) (.cells #[.string ⟨#[48]⟩, .string ⟨#[55]⟩, .string ⟨#[49, 48]⟩, .string ⟨#[50, 48, 48, 48]⟩] 9)
          have hB2 := below_on hBr hb2 (Nat.le_refl _)
          have hown2 := hown.alloc (.cells #[.string ⟨#[48]⟩, .string ⟨#[55]⟩, .string ⟨#[49, 48]⟩, .string ⟨#[50, 48, 48, 48]⟩] 9)
          have xc : (wr.alloc (.cells #[.string ⟨#[48]⟩, .string ⟨#[55]⟩, .string ⟨#[49, 48]⟩, .string ⟨#[50, 48, 48, 48]⟩] 9)).cell? ⟨wr.heap.size, 0, none⟩ = some (.string ⟨#[48]⟩) := X1.cell 0
          have HG := Lib.hid (And.intro hB2 hown2)
          clear X1 hb2 hB2 hown2 hBr hown
          go_wp2_with fail
          refine (HM.out _).mono ?_
          rintro e w1 ⟨rfl, rfl⟩
          go_wp2_with fail
          obtain ⟨hB2, hown2⟩ := HG.out
          clear HG xc
          refine (HX.out _ _ _ _).mono ?_
          rintro e w3 ⟨rfl, hb3⟩
          have hB3 := below_on hB2 hb3 (Nat.le_refl _)
          have hs3 := hB3.size
          have ho := hown2.below hb3 (Nat.le_refl _)
          clear hB2 hown2 hb3 HM
          go_wp2_with (at_builtin; refine wpList_append_new rfl _ _ _ rfl w.heap.size 31 i0 _ 3 32 Try.underlying23 hi0 hz0 hz1 hz2 rfl (by decide) rfl ho #[.int .i64 2, .string ⟨#[48]⟩, .int .i64 K] rfl rfl (by simp [Value.oneCell']) hm1 hm2 hs3 ?_; intro A5 cap5 W5 hown5 hg5 hat5)
          go_roundw
          case rel => exact ⟨j + 1, A5, cap5, by omega, by omega, by go_num, rfl, by rw [HSn.out]; exact hown5, grown_below hB3 ho hg5 hs3⟩
          case measure => simp [intOf]; omega
        · have t3 : (q : Int).tmod 4 = 1 := by rw [show (q : Int).tmod 4 = ((q % 4 : Nat) : Int) from rfl, hqm]; rfl
          have hsn2 : lxC ((ns.take (j + 1)).map madeX) = lxC ((ns.take j).map madeX) ++ [.int .i64 2, .string ⟨#[55]⟩, .int .i64 K] := by
            rw [hqm, if_neg (by omega), if_pos hr] at hsn
            exact hsn
          have HSn := Lib.hid hsn2
          clear hsn hsn2 hqm hq hr h1 hfin
          have X1 := Blk.new wr 9 #[.string ⟨#[48]⟩, .string ⟨#[55]⟩, .string ⟨#[49, 48]⟩, .string ⟨#[50, 48, 48, 48]⟩]
          have hb2 := (Below.refl wr.heap.size wr).alloc (Nat.le_refl _) (.cells #[.string ⟨#[48]⟩, .string ⟨#[55]⟩, .string ⟨#[49, 48]⟩, .string ⟨#[50, 48, 48, 48]⟩] 9)
          have hB2 := below_on hBr hb2 (Nat.le_refl _)
          have hown2 := hown.alloc (.cells #[.string ⟨#[48]⟩, .string ⟨#[55]⟩, .string ⟨#[49, 48]⟩, .string ⟨#[50, 48, 48, 48]⟩] 9)
          have xc : (wr.alloc (.cells #[.string ⟨#[48]⟩, .string ⟨#[55]⟩, .string ⟨#[49, 48]⟩, .string ⟨#[50, 48, 48, 48]⟩] 9)).cell? ⟨wr.heap.size, 1, none⟩ = some (.string ⟨#[55]⟩) := X1.cell 1
          have HG := Lib.hid (And.intro hB2 hown2)
          clear X1 hb2 hB2 hown2 hBr hown
          go_wp2_with fail
          refine (HM.out _).mono ?_
          rintro e w1 ⟨rfl, rfl⟩
          go_wp2_with fail
          obtain ⟨hB2, hown2⟩ := HG.out
          clear HG xc
          refine (HX.out _ _ _ _).mono ?_
          rintro e w3 ⟨rfl, hb3⟩
          have hB3 := below_on hB2 hb3 (Nat.le_refl _)
          have hs3 := hB3.size
          have ho := hown2.below hb3 (Nat.le_refl _)
          clear hB2 hown2 hb3 HM
          go_wp2_with (at_builtin; refine wpList_append_new rfl _ _ _ rfl w.heap.size 31 i0 _ 3 32 Try.underlying23 hi0 hz0 hz1 hz2 rfl (by decide) rfl ho #[.int .i64 2, .string ⟨#[55]⟩, .int .i64 K] rfl rfl (by simp [Value.oneCell']) hm1 hm2 hs3 ?_; intro A5 cap5 W5 hown5 hg5 hat5)
          go_roundw
          case rel => exact ⟨j + 1, A5, cap5, by omega, by omega, by go_num, rfl, by rw [HSn.out]; exact hown5, grown_below hB3 ho hg5 hs3⟩
          case measure => simp [intOf]; omega
        · have t3 : (q : Int).tmod 4 = 2 := by rw [show (q : Int).tmod 4 = ((q % 4 : Nat) : Int) from rfl, hqm]; rfl
          have hsn2 : lxC ((ns.take (j + 1)).map madeX) = lxC ((ns.take j).map madeX) ++ [.int .i64 2, .string ⟨#[49, 48]⟩, .int .i64 K] := by
            rw [hqm, if_neg (by omega), if_pos hr] at hsn
            exact hsn
          have HSn := Lib.hid hsn2
          clear hsn hsn2 hqm hq hr h1 hfin
          have X1 := Blk.new wr 9 #[.string ⟨#[48]⟩, .string ⟨#[55]⟩, .string ⟨#[49, 48]⟩, .string ⟨#[50, 48, 48, 48]⟩]
          have hb2 := (Below.refl wr.heap.size wr).alloc (Nat.le_refl _) (.cells #[.string ⟨#[48]⟩, .string ⟨#[55]⟩, .string ⟨#[49, 48]⟩, .string ⟨#[50, 48, 48, 48]⟩] 9)
          have hB2 := below_on hBr hb2 (Nat.le_refl _)
          have hown2 := hown.alloc (.cells #[.string ⟨#[48]⟩, .string ⟨#[55]⟩, .string ⟨#[49, 48]⟩, .string ⟨#[50, 48, 48, 48]⟩] 9)
          have xc : (wr.alloc (.cells #[.string ⟨#[48]⟩, .string ⟨#[55]⟩, .string ⟨#[49, 48]⟩, .string ⟨#[50, 48, 48, 48]⟩] 9)).cell? ⟨wr.heap.size, 2, none⟩ = some (.string ⟨#[49, 48]⟩) := X1.cell 2
          have HG := Lib.hid (And.intro hB2 hown2)
          clear X1 hb2 hB2 hown2 hBr hown
          go_wp2_with fail
          refine (HM.out _).mono ?_
          rintro e w1 ⟨rfl, rfl⟩
          go_wp2_with fail
          obtain ⟨hB2, hown2⟩ := HG.out
          clear HG xc
          refine (HX.out _ _ _ _).mono ?_
          rintro e w3 ⟨rfl, hb3⟩
          have hB3 := below_on hB2 hb3 (Nat.le_refl _)
          have hs3 := hB3.size
          have ho := hown2.below hb3 (Nat.le_refl _)
          clear hB2 hown2 hb3 HM
          go_wp2_with (at_builtin; refine wpList_append_new rfl _ _ _ rfl w.heap.size 31 i0 _ 3 32 Try.underlying23 hi0 hz0 hz1 hz2 rfl (by decide) rfl ho #[.int .i64 2, .string ⟨#[49, 48]⟩, .int .i64 K] rfl rfl (by simp [Value.oneCell']) hm1 hm2 hs3 ?_; intro A5 cap5 W5 hown5 hg5 hat5)
          go_roundw
          case rel => exact ⟨j + 1, A5, cap5, by omega, by omega, by go_num, rfl, by rw [HSn.out]; exact hown5, grown_below hB3 ho hg5 hs3⟩
          case measure => simp [intOf]; omega
        · have t3 : (q : Int).tmod 4 = 3 := by rw [show (q : Int).tmod 4 = ((q % 4 : Nat) : Int) from rfl, hqm]; rfl
          have hsn2 : lxC ((ns.take (j + 1)).map madeX) = lxC ((ns.take j).map madeX) ++ [.int .i64 2, .string ⟨#[50, 48, 48, 48]⟩, .int .i64 K] := by
            rw [hqm, if_neg (by omega), if_pos hr] at hsn
            exact hsn
          have HSn := Lib.hid hsn2
          clear hsn hsn2 hqm hq hr h1 hfin
          have X1 := Blk.new wr 9 #[.string ⟨#[48]⟩, .string ⟨#[55]⟩, .string ⟨#[49, 48]⟩, .string ⟨#[50, 48, 48, 48]⟩]
          have hb2 := (Below.refl wr.heap.size wr).alloc (Nat.le_refl _) (.cells #[.string ⟨#[48]⟩, .string ⟨#[55]⟩, .string ⟨#[49, 48]⟩, .string ⟨#[50, 48, 48, 48]⟩] 9)
          have hB2 := below_on hBr hb2 (Nat.le_refl _)
          have hown2 := hown.alloc (.cells #[.string ⟨#[48]⟩, .string ⟨#[55]⟩, .string ⟨#[49, 48]⟩, .string ⟨#[50, 48, 48, 48]⟩] 9)
          have xc : (wr.alloc (.cells #[.string ⟨#[48]⟩, .string ⟨#[55]⟩, .string ⟨#[49, 48]⟩, .string ⟨#[50, 48, 48, 48]⟩] 9)).cell? ⟨wr.heap.size, 3, none⟩ = some (.string ⟨#[50, 48, 48, 48]⟩) := X1.cell 3
          have HG := Lib.hid (And.intro hB2 hown2)
          clear X1 hb2 hB2 hown2 hBr hown
          go_wp2_with fail
          refine (HM.out _).mono ?_
          rintro e w1 ⟨rfl, rfl⟩
          go_wp2_with fail
          obtain ⟨hB2, hown2⟩ := HG.out
          clear HG xc
          refine (HX.out _ _ _ _).mono ?_
          rintro e w3 ⟨rfl, hb3⟩
          have hB3 := below_on hB2 hb3 (Nat.le_refl _)
          have hs3 := hB3.size
          have ho := hown2.below hb3 (Nat.le_refl _)
          clear hB2 hown2 hb3 HM
          go_wp2_with (at_builtin; refine wpList_append_new rfl _ _ _ rfl w.heap.size 31 i0 _ 3 32 Try.underlying23 hi0 hz0 hz1 hz2 rfl (by decide) rfl ho #[.int .i64 2, .string ⟨#[50, 48, 48, 48]⟩, .int .i64 K] rfl rfl (by simp [Value.oneCell']) hm1 hm2 hs3 ?_; intro A5 cap5 W5 hown5 hg5 hat5)
          go_roundw
          case rel => exact ⟨j + 1, A5, cap5, by omega, by omega, by go_num, rfl, by rw [HSn.out]; exact hown5, grown_below hB3 ho hg5 hs3⟩
          case measure => simp [intOf]; omega
      · have t2 : (K : Int).tmod 3 = 2 := by rw [show (K : Int).tmod 3 = ((K % 3 : Nat) : Int) from rfl, hr]; rfl
        have hqm : q % 4 = 0 ∨ q % 4 = 1 ∨ q % 4 = 2 ∨ q % 4 = 3 := by omega
        rcases hqm with hqm | hqm | hqm | hqm
        · have t3 : (q : Int).tmod 4 = 0 := by rw [show (q : Int).tmod 4 = ((q % 4 : Nat) : Int) from rfl, hqm]; rfl
          have hsn2 : lxC ((ns.take (j + 1)).map madeX) = lxC ((ns.take j).map madeX) ++ [.int .i64 3, .string ⟨#[61]⟩, .int .i64 K] := by
            rw [hqm, if_neg (by omega), if_neg (by omega)] at hsn
            exact hsn
          have HSn := Lib.hid hsn2
          clear hsn hsn2 hqm hq hr h1 hfin
          have hB2 := hBr
          have hown2 := hown
          clear hBr hown
          go_wp2_with fail
          refine (HM.out _).mono ?_
          rintro e w1 ⟨rfl, rfl⟩
          go_wp2_with fail
          refine (HX.out _ _ _ _).mono ?_
          rintro e w3 ⟨rfl, hb3⟩
          have hB3 := below_on hB2 hb3 (Nat.le_refl _)
          have hs3 := hB3.size
          have ho := hown2.below hb3 (Nat.le_refl _)
          clear hB2 hown2 hb3 HM
          go_wp2_with (at_builtin; refine wpList_append_new rfl _ _ _ rfl w.heap.size 31 i0 _ 3 32 Try.underlying23 hi0 hz0 hz1 hz2 rfl (by decide) rfl ho #[.int .i64 3, .string ⟨#[61]⟩, .int .i64 K] rfl rfl (by simp [Value.oneCell']) hm1 hm2 hs3 ?_; intro A5 cap5 W5 hown5 hg5 hat5)
          go_roundw
          case rel => exact ⟨j + 1, A5, cap5, by omega, by omega, by go_num, rfl, by rw [HSn.out]; exact hown5, grown_below hB3 ho hg5 hs3⟩
          case measure => simp [intOf]; omega
        · have t3 : (q : Int).tmod 4 = 1 := by rw [show (q : Int).tmod 4 = ((q % 4 : Nat) : Int) from rfl, hqm]; rfl
          have hsn2 : lxC ((ns.take (j + 1)).map madeX) = lxC ((ns.take j).map madeX) ++ [.int .i64 3, .string ⟨#[124]⟩, .int .i64 K] := by
            rw [hqm, if_neg (by omega), if_neg (by omega)] at hsn
            exact hsn
          have HSn := Lib.hid hsn2
          clear hsn hsn2 hqm hq hr h1 hfin
          have hB2 := hBr
          have hown2 := hown
          clear hBr hown
          go_wp2_with fail
          refine (HM.out _).mono ?_
          rintro e w1 ⟨rfl, rfl⟩
          go_wp2_with fail
          refine (HX.out _ _ _ _).mono ?_
          rintro e w3 ⟨rfl, hb3⟩
          have hB3 := below_on hB2 hb3 (Nat.le_refl _)
          have hs3 := hB3.size
          have ho := hown2.below hb3 (Nat.le_refl _)
          clear hB2 hown2 hb3 HM
          go_wp2_with (at_builtin; refine wpList_append_new rfl _ _ _ rfl w.heap.size 31 i0 _ 3 32 Try.underlying23 hi0 hz0 hz1 hz2 rfl (by decide) rfl ho #[.int .i64 3, .string ⟨#[124]⟩, .int .i64 K] rfl rfl (by simp [Value.oneCell']) hm1 hm2 hs3 ?_; intro A5 cap5 W5 hown5 hg5 hat5)
          go_roundw
          case rel => exact ⟨j + 1, A5, cap5, by omega, by omega, by go_num, rfl, by rw [HSn.out]; exact hown5, grown_below hB3 ho hg5 hs3⟩
          case measure => simp [intOf]; omega
        · have t3 : (q : Int).tmod 4 = 2 := by rw [show (q : Int).tmod 4 = ((q % 4 : Nat) : Int) from rfl, hqm]; rfl
          have hsn2 : lxC ((ns.take (j + 1)).map madeX) = lxC ((ns.take j).map madeX) ++ [.int .i64 3, .string ⟨#[59]⟩, .int .i64 K] := by
            rw [hqm, if_neg (by omega), if_neg (by omega)] at hsn
            exact hsn
          have HSn := Lib.hid hsn2
          clear hsn hsn2 hqm hq hr h1 hfin
          have hB2 := hBr
          have hown2 := hown
          clear hBr hown
          go_wp2_with fail
          refine (HM.out _).mono ?_
          rintro e w1 ⟨rfl, rfl⟩
          go_wp2_with fail
          refine (HX.out _ _ _ _).mono ?_
          rintro e w3 ⟨rfl, hb3⟩
          have hB3 := below_on hB2 hb3 (Nat.le_refl _)
          have hs3 := hB3.size
          have ho := hown2.below hb3 (Nat.le_refl _)
          clear hB2 hown2 hb3 HM
          go_wp2_with (at_builtin; refine wpList_append_new rfl _ _ _ rfl w.heap.size 31 i0 _ 3 32 Try.underlying23 hi0 hz0 hz1 hz2 rfl (by decide) rfl ho #[.int .i64 3, .string ⟨#[59]⟩, .int .i64 K] rfl rfl (by simp [Value.oneCell']) hm1 hm2 hs3 ?_; intro A5 cap5 W5 hown5 hg5 hat5)
          go_roundw
          case rel => exact ⟨j + 1, A5, cap5, by omega, by omega, by go_num, rfl, by rw [HSn.out]; exact hown5, grown_below hB3 ho hg5 hs3⟩
          case measure => simp [intOf]; omega
        · have t3 : (q : Int).tmod 4 = 3 := by rw [show (q : Int).tmod 4 = ((q % 4 : Nat) : Int) from rfl, hqm]; rfl
          have hsn2 : lxC ((ns.take (j + 1)).map madeX) = lxC ((ns.take j).map madeX) ++ [.int .i64 3, .string ⟨#[44]⟩, .int .i64 K] := by
            rw [hqm, if_neg (by omega), if_neg (by omega)] at hsn
            exact hsn
          have HSn := Lib.hid hsn2
          clear hsn hsn2 hqm hq hr h1 hfin
          have hB2 := hBr
          have hown2 := hown
          clear hBr hown
          go_wp2_with fail
          refine (HM.out _).mono ?_
          rintro e w1 ⟨rfl, rfl⟩
          go_wp2_with fail
          refine (HX.out _ _ _ _).mono ?_
          rintro e w3 ⟨rfl, hb3⟩
          have hB3 := below_on hB2 hb3 (Nat.le_refl _)
          have hs3 := hB3.size
          have ho := hown2.below hb3 (Nat.le_refl _)
          clear hB2 hown2 hb3 HM
          go_wp2_with (at_builtin; refine wpList_append_new rfl _ _ _ rfl w.heap.size 31 i0 _ 3 32 Try.underlying23 hi0 hz0 hz1 hz2 rfl (by decide) rfl ho #[.int .i64 3, .string ⟨#[44]⟩, .int .i64 K] rfl rfl (by simp [Value.oneCell']) hm1 hm2 hs3 ?_; intro A5 cap5 W5 hown5 hg5 hat5)
          go_roundw
          case rel => exact ⟨j + 1, A5, cap5, by omega, by omega, by go_num, rfl, by rw [HSn.out]; exact hown5, grown_below hB3 ho hg5 hs3⟩
          case measure => simp [intOf]; omega
end Go.Proofs.Ytklfaccjbdkfhaa
