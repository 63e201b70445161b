/- The walks of stenotypekit.Mod and of the law CrcBursts. -/
import Derived.Test.YtfehmjiahefnjaaW22
namespace Go.Proofs.Ytfehmjiahefnjaa
open Go.RowKit
set_option maxHeartbeats 1600000 in
theorem Mod_any (a n : Int) (w : World) (h1 : 1 ≤ n) (h2 : n ≤ 9223372036854775807) :
    Calls Try.prog 34 #[.int .i64 a, .int .i64 n] w fun e w' => e = .returned (.int .i64 (a % n)) ∧ w = w' := by
  have hlo : -n < a.tmod n := by
    have := Int.lt_tmod_of_pos a (show 0 < n by omega)
    omega
  have hhi : a.tmod n < n := Int.tmod_lt_of_pos a (by omega)
  have hbase : a % n = a.tmod n % n := by
    have h := Int.mul_tdiv_add_tmod a n
    have h2 := Int.mul_add_emod_self_left n (a.tdiv n) (a.tmod n)
    rw [h] at h2
    exact h2
  by_cases hneg : a.tmod n < 0
  · have he : a % n = a.tmod n + n := by
      rw [hbase, ← Int.add_emod_right, Int.emod_eq_of_lt (by omega) (by omega)]
    rw [he]
    go_enter Try.func34, Try.ntmps34
    go_wp2
    go_ret
    exact ⟨rfl, rfl⟩
  · have he : a % n = a.tmod n := by
      rw [hbase, Int.emod_eq_of_lt (by omega) (by omega)]
    rw [he]
    go_enter Try.func34, Try.ntmps34
    go_wp2
    go_ret
    exact ⟨rfl, rfl⟩
theorem seal_open (s : List UInt8) (h : s.length ≤ 100) : openS (sealL s) = s ∧ openE (sealL s) = 0 := by
  have hl : (sealL s).length = s.length + 4 := by unfold sealL; rw [List.length_append]; rfl
  have hi : inner (sealL s) = s := by
    unfold inner
    rw [hl, Nat.add_sub_cancel]
    unfold sealL
    rw [List.take_append_of_le_length (Nat.le_refl _), List.take_length]
  have hs : sealS s = sealL s := if_neg (by omega)
  unfold openS openE
  rw [hi, hs, if_neg (by omega), if_neg (by omega), if_pos rfl, if_neg (by omega), if_neg (by omega), if_pos rfl]
  exact ⟨rfl, rfl⟩
theorem bit_u32 (d j : Nat) (hd : d < 4294967296) : bits .and .u32 ((d : Int) / 2 ^ j) 1 = ((d / 2 ^ j % 2 : Nat) : Int) := by
  have h1 : d / 2 ^ j < 4294967296 := Nat.lt_of_le_of_lt (Nat.div_le_self _ _) hd
  have e := u32_and_nat (d / 2 ^ j) 1 h1 (by decide)
  rw [nat_mask1] at e
  have e2 : ((d / 2 ^ j : Nat) : Int) = (d : Int) / 2 ^ j := by simp
  rw [e2] at e
  exact e
set_option maxHeartbeats 3200000 in
theorem CrcBursts_any (s : List UInt8) (a : Int) (p : Nat) (w : World) (hs : s.length ≤ maxLen) (hp : p < 4294967296) :
    Calls Try.prog 6 #[.string ⟨s.toArray⟩, .int .i64 a, .int .u32 p] w fun e w' => e = .returned (.bool true) ∧ Below w.heap.size w w' := by
  unfold maxLen at hs
  by_cases h100 : 100 < s.length
  · go_enter Try.func6, Try.ntmps6
    go_wp2_with (go_at_call 5; refine (CrcKnown_any _).mono ?_; rintro e w1 ⟨rfl, hb1⟩)
    go_ret
    exact ⟨rfl, hb1⟩
  have hl : (sealL s).length = s.length + 4 := by unfold sealL; rw [List.length_append]; rfl
  have hSe : ∀ W, Calls Try.prog 23 #[.string ⟨s.toArray⟩] W fun e w' => e = .returned (.tuple #[.string ⟨(sealL s).toArray⟩, .int .i64 0]) ∧ Below W.heap.size W w' := fun W => by
    have h := Seal_any s W (by unfold maxLen; omega)
    rw [show sealS s = sealL s from if_neg (by omega), show sealE s = 0 from if_neg (by omega)] at h
    exact h
  have hOp : ∀ W, Calls Try.prog 25 #[.string ⟨(sealL s).toArray⟩] W fun e w' => e = .returned (.tuple #[.string ⟨s.toArray⟩, .int .i64 0]) ∧ Below W.heap.size W w' := fun W => by
    have h := Open_any (sealL s) W (by unfold maxLen; omega)
    rw [(seal_open s (by omega)).1, (seal_open s (by omega)).2] at h
    exact h
  have hq1 : (p ||| 1) % 2 = 1 := by simp
  have hq32 : p ||| 1 < 2 ^ 32 := Nat.or_lt_two_pow hp (by decide)
  have hor := u32_or_nat p 1 hp (by decide)
  generalize p ||| 1 = q at *
  have hor' : bits .or .u32 (p : Int) 1 = (q : Int) := hor
  clear hor
  have hbad := fun (at_ k : Nat) (h1 : at_ + k ≤ 8 * (s.length + 4)) (h2 : 0 < k) (h3 : k ≤ 32) (v : List UInt8) => burst_bad s at_ q k v (by rw [hl]; exact h1) h2 h3 hq1
  have hdif := fun (at_ k : Nat) (h1 : at_ + k ≤ 8 * (s.length + 4)) => diff_burst (sealL s) at_ q k (by rw [hl]; exact h1)
  rw [hl] at hdif
  generalize hS : sealL s = S at *
  clear hS
  have HSe := Lib.hid hSe; clear hSe
  have HOp := Lib.hid hOp; clear hOp
  have Hbad := Lib.hid hbad; clear hbad
  have Hdif := Lib.hid hdif; clear hdif
  have Hl := Lib.hid hl
  have hlz : (S.length : Int) = s.length + 4 := by omega
  clear hl
  have HM := Lib.hid (fun W => Mod_any a (8 * (s.length + 4)) W (by omega) (by omega))
  obtain ⟨at_, hat⟩ := Int.eq_ofNat_of_zero_le (Int.emod_nonneg a (show (8 * ((s.length : Int) + 4)) ≠ 0 by omega))
  have hat8 : at_ < 8 * (s.length + 4) := by
    have := Int.emod_lt_of_pos a (show (0 : Int) < 8 * ((s.length : Int) + 4) by omega)
    omega
  rw [hat] at HM
  clear hat
  obtain ⟨i0, hi0, hz0, hz1, hz2⟩ := info_parts infoI
  go_enter Try.func6, Try.ntmps6
  go_wp2_with fail
  refine (CrcKnown_any _).mono ?_
  rintro e w1 ⟨rfl, hb1⟩
  go_wp2_with fail
  refine (HSe.out _).mono ?_
  rintro e w2 ⟨rfl, hb2⟩
  have hB2 := hb1.trans (hb2.mono hb1.size)
  go_wp2_with fail
  refine (HOp.out _).mono ?_
  rintro e w3 ⟨rfl, hb3⟩
  have hB3 := hB2.trans (hb3.mono hB2.size)
  go_wp2_with fail
  refine (HM.out _).mono ?_
  rintro e w4 ⟨rfl, rfl⟩
  go_wp2_with fail
  go_loopw [12, 13] (fun v i W => ∃ (k : Nat) (A : Option Addr) (cap : Nat), k ≤ 32 ∧ at_ + k ≤ 8 * (s.length + 4) ∧ i = .int .i64 k ∧ v = .slice A (burst at_ q k).length cap ∧ Own W w.heap.size 3 1 A (burst at_ q k).length cap ((burst at_ q k).map intV) ∧ Below w.heap.size w W) (fun _ i _ => 32 - (intOf i).toNat)
  case atStart => exact ⟨0, none, 0, by omega, by omega, rfl, rfl, Own.nil _ _ _ _, hB3⟩
  case round =>
    obtain ⟨k, A, cap, hk, hka, rfl, rfl, hown, hbel⟩ := hrel
    have hsz := hbel.size
    have hbl := burst_len at_ q k
    by_cases hlt : k < 32 ∧ at_ + k < 8 * (s.length + 4)
    · obtain ⟨hlt1, hlt2⟩ := hlt
      have hlt3 : (at_ : Int) + k < 8 * ((s.length : Int) + 4) := by omega
      have hbit := bit_u32 q k hq32
      have HB := Lib.hid (burst_succ at_ q k)
      by_cases hset : q / 2 ^ k % 2 = 1
      · rw [hset] at hbit
        have ht : q.testBit k = true := by rw [Nat.testBit_eq_decide_div_mod_eq]; exact decide_eq_true hset
        rw [ht, if_pos rfl] at HB
        clear hset ht
        go_wp2_with (at_builtin; refine wpList_append_new rfl _ _ _ rfl w.heap.size 3 i0 _ 1 8 Try.underlying36 hi0 hz0 hz1 hz2 rfl (by decide) rfl hown #[.int .i64 ((at_ : Int) + k)] rfl rfl (by simp [Value.oneCell']) (by simp only [maxLen]; omega) (by omega) hsz ?_; intro A4 cap4 W4 hown4 hg4 hat4)
        go_roundw
        case rel =>
          refine ⟨k + 1, A4, cap4, by omega, by omega, by go_num, ?_, ?_, grown_below hbel hown hg4 hsz⟩
          · rw [HB.out]; simp
          · have hlen : (burst at_ q (k + 1)).length = (burst at_ q k).length + 1 := by rw [HB.out]; simp
            have hls : (burst at_ q (k + 1)).map intV = (burst at_ q k).map intV ++ [Value.int .i64 ((at_ : Int) + k)] := by
              rw [HB.out]; simp [intV]
            rw [hlen, hls]; exact hown4
        case measure => simp [intOf]; omega
      · have hz : q / 2 ^ k % 2 = 0 := by omega
        rw [hz] at hbit
        have ht : q.testBit k = false := by rw [Nat.testBit_eq_decide_div_mod_eq]; exact decide_eq_false hset
        rw [ht] at HB
        clear hset hz ht
        go_wp2
        go_roundw
        case rel => exact ⟨k + 1, A, cap, by omega, by omega, by go_num, by rw [HB.out]; rfl, by rw [HB.out]; exact hown, hbel⟩
        case measure => simp [intOf]; omega
    · have hk0 : 0 < k := by omega
      have hbad2 := Lib.hid (Hbad.out at_ k hka hk0 hk)
      have hdif2 := Hdif.out at_ k hka
      have hall : (burst at_ q k).all (okBit S.length) = true := by
        rw [List.all_eq_true]
        intro x hx
        obtain ⟨i, hi, rfl⟩ := burst_mem hx
        unfold okBit
        simp
        omega
      have hFs : flipS S (burst at_ q k) = flips S (burst at_ q k) := if_pos hall
      have hFe : flipE S (burst at_ q k) = 0 := if_pos hall
      have hfl := flips_len (burst at_ q k) S
      have hlim : ∀ x ∈ burst at_ q k, x ≤ 9223372036854775807 := by
        intro x hx
        obtain ⟨i, hi, rfl⟩ := burst_mem hx
        omega
      have hF := fun (W : World) (hsl : Sl W W.heap.size 1 A (burst at_ q k).length cap ((burst at_ q k).map intV)) => Flip_any S A cap W.heap.size (burst at_ q k) W hsl (Nat.le_refl _) (by omega) (by omega) hlim
      rw [hFs, hFe] at hF
      have hBi := fun W => Bits_any S (flips S (burst at_ q k)) W hfl.symm (by omega)
      rw [Hl.out, hdif2] at hBi
      have hop : openE (flips S (burst at_ q k)) = 13 := by
        unfold openE
        rw [if_neg (by omega), if_neg (by omega), if_neg]
        intro h
        have hin : (inner (flips S (burst at_ q k))).length ≤ 20000 := by unfold inner; rw [List.length_take]; omega
        rw [show sealS (inner (flips S (burst at_ q k))) = sealL (inner (flips S (burst at_ q k))) from if_neg (by omega)] at h
        exact hbad2.out _ h
      have hO := fun W => kn_opens (flips S (burst at_ q k)) 13 W hop (by unfold maxLen; omega)
      have hsl := hown.sl
      have hbl6 : (burst at_ q k).length ≤ 1000000 := by omega
      clear hall hFs hFe hfl hlim hop hdif2 hbad2 Hbad Hdif hbl
      generalize flips S (burst at_ q k) = F at *
      generalize burst at_ q k = bs at *
      have HF := Lib.hid (hF wr hsl); clear hF
      have HBi := Lib.hid hBi; clear hBi
      have HO := Lib.hid hO; clear hO
      rcases (by omega : 32 ≤ k ∨ (k < 32 ∧ 8 * (s.length + 4) ≤ at_ + k)) with hq | hq
      all_goals
        go_wp2_with fail
        refine HF.out.mono ?_
        rintro e w5 ⟨rfl, hb5⟩
        have hB5 := hbel.trans (hb5.mono hbel.size)
        have hsl5 := hsl.below hb5 (Nat.le_refl _)
        go_wp2_with fail
        refine (HBi.out _).mono ?_
        rintro e w6 ⟨⟨A6, cap6, rfl, hsl6⟩, hb6⟩
        have hB6 := hB5.trans (hb6.mono hB5.size)
        have hsl7 := (hsl5.below hb6 hb5.size).more (D' := w6.heap.size) (Nat.le_trans hb5.size hb6.size)
        have HSm := Lib.hid (SameInts_any A6 A cap6 cap w6.heap.size bs bs w6 hsl6 hsl7 hbl6 hbl6)
        rw [show decide (bs = bs) = true from decide_eq_true rfl] at HSm
        go_wp2_with fail
        refine HSm.out.mono ?_
        rintro e w7 ⟨rfl, n, rfl⟩
        have hB7 : Below w.heap.size w (w6.drewN n) := hB6.trans ⟨rfl, rfl, rfl, Nat.le_refl _, fun _ _ => rfl⟩
        go_wp2_with fail
        refine (HO.out _).mono ?_
        rintro e w8 ⟨rfl, hb8⟩
        have hB8 := hB7.trans (hb8.mono hB7.size)
        go_wp2_with fail
        go_ret
        exact ⟨rfl, hB8⟩
end Go.Proofs.Ytfehmjiahefnjaa
