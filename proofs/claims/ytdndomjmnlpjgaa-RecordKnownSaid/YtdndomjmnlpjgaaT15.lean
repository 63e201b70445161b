/- Walks of tokens: Mod, Fill, made. -/
import Derived.Test.YtdndomjmnlpjgaaT14
namespace Go.Proofs.Ytdndomjmnlpjgaa
open Go.RowKit
set_option maxHeartbeats 1600000 in
theorem Mod_any (a n : Int) (w : World) (h1 : 1 ≤ n) (h2 : n ≤ 9223372036854775807) :
    Calls Try.prog 17 #[.int .i64 a, .int .i64 n] w fun e w' => e = .returned (.int .i64 (a % n)) ∧ w = w' := by
  have hlo : -n < a.tmod n := by
    have := Int.lt_tmod_of_pos a (show 0 < n by omega)
    omega
  have hhi : a.tmod n < n := Int.tmod_lt_of_pos a (by omega)
  have hbase : a % n = a.tmod n % n := by
    have h := Int.mul_tdiv_add_tmod a n
    have h2 := Int.mul_add_emod_self_left n (a.tdiv n) (a.tmod n)
    rw [h] at h2
    exact h2
  by_cases hneg : a.tmod n < 0
  · have he : a % n = a.tmod n + n := by
      rw [hbase, ← Int.add_emod_right, Int.emod_eq_of_lt (by omega) (by omega)]
    rw [he]
    go_enter Try.func17, Try.ntmps17
    go_wp2
    go_ret
    exact ⟨rfl, rfl⟩
  · have he : a % n = a.tmod n := by
      rw [hbase, Int.emod_eq_of_lt (by omega) (by omega)]
    rw [he]
    go_enter Try.func17, Try.ntmps17
    go_wp2
    go_ret
    exact ⟨rfl, rfl⟩
set_option maxRecDepth 100000 in
set_option maxHeartbeats 3200000 in
theorem Fill_any (k n : Nat) (w : World) (hk : k ≤ 1073741824) (hn : n ≤ 24) :
    Calls Try.prog 55 #[.int .i64 k, .int .i64 n] w fun e w' => (∃ x : List UInt8, x.length = n ∧ e = .returned (.string ⟨x.toArray⟩)) ∧ Below w.heap.size w w' := by
  go_enter Try.func55, Try.ntmps55
  go_wp2_with fail
  go_loopw [0, 5, 6] (fun v o i W => ∃ (j m : Nat) (x : List UInt8), j ≤ n ∧ m ≤ 1073741824 ∧ x.length = j ∧ v = .int .i64 m ∧ i = .int .i64 j ∧ o = .string ⟨x.toArray⟩ ∧ Below w.heap.size w W) (fun _ _ i _ => n - (intOf i).toNat)
  case atStart => exact ⟨0, k, [], by omega, hk, rfl, rfl, rfl, rfl, Below.refl _ _⟩
  case round =>
    obtain ⟨j, m, x, hj, hm, hx, rfl, rfl, rfl, hB⟩ := hrel
    by_cases hlt : j < n
    · have HM := fun W => Mod_any ((m : Int) * 75 + 74) 65537 W (by omega) (by omega)
      obtain ⟨r, hr⟩ : ∃ r : Nat, ((m : Int) * 75 + 74) % 65537 = r := ⟨(((m : Int) * 75 + 74) % 65537).toNat, by omega⟩
      have hr2 : r < 65537 := by omega
      rw [hr] at HM
      have HM' := Lib.hid HM; clear HM hr
      have hcv := run_byte_str wr (r % 256) (by omega)
      rw [show ((r % 256 : Nat) : Int) = (r : Int) % 256 by omega] at hcv
      have HB := Lib.hid hB; clear hB
      have HX := Lib.hid hx
      have hx24 : x.length ≤ 24 := by omega
      clear hx
      go_wp2_with (go_at_call 17; refine (HM'.out _).mono ?_; rintro e w1 ⟨rfl, rfl⟩)
      go_roundw
      case rel => exact ⟨j + 1, r, x ++ [UInt8.ofNat (r % 256)], by omega, by omega, by rw [List.length_append, HX.out]; rfl, rfl, by go_num, by first | rfl | simp, HB.out.alloc HB.out.size _⟩
      case measure => simp [intOf]; omega
    · obtain rfl : j = n := by omega
      go_wp2_with fail
      go_ret
      exact ⟨⟨x, hx, rfl⟩, hB⟩
theorem checkE_ok (t : Tok) (m : Nat) (h1 : 0 ≤ t.sym) (h2 : t.sym ≤ m) (h3 : 1 ≤ m) (h4 : m ≤ 8) (h5 : t.text.length ≤ 24) (h6 : 0 ≤ t.at_) (h7 : t.at_ ≤ 1099511627776) : checkE t m = 0 := by
  unfold checkE
  have ha : rangedB m = true := by unfold rangedB; simp; omega
  have hb : countsB t.at_ = true := by unfold countsB; simp; omega
  rw [if_neg (by rw [ha]; decide), if_neg (by omega), if_neg (by omega), if_neg (by rw [hb]; decide)]
set_option maxRecDepth 100000 in
set_option maxHeartbeats 3200000 in
theorem made07_any (k : Int) (m : Nat) (w : World) (h1 : 1 ≤ m) (h8 : m ≤ 8) :
    Calls Try.prog 31 #[.int .i64 k, .int .i64 m] w fun e w' => (∃ t : Tok, checkE t m = 0 ∧ e = .returned t.v) ∧ Below w.heap.size w w' := by
  have HM := fun W => Mod_any k 1073741824 W (by omega) (by omega)
  obtain ⟨r, hr⟩ : ∃ r : Nat, k % 1073741824 = r := ⟨(k % 1073741824).toNat, by omega⟩
  have hr2 : r < 1073741824 := by omega
  rw [hr] at HM
  have HM' := Lib.hid HM; clear HM hr
  have hd1 : (r : Int).tdiv 9 = ((r / 9 : Nat) : Int) := rfl
  have hq9 : r / 9 ≤ r := Nat.div_le_self _ _
  generalize r / 9 = q at *
  have hd2 : (q : Int).tmod 25 = ((q % 25 : Nat) : Int) := rfl
  have hf : q % 25 < 25 := Nat.mod_lt _ (by decide)
  generalize q % 25 = f at *
  have hd3 : (r : Int).tmod ((m : Int) + 1) = ((r % (m + 1) : Nat) : Int) := rfl
  have hs : r % (m + 1) < m + 1 := Nat.mod_lt _ (by omega)
  generalize r % (m + 1) = s at *
  have hne : ¬ (m : Int) + 1 = 0 := by omega
  have hwr : IntKind.i64.wrap ((m : Int) + 1) = (m : Int) + 1 := Go.IntWalk.i64_in _ (by omega)
  have hwq : IntKind.i64.wrap (q : Int) = (q : Int) := Go.IntWalk.i64_in _ (by omega)
  have HF' := Lib.hid (fun W => Fill_any r f W (by omega) (by omega))
  have hT := (Blk.new w 41 #[.int .i64 0, .string ⟨#[]⟩, .int .i64 0]).drew
  have hB := ((Below.refl w.heap.size w).alloc (Nat.le_refl _) (.cells #[.int .i64 0, .string ⟨#[]⟩, .int .i64 0] 41)).drew
  go_enter Try.func31, Try.ntmps31
  go_wp2_with (go_at_call 17; refine (HM'.out _).mono ?_; rintro e w1 ⟨rfl, rfl⟩)
  go_region_with (go_at_call 55; refine (HF'.out _).mono ?_; rintro e w3 ⟨⟨x, hx, rfl⟩, hb3⟩; obtain ⟨c0, c1, c2, f0, f1, f2⟩ := cells3 (hT.below hb3 hT.lt))
  all_goals go_wp2
  all_goals (refine bodyPost_ret (results_c rfl _ _ _ _ _ _ rfl ((((hT.below hb3 hT.lt).set 0 (.int .i64 s)).set 1 (.string ⟨x.toArray⟩)).set 2 (.int .i64 r)) Try.underlying41 rfl (by kernel_rfl)) rfl ?_)
  all_goals exact ⟨⟨⟨s, x, r⟩, checkE_ok _ m (by simp) (by simp; omega) h1 h8 (by simp; omega) (by simp) (by simp; omega), rfl⟩, (((hB.trans (hb3.mono hB.size)).setCell (p := ⟨w.heap.size, 0, none⟩) (Nat.le_refl _) _).setCell (p := ⟨w.heap.size, 1, none⟩) (Nat.le_refl _) _).setCell (p := ⟨w.heap.size, 2, none⟩) (Nat.le_refl _) _⟩
end Go.Proofs.Ytdndomjmnlpjgaa
