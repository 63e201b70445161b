/- The law's event. No condition. -/
import Derived.Test.YtogldckkmjbohaaQ9
namespace Go.Proofs.Ytogldckkmjbohaa
open Go.RowKit
set_option maxHeartbeats 1600000 in
theorem Mod_any (a n : Int) (w : World) (h1 : 1 ≤ n) (h2 : n ≤ 9223372036854775807) :
    Calls Try.prog 27 #[.int .i64 a, .int .i64 n] w fun e w' => e = .returned (.int .i64 (a % n)) ∧ w = w' := by
  have hlo : -n < a.tmod n := by
    have := Int.lt_tmod_of_pos a (show 0 < n by omega)
    omega
  have hhi : a.tmod n < n := Int.tmod_lt_of_pos a (by omega)
  have hbase : a % n = a.tmod n % n := by
    have h := Int.mul_tdiv_add_tmod a n
    have h2 := Int.mul_add_emod_self_left n (a.tdiv n) (a.tmod n)
    rw [h] at h2
    exact h2
  by_cases hneg : a.tmod n < 0
  · have he : a % n = a.tmod n + n := by
      rw [hbase, ← Int.add_emod_right, Int.emod_eq_of_lt (by omega) (by omega)]
    rw [he]
    go_enter Try.func27, Try.ntmps27
    go_wp2
    go_ret
    exact ⟨rfl, rfl⟩
  · have he : a % n = a.tmod n := by
      rw [hbase, Int.emod_eq_of_lt (by omega) (by omega)]
    rw [he]
    go_enter Try.func27, Try.ntmps27
    go_wp2
    go_ret
    exact ⟨rfl, rfl⟩
set_option maxRecDepth 100000 in
set_option maxHeartbeats 1600000 in
theorem event_any (n : Int) (w : World) : Calls Try.prog 25 #[.int .i64 n] w fun e w' => e = .returned (evOf (n % 1048576)).v ∧ Below w.heap.size w w' := by
  have HM := Lib.hid (fun W => Mod_any n 1048576 W (by decide) (by decide))
  have h0 : 0 ≤ n % 1048576 := Int.emod_nonneg _ (by decide)
  have h1 : n % 1048576 < 1048576 := Int.emod_lt_of_pos _ (by decide)
  generalize n % 1048576 = y at *
  obtain ⟨K, rfl⟩ := Int.eq_ofNat_of_zero_le h0
  have t0 : (K : Int).tmod 3 = ((K % 3 : Nat) : Int) := rfl
  have t1 : (K : Int).tdiv 3 = ((K / 3 : Nat) : Int) := rfl
  have t2 : ((K / 3 : Nat) : Int).tmod 8 = ((K / 3 % 8 : Nat) : Int) := rfl
  have hev : evOf (K : Int) = if K % 3 = 0 then ⟨1, 0, 0, K, K, [], 0⟩ else if K % 3 = 1 then ⟨3, ((K / 3 % 8 : Nat) : Int), 0, 0, K, [], 0⟩ else ⟨6, 0, 0, K, K, [], 0⟩ := by
    unfold evOf
    have e1 : ((K : Int) % 3 = 0) ↔ K % 3 = 0 := by omega
    have e2 : ((K : Int) % 3 = 1) ↔ K % 3 = 1 := by omega
    have e3 : (K : Int) / 3 % 8 = ((K / 3 % 8 : Nat) : Int) := by omega
    simp only [e1, e2, e3]
  by_cases h3 : K % 3 = 0
  · rw [hev, if_pos h3]
    have t3 : (K : Int).tmod 3 = 0 := by rw [t0, h3]; rfl
    clear t0 t1 t2 hev
    go_enter Try.func25, Try.ntmps25
    go_wp2_with fail
    refine (HM.out _).mono ?_
    rintro e w1 ⟨rfl, rfl⟩
    go_wp2_with fail
    refine bodyPost_ret (results_cell_blk rfl _ _ w.heap.size _ _ _ rfl (Blk.new w 34 #[.int .i64 1, .int .i64 0, .int .i64 0, .int .i64 K, .int .i64 K, .string ⟨#[]⟩, .int .i64 0]) Try.underlying34 rfl (by kernel_rfl)) rfl ?_
    exact ⟨rfl, (Below.refl _ _).alloc (Nat.le_refl _) _⟩
  · rw [hev, if_neg h3]
    by_cases h4 : K % 3 = 1
    · rw [if_pos h4]
      have t3 : (K : Int).tmod 3 = 1 := by rw [t0, h4]; rfl
      clear t0 hev
      go_enter Try.func25, Try.ntmps25
      go_wp2_with fail
      refine (HM.out _).mono ?_
      rintro e w1 ⟨rfl, rfl⟩
      go_wp2_with fail
      refine bodyPost_ret (results_cell_blk rfl _ _ w.heap.size _ _ _ rfl (Blk.new w 34 #[.int .i64 3, .int .i64 ((K / 3 % 8 : Nat) : Int), .int .i64 0, .int .i64 0, .int .i64 K, .string ⟨#[]⟩, .int .i64 0]) Try.underlying34 rfl (by kernel_rfl)) rfl ?_
      exact ⟨rfl, (Below.refl _ _).alloc (Nat.le_refl _) _⟩
    · rw [if_neg h4]
      have t3 : (K : Int).tmod 3 = 2 := by rw [t0, show K % 3 = 2 by omega]; rfl
      clear t0 t1 t2 hev
      go_enter Try.func25, Try.ntmps25
      go_wp2_with fail
      refine (HM.out _).mono ?_
      rintro e w1 ⟨rfl, rfl⟩
      go_wp2_with fail
      refine bodyPost_ret (results_cell_blk rfl _ _ w.heap.size _ _ _ rfl (Blk.new w 34 #[.int .i64 6, .int .i64 0, .int .i64 0, .int .i64 K, .int .i64 K, .string ⟨#[]⟩, .int .i64 0]) Try.underlying34 rfl (by kernel_rfl)) rfl ?_
      exact ⟨rfl, (Below.refl _ _).alloc (Nat.le_refl _) _⟩
end Go.Proofs.Ytogldckkmjbohaa
