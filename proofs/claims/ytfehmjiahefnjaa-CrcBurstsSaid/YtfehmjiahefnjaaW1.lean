/- Walks of the state's functions: crc.step, crc.table, crc.Add, stenotyperef02.eight, stenotyperef02.Add compute the plain register of YtfehmjiahefnjaaMath. -/
import Derived.Test.YtfehmjiahefnjaaKit
import Derived.Test.YtfehmjiahefnjaaMath
import Derived.Lib.Hide
namespace Go.Proofs.Ytfehmjiahefnjaa
open Go.RowKit

def s1k : Nat → Nat → Nat
  | 0, n => n
  | k+1, n => s1 (s1k k n)
theorem s1k_lt {n : Nat} (h : n < 2 ^ 32) : ∀ k, s1k k n < 2 ^ 32
  | 0 => h
  | k+1 => s1_lt (s1k_lt h k)
theorem s1k_8 (n : Nat) : s1k 8 n = s8 n := rfl
theorem and1_u32 (m : Nat) (h : m < 4294967296) : bits .and .u32 (m : Int) 1 = ((m % 2 : Nat) : Int) := by
  have e := u32_and_nat m 1 h (by decide)
  rw [nat_mask1] at e
  exact e
theorem xorP_u32 (m : Nat) (h : m < 4294967296) : bits .xor .u32 ((m : Int) / 2) 3988292384 = ((m / 2 ^^^ 3988292384 : Nat) : Int) := by
  have e := u32_xor_nat (m / 2) 3988292384 (by omega) (by decide)
  exact e
theorem s1_odd {m : Nat} (h : m < 4294967296) (t : (bits .and .u32 (m : Int) 1 == 1) = true) : bits .xor .u32 ((m : Int) / 2) 3988292384 = (s1 m : Int) := by
  rw [and1_u32 m h] at t
  have t' : ((m % 2 : Nat) : Int) = 1 := by simpa using t
  have : m % 2 = 1 := by omega
  rw [xorP_u32 m h]; unfold s1; rw [if_pos this]
theorem s1_ev {m : Nat} (h : m < 4294967296) (t : (bits .and .u32 (m : Int) 1 == 1) = false) : (m : Int) / 2 = (s1 m : Int) := by
  rw [and1_u32 m h] at t
  have : ¬ m % 2 = 1 := by
    intro e; rw [e] at t; simp at t
  unfold s1; rw [if_neg this]; rfl

set_option maxHeartbeats 400000 in
theorem step_any (n : Nat) (w : World) (hn : n < 4294967296) :
    Calls Try.prog 40 #[.int .u32 n] w fun e w' => e = .returned (.int .u32 (s8 n)) ∧ w = w' := by
  go_enter Try.func40, Try.ntmps40
  go_wp2
  go_loop [0, 4] (fun v i => ∃ k : Nat, k ≤ 8 ∧ i = .int .i64 k ∧ v = .int .u32 (s1k k n)) (fun _ i => 8 - (intOf i).toNat)
  case atStart => exact ⟨0, by omega, rfl, rfl⟩
  case round =>
    obtain ⟨k, hk, rfl, rfl⟩ := hrel
    have hm32 := s1k_lt (k := k) hn
    have hs : s1k (k + 1) n = s1 (s1k k n) := rfl
    have HE : k = 8 → s1k k n = s8 n := by rintro rfl; rfl
    generalize s1k k n = m at *
    have HS := Lib.hid hs; clear hs
    go_wp2
    · have t : (bits .and .u32 (m : Int) 1 == 1) = true := by assumption
      go_round
      case rel => exact ⟨k + 1, by omega, by go_num, by rw [HS.out, s1_odd hm32 t]⟩
      case measure => simp [intOf]; omega
    · have t : (bits .and .u32 (m : Int) 1 == 1) = false := by assumption
      go_round
      case rel => exact ⟨k + 1, by omega, by go_num, by rw [HS.out, s1_ev hm32 t]⟩
      case measure => simp [intOf]; omega
    · go_ret
      exact ⟨ret_int (by rw [HE (by omega)]), rfl⟩

set_option maxHeartbeats 400000 in
theorem eight_any (n : Nat) (w : World) (hn : n < 4294967296) :
    Calls Try.prog 37 #[.int .u32 n] w fun e w' => e = .returned (.int .u32 (s8 n)) ∧ w = w' := by
  go_enter Try.func37, Try.ntmps37
  go_wp2
  go_loop [0, 3] (fun v i => ∃ k : Nat, k ≤ 8 ∧ i = .int .i64 k ∧ v = .int .u32 (s1k k n)) (fun _ i => 8 - (intOf i).toNat)
  case atStart => exact ⟨0, by omega, rfl, rfl⟩
  case round =>
    obtain ⟨k, hk, rfl, rfl⟩ := hrel
    have hm32 := s1k_lt (k := k) hn
    have hs : s1k (k + 1) n = s1 (s1k k n) := rfl
    have HE : k = 8 → s1k k n = s8 n := by rintro rfl; rfl
    generalize s1k k n = m at *
    have HS := Lib.hid hs; clear hs
    go_wp2
    · have t : (bits .and .u32 (m : Int) 1 == 1) = true := by assumption
      go_round
      case rel => exact ⟨k + 1, by omega, by go_num, by rw [HS.out, s1_odd hm32 t]⟩
      case measure => simp [intOf]; omega
    · have t : (bits .and .u32 (m : Int) 1 == 1) = false := by assumption
      go_round
      case rel => exact ⟨k + 1, by omega, by go_num, by rw [HS.out, s1_ev hm32 t]⟩
      case measure => simp [intOf]; omega
    · go_ret
      exact ⟨ret_int (by rw [HE (by omega)]), rfl⟩
end Go.Proofs.Ytfehmjiahefnjaa
