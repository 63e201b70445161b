/- Walks: stenotyperef02.Add, both Start, End, Of, Table. -/
import Derived.Test.YtfehmjiahefnjaaW3
namespace Go.Proofs.Ytfehmjiahefnjaa
open Go.RowKit

def strV (l : List UInt8) : Value := .string ⟨l.toArray⟩
def ofs (c : Nat) (ls : List (List UInt8)) : Nat := ls.foldl addc c
def endc (c : Nat) : Nat := 4294967295 ^^^ c
theorem endc_u32 {c : Nat} (hc : c < 4294967296) : bits .xor .u32 IntKind.u32.max (c : Int) = (endc c : Int) := u32_xor_nat 4294967295 c (by decide) hc
theorem ofs_lt {c : Nat} (h : c < 2 ^ 32) (ls : List (List UInt8)) : ofs c ls < 2 ^ 32 := by
  induction ls generalizing c with
  | nil => exact h
  | cons a ls ih => exact ih (addc_lt h a)
theorem ofs_snoc (c : Nat) (ls : List (List UInt8)) (k : Nat) (h : k < ls.length) : ofs c (ls.take (k + 1)) = addc (ofs c (ls.take k)) ls[k] := by
  unfold ofs; rw [take_snoc ls k h, List.foldl_append]; rfl
theorem refidx {m b : Nat} (hm : m < 4294967296) (hb : b < 256) : bits .and .u32 (bits .xor .u32 (m : Int) (b : Int)) 255 = ((m % 256 ^^^ b : Nat) : Int) := by
  have e := u32_xor_nat m b hm (by omega)
  rw [e]
  have h1 : m ^^^ b < 4294967296 := Nat.xor_lt_two_pow (n := 32) hm (by omega)
  have e2 := u32_and_nat (m ^^^ b) 255 h1 (by decide)
  rw [nat_mask8] at e2
  have e3 : (m ^^^ b) % 256 = m % 256 ^^^ b := by
    rw [show (256 : Nat) = 2 ^ 8 from rfl, Nat.xor_mod_two_pow, Nat.mod_eq_of_lt (show b < 2 ^ 8 from hb)]
  rw [e3] at e2
  exact e2
set_option maxHeartbeats 800000 in
theorem refAdd_any (c : Nat) (l : List UInt8) (w : World) (hc : c < 4294967296) (hl : l.length ≤ 30000) :
    Calls Try.prog 12 #[.int .u32 c, .string ⟨l.toArray⟩] w fun e w' => e = .returned (.int .u32 (addc c l)) ∧ w = w' := by
  go_enter Try.func12, Try.ntmps12
  go_wp2_with fail
  go_loop [0, 5] (fun v i => ∃ k : Nat, k ≤ l.length ∧ i = .int .i64 k ∧ v = .int .u32 (addc c (l.take k))) (fun _ i => l.length - (intOf i).toNat)
  case atStart => exact ⟨0, Nat.zero_le _, rfl, rfl⟩
  case round =>
    obtain ⟨k, hk, rfl, rfl⟩ := hrel
    have hm := addc_lt hc (l.take k)
    by_cases hlt : k < l.length
    · have HE := Lib.hid (addc_snoc c l k hlt)
      have hbl : l[k].toNat < 256 := l[k].toNat_lt
      generalize addc c (l.take k) = m at *
      have hx := refidx (m := m) (b := l[k].toNat) (by omega) (by omega)
      have hj : m % 256 ^^^ l[k].toNat < 256 := Nat.xor_lt_two_pow (n := 8) (by omega) (by omega)
      have hy := u32_xor_nat (m / 256) (s8 (m % 256 ^^^ l[k].toNat)) (by omega) (s8_lt (by omega))
      have HU := Lib.hid (show upd m l[k].toNat = m / 256 ^^^ s8 (m % 256 ^^^ l[k].toNat) from rfl)
      generalize m % 256 ^^^ l[k].toNat = j at *
      have hj8 : s8 j < 2 ^ 32 := s8_lt (by omega)
      have HT := Lib.hid (eight_any j w (by omega))
      generalize s8 j = sj at *
      have hy' : bits .xor .u32 ((m : Int) / 256) (sj : Int) = ((m / 256 ^^^ sj : Nat) : Int) := by simpa using hy
      clear hy
      generalize m / 256 ^^^ sj = r at *
      go_wp2_with (go_at_call 37; refine HT.out.mono ?_; rintro e w' ⟨rfl, rfl⟩)
      go_round
      case rel => exact ⟨k + 1, by omega, by go_num, by rw [HE.out, HU.out]⟩
      case measure => simp [intOf]; omega
    · go_wp2
      go_ret
      refine ⟨ret_int ?_, rfl⟩
      rw [List.take_of_length_le (by omega)]
theorem start_any (w : World) : Calls Try.prog 21 #[] w fun e w' => e = .returned (.int .u32 4294967295) ∧ w = w' := by
  go_enter Try.func21, Try.ntmps21
  go_wp2
  go_ret
  exact ⟨rfl, rfl⟩
theorem refStart_any (w : World) : Calls Try.prog 22 #[] w fun e w' => e = .returned (.int .u32 4294967295) ∧ w = w' := by
  go_enter Try.func22, Try.ntmps22
  go_wp2
  go_ret
  exact ⟨rfl, rfl⟩
theorem end_any (c : Nat) (w : World) (hc : c < 4294967296) : Calls Try.prog 19 #[.int .u32 c] w fun e w' => e = .returned (.int .u32 (endc c)) ∧ w = w' := by
  have hn := endc_u32 hc
  have hs : IntKind.u32.signed = false := rfl
  go_enter Try.func19, Try.ntmps19
  go_wp2
  go_ret
  exact ⟨rfl, rfl⟩
theorem refEnd_any (c : Nat) (w : World) (hc : c < 4294967296) : Calls Try.prog 20 #[.int .u32 c] w fun e w' => e = .returned (.int .u32 (endc c)) ∧ w = w' := by
  have hn := endc_u32 hc
  have hs : IntKind.u32.signed = false := rfl
  go_enter Try.func20, Try.ntmps20
  go_wp2
  go_ret
  exact ⟨rfl, rfl⟩
end Go.Proofs.Ytfehmjiahefnjaa
