/- Plain laws of bursts: the bits of a pattern, the strings in which they are turned, what a seal says of these. -/
import Derived.Test.YtfehmjiahefnjaaW20
import Derived.Test.YtfehmjiahefnjaaMath2
namespace Go.Proofs.Ytfehmjiahefnjaa
/-- The bits of the pattern q below k, from at on. -/
def burst (at_ q k : Nat) : List Int := ((List.range k).filter fun i => q.testBit i).map fun i => ((at_ + i : Nat) : Int)
theorem burst_succ (at_ q k : Nat) : burst at_ q (k + 1) = if q.testBit k then burst at_ q k ++ [((at_ + k : Nat) : Int)] else burst at_ q k := by
  unfold burst
  rw [List.range_succ, List.filter_append, List.map_append]
  by_cases h : q.testBit k <;> simp [h]
theorem burst_len (at_ q k : Nat) : (burst at_ q k).length ≤ k := by
  unfold burst; rw [List.length_map]; exact Nat.le_trans (List.length_filter_le _ _) (by simp)
theorem burst_mem {at_ q k : Nat} {x : Int} (h : x ∈ burst at_ q k) : ∃ i, i < k ∧ x = ((at_ + i : Nat) : Int) := by
  unfold burst at h
  obtain ⟨i, hi, rfl⟩ := List.mem_map.1 h
  exact ⟨i, List.mem_range.1 (List.mem_filter.1 hi).1, rfl⟩
theorem flips_append (l : List UInt8) (a b : List Int) : flips l (a ++ b) = flips (flips l a) b := by unfold flips; rw [List.foldl_append]
theorem val_flip1 (l : List UInt8) (m : Nat) (h : m < 8 * l.length) : val (flip1 l (m : Int)) = val l ^^^ 2 ^ m := by
  have hm : m / 8 < l.length := by omega
  rw [flip1_nat l m hm, val_set l (m / 8) (2 ^ (m % 8)) hm, ← Nat.pow_add, show 8 * (m / 8) + m % 8 = m by omega]
  have : m % 8 ≤ 7 := by omega
  exact Nat.lt_of_le_of_lt (Nat.pow_le_pow_right (by decide) this) (by decide)
theorem val_burst (l : List UInt8) (at_ q : Nat) : ∀ k, at_ + k ≤ 8 * l.length → val (flips l (burst at_ q k)) = val l ^^^ 2 ^ at_ * (q % 2 ^ k)
  | 0, _ => by simp [burst, flips, Nat.mod_one]
  | k + 1, h => by
    have ih := val_burst l at_ q k (by omega)
    rw [burst_succ, mod_succ, mul_pow_xor, ← Nat.xor_assoc, ← ih]
    by_cases hq : q.testBit k
    · rw [if_pos hq, if_pos hq, flips_append]
      show val (flip1 (flips l (burst at_ q k)) ((at_ + k : Nat) : Int)) = _
      rw [val_flip1 _ _ (by rw [flips_len]; omega), Nat.pow_add]
    · rw [if_neg hq, if_neg hq, Nat.mul_zero, Nat.xor_zero]
theorem diff_val (a b : List UInt8) (hl : a.length = b.length) : ∀ k, k ≤ a.length → diffTo a b k = ((List.range (8 * k)).filter fun j => (val a ^^^ val b).testBit j).map Int.ofNat
  | 0, _ => rfl
  | k + 1, h => by
    have ih := diff_val a b hl k (by omega)
    have hk : k < a.length := by omega
    have hkb : k < b.length := by omega
    have e : diffTo a b (k + 1) = diffTo a b k ++ (bitsN ((a.getD k 0).toNat ^^^ (b.getD k 0).toNat) 8).map fun j => 8 * (k : Int) + j := rfl
    rw [e, ih, Nat.mul_succ, List.range_add, List.filter_append, List.map_append]
    congr 1
    unfold bitsN
    rw [List.filter_map, List.map_map, List.map_map]
    have hf : (List.range 8).filter (fun i => decide (((a.getD k 0).toNat ^^^ (b.getD k 0).toNat) / 2 ^ i % 2 = 1)) = (List.range 8).filter ((fun j => (val a ^^^ val b).testBit j) ∘ fun x => 8 * k + x) := by
      refine List.filter_congr fun i hi => ?_
      have hi8 : i < 8 := List.mem_range.1 hi
      show _ = (val a ^^^ val b).testBit (8 * k + i)
      rw [Nat.testBit_xor, val_testBit a k i hk hi8, val_testBit b k i hkb hi8, ← Nat.testBit_xor, Nat.testBit_eq_decide_div_mod_eq]
      simp [hk, hkb]
    rw [hf]
    refine List.map_congr_left fun i _ => ?_
    simp
/-- The bits in which a string and the one with the burst turned differ. -/
theorem diff_burst (l : List UInt8) (at_ q k : Nat) (h : at_ + k ≤ 8 * l.length) : diffTo l (flips l (burst at_ q k)) l.length = burst at_ q k := by
  rw [diff_val l _ (by rw [flips_len]) _ (Nat.le_refl _), val_burst l at_ q k h, ← Nat.xor_assoc, Nat.xor_self, Nat.zero_xor]
  obtain ⟨m, hm⟩ : ∃ m, 8 * l.length = at_ + k + m := ⟨8 * l.length - (at_ + k), by omega⟩
  have ht : ∀ j, (2 ^ at_ * (q % 2 ^ k)).testBit j = (decide (at_ ≤ j) && (decide (j - at_ < k) && q.testBit (j - at_))) := fun j => by
    rw [Nat.testBit_two_pow_mul, Nat.testBit_mod_two_pow]
  rw [hm, List.range_add, List.range_add, List.filter_append, List.filter_append, List.filter_map, List.filter_map]
  have e1 : (List.range at_).filter (fun j => (2 ^ at_ * (q % 2 ^ k)).testBit j) = [] := by
    refine List.filter_eq_nil_iff.2 fun j hj => ?_
    have := List.mem_range.1 hj
    rw [ht]
    simp [show ¬ at_ ≤ j by omega]
  have e2 : (List.range k).filter ((fun j => (2 ^ at_ * (q % 2 ^ k)).testBit j) ∘ fun x => at_ + x) = (List.range k).filter fun i => q.testBit i := by
    refine List.filter_congr fun i hi => ?_
    have := List.mem_range.1 hi
    show (2 ^ at_ * (q % 2 ^ k)).testBit (at_ + i) = _
    rw [ht, Nat.add_sub_cancel_left]
    simp [this]
  have e3 : (List.range m).filter ((fun j => (2 ^ at_ * (q % 2 ^ k)).testBit j) ∘ fun x => at_ + k + x) = [] := by
    refine List.filter_eq_nil_iff.2 fun j _ => ?_
    show ¬ (2 ^ at_ * (q % 2 ^ k)).testBit (at_ + k + j) = true
    rw [ht]
    simp [show ¬ at_ + k + j - at_ < k by omega]
  rw [e1, e2, e3]
  unfold burst
  simp
theorem fourL_num (n : Nat) (h : n < 2 ^ 32) : val (fourL n) = n := by
  simp only [fourL, val, UInt8.toNat_ofNat']
  omega
/-- The register behind a sealed string is always the same. -/
theorem seal_reg (k : Nat) (hk : ∀ c, endc c = k ^^^ c) (h32 : k < 2 ^ 32) (v : List UInt8) : addc k (v ++ fourL (endc (addc k v))) = sn 32 k := by
  rw [addc_append, addc_sn (fourL _), show (fourL (endc (addc k v))).length = 4 from rfl, fourL_num _ (by rw [hk]; exact Nat.xor_lt_two_pow h32 (addc_lt h32 v)), hk, Nat.xor_comm k, ← Nat.xor_assoc, Nat.xor_self, Nat.zero_xor]
/-- A sealed string with a burst turned is no sealed string. -/
theorem burst_bad (s : List UInt8) (at_ q k : Nat) (v : List UInt8) (hs : at_ + k ≤ 8 * (sealL s).length) (hk : 0 < k) (hk32 : k ≤ 32) (hq : q % 2 = 1) : sealL v ≠ flips (sealL s) (burst at_ q k) := by
  intro hv
  have hval := val_burst (sealL s) at_ q k hs
  have hlen := flips_len (burst at_ q k) (sealL s)
  rw [← hv] at hval hlen
  obtain ⟨K, hK, e⟩ : ∃ k, (∀ c, endc c = k ^^^ c) ∧ k = 4294967295 := ⟨4294967295, fun _ => rfl, rfl⟩
  have hK32 : K < 2 ^ 32 := by rw [e]; decide
  have h1 := seal_reg K hK hK32 v
  have h2 := seal_reg K hK hK32 s
  have hqk : q % 2 ^ k % 2 = 1 := by
    obtain ⟨j, rfl⟩ : ∃ j, k = j + 1 := ⟨k - 1, by omega⟩
    rw [Nat.pow_succ, Nat.mod_mul_left_mod]
    exact hq
  refine burst_ne K (sealL s) (sealL v) at_ (q % 2 ^ k) hlen hval (by omega) ?_ ?_ ?_
  · exact Nat.lt_of_lt_of_le (Nat.mod_lt _ (Nat.two_pow_pos k)) (Nat.pow_le_pow_right (by decide) hk32)
  · intro h0; rw [h0] at hqk; simp at hqk
  · unfold sealL crcL
    rw [← e, h1, h2]
end Go.Proofs.Ytfehmjiahefnjaa
