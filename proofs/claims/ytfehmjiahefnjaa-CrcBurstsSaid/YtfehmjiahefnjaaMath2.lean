/- Plain laws of CRC-32: a list of bytes as one number; k steps of the register; bursts. -/
import Derived.Test.YtfehmjiahefnjaaMath
namespace Go.Proofs.Ytfehmjiahefnjaa
def sn : Nat → Nat → Nat
  | 0, x => x
  | k + 1, x => sn k (s1 x)
theorem sn_add (a b x : Nat) : sn (a + b) x = sn b (sn a x) := by
  induction a generalizing x with
  | zero => rw [Nat.zero_add]; rfl
  | succ a ih => rw [Nat.succ_add]; exact ih (s1 x)
theorem sn_xor (k : Nat) : ∀ x y, sn k (x ^^^ y) = sn k x ^^^ sn k y := by
  induction k with
  | zero => intro x y; rfl
  | succ k ih => intro x y; show sn k (s1 (x ^^^ y)) = sn k (s1 x) ^^^ sn k (s1 y); rw [s1_xor, ih]
theorem sn_shl (k : Nat) : ∀ x, sn k (2 ^ k * x) = x := by
  induction k with
  | zero => intro x; simp [sn]
  | succ k ih => intro x; show sn k (s1 (2 ^ (k + 1) * x)) = x; rw [show 2 ^ (k + 1) * x = 2 * (2 ^ k * x) by rw [Nat.pow_succ, Nat.mul_comm (2 ^ k) 2, Nat.mul_assoc], s1_even, ih]
theorem sn_lt (k : Nat) : ∀ {x}, x < 2 ^ 32 → sn k x < 2 ^ 32 := by
  induction k with
  | zero => intro x h; exact h
  | succ k ih => intro x h; exact ih (s1_lt h)
theorem sn_inj0 (k : Nat) : ∀ {x}, x < 2 ^ 32 → sn k x = 0 → x = 0 := by
  induction k with
  | zero => intro x _ h; exact h
  | succ k ih => intro x h h0; exact s1_inj0 h (ih (s1_lt h) h0)
theorem s8_sn (x : Nat) : s8 x = sn 8 x := rfl
/-- The bytes as one number, the first byte lowest. -/
def val : List UInt8 → Nat
  | [] => 0
  | b :: l => b.toNat + 256 * val l
theorem val_cons (b : UInt8) (l : List UInt8) : val (b :: l) = 256 * val l ^^^ b.toNat := by
  have hb := b.toNat_lt
  have h := nat_split (b.toNat + 256 * val l)
  have e1 : (b.toNat + 256 * val l) / 256 = val l := by omega
  have e2 : (b.toNat + 256 * val l) % 256 = b.toNat := by omega
  rw [e1, e2] at h
  exact h
theorem val_lt : ∀ l : List UInt8, val l < 2 ^ (8 * l.length)
  | [] => by simp [val]
  | b :: l => by
    have hb := b.toNat_lt
    have := val_lt l
    rw [List.length_cons, Nat.mul_succ, Nat.pow_add]
    show b.toNat + 256 * val l < _
    omega
theorem val_inj : ∀ a b : List UInt8, a.length = b.length → val a = val b → a = b
  | [], [], _, _ => rfl
  | x :: a, y :: b, h, hv => by
    have hx := x.toNat_lt
    have hy := y.toNat_lt
    have hv' : x.toNat + 256 * val a = y.toNat + 256 * val b := hv
    rw [val_inj a b (by simpa using h) (by omega), UInt8.toNat_inj.1 (show x.toNat = y.toNat by omega)]
theorem xor_right_comm (a b c : Nat) : a ^^^ b ^^^ c = a ^^^ c ^^^ b := by rw [Nat.xor_assoc, Nat.xor_comm b c, Nat.xor_assoc]
/-- The register behind some bytes: so many steps from the state and the bytes together. -/
theorem addc_sn : ∀ (l : List UInt8) (c : Nat), addc c l = sn (8 * l.length) (c ^^^ val l)
  | [], c => by simp [addc, val, sn]
  | b :: l, c => by
    have hb := b.toNat_lt
    have e : addc c (b :: l) = addc (upd c b.toNat) l := rfl
    rw [e, addc_sn l, upd_eq _ _ hb, List.length_cons, Nat.mul_succ, Nat.add_comm, sn_add, val_cons, Nat.xor_comm (256 * val l), ← Nat.xor_assoc, ← s8_sn, s8_xor (c ^^^ b.toNat) (256 * val l), s8_shl]
theorem sn_eq {k x y : Nat} (h : sn k x = sn k y) : sn k (x ^^^ y) = 0 := by rw [sn_xor, h, Nat.xor_self]
theorem xor_cancel (r x y : Nat) : (r ^^^ x) ^^^ (r ^^^ y) = x ^^^ y := by rw [xor4, Nat.xor_self, Nat.zero_xor]
/-- Lists that differ just in the last 4 bytes have different registers. -/
theorem addc_last4 (c : Nat) (p x y : List UInt8) (hx : x.length = 4) (hy : y.length = 4) (h : addc c (p ++ x) = addc c (p ++ y)) : x = y := by
  rw [addc_append, addc_append] at h
  generalize addc c p = r at h
  rw [addc_sn, addc_sn, hx, hy] at h
  have h2 := sn_eq h
  rw [xor_cancel] at h2
  have hvx := val_lt x
  have hvy := val_lt y
  rw [hx] at hvx
  rw [hy] at hvy
  exact val_inj x y (by omega) (xor_eq_zero (sn_inj0 _ (Nat.xor_lt_two_pow hvx hvy) h2))
theorem mul_pow_xor (k x y : Nat) : 2 ^ k * (x ^^^ y) = 2 ^ k * x ^^^ 2 ^ k * y := by
  have h := Nat.shiftLeft_xor_distrib (a := x) (b := y) (i := k)
  simp only [Nat.shiftLeft_eq, Nat.mul_comm _ (2 ^ k)] at h
  exact h
theorem val_set : ∀ (l : List UInt8) (j d : Nat) (hj : j < l.length), d < 256 → val (l.set j (UInt8.ofNat (l[j].toNat ^^^ d))) = val l ^^^ 2 ^ (8 * j) * d
  | b :: l, 0, d, _, hd => by
    have hb := b.toNat_lt
    have hx : b.toNat ^^^ d < 2 ^ 8 := Nat.xor_lt_two_pow hb hd
    rw [List.getElem_cons_zero, List.set_cons_zero, val_cons, val_cons, UInt8.toNat_ofNat', Nat.mod_eq_of_lt hx, Nat.mul_zero, Nat.pow_zero, Nat.one_mul, Nat.xor_assoc]
  | b :: l, j + 1, d, hj, hd => by
    have ih := val_set l j d (by simpa using hj) hd
    rw [List.getElem_cons_succ, List.set_cons_succ, val_cons, ih, val_cons, show (256 : Nat) = 2 ^ 8 from rfl, mul_pow_xor, ← Nat.mul_assoc, ← Nat.pow_add, xor_right_comm, Nat.mul_succ, Nat.add_comm 8]
theorem val_testBit : ∀ (l : List UInt8) (k j : Nat) (hk : k < l.length), j < 8 → (val l).testBit (8 * k + j) = l[k].toNat.testBit j
  | b :: l, 0, j, _, hj => by
    rw [val_cons, List.getElem_cons_zero, Nat.testBit_xor, show (256 : Nat) = 2 ^ 8 from rfl, Nat.testBit_two_pow_mul]
    simp [show ¬ 8 ≤ j by omega]
  | b :: l, k + 1, j, hk, hj => by
    have hb := b.toNat_lt
    have ih := val_testBit l k j (by simpa using hk) hj
    rw [val_cons, List.getElem_cons_succ, Nat.testBit_xor, show (256 : Nat) = 2 ^ 8 from rfl, Nat.testBit_two_pow_mul, show 8 * (k + 1) + j - 8 = 8 * k + j by omega, ih]
    have : b.toNat.testBit (8 * (k + 1) + j) = false := Nat.testBit_lt_two_pow (Nat.lt_of_lt_of_le hb (Nat.pow_le_pow_right (by decide) (by omega)))
    simp [this, show 8 ≤ 8 * (k + 1) + j by omega]
/-- Two lists of one length, the one being the other but for a burst, have different registers. -/
theorem burst_ne (c : Nat) (a u : List UInt8) (at_ q : Nat) (hl : u.length = a.length) (hv : val u = val a ^^^ 2 ^ at_ * q) (hat : at_ < 8 * a.length) (hq : q < 2 ^ 32) (h0 : q ≠ 0) : addc c u ≠ addc c a := by
  intro h
  rw [addc_sn, addc_sn, hl, hv] at h
  have h2 := sn_eq h
  rw [xor_cancel, xor_right_comm, Nat.xor_self, Nat.zero_xor] at h2
  obtain ⟨m, hm⟩ : ∃ m, 8 * a.length = at_ + m := ⟨8 * a.length - at_, by omega⟩
  rw [hm, sn_add, sn_shl] at h2
  exact h0 (sn_inj0 _ hq h2)
theorem mod_succ (q k : Nat) : q % 2 ^ (k + 1) = q % 2 ^ k ^^^ (if q.testBit k then 2 ^ k else 0) := by
  refine Nat.eq_of_testBit_eq fun i => ?_
  rw [Nat.testBit_xor, Nat.testBit_mod_two_pow, Nat.testBit_mod_two_pow]
  by_cases hq : q.testBit k
  · rw [if_pos hq, Nat.testBit_two_pow]
    rcases Nat.lt_trichotomy i k with h | h | h
    · simp [h, show i < k + 1 by omega, show ¬ k = i by omega]
    · subst h; simp [hq]
    · simp [show ¬ i < k + 1 by omega, show ¬ i < k by omega, show ¬ k = i by omega]
  · rw [if_neg hq, Nat.zero_testBit]
    rcases Nat.lt_trichotomy i k with h | h | h
    · simp [h, show i < k + 1 by omega]
    · subst h; simpa using hq
    · simp [show ¬ i < k + 1 by omega, show ¬ i < k by omega]
end Go.Proofs.Ytfehmjiahefnjaa
