/- Plain law of CRC-32 on natural numbers. -/
namespace Go.Proofs.Ytfehmjiahefnjaa

def poly : Nat := 3988292384
def s1 (n : Nat) : Nat := if n % 2 = 1 then (n / 2) ^^^ 3988292384 else n / 2
def s8 (n : Nat) : Nat := s1 (s1 (s1 (s1 (s1 (s1 (s1 (s1 n)))))))
def upd (c b : Nat) : Nat := c / 256 ^^^ s8 (c % 256 ^^^ b)
def addc (c : Nat) (l : List UInt8) : Nat := l.foldl (fun c b => upd c b.toNat) c

theorem xor_mod (a b : Nat) : (a ^^^ b) % 2 = (a % 2 + b % 2) % 2 := by
  have h := Nat.testBit_xor a b 0
  simp only [Nat.testBit_zero] at h
  have e : ∀ x : Nat, decide (x % 2 = 1) = true ↔ x % 2 = 1 := by simp
  rcases Nat.mod_two_eq_zero_or_one a with ha | ha <;> rcases Nat.mod_two_eq_zero_or_one b with hb | hb <;>
    rcases Nat.mod_two_eq_zero_or_one (a ^^^ b) with hc | hc <;> simp [ha, hb, hc] at h ⊢
theorem xor_div (a b k : Nat) : (a ^^^ b) / 2 ^ k = a / 2 ^ k ^^^ b / 2 ^ k := by
  simp only [← Nat.shiftRight_eq_div_pow]
  exact Nat.shiftRight_xor_distrib
theorem xor_div2 (a b : Nat) : (a ^^^ b) / 2 = a / 2 ^^^ b / 2 := xor_div a b 1

theorem s1_xor (a b : Nat) : s1 (a ^^^ b) = s1 a ^^^ s1 b := by
  unfold s1
  rw [xor_mod, xor_div2]
  rcases Nat.mod_two_eq_zero_or_one a with ha | ha <;> rcases Nat.mod_two_eq_zero_or_one b with hb | hb <;> simp [ha, hb]
  · rw [Nat.xor_assoc]
  · rw [Nat.xor_assoc, Nat.xor_assoc, Nat.xor_comm (b/2) ]
  · rw [Nat.xor_comm (b/2), ← Nat.xor_assoc, Nat.xor_assoc (a/2), Nat.xor_self, Nat.xor_zero]
theorem s1_lt {a : Nat} (h : a < 2 ^ 32) : s1 a < 2 ^ 32 := by
  unfold s1
  split
  · exact Nat.xor_lt_two_pow (by omega) (by decide)
  · omega
theorem s8_xor (a b : Nat) : s8 (a ^^^ b) = s8 a ^^^ s8 b := by simp only [s8, s1_xor]
theorem s8_lt {a : Nat} (h : a < 2 ^ 32) : s8 a < 2 ^ 32 := by
  unfold s8
  exact s1_lt (s1_lt (s1_lt (s1_lt (s1_lt (s1_lt (s1_lt (s1_lt h)))))))
theorem s1_even (x : Nat) : s1 (2 * x) = x := by unfold s1; rw [if_neg (by omega)]; omega
theorem s8_shl (x : Nat) : s8 (256 * x) = x := by
  unfold s8
  have e : 256 * x = 2 * (2 * (2 * (2 * (2 * (2 * (2 * (2 * x))))))) := by omega
  rw [e]
  simp only [s1_even]
theorem nat_split (c : Nat) : c = 256 * (c / 256) ^^^ c % 256 := by
  refine Nat.eq_of_testBit_eq fun i => ?_
  rw [show (256 : Nat) = 2 ^ 8 from rfl, Nat.testBit_xor, Nat.testBit_mod_two_pow, Nat.testBit_two_pow_mul, Nat.testBit_div_two_pow]
  by_cases h : i < 8
  · simp [h, show ¬ 8 ≤ i by omega]
  · simp [h, show 8 ≤ i by omega]
/-- The table's step is eight steps of the register. -/
theorem upd_eq (c b : Nat) (_hb : b < 256) : upd c b = s8 (c ^^^ b) := by
  have h1 := nat_split c
  have h2 : c ^^^ b = 256 * (c / 256) ^^^ (c % 256 ^^^ b) := by
    rw [← Nat.xor_assoc, ← h1]
  rw [h2, s8_xor, s8_shl]; rfl
theorem addc_append (c : Nat) (a b : List UInt8) : addc c (a ++ b) = addc (addc c a) b := by simp [addc]
theorem addc_lt {c : Nat} (h : c < 2 ^ 32) (l : List UInt8) : addc c l < 2 ^ 32 := by
  induction l generalizing c with
  | nil => exact h
  | cons b l ih =>
    refine ih ?_
    show upd c b.toNat < 2 ^ 32
    have hb := b.toNat_lt
    rw [upd_eq _ _ hb]
    exact s8_lt (Nat.xor_lt_two_pow h (by omega))

/-- The exclusive or of two lists of bytes. -/
def xorl : List UInt8 → List UInt8 → List UInt8
  | a :: l, b :: m => (a ^^^ b) :: xorl l m
  | _, _ => []
theorem xor4 (a b c d : Nat) : (a ^^^ b) ^^^ (c ^^^ d) = (a ^^^ c) ^^^ (b ^^^ d) := by
  rw [Nat.xor_assoc, Nat.xor_assoc, ← Nat.xor_assoc b c d, Nat.xor_comm b c, Nat.xor_assoc c b d]
/-- The register is linear. -/
theorem addc_xor (l m : List UInt8) (h : l.length = m.length) : ∀ c d, addc (c ^^^ d) (xorl l m) = addc c l ^^^ addc d m := by
  induction l generalizing m with
  | nil => intro c d; cases m with
    | nil => rfl
    | cons => simp at h
  | cons a l ih => intro c d; cases m with
    | nil => simp at h
    | cons b m =>
      have e : addc (c ^^^ d) (xorl (a :: l) (b :: m)) = addc (upd (c ^^^ d) (a ^^^ b).toNat) (xorl l m) := rfl
      have e1 : addc c (a :: l) = addc (upd c a.toNat) l := rfl
      have e2 : addc d (b :: m) = addc (upd d b.toNat) m := rfl
      rw [e, e1, e2, ← ih m (by simpa using h)]
      congr 1
      have ha := a.toNat_lt
      have hb := b.toNat_lt
      rw [UInt8.toNat_xor, upd_eq _ _ (Nat.xor_lt_two_pow (n := 8) ha hb), upd_eq _ _ ha, upd_eq _ _ hb, ← s8_xor, xor4]
theorem s1_inj0 {a : Nat} (ha : a < 2 ^ 32) (h : s1 a = 0) : a = 0 := by
  unfold s1 at h
  split at h
  · have : a / 2 = 3988292384 := by
      have := congrArg (· ^^^ 3988292384) h
      simpa [Nat.xor_assoc] using this
    omega
  · omega
theorem s8_inj0 {a : Nat} (ha : a < 2 ^ 32) (h : s8 a = 0) : a = 0 := by
  unfold s8 at h
  have h1 := s1_lt ha
  have h2 := s1_lt h1
  have h3 := s1_lt h2
  have h4 := s1_lt h3
  have h5 := s1_lt h4
  have h6 := s1_lt h5
  have h7 := s1_lt h6
  exact s1_inj0 ha (s1_inj0 h1 (s1_inj0 h2 (s1_inj0 h3 (s1_inj0 h4 (s1_inj0 h5 (s1_inj0 h6 (s1_inj0 h7 h)))))))
theorem xor_eq_zero {a b : Nat} (h : a ^^^ b = 0) : a = b := by
  have := congrArg (· ^^^ b) h
  simpa [Nat.xor_assoc] using this
theorem s8_inj {a b : Nat} (ha : a < 2 ^ 32) (hb : b < 2 ^ 32) (h : s8 a = s8 b) : a = b := by
  refine xor_eq_zero (s8_inj0 (Nat.xor_lt_two_pow ha hb) ?_)
  rw [s8_xor, h, Nat.xor_self]
/-- From one state, the state behind determines the byte before the last byte .. -/
theorem upd_inj {c d a b : Nat} (hc : c < 2 ^ 32) (hd : d < 2 ^ 32) (ha : a < 256) (hb : b < 256) (h : upd c a = upd d b) : c ^^^ a = d ^^^ b := by
  rw [upd_eq _ _ ha, upd_eq _ _ hb] at h
  exact s8_inj (Nat.xor_lt_two_pow hc (by omega)) (Nat.xor_lt_two_pow hd (by omega)) h
end Go.Proofs.Ytfehmjiahefnjaa
