/- Plain laws of lexemes: remarks and blanks ahead, between and behind change nothing; checks; numbers. No condition. -/
import Derived.Test.YtklfaccjbdkfhaaX2
namespace Go.Proofs.Ytklfaccjbdkfhaa
theorem skip_pre (r : List UInt8) : skipF false ([32, 35, 32, 120, 32, 61, 32, 55, 10, 9] ++ r) = 10 + skipF false r := by
  simp [skipF, cl, clsN]
  omega
theorem skip_mid (r : List UInt8) : skipF false ([35, 97, 13, 10, 10] ++ r) = 5 + skipF false r := by
  simp [skipF, cl, clsN]
  omega
theorem skip_fin : skipF false [32, 35, 32, 101, 110, 100] = 6 := by decide
theorem back_plain (l k : List Lx) (hl : ∀ x ∈ l, goodL x) (hk : ∀ x ∈ k, goodL x) :
    (lexT ((((([32, 35, 32, 120, 32, 61, 32, 55, 10, 9] ++ joinT (l.map (·.text))) ++ [35, 97, 13, 10, 10]) ++ joinT (k.map (·.text))) ++ [32, 35, 32, 101, 110, 100])) 0).1.map keyL = (l ++ k).map keyL ∧
    (lexT ((((([32, 35, 32, 120, 32, 61, 32, 55, 10, 9] ++ joinT (l.map (·.text))) ++ [35, 97, 13, 10, 10]) ++ joinT (k.map (·.text))) ++ [32, 35, 32, 101, 110, 100])) 0).2 = (0, 0) := by
  have h1 := lexT_join l hl ([35, 97, 13, 10, 10] ++ (joinT (k.map (·.text)) ++ [32, 35, 32, 101, 110, 100])) (.inr (.inr rfl)) (0 + 10)
  have g0 := lexT_gap [32, 35, 32, 120, 32, 61, 32, 55, 10, 9] (joinT (l.map (·.text)) ++ ([35, 97, 13, 10, 10] ++ (joinT (k.map (·.text)) ++ [32, 35, 32, 101, 110, 100]))) 0 (skip_pre _)
  have g1 := fun o => lexT_gap [35, 97, 13, 10, 10] (joinT (k.map (·.text)) ++ [32, 35, 32, 101, 110, 100]) o (skip_mid _)
  have h2 := fun o => lexT_join k hk [32, 35, 32, 101, 110, 100] (.inr (.inl rfl)) o
  have h3 : ∀ o, lexT [32, 35, 32, 101, 110, 100] o = ([], 0, 0) := fun o => lexT_end o skip_fin
  have e : (((([32, 35, 32, 120, 32, 61, 32, 55, 10, 9] ++ joinT (l.map (·.text))) ++ [35, 97, 13, 10, 10]) ++ joinT (k.map (·.text))) ++ [32, 35, 32, 101, 110, 100] : List UInt8)
    = [32, 35, 32, 120, 32, 61, 32, 55, 10, 9] ++ (joinT (l.map (·.text)) ++ ([35, 97, 13, 10, 10] ++ (joinT (k.map (·.text)) ++ [32, 35, 32, 101, 110, 100]))) := by simp only [List.append_assoc]
  rw [e, g0]
  simp only [List.length_cons, List.length_nil, Nat.reduceAdd] at *
  rw [h1.1, h1.2, g1, (h2 _).1, (h2 _).2, h3]
  simp
theorem join_plain (l : List Lx) (hl : ∀ x ∈ l, goodL x) : (lexT (joinT (l.map (·.text))) 0).1.map keyL = l.map keyL ∧ (lexT (joinT (l.map (·.text))) 0).2 = (0, 0) := by
  have h := lexT_join l hl [] (.inl rfl) 0
  have h3 : ∀ o, lexT [] o = ([], 0, 0) := fun o => lexT_end o rfl
  rw [List.append_nil, h3] at h
  simpa using h
/-- The error of a lexeme. -/
def checkL (x : Lx) : Int := if x.kind < 1 ∨ 3 < x.kind then 11 else if lexB x.text ≠ (x.kind.toNat, x.text.length) then 3 else if x.at_ < 0 then 2 else 0
/-- The value of digits, as long as it is an int. -/
def numF : List UInt8 → Nat → Option Nat
  | [], n => some n
  | b :: t, n => if (9223372036854775807 - (b - 48).toNat) / 10 < n then none else numF t (10 * n + (b - 48).toNat)
theorem numF_le : ∀ (l : List UInt8) (n m : Nat), n ≤ 9223372036854775807 → numF l n = some m → m ≤ 9223372036854775807
  | [], n, m, hn, h => by simp only [numF] at h; cases h; exact hn
  | b :: t, n, m, hn, h => by
    simp only [numF] at h
    split at h
    · cases h
    · refine numF_le t _ m ?_ h
      have hb : (b - 48).toNat < 256 := UInt8.toNat_lt _
      omega
def numL (x : Lx) (least most : Int) : Int × Int :=
  if checkL x ≠ 0 then (0, checkL x) else if x.kind ≠ 2 then (0, 11) else
  match numF x.text 0 with
  | none => (0, 2)
  | some n => if (n : Int) < least ∨ most < n then (0, 2) else (n, 0)
theorem skip_split : ∀ l : List UInt8, skipF false l = passN [5] l + skipF false (l.drop (passN [5] l))
  | [] => rfl
  | b :: t => by
    by_cases h : cl b = 5
    · have e : passN [5] (b :: t) = 1 + passN [5] t := by simp [passN, h]
      rw [e, skip_b t h, Nat.add_comm 1 (passN [5] t), List.drop_succ_cons]
      have := skip_split t
      omega
    · have e : passN [5] (b :: t) = 0 := by simp [passN, h]
      rw [e]
      simp
theorem hd_pass (K : List Nat) (h0 : 0 ∉ K) : ∀ l : List UInt8, hd (l.drop (passN K l)) ∉ K
  | [] => h0
  | b :: t => by
    by_cases h : cl b ∈ K
    · have e : passN K (b :: t) = 1 + passN K t := by simp [passN, h]
      rw [e, Nat.add_comm, List.drop_succ_cons]
      exact hd_pass K h0 t
    · have e : passN K (b :: t) = 0 := by simp [passN, h]
      rw [e]
      exact h
theorem skip_zero (l : List UInt8) (h5 : hd l ≠ 5) (h6 : hd l ≠ 6) : skipF false l = 0 := by
  cases l with
  | nil => rfl
  | cons b t => exact skip_o t h5 h6
theorem skip_rem (l : List UInt8) (h6 : hd l = 6) : skipF true l = skipF false l := by
  cases l with
  | nil => rfl
  | cons b t =>
    have hb := cl6 b h6
    subst hb
    rw [skip_t t (by decide), skip_r t h6]
theorem skip_end (l : List UInt8) (h : l.head? = some 10) : skipF true l = skipF false l := by
  cases l with
  | nil => rfl
  | cons b t =>
    have hb : b = 10 := by simpa using h
    subst hb
    rw [skip_n, skip_b t (by decide)]
end Go.Proofs.Ytklfaccjbdkfhaa
