/- Plain laws of lexemes: classes of bytes, gaps, the lexeme that begins a string, all lexemes. No condition. -/
namespace Go.Proofs.Ytklfaccjbdkfhaa
/-- The class of a byte: 0 other, 1 letter, 2 digit, 3 under, 4 sign, 5 blank, 6 remark. -/
def clsN (n : Nat) : Nat :=
  if n = 61 ∨ n = 124 ∨ n = 59 ∨ n = 44 then 4
  else if (97 ≤ n ∧ n ≤ 122) ∨ (65 ≤ n ∧ n ≤ 90) then 1
  else if 48 ≤ n ∧ n ≤ 57 then 2
  else if n = 95 then 3
  else if n = 32 ∨ n = 9 ∨ n = 10 ∨ n = 13 then 5
  else if n = 35 then 6 else 0
def cl (b : UInt8) : Nat := clsN b.toNat
/-- The length of a gap; the flag: within a remark. -/
def skipF : Bool → List UInt8 → Nat
  | _, [] => 0
  | false, b :: t => if cl b = 5 then 1 + skipF false t else if cl b = 6 then 1 + skipF true t else 0
  | true, b :: t => if b = 10 then 1 + skipF false t else 1 + skipF true t
def passN (K : List Nat) : List UInt8 → Nat
  | [] => 0
  | b :: t => if cl b ∈ K then 1 + passN K t else 0
def hd : List UInt8 → Nat
  | [] => 0
  | b :: _ => cl b
/-- The kind and the length of the lexeme that begins a string; the kind is 0 if there is none. -/
def lexB (l : List UInt8) : Nat × Nat :=
  if hd l = 1 then (1, passN [1, 2, 3] l)
  else if hd l = 2 then
    if (l.head? = some 48 ∧ 1 < passN [2] l) ∨ hd (l.drop (passN [2] l)) = 1 ∨ hd (l.drop (passN [2] l)) = 3 then (0, 0) else (2, passN [2] l)
  else if hd l = 4 then (3, 1) else (0, 0)
structure Lx where
  kind : Int
  text : List UInt8
  at_ : Int
deriving DecidableEq
/-- The lexemes of a string that begins at an offset, and the fault that ends them. -/
def lexR : Nat → List UInt8 → Nat → List Lx × Nat × Nat
  | 0, _, _ => ([], 0, 0)
  | f + 1, r, o =>
    if r.drop (skipF false r) = [] then ([], 0, 0)
    else if (lexB (r.drop (skipF false r))).1 = 0 then ([], 3, o + skipF false r)
    else
      let q := lexR f ((r.drop (skipF false r)).drop (lexB (r.drop (skipF false r))).2) (o + skipF false r + (lexB (r.drop (skipF false r))).2)
      (⟨(lexB (r.drop (skipF false r))).1, (r.drop (skipF false r)).take (lexB (r.drop (skipF false r))).2, (o + skipF false r : Nat)⟩ :: q.1, q.2)
theorem skipF_le : ∀ (q : Bool) (l : List UInt8), skipF q l ≤ l.length
  | _, [] => by simp [skipF]
  | false, b :: t => by
    have h1 := skipF_le false t
    have h2 := skipF_le true t
    simp only [skipF, List.length_cons]
    split
    · omega
    · split <;> omega
  | true, b :: t => by
    have h1 := skipF_le false t
    have h2 := skipF_le true t
    simp only [skipF, List.length_cons]
    split <;> omega
theorem passN_le (K : List Nat) : ∀ l : List UInt8, passN K l ≤ l.length
  | [] => Nat.le_refl _
  | b :: t => by
    have h1 := passN_le K t
    simp only [passN, List.length_cons]
    split <;> omega
theorem passN_pos (K : List Nat) (l : List UInt8) (h : hd l ∈ K) (h0 : 0 ∉ K) : 1 ≤ passN K l := by
  cases l with
  | nil => exact absurd h h0
  | cons b t => simp only [passN]; rw [if_pos (show cl b ∈ K from h)]; omega
theorem lexB_pos (l : List UInt8) (h : (lexB l).1 ≠ 0) : 1 ≤ (lexB l).2 ∧ (lexB l).2 ≤ l.length := by
  unfold lexB at h ⊢
  by_cases h1 : hd l = 1
  · rw [if_pos h1]
    exact ⟨passN_pos _ l (by rw [h1]; decide) (by decide), passN_le _ l⟩
  · rw [if_neg h1] at h ⊢
    by_cases h2 : hd l = 2
    · rw [if_pos h2] at h ⊢
      split at h
      · exact absurd rfl h
      · rename_i h3
        rw [if_neg h3]
        exact ⟨passN_pos _ l (by rw [h2]; decide) (by decide), passN_le _ l⟩
    · rw [if_neg h2] at h ⊢
      by_cases h4 : hd l = 4
      · rw [if_pos h4]
        cases l with
        | nil => simp [hd] at h4
        | cons b t => simp
      · rw [if_neg h4] at h
        exact absurd rfl h
theorem lexB_kind (l : List UInt8) : (lexB l).1 ≤ 3 := by
  unfold lexB
  repeat' split
  all_goals simp
theorem lexR_fuel : ∀ (f g : Nat) (r : List UInt8) (o : Nat), r.length < f → r.length < g → lexR f r o = lexR g r o
  | 0, _, _, _, h, _ => absurd h (by omega)
  | _, 0, _, _, _, h => absurd h (by omega)
  | f + 1, g + 1, r, o, hf, hg => by
    simp only [lexR]
    split
    · rfl
    · rename_i h1
      split
      · rfl
      · rename_i h2
        have hp := lexB_pos _ h2
        have hl : ((r.drop (skipF false r)).drop (lexB (r.drop (skipF false r))).2).length < r.length := by
          have h3 : 0 < (r.drop (skipF false r)).length := List.length_pos_iff.2 h1
          rw [List.length_drop] at h3 hp ⊢
          rw [List.length_drop]
          omega
        rw [lexR_fuel f g _ _ (by omega) (by omega)]
def lexT (r : List UInt8) (o : Nat) : List Lx × Nat × Nat := lexR (r.length + 1) r o
theorem lexT_end {r : List UInt8} (o : Nat) (h : skipF false r = r.length) : lexT r o = ([], 0, 0) := by
  unfold lexT lexR
  rw [if_pos (by rw [h]; exact List.drop_length)]
theorem lexT_bad {r : List UInt8} (o : Nat) (h : skipF false r < r.length) (hb : (lexB (r.drop (skipF false r))).1 = 0) : lexT r o = ([], 3, o + skipF false r) := by
  unfold lexT lexR
  rw [if_neg (by intro e; have := congrArg List.length e; rw [List.length_drop] at this; simp at this; omega), if_pos hb]
theorem lexT_cons {r : List UInt8} (o : Nat) (h : skipF false r < r.length) {k n : Nat} (hb : lexB (r.drop (skipF false r)) = (k, n)) (hk : k ≠ 0) :
    lexT r o = (⟨k, (r.drop (skipF false r)).take n, (o + skipF false r : Nat)⟩ :: (lexT (r.drop (skipF false r + n)) (o + skipF false r + n)).1, (lexT (r.drop (skipF false r + n)) (o + skipF false r + n)).2) := by
  have hp := lexB_pos (r.drop (skipF false r)) (by rw [hb]; exact hk)
  have e : lexT r o = lexR (r.length + 1) r o := rfl
  rw [e]
  unfold lexR
  rw [if_neg (by intro e; have := congrArg List.length e; rw [List.length_drop] at this; simp at this; omega), hb, if_neg hk]
  simp only
  rw [hb] at hp
  rw [List.drop_drop, lexR_fuel r.length ((r.drop (skipF false r + n)).length + 1) _ _ (by rw [List.length_drop]; simp only at hp; omega) (by omega)]
  rfl
/-- What comes next behind an offset: a fault's number and place, or the lexeme. -/
inductive Nx where
  | fault (e a : Nat)
  | lex (k n f : Nat)
def nextL (s : List UInt8) (o : Nat) : Nx :=
  if o + skipF false (s.drop o) = s.length then .fault 5 (o + skipF false (s.drop o))
  else if (lexB (s.drop (o + skipF false (s.drop o)))).1 = 0 then .fault 3 (o + skipF false (s.drop o))
  else .lex (lexB (s.drop (o + skipF false (s.drop o)))).1 (lexB (s.drop (o + skipF false (s.drop o)))).2 (o + skipF false (s.drop o))
end Go.Proofs.Ytklfaccjbdkfhaa
