/- Plain laws of lexemes: two texts, where lexemes stand, lexemes written and read again. No condition. -/
import Derived.Test.YtklfaccjbdkfhaaX1
namespace Go.Proofs.Ytklfaccjbdkfhaa
/-- The string is empty, or ends with a line feed. -/
def EndN (q : Bool) (r : List UInt8) : Prop := (r = [] ∧ q = false) ∨ r.getLast? = some 10
theorem endN_tail {q : Bool} {b : UInt8} {r : List UInt8} (h : EndN q (b :: r)) (q' : Bool) (hq : r ≠ [] ∨ q' = false) : EndN q' r := by
  cases r with
  | nil => exact .inl ⟨rfl, by simpa using hq⟩
  | cons c r =>
    refine .inr ?_
    rcases h with ⟨h, _⟩ | h
    · cases h
    · rw [List.getLast?_cons_cons] at h; exact h
theorem endN_one {q : Bool} {b : UInt8} (h : EndN q [b]) : b = 10 := by
  rcases h with ⟨h, _⟩ | h
  · cases h
  · simpa using h
theorem skip_b {b : UInt8} (t : List UInt8) (h : cl b = 5) : skipF false (b :: t) = 1 + skipF false t := by simp [skipF, h]
theorem skip_r {b : UInt8} (t : List UInt8) (h : cl b = 6) : skipF false (b :: t) = 1 + skipF true t := by simp [skipF, h]
theorem skip_o {b : UInt8} (t : List UInt8) (h5 : cl b ≠ 5) (h : cl b ≠ 6) : skipF false (b :: t) = 0 := by simp [skipF, h, h5]
theorem skip_n (t : List UInt8) : skipF true (10 :: t) = 1 + skipF false t := by simp [skipF]
theorem skip_t {b : UInt8} (t : List UInt8) (h : b ≠ 10) : skipF true (b :: t) = 1 + skipF true t := by simp [skipF, h]
theorem skipF_app : ∀ (q : Bool) (r t : List UInt8), EndN q r → skipF q (r ++ t) = if skipF q r = r.length then r.length + skipF false t else skipF q r
  | q, [], t, h => by
    rcases h with ⟨_, rfl⟩ | h
    · simp [skipF]
    · simp at h
  | false, b :: r, t, h => by
    rw [List.cons_append, List.length_cons]
    by_cases h5 : cl b = 5
    · rw [skip_b r h5, skip_b (r ++ t) h5, skipF_app false r t (endN_tail h false (.inr rfl))]
      split <;> split <;> omega
    · by_cases h6 : cl b = 6
      · have hr : r ≠ [] := by
          rintro rfl
          have := endN_one h
          subst this
          exact absurd h6 (by decide)
        rw [skip_r r h6, skip_r (r ++ t) h6, skipF_app true r t (endN_tail h true (.inl hr))]
        split <;> split <;> omega
      · rw [skip_o r h5 h6, skip_o (r ++ t) h5 h6, if_neg (by omega)]
  | true, b :: r, t, h => by
    rw [List.cons_append, List.length_cons]
    by_cases h5 : b = 10
    · subst h5
      rw [skip_n r, skip_n (r ++ t), skipF_app false r t (endN_tail h false (.inr rfl))]
      split <;> split <;> omega
    · have hr : r ≠ [] := by
        rintro rfl
        exact h5 (endN_one h)
      rw [skip_t r h5, skip_t (r ++ t) h5, skipF_app true r t (endN_tail h true (.inl hr))]
      split <;> split <;> omega
theorem passN_app (K : List Nat) : ∀ r t : List UInt8, passN K r < r.length → passN K (r ++ t) = passN K r
  | [], _, h => absurd h (by simp)
  | b :: r, t, h => by
    by_cases hb : cl b ∈ K
    · have e : ∀ u, passN K (b :: u) = 1 + passN K u := fun u => by simp [passN, hb]
      rw [e, List.length_cons] at h
      rw [List.cons_append, e, e, passN_app K r t (by omega)]
    · have e : ∀ u, passN K (b :: u) = 0 := fun u => by simp [passN, hb]
      rw [List.cons_append, e, e]
theorem passN_lt (K : List Nat) (hK : 5 ∉ K) : ∀ r : List UInt8, r.getLast? = some 10 → passN K r < r.length
  | [], h => by simp at h
  | [b], h => by
    have : b = 10 := by simpa using h
    subst this
    simp only [passN]
    rw [if_neg (by rw [show cl 10 = 5 by decide]; exact hK)]
    simp
  | b :: c :: r, h => by
    rw [List.getLast?_cons_cons] at h
    have ih := passN_lt K hK (c :: r) h
    have e : passN K (b :: c :: r) = if cl b ∈ K then 1 + passN K (c :: r) else 0 := rfl
    rw [e, List.length_cons]
    split <;> omega
theorem hd_app {r : List UInt8} (t : List UInt8) (h : r ≠ []) : hd (r ++ t) = hd r := by
  cases r with
  | nil => exact absurd rfl h
  | cons b r => rfl
theorem last_ne {r : List UInt8} (h : r.getLast? = some 10) : r ≠ [] := by rintro rfl; simp at h
theorem lexB_app (r t : List UInt8) (h : r.getLast? = some 10) : lexB (r ++ t) = lexB r ∧ ((lexB r).1 ≠ 0 → (lexB r).2 < r.length) := by
  have hne := last_ne h
  have h1 := passN_lt [1, 2, 3] (by decide) r h
  have h2 := passN_lt [2] (by decide) r h
  have e1 := passN_app [1, 2, 3] r t h1
  have e2 := passN_app [2] r t h2
  have e3 : hd ((r ++ t).drop (passN [2] r)) = hd (r.drop (passN [2] r)) := by
    rw [List.drop_append_of_le_length (by omega)]
    refine hd_app t (fun e => ?_)
    have := congrArg List.length e
    rw [List.length_drop] at this
    simp at this
    omega
  have e4 : (r ++ t).head? = r.head? := by
    cases r with
    | nil => exact absurd rfl hne
    | cons b r => rfl
  constructor
  · unfold lexB
    rw [hd_app t hne, e1, e2, e3, e4]
  · unfold lexB
    intro h0
    split at h0
    · rename_i g; rw [if_pos g]; exact h1
    · rename_i g
      split at h0
      · rename_i g2
        split at h0
        · simp at h0
        · rename_i g3
          rw [if_neg g, if_pos g2, if_neg g3]; exact h2
      · rename_i g2
        split at h0
        · rename_i g3
          rw [if_neg g, if_neg g2, if_pos g3]
          match r, h, g3 with
          | [b], h, g3 =>
            have : b = 10 := by simpa using h
            subst this
            exact absurd g3 (by decide)
          | b :: c :: r, _, _ => simp
        · simp at h0
theorem last_drop {r : List UInt8} (h : r.getLast? = some 10) {n : Nat} (hn : n < r.length) : (r.drop n).getLast? = some 10 := by
  rw [List.getLast?_drop, if_neg (by omega), h]
/-- A gap ahead of a string. -/
theorem lexT_gap (r t : List UInt8) (o : Nat) (h : skipF false (r ++ t) = r.length + skipF false t) : lexT (r ++ t) o = lexT t (o + r.length) := by
  have hle := skipF_le false t
  have e : (r ++ t).drop (r.length + skipF false t) = t.drop (skipF false t) := by rw [List.drop_append, List.drop_of_length_le (by omega)]; simp
  by_cases he : skipF false t = t.length
  · rw [lexT_end o (by rw [h, he, List.length_append]), lexT_end _ he]
  · have hlt : skipF false t < t.length := by omega
    by_cases hb : (lexB (t.drop (skipF false t))).1 = 0
    · rw [lexT_bad o (by rw [h, List.length_append]; omega) (by rw [h, e]; exact hb), lexT_bad _ hlt hb, h, Nat.add_assoc]
    · obtain ⟨k, n, hkn⟩ : ∃ k n, lexB (t.drop (skipF false t)) = (k, n) := ⟨_, _, rfl⟩
      have hk : k ≠ 0 := by rw [hkn] at hb; exact hb
      rw [lexT_cons o (by rw [h, List.length_append]; omega) (by rw [h, e]; exact hkn) hk, lexT_cons _ hlt hkn hk, h, e]
      have e2 : (r ++ t).drop (r.length + skipF false t + n) = t.drop (skipF false t + n) := by rw [Nat.add_assoc, List.drop_append, List.drop_of_length_le (by omega)]; simp
      rw [e2]
      simp only [Nat.add_assoc]
theorem lexT_app : ∀ (N : Nat) (r t : List UInt8) (o : Nat), r.length ≤ N → EndN false r →
    lexT (r ++ t) o = if (lexT r o).2.1 = 0 then ((lexT r o).1 ++ (lexT t (o + r.length)).1, (lexT t (o + r.length)).2) else ((lexT r o).1, (lexT r o).2)
  | N, r, t, o, hN, hr => by
    have hs := skipF_app false r t hr
    have hle := skipF_le false r
    by_cases he : skipF false r = r.length
    · rw [if_pos he] at hs
      rw [lexT_gap r t o hs, lexT_end o he]
      simp
    · rw [if_neg he] at hs
      have hlt : skipF false r < r.length := by omega
      have hlast : r.getLast? = some 10 := by
        rcases hr with ⟨rfl, _⟩ | h
        · simp at hlt
        · exact h
      have hl2 := last_drop hlast hlt
      have e1 : (r ++ t).drop (skipF false r) = r.drop (skipF false r) ++ t := List.drop_append_of_le_length (by omega)
      obtain ⟨hb1, hb2⟩ := lexB_app (r.drop (skipF false r)) t hl2
      by_cases hb : (lexB (r.drop (skipF false r))).1 = 0
      · rw [lexT_bad o (by rw [hs, List.length_append]; omega) (by rw [hs, e1, hb1]; exact hb), lexT_bad o hlt hb, hs]
        simp
      · obtain ⟨k, n, hkn⟩ : ∃ k n, lexB (r.drop (skipF false r)) = (k, n) := ⟨_, _, rfl⟩
        have hk : k ≠ 0 := by rw [hkn] at hb; exact hb
        have hn := hb2 hb
        have hn1 := (lexB_pos _ hb).1
        rw [hkn] at hn hn1
        simp only [List.length_drop] at hn hn1
        match N, hN with
        | N + 1, hN =>
          rw [lexT_cons o (by rw [hs, List.length_append]; omega) (by rw [hs, e1, hb1]; exact hkn) hk, lexT_cons o hlt hkn hk, hs, e1]
          have e2 : (r ++ t).drop (skipF false r + n) = r.drop (skipF false r + n) ++ t := List.drop_append_of_le_length (by omega)
          have ih := lexT_app N (r.drop (skipF false r + n)) t (o + skipF false r + n) (by rw [List.length_drop]; omega) (.inr (last_drop hlast (by omega)))
          rw [e2, ih, List.length_drop]
          have e3 : o + skipF false r + n + (r.length - (skipF false r + n)) = o + r.length := by omega
          have e4 : (r.drop (skipF false r) ++ t).take n = (r.drop (skipF false r)).take n := List.take_append_of_le_length (by rw [List.length_drop]; omega)
          rw [e3, e4]
          simp only
          split <;> simp
        | 0, hN => omega
def shL (d : Nat) (x : Lx) : Lx := ⟨x.kind, x.text, x.at_ + d⟩
theorem lexT_shift (d : Nat) : ∀ (N : Nat) (t : List UInt8) (o : Nat), t.length ≤ N →
    lexT t (o + d) = ((lexT t o).1.map (shL d), (lexT t o).2.1, if (lexT t o).2.1 = 0 then (lexT t o).2.2 else (lexT t o).2.2 + d)
  | N, t, o, hN => by
    have hle := skipF_le false t
    by_cases he : skipF false t = t.length
    · rw [lexT_end _ he, lexT_end _ he]; simp
    · have hlt : skipF false t < t.length := by omega
      by_cases hb : (lexB (t.drop (skipF false t))).1 = 0
      · rw [lexT_bad _ hlt hb, lexT_bad _ hlt hb]
        simp
        omega
      · obtain ⟨k, n, hkn⟩ : ∃ k n, lexB (t.drop (skipF false t)) = (k, n) := ⟨_, _, rfl⟩
        have hk : k ≠ 0 := by rw [hkn] at hb; exact hb
        have hn1 := (lexB_pos _ hb).1
        rw [hkn] at hn1
        simp only at hn1
        match N, hN with
        | N + 1, hN =>
          rw [lexT_cons _ hlt hkn hk, lexT_cons _ hlt hkn hk]
          have ih := lexT_shift d N (t.drop (skipF false t + n)) (o + skipF false t + n) (by rw [List.length_drop]; omega)
          rw [show o + d + skipF false t + n = o + skipF false t + n + d by omega, ih]
          simp only [List.map_cons, shL, Prod.mk.injEq, and_true, List.cons.injEq, Lx.mk.injEq, true_and]
          omega
        | 0, hN => omega
theorem lexT_err (N : Nat) : ∀ (t : List UInt8) (o : Nat), t.length ≤ N → (lexT t o).2.1 = 0 ∨ ((lexT t o).2.1 = 3 ∧ (lexT t o).2.2 < o + t.length) := by
  induction N with
  | zero => intro t o h; left; rw [lexT_end o (by have := skipF_le false t; omega)]
  | succ N ih =>
    intro t o hN
    have hle := skipF_le false t
    by_cases he : skipF false t = t.length
    · left; rw [lexT_end _ he]
    · have hlt : skipF false t < t.length := by omega
      by_cases hb : (lexB (t.drop (skipF false t))).1 = 0
      · right; rw [lexT_bad _ hlt hb]; simp; omega
      · obtain ⟨k, n, hkn⟩ : ∃ k n, lexB (t.drop (skipF false t)) = (k, n) := ⟨_, _, rfl⟩
        have hk : k ≠ 0 := by rw [hkn] at hb; exact hb
        have hn := lexB_pos _ hb
        rw [hkn, List.length_drop] at hn
        simp only at hn
        rw [lexT_cons _ hlt hkn hk]
        rcases ih (t.drop (skipF false t + n)) (o + skipF false t + n) (by rw [List.length_drop]; omega) with h | ⟨h1, h2⟩
        · exact .inl h
        · refine .inr ⟨h1, ?_⟩
          rw [List.length_drop] at h2
          simp only
          omega
/-- All lexemes of a text of at most 2,000 bytes, or the fault. -/
def lexS (s : List UInt8) : List Lx × Nat × Nat := if (lexT s 0).2.1 = 0 then ((lexT s 0).1, 0, 0) else ([], (lexT s 0).2)
theorem joins_plain (s t : List UInt8) :
    (∀ e a, e ≠ 0 → lexS (s ++ [10]) = ([], e, a) → lexS ((s ++ [10]) ++ t) = ([], e, a)) ∧
    (∀ l e a, lexS (s ++ [10]) = (l, 0, 0) → e ≠ 0 → lexS t = ([], e, a) → lexS ((s ++ [10]) ++ t) = ([], e, a + (s ++ [10]).length)) ∧
    (∀ l k, lexS (s ++ [10]) = (l, 0, 0) → lexS t = (k, 0, 0) → lexS ((s ++ [10]) ++ t) = (l ++ k.map (shL (s ++ [10]).length), 0, 0)) := by
  have H := lexT_app _ (s ++ [10]) t 0 (Nat.le_refl _) (.inr (by simp))
  have H2 := lexT_shift (s ++ [10]).length _ t 0 (Nat.le_refl _)
  rw [H2] at H
  unfold lexS
  rw [H]
  generalize (s ++ [10]).length = d at *
  generalize lexT (s ++ [10]) 0 = A at *
  generalize lexT t 0 = B at *
  obtain ⟨la, ea, aa⟩ := A
  obtain ⟨lb, eb, ab⟩ := B
  clear H H2
  simp only
  refine ⟨fun e a he h => ?_, fun l e a h he h2 => ?_, fun l k h h2 => ?_⟩
  · by_cases h0 : ea = 0
    · rw [if_pos h0] at h; cases h; exact absurd rfl he
    · rw [if_neg h0] at h; cases h; simp [h0]
  · by_cases h0 : ea = 0
    · rw [if_pos h0] at h; cases h
      by_cases h1 : eb = 0
      · rw [if_pos h1] at h2; cases h2; exact absurd rfl he
      · rw [if_neg h1] at h2; cases h2; simp [h0, h1]
    · rw [if_neg h0] at h; cases h; exact absurd rfl h0
  · by_cases h0 : ea = 0
    · rw [if_pos h0] at h; cases h
      by_cases h1 : eb = 0
      · rw [if_pos h1] at h2; cases h2; simp [h0, h1]
      · rw [if_neg h1] at h2; cases h2; exact absurd rfl h1
    · rw [if_neg h0] at h; cases h; exact absurd rfl h0
/-- Blanks and remarks alone. -/
def blankQ : Bool → List UInt8 → Bool
  | _, [] => true
  | q, b :: t => if b = 10 then blankQ false t else if b = 35 then blankQ true t else if q = false ∧ b ≠ 32 ∧ b ≠ 9 ∧ b ≠ 13 then false else blankQ q t
theorem cl5 (b : UInt8) (h : cl b = 5) : b = 10 ∨ b = 32 ∨ b = 9 ∨ b = 13 := by
  unfold cl clsN at h
  have hb : ∀ n : Nat, n < 256 → b.toNat = n → b = UInt8.ofNat n := fun n _ h => by rw [← h]; exact (UInt8.ofNat_toNat).symm
  repeat' split at h
  all_goals first
    | omega
    | (rename_i h5
       rcases h5 with h5 | h5 | h5 | h5
       · right; left; exact hb 32 (by decide) h5
       · right; right; left; exact hb 9 (by decide) h5
       · left; exact hb 10 (by decide) h5
       · right; right; right; exact hb 13 (by decide) h5)
theorem cl6 (b : UInt8) (h : cl b = 6) : b = 35 := by
  unfold cl clsN at h
  repeat' split at h
  all_goals first
    | omega
    | (rename_i h5; rw [← UInt8.ofNat_toNat (x := b), h5]; rfl)
theorem blank_skip : ∀ (q : Bool) (l : List UInt8), blankQ q (l.take (skipF q l)) = true
  | q, [] => by cases q <;> rfl
  | false, b :: t => by
    simp only [skipF]
    split
    · rename_i h
      rw [Nat.add_comm, List.take_succ_cons]
      have ih := blank_skip false t
      rcases cl5 b h with rfl | rfl | rfl | rfl <;> simp [blankQ, ih]
    · split
      · rename_i h
        rw [Nat.add_comm, List.take_succ_cons]
        have := cl6 b h
        subst this
        simp [blankQ, blank_skip true t]
      · rfl
  | true, b :: t => by
    simp only [skipF]
    split
    · rename_i h
      subst h
      rw [Nat.add_comm, List.take_succ_cons]
      simp [blankQ, blank_skip false t]
    · rename_i h
      rw [Nat.add_comm, List.take_succ_cons]
      simp only [blankQ, if_neg h, blank_skip true t]
      simp
theorem passN_take (K : List Nat) : ∀ l : List UInt8, passN K (l.take (passN K l)) = passN K l
  | [] => rfl
  | b :: t => by
    by_cases hb : cl b ∈ K
    · have e : passN K (b :: t) = 1 + passN K t := by simp only [passN]; rw [if_pos hb]
      rw [e, Nat.add_comm, List.take_succ_cons]
      simp only [passN]
      rw [if_pos hb, passN_take K t, Nat.add_comm]
    · have e : passN K (b :: t) = 0 := by simp only [passN]; rw [if_neg hb]
      rw [e]
      rfl
theorem hd_take {l : List UInt8} {n : Nat} (h : 1 ≤ n) : hd (l.take n) = hd l := by
  cases l with
  | nil => simp
  | cons b t => cases n with
    | zero => omega
    | succ n => rfl
theorem head_take {l : List UInt8} {n : Nat} (h : 1 ≤ n) : (l.take n).head? = l.head? := by
  cases l with
  | nil => simp
  | cons b t => cases n with
    | zero => omega
    | succ n => rfl
/-- A lexeme, by itself, is this lexeme. -/
theorem lexB_self {l : List UInt8} {k n : Nat} (h : lexB l = (k, n)) (hk : k ≠ 0) : lexB (l.take n) = (k, n) := by
  have hp := (lexB_pos l (by rw [h]; exact hk)).1
  rw [h] at hp
  simp only at hp
  unfold lexB at h ⊢
  rw [hd_take hp, head_take hp]
  split at h
  · rename_i g
    cases h
    rw [if_pos g, passN_take]
  · rename_i g
    rw [if_neg g]
    split at h
    · rename_i g2
      rw [if_pos g2]
      split at h
      · cases h; exact absurd rfl hk
      · rename_i g3
        cases h
        rw [passN_take, if_neg]
        rintro (g4 | g4 | g4)
        · exact g3 (.inl g4)
        · rw [List.drop_of_length_le (List.length_take_le _ _)] at g4; simp [hd] at g4
        · rw [List.drop_of_length_le (List.length_take_le _ _)] at g4; simp [hd] at g4
    · rename_i g2
      rw [if_neg g2]
      exact h
theorem passN_all (K : List Nat) : ∀ x r : List UInt8, passN K x = x.length → passN K (x ++ r) = x.length + passN K r
  | [], _, _ => by simp
  | b :: x, r, h => by
    by_cases hb : cl b ∈ K
    · have e : ∀ u, passN K (b :: u) = 1 + passN K u := fun u => by simp [passN, hb]
      rw [e, List.length_cons] at h
      rw [List.cons_append, e, passN_all K x r (by omega), List.length_cons]
      omega
    · have e : ∀ u, passN K (b :: u) = 0 := fun u => by simp [passN, hb]
      rw [e, List.length_cons] at h
      omega
/-- A lexeme with a blank or a remark behind it. -/
theorem lexB_sep {x : List UInt8} {k : Nat} (h : lexB x = (k, x.length)) (hk : k ≠ 0) (E : List UInt8) (hE : E = [] ∨ hd E = 5 ∨ hd E = 6) : lexB (x ++ E) = (k, x.length) := by
  have hx : x ≠ [] := by rintro rfl; cases h; exact hk rfl
  have hE0 : ∀ K : List Nat, 5 ∉ K → 6 ∉ K → passN K E = 0 := fun K h5 h6 => by
    cases E with
    | nil => rfl
    | cons c r =>
      simp only [passN]
      rcases hE with hE | hE | hE
      · cases hE
      · rw [if_neg (by rw [show cl c = 5 from hE]; exact h5)]
      · rw [if_neg (by rw [show cl c = 6 from hE]; exact h6)]
  have hh : (x ++ E).head? = x.head? := by
    cases x with
    | nil => exact absurd rfl hx
    | cons b r => rfl
  unfold lexB at h ⊢
  rw [hd_app E hx, hh]
  split at h
  · rename_i g
    have hn : passN [1, 2, 3] x = x.length := (Prod.mk.inj h).2
    have hk1 : 1 = k := (Prod.mk.inj h).1
    rw [if_pos g, passN_all _ x E hn, hE0 _ (by decide) (by decide), hk1]
    rfl
  · rename_i g
    rw [if_neg g]
    split at h
    · rename_i g2
      rw [if_pos g2]
      split at h
      · exact absurd (Prod.mk.inj h).1.symm hk
      · rename_i g3
        have hn : passN [2] x = x.length := (Prod.mk.inj h).2
        have hk2 : 2 = k := (Prod.mk.inj h).1
        rw [passN_all _ x E hn, hE0 _ (by decide) (by decide), Nat.add_zero, if_neg]
        · rw [hk2]
        · rintro (g4 | g4 | g4)
          · exact g3 (.inl (by rw [hn]; exact g4))
          · rw [List.drop_append_of_le_length (Nat.le_refl _), List.drop_length, List.nil_append] at g4
            rcases hE with rfl | hE | hE
            · simp [hd] at g4
            · omega
            · omega
          · rw [List.drop_append_of_le_length (Nat.le_refl _), List.drop_length, List.nil_append] at g4
            rcases hE with rfl | hE | hE
            · simp [hd] at g4
            · omega
            · omega
    · rename_i g2
      rw [if_neg g2]
      exact h
/-- Texts with a blank between them. -/
def joinT : List (List UInt8) → List UInt8
  | [] => []
  | [x] => x
  | x :: y :: l => x ++ 32 :: joinT (y :: l)
def goodL (x : Lx) : Prop := ∃ k : Nat, x.kind = k ∧ k ≠ 0 ∧ lexB x.text = (k, x.text.length)
def keyL (x : Lx) : Int × List UInt8 := (x.kind, x.text)
theorem skip_good {x : List UInt8} {k : Nat} (h : lexB x = (k, x.length)) (hk : k ≠ 0) (E : List UInt8) : skipF false (x ++ E) = 0 := by
  cases x with
  | nil => cases h; exact absurd rfl hk
  | cons b r =>
    have h5 : cl b ≠ 5 := fun e => by
      unfold lexB at h
      rw [show hd (b :: r) = 5 from e] at h
      simp at h
    have h6 : cl b ≠ 6 := fun e => by
      unfold lexB at h
      rw [show hd (b :: r) = 6 from e] at h
      simp at h
    simp only [List.cons_append, skipF]
    rw [if_neg h5, if_neg h6]
theorem lexT_one {x : List UInt8} {k : Nat} (h : lexB x = (k, x.length)) (hk : k ≠ 0) (E : List UInt8) (hE : E = [] ∨ hd E = 5 ∨ hd E = 6) (o : Nat) :
    lexT (x ++ E) o = (⟨k, x, o⟩ :: (lexT E (o + x.length)).1, (lexT E (o + x.length)).2) := by
  have hs := skip_good h hk E
  have hx : 0 < x.length := List.length_pos_iff.2 (by rintro rfl; cases h; exact hk rfl)
  rw [lexT_cons o (by rw [hs, List.length_append]; omega) (by rw [hs, List.drop_zero]; exact lexB_sep h hk E hE) hk, hs]
  simp
theorem lexT_join : ∀ (l : List Lx), (∀ x ∈ l, goodL x) → ∀ (E : List UInt8), (E = [] ∨ hd E = 5 ∨ hd E = 6) → ∀ o : Nat,
    (lexT (joinT (l.map (·.text)) ++ E) o).1.map keyL = l.map keyL ++ (lexT E (o + (joinT (l.map (·.text))).length)).1.map keyL ∧ (lexT (joinT (l.map (·.text)) ++ E) o).2 = (lexT E (o + (joinT (l.map (·.text))).length)).2
  | [], _, E, _, o => by simp [joinT]
  | [x], hg, E, hE, o => by
    obtain ⟨k, h1, h2, h3⟩ := hg x (by simp)
    simp only [List.map_cons, List.map_nil, joinT]
    rw [lexT_one h3 h2 E hE o]
    simp [keyL, h1]
  | x :: y :: l, hg, E, hE, o => by
    obtain ⟨k, h1, h2, h3⟩ := hg x (by simp)
    have ih := lexT_join (y :: l) (fun z hz => hg z (List.mem_cons_of_mem _ hz)) E hE (o + x.text.length + 1)
    simp only [List.map_cons, joinT] at ih ⊢
    generalize joinT (y.text :: l.map (·.text)) = J at *
    rw [List.append_assoc, List.cons_append, lexT_one h3 h2 (32 :: (J ++ E)) (.inr (.inl rfl)) o]
    have hg2 := lexT_gap [32] (J ++ E) (o + x.text.length) (by
      show skipF false (32 :: (J ++ E)) = _
      rw [skipF, if_pos (by decide)]
      rfl)
    rw [List.singleton_append] at hg2
    have e : o + (x.text ++ 32 :: J).length = o + x.text.length + 1 + J.length := by simp; omega
    rw [hg2, e]
    refine ⟨?_, ih.2⟩
    simp only [List.map_cons, List.cons_append, List.length_singleton]
    rw [ih.1]
    simp [keyL, h1]
end Go.Proofs.Ytklfaccjbdkfhaa
