/- Plain laws: what comes next, again and again, is what the lexemes are. No condition. -/
import Derived.Test.YtklfaccjbdkfhaaX7
import Derived.Test.YtklfaccjbdkfhaaLx
namespace Go.Proofs.Ytklfaccjbdkfhaa
open Go.RowKit
def seqR (s : List UInt8) : Nat → Nat → List Nx
  | 0, _ => []
  | f + 1, o => match nextL s o with
    | .fault e a => [.fault e a]
    | .lex k n g => .lex k n g :: seqR s f (g + n)
def toLx (s : List UInt8) : Nx → Lx
  | .fault _ _ => ⟨0, [], 0⟩
  | .lex k n f => ⟨k, (s.drop f).take n, f⟩
def isLex : Nx → Bool
  | .fault e _ => e == 0
  | .lex _ _ _ => true
theorem nextL_cases (s : List UInt8) (o : Nat) (ho : o ≤ s.length) :
    (nextL s o = .fault 5 s.length ∧ lexT (s.drop o) o = ([], 0, 0)) ∨
    (∃ a, nextL s o = .fault 3 a ∧ a < s.length ∧ lexT (s.drop o) o = ([], 3, a)) ∨
    (∃ k n f, nextL s o = .lex k n f ∧ o ≤ f ∧ 1 ≤ n ∧ f + n ≤ s.length ∧ 1 ≤ k ∧ k ≤ 3 ∧ lexB (s.drop f) = (k, n) ∧ f = o + skipF false (s.drop o) ∧
      lexT (s.drop o) o = (⟨k, (s.drop f).take n, f⟩ :: (lexT (s.drop (f + n)) (f + n)).1, (lexT (s.drop (f + n)) (f + n)).2)) := by
  have hle := skipF_le false (s.drop o)
  rw [List.length_drop] at hle
  by_cases h1 : o + skipF false (s.drop o) = s.length
  · exact .inl ⟨next_fin h1, lexT_end o (by rw [List.length_drop]; omega)⟩
  · have hlt : skipF false (s.drop o) < (s.drop o).length := by rw [List.length_drop]; omega
    have hd : (s.drop o).drop (skipF false (s.drop o)) = s.drop (o + skipF false (s.drop o)) := List.drop_drop ..
    by_cases h2 : (lexB (s.drop (o + skipF false (s.drop o)))).1 = 0
    · exact .inr (.inl ⟨_, next_bad rfl h1 h2, by omega, lexT_bad o hlt (by rw [hd]; exact h2)⟩)
    · obtain ⟨k, n, hkn⟩ : ∃ k n, lexB (s.drop (o + skipF false (s.drop o))) = (k, n) := ⟨_, _, rfl⟩
      have hk : k ≠ 0 := by rw [hkn] at h2; exact h2
      have hp := lexB_pos _ h2
      have hk3 := lexB_kind (s.drop (o + skipF false (s.drop o)))
      rw [hkn, List.length_drop] at hp
      rw [hkn] at hk3
      simp only at hp hk3
      refine .inr (.inr ⟨k, n, _, next_lex rfl h1 hkn hk, by omega, hp.1, by omega, by omega, hk3, hkn, rfl, ?_⟩)
      have h := lexT_cons o hlt (by rw [hd]; exact hkn) hk
      rw [h, hd, List.drop_drop, Nat.add_assoc o]
theorem seqR_fault (s : List UInt8) : ∀ (f o : Nat), o ≤ s.length → s.length - o < f → ¬ ∀ x ∈ seqR s f o, isLex x = true
  | 0, _, _, h => absurd h (by omega)
  | f + 1, o, ho, h => by
    unfold seqR
    rcases nextL_cases s o ho with ⟨e, _⟩ | ⟨a, e, _⟩ | ⟨k, n, g, e, h1, h2, h3, _⟩
    · rw [e]; intro H; exact absurd (H (.fault 5 s.length) (List.mem_singleton.2 rfl)) (by simp [isLex])
    · rw [e]; intro H; exact absurd (H (.fault 3 a) (List.mem_singleton.2 rfl)) (by simp [isLex])
    · rw [e]
      intro H
      exact seqR_fault s f (g + n) h3 (by omega) (fun x hx => H x (List.mem_cons_of_mem _ hx))
theorem seqR_lexT (s : List UInt8) : ∀ (f o : Nat) (pre rest : List Nx) (e a : Nat), o ≤ s.length → (∀ x ∈ pre, isLex x = true) → pre ++ .fault e a :: rest = seqR s f o →
    (e = 5 ∧ lexT (s.drop o) o = (pre.map (toLx s), 0, 0)) ∨ (e = 3 ∧ a < s.length ∧ lexT (s.drop o) o = (pre.map (toLx s), 3, a))
  | 0, _, pre, rest, e, a, _, _, h => by
    have := congrArg List.length h
    simp [seqR] at this
  | f + 1, o, pre, rest, e, a, ho, hl, h => by
    unfold seqR at h
    rcases nextL_cases s o ho with ⟨e1, e2⟩ | ⟨b, e1, hb, e2⟩ | ⟨k, n, g, e1, h1, h2, h3, _, _, _, _, e2⟩
    · rw [e1] at h
      cases pre with
      | nil => cases h; exact .inl ⟨rfl, e2⟩
      | cons x pre =>
        injection h with hx hy
        exact absurd hy (by simp)
    · rw [e1] at h
      cases pre with
      | nil => cases h; exact .inr ⟨rfl, hb, e2⟩
      | cons x pre =>
        injection h with hx hy
        exact absurd hy (by simp)
    · rw [e1] at h
      cases pre with
      | nil => injection h with hx; cases hx
      | cons x pre =>
        injection h with hx hy
        subst hx
        rcases seqR_lexT s f (g + n) pre rest e a h3 (fun x hx => hl x (List.mem_cons_of_mem _ hx)) hy with ⟨q1, q2⟩ | ⟨q1, q2, q3⟩
        · exact .inl ⟨q1, by rw [e2, q2]; rfl⟩
        · exact .inr ⟨q1, q2, by rw [e2, q3]; rfl⟩
theorem lexS_of (s : List UInt8) (f : Nat) (pre rest : List Nx) (e a : Nat) (hl : ∀ x ∈ pre, isLex x = true) (h : pre ++ .fault e a :: rest = seqR s f 0) :
    (e = 5 ∧ lexS s = (pre.map (toLx s), 0, 0)) ∨ (e = 3 ∧ a < s.length ∧ lexS s = ([], 3, a)) := by
  rcases seqR_lexT s f 0 pre rest e a (Nat.zero_le _) hl h with ⟨q1, q2⟩ | ⟨q1, q2, q3⟩
  · rw [List.drop_zero] at q2
    exact .inl ⟨q1, by unfold lexS; rw [q2]; rfl⟩
  · rw [List.drop_zero] at q3
    exact .inr ⟨q1, q2, by unfold lexS; rw [q3]; rfl⟩
end Go.Proofs.Ytklfaccjbdkfhaa
