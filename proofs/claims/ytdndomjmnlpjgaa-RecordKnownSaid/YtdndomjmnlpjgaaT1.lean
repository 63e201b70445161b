/- Walks of tokens: ranged, counts, terminals, Check, Size (both). -/
import Derived.Test.YtdndomjmnlpjgaaKit
namespace Go.Proofs.Ytdndomjmnlpjgaa
open Go.RowKit
structure Tok where
  sym : Int
  text : List UInt8
  at_ : Int
deriving DecidableEq
def Tok.v (t : Tok) : Value := .agg #[.int .i64 t.sym, .string ⟨t.text.toArray⟩, .int .i64 t.at_]
def rangedB (n : Int) : Bool := decide (1 ≤ n) && decide (n ≤ 8)
def countsB (n : Int) : Bool := decide (0 ≤ n) && decide (n ≤ 1099511627776)
theorem ranged_any (n : Int) (w : World) : Calls Try.prog 68 #[.int .i64 n] w fun e w' => e = .returned (.bool (rangedB n)) ∧ w = w' := by
  unfold rangedB
  go_enter Try.func68, Try.ntmps68
  go_wp2
  all_goals go_ret
  · rename_i h; exact ⟨by rw [decide_eq_true h]; rfl, rfl⟩
  · rename_i h; exact ⟨by rw [decide_eq_false (show ¬ (1 : Int) ≤ n by omega)]; rfl, rfl⟩
theorem counts_any (n : Int) (w : World) : Calls Try.prog 69 #[.int .i64 n] w fun e w' => e = .returned (.bool (countsB n)) ∧ w = w' := by
  unfold countsB
  go_enter Try.func69, Try.ntmps69
  go_wp2
  all_goals go_ret
  · rename_i h; exact ⟨by rw [decide_eq_true h]; rfl, rfl⟩
  · rename_i h; exact ⟨by rw [decide_eq_false (show ¬ (0 : Int) ≤ n by omega)]; rfl, rfl⟩
theorem terminals_any (n : Int) (w : World) : Calls Try.prog 71 #[.int .i64 n] w fun e w' => e = .returned (.int .i64 (if rangedB n then 0 else 2)) ∧ w = w' := by
  by_cases h1 : n < 1
  · rw [show rangedB n = false by unfold rangedB; rw [decide_eq_false (show ¬ (1 : Int) ≤ n by omega)]; rfl]
    go_enter Try.func71, Try.ntmps71
    go_wp2
    go_ret
    exact ⟨rfl, rfl⟩
  by_cases h2 : 8 < n
  · rw [show rangedB n = false by unfold rangedB; rw [decide_eq_false (show ¬ n ≤ 8 by omega)]; simp]
    go_enter Try.func71, Try.ntmps71
    go_wp2
    go_ret
    exact ⟨rfl, rfl⟩
  · rw [show rangedB n = true by unfold rangedB; rw [decide_eq_true (show (1 : Int) ≤ n by omega), decide_eq_true (show n ≤ 8 by omega)]; rfl]
    go_enter Try.func71, Try.ntmps71
    go_wp2
    go_ret
    exact ⟨rfl, rfl⟩
/-- The error of a token. -/
def checkE (t : Tok) (n : Int) : Int :=
  if rangedB n = false then 2 else if t.sym < 0 ∨ n < t.sym then 14 else if 24 < t.text.length then 4 else if countsB t.at_ = false then 2 else 0
/-- The cases that Check tells apart, with its answer. -/
theorem checkE_cases (t : Tok) (n : Int) :
    (rangedB n = false ∧ checkE t n = 2) ∨ (rangedB n = true ∧ t.sym < 0 ∧ checkE t n = 14) ∨ (rangedB n = true ∧ ¬ t.sym < 0 ∧ n < t.sym ∧ checkE t n = 14) ∨
    (rangedB n = true ∧ ¬ t.sym < 0 ∧ ¬ n < t.sym ∧ 24 < t.text.length ∧ checkE t n = 4) ∨
    (rangedB n = true ∧ ¬ t.sym < 0 ∧ ¬ n < t.sym ∧ ¬ 24 < t.text.length ∧ countsB t.at_ = false ∧ checkE t n = 2) ∨
    (rangedB n = true ∧ ¬ t.sym < 0 ∧ ¬ n < t.sym ∧ ¬ 24 < t.text.length ∧ countsB t.at_ = true ∧ checkE t n = 0) := by
  unfold checkE
  cases rangedB n <;> cases countsB t.at_ <;> by_cases h1 : t.sym < 0 <;> by_cases h2 : n < t.sym <;> by_cases h3 : 24 < t.text.length <;> simp [h1, h2, h3]
set_option maxHeartbeats 1600000 in
theorem check_any (t : Tok) (n : Int) (w : World) (hl : t.text.length ≤ maxLen) : Calls Try.prog 36 #[t.v, .int .i64 n] w fun e w' => e = .returned (.int .i64 (checkE t n)) ∧ Below w.heap.size w w' := by
  unfold maxLen at hl
  have hB := (Below.refl w.heap.size w).alloc (Nat.le_refl _) (.cells #[.int .i64 t.sym, .string ⟨t.text.toArray⟩, .int .i64 t.at_] 41)
  have hc := checkE_cases t n
  have H1 := Lib.hid (fun W => ranged_any n W)
  have H2 := Lib.hid (fun W => counts_any t.at_ W)
  generalize checkE t n = ce at *
  generalize rangedB n = rb at *
  generalize countsB t.at_ = cb at *
  obtain ⟨s, x, a⟩ := t
  unfold Tok.v
  simp only at *
  rcases hc with ⟨rfl, rfl⟩ | ⟨rfl, h2, rfl⟩ | ⟨rfl, h2, h3, rfl⟩ | ⟨rfl, h2, h3, h4, rfl⟩ | ⟨rfl, h2, h3, h4, rfl, rfl⟩ | ⟨rfl, h2, h3, h4, rfl, rfl⟩
  all_goals
    go_enter Try.func36, Try.ntmps36
    go_wp2_with (first
      | (go_at_call 68; refine (H1.out _).mono ?_; rintro e w1 ⟨rfl, rfl⟩)
      | (go_at_call 69; refine (H2.out _).mono ?_; rintro e w1 ⟨rfl, rfl⟩))
    go_ret
    exact ⟨rfl, hB⟩
end Go.Proofs.Ytdndomjmnlpjgaa
