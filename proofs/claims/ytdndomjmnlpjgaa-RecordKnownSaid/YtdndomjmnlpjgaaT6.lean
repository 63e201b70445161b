/- Walks of tokens: the reference's Check; Size and Separates (both). -/
import Derived.Test.YtdndomjmnlpjgaaT5
namespace Go.Proofs.Ytdndomjmnlpjgaa
open Go.RowKit
set_option maxRecDepth 100000 in
set_option maxHeartbeats 3200000 in
theorem refCheck_any (t : Tok) (n : Int) (w : World) (hl : t.text.length ≤ maxLen) : Calls Try.prog 37 #[t.v, .int .i64 n] w fun e w' => e = .returned (.int .i64 (checkE t n)) ∧ Below w.heap.size w w' := by
  unfold maxLen at hl
  have hB := (Below.refl w.heap.size w).alloc (Nat.le_refl _) (.cells #[.int .i64 t.sym, .string ⟨t.text.toArray⟩, .int .i64 t.at_] 41)
  have hc := checkE_cases t n
  have H1 := fun W => terminals_any n W
  have hcb : countsB t.at_ = true ∧ 0 ≤ t.at_ ∧ t.at_ ≤ 1099511627776 ∨ countsB t.at_ = false ∧ t.at_ < 0 ∨ countsB t.at_ = false ∧ 0 ≤ t.at_ ∧ 1099511627776 < t.at_ := by
    unfold countsB
    by_cases h1 : 0 ≤ t.at_
    · by_cases h2 : t.at_ ≤ 1099511627776
      · exact .inl ⟨by simp [h1, h2], h1, h2⟩
      · exact .inr (.inr ⟨by simp [h2], h1, by omega⟩)
    · exact .inr (.inl ⟨by simp [h1], by omega⟩)
  generalize checkE t n = ce at *
  generalize rangedB n = rb at *
  generalize countsB t.at_ = cb at *
  obtain ⟨s, x, a⟩ := t
  unfold Tok.v
  simp only at *
  rcases hc with ⟨rfl, rfl⟩ | ⟨rfl, h2, rfl⟩ | ⟨rfl, h2, h3, rfl⟩ | ⟨rfl, h2, h3, h4, rfl⟩ | ⟨rfl, h2, h3, h4, rfl, rfl⟩ | ⟨rfl, h2, h3, h4, rfl, rfl⟩
  case inr.inr.inr.inr.inl =>
    have H1' := Lib.hid H1; clear H1
    rcases hcb with ⟨h, _⟩ | ⟨_, h5⟩ | ⟨_, h5, h6⟩
    · cases h
    all_goals
      go_enter Try.func37, Try.ntmps37
      go_wp2_with (go_at_call 71; refine (H1'.out _).mono ?_; rintro e w1 ⟨rfl, rfl⟩)
      go_ret
      exact ⟨rfl, hB⟩
  case inr.inr.inr.inr.inr =>
    have H1' := Lib.hid H1; clear H1
    rcases hcb with ⟨_, h5, h6⟩ | ⟨h, _⟩ | ⟨h, _⟩
    · go_enter Try.func37, Try.ntmps37
      go_wp2_with (go_at_call 71; refine (H1'.out _).mono ?_; rintro e w1 ⟨rfl, rfl⟩)
      go_ret
      exact ⟨rfl, hB⟩
    · cases h
    · cases h
  all_goals
    have H1' := Lib.hid H1; clear H1 hcb
    go_enter Try.func37, Try.ntmps37
    go_wp2_with (go_at_call 71; refine (H1'.out _).mono ?_; rintro e w1 ⟨rfl, rfl⟩)
    go_ret
    exact ⟨rfl, hB⟩
theorem size_any (t : Tok) (w : World) (hl : t.text.length ≤ 1000000000) : Calls Try.prog 34 #[t.v] w fun e w' => e = .returned (.int .i64 (2 + t.text.length)) ∧ Below w.heap.size w w' := by
  have hB := (Below.refl w.heap.size w).alloc (Nat.le_refl _) (.cells #[.int .i64 t.sym, .string ⟨t.text.toArray⟩, .int .i64 t.at_] 41)
  obtain ⟨s, x, a⟩ := t
  unfold Tok.v
  simp only at *
  go_enter Try.func34, Try.ntmps34
  go_wp2
  go_ret
  exact ⟨rfl, hB⟩
theorem refSize_any (t : Tok) (w : World) (hl : t.text.length ≤ 1000000000) : Calls Try.prog 38 #[t.v] w fun e w' => e = .returned (.int .i64 (2 + t.text.length)) ∧ Below w.heap.size w w' := by
  have hB := (Below.refl w.heap.size w).alloc (Nat.le_refl _) (.cells #[.int .i64 t.sym, .string ⟨t.text.toArray⟩, .int .i64 t.at_] 41)
  obtain ⟨s, x, a⟩ := t
  unfold Tok.v
  simp only at *
  go_enter Try.func38, Try.ntmps38
  go_wp2
  go_ret
  exact ⟨rfl, hB⟩
end Go.Proofs.Ytdndomjmnlpjgaa
