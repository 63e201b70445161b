/- Walks of tokens: the reference's bad and whole. -/
import Derived.Test.YtdndomjmnlpjgaaT6
namespace Go.Proofs.Ytdndomjmnlpjgaa
open Go.RowKit
theorem badE_cases (l : List UInt8) (n : Nat) :
    (l.length = 0 ∧ badE l n = 0) ∨ (0 < l.length ∧ 128 ≤ b0 l ∧ badE l n = 26) ∨ (0 < l.length ∧ b0 l < 128 ∧ n < b0 l ∧ badE l n = 14) ∨
    (l.length = 1 ∧ b0 l < 128 ∧ b0 l ≤ n ∧ badE l n = 0) ∨ (1 < l.length ∧ b0 l < 128 ∧ b0 l ≤ n ∧ 128 ≤ b1 l ∧ badE l n = 26) ∨
    (1 < l.length ∧ b0 l < 128 ∧ b0 l ≤ n ∧ b1 l < 128 ∧ 24 < b1 l ∧ badE l n = 4) ∨ (1 < l.length ∧ b0 l < 128 ∧ b0 l ≤ n ∧ b1 l < 128 ∧ b1 l ≤ 24 ∧ badE l n = 0) := by
  unfold badE
  by_cases h0 : 0 < l.length
  · by_cases h1 : 128 ≤ b0 l
    · exact .inr (.inl ⟨h0, h1, if_pos ⟨h0, h1⟩⟩)
    rw [if_neg (fun h => h1 h.2)]
    by_cases h2 : n < b0 l
    · exact .inr (.inr (.inl ⟨h0, by omega, h2, if_pos ⟨h0, h2⟩⟩))
    rw [if_neg (fun h => h2 h.2)]
    by_cases h3 : 1 < l.length
    · by_cases h4 : 128 ≤ b1 l
      · exact .inr (.inr (.inr (.inr (.inl ⟨h3, by omega, by omega, h4, if_pos ⟨h3, h4⟩⟩))))
      rw [if_neg (fun h => h4 h.2)]
      by_cases h5 : 24 < b1 l
      · exact .inr (.inr (.inr (.inr (.inr (.inl ⟨h3, by omega, by omega, by omega, h5, if_pos ⟨h3, h5⟩⟩)))))
      rw [if_neg (fun h => h5 h.2)]
      exact .inr (.inr (.inr (.inr (.inr (.inr ⟨h3, by omega, by omega, by omega, by omega, rfl⟩)))))
    · rw [if_neg (fun h => h3 h.1), if_neg (fun h => h3 h.1)]
      exact .inr (.inr (.inr (.inl ⟨by omega, by omega, by omega, rfl⟩)))
  · rw [if_neg (fun h => h0 h.1), if_neg (fun h => h0 h.1), if_neg (fun h => by omega), if_neg (fun h => by omega)]
    exact .inl ⟨by omega, rfl⟩
set_option maxRecDepth 100000 in
set_option maxHeartbeats 3200000 in
theorem bad_any (l : List UInt8) (n : Nat) (w : World) (hl : l.length ≤ 30000) :
    Calls Try.prog 72 #[.string ⟨l.toArray⟩, .int .i64 n] w fun e w' => e = .returned (.int .i64 (badE l n)) ∧ w = w' := by
  have hc := badE_cases l n
  have hg0 := b0_get l
  have hg1 := b1_get l
  generalize badE l n = be at *
  rcases hc with ⟨h0, rfl⟩ | ⟨h0, h1, rfl⟩ | ⟨h0, h1, h2, rfl⟩ | ⟨h0, h1, h2, rfl⟩ | ⟨h0, h1, h2, h3, rfl⟩ | ⟨h0, h1, h2, h3, h4, rfl⟩ | ⟨h0, h1, h2, h3, h4, rfl⟩
  all_goals
    first | have hx0 := hg0 (by omega) | skip
    first | have hx1 := hg1 (by omega) | skip
    clear hg0 hg1
    go_enter Try.func72, Try.ntmps72
    go_wp2
    go_ret
    exact ⟨rfl, rfl⟩
set_option maxRecDepth 100000 in
theorem whole_any (l : List UInt8) (w : World) (hl : l.length ≤ 30000) :
    Calls Try.prog 73 #[.string ⟨l.toArray⟩] w fun e w' => e = .returned (.bool (wholeB l)) ∧ w = w' := by
  by_cases h2 : 2 ≤ l.length
  · have hx1 := b1_get l (by omega)
    have hb := b1_lt l
    by_cases h3 : 2 + b1 l ≤ l.length
    · rw [show wholeB l = true by unfold wholeB; rw [decide_eq_true h2, decide_eq_true h3]; rfl]
      generalize b1 l = x at *
      go_enter Try.func73, Try.ntmps73
      go_wp2
      go_ret
      exact ⟨by show Ending.returned (.bool (decide ((2 : Int) + x ≤ l.length))) = _; rw [decide_eq_true (by omega)], rfl⟩
    · rw [show wholeB l = false by unfold wholeB; rw [decide_eq_false h3, Bool.and_false]]
      generalize b1 l = x at *
      go_enter Try.func73, Try.ntmps73
      go_wp2
      go_ret
      exact ⟨by show Ending.returned (.bool (decide ((2 : Int) + x ≤ l.length))) = _; rw [decide_eq_false (by omega)], rfl⟩
  · rw [show wholeB l = false by unfold wholeB; rw [decide_eq_false h2]; rfl]
    go_enter Try.func73, Try.ntmps73
    go_wp2
    go_ret
    exact ⟨rfl, rfl⟩
end Go.Proofs.Ytdndomjmnlpjgaa
