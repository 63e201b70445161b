/- The walk of the law CrcSeals. -/
import Derived.Test.YtfehmjiahefnjaaW15
namespace Go.Proofs.Ytfehmjiahefnjaa
open Go.RowKit
set_option maxHeartbeats 3200000 in
theorem CrcSeals_far (s t : List UInt8) (A : Option Addr) (n cap : Nat) (w : World) (hs : s.length ≤ maxLen) (ht : t.length ≤ maxLen) (hn : n ≤ maxLen)
    (h : (200 < s.length ∧ s.length ≤ 20000) ∨ 20010 < s.length ∨ (200 < t.length ∧ t.length ≤ 20000) ∨ 20010 < t.length ∨ 20 < n) :
    Calls Try.prog 4 #[.string ⟨s.toArray⟩, .string ⟨t.toArray⟩, .slice A n cap] w fun e w' => e = .returned (.bool true) ∧ Below w.heap.size w w' := by
  unfold maxLen at hs ht hn
  rcases (by omega : (200 < s.length ∧ s.length ≤ 20000) ∨ (20010 < s.length ∧ 20000 < s.length ∧ 200 < s.length) ∨ s.length ≤ 200 ∨ (200 < s.length ∧ 20000 < s.length ∧ s.length ≤ 20010)) with hq | hq | hq | hq
  · go_enter Try.func4, Try.ntmps4
    go_wp2_with (go_at_call 10; refine (awake_any _).mono ?_; rintro e w1 ⟨rfl, hb1⟩)
    go_ret
    exact ⟨rfl, hb1⟩
  · go_enter Try.func4, Try.ntmps4
    go_wp2_with (go_at_call 10; refine (awake_any _).mono ?_; rintro e w1 ⟨rfl, hb1⟩)
    go_ret
    exact ⟨rfl, hb1⟩
  all_goals
    rcases (by omega : (200 < t.length ∧ t.length ≤ 20000) ∨ (20010 < t.length ∧ 20000 < t.length ∧ 200 < t.length) ∨ (t.length ≤ 200 ∧ 20 < n) ∨ (200 < t.length ∧ 20000 < t.length ∧ t.length ≤ 20010 ∧ 20 < n)) with hr | hr | hr | hr
    all_goals
      go_enter Try.func4, Try.ntmps4
      go_wp2_with (go_at_call 10; refine (awake_any _).mono ?_; rintro e w1 ⟨rfl, hb1⟩)
      go_ret
      exact ⟨rfl, hb1⟩
end Go.Proofs.Ytfehmjiahefnjaa
