/- Walks of tokens: Separates and Begins (both). -/
import Derived.Test.YtdndomjmnlpjgaaT7
namespace Go.Proofs.Ytdndomjmnlpjgaa
open Go.RowKit
def sepB (t : Tok) (n : Int) : Bool := decide (checkE t n = 0) && decide (t.sym = n)
set_option maxRecDepth 100000 in
set_option maxHeartbeats 3200000 in
theorem separates_any (t : Tok) (n : Int) (w : World) (hl : t.text.length ≤ maxLen) : Calls Try.prog 39 #[t.v, .int .i64 n] w fun e w' => e = .returned (.bool (sepB t n)) ∧ Below w.heap.size w w' := by
  have hb := Blk.new w 41 #[.int .i64 t.sym, .string ⟨t.text.toArray⟩, .int .i64 t.at_]
  have hB := (Below.refl w.heap.size w).alloc (Nat.le_refl _) (.cells #[.int .i64 t.sym, .string ⟨t.text.toArray⟩, .int .i64 t.at_] 41)
  have H1 := Lib.hid (fun W => check_any t n W hl)
  unfold sepB
  unfold Tok.v at *
  generalize checkE t n = ce at *
  clear hl
  obtain ⟨s, x, a⟩ := t
  simp only at *
  have hcs : ce = 0 ∧ s = n ∨ ce = 0 ∧ s ≠ n ∨ ce ≠ 0 := by by_cases h : ce = 0 <;> by_cases h2 : s = n <;> simp [h, h2]
  rcases hcs with ⟨rfl, rfl⟩ | ⟨rfl, h2⟩ | h1
  · rw [decide_eq_true rfl, decide_eq_true rfl]
    go_enter Try.func39, Try.ntmps39
    go_wp2_with (go_at_call 36; refine (H1.out _).mono ?_; rintro e w1 ⟨rfl, hb1⟩; obtain ⟨c0, c1, c2, f0, f1, f2⟩ := cells3 (hb.below hb1 (by simp)))
    go_ret
    exact ⟨rfl, hB.trans (hb1.mono (by simp))⟩
  · rw [decide_eq_true rfl, decide_eq_false h2]
    go_enter Try.func39, Try.ntmps39
    go_wp2_with (go_at_call 36; refine (H1.out _).mono ?_; rintro e w1 ⟨rfl, hb1⟩; obtain ⟨c0, c1, c2, f0, f1, f2⟩ := cells3 (hb.below hb1 (by simp)))
    go_ret
    exact ⟨by show Ending.returned (.bool (s == n)) = _; rw [beq_eq_false_iff_ne.2 h2]; rfl, hB.trans (hb1.mono (by simp))⟩
  · rw [decide_eq_false h1]
    go_enter Try.func39, Try.ntmps39
    go_wp2_with (go_at_call 36; refine (H1.out _).mono ?_; rintro e w1 ⟨rfl, hb1⟩; obtain ⟨c0, c1, c2, f0, f1, f2⟩ := cells3 (hb.below hb1 (by simp)))
    go_ret
    exact ⟨rfl, hB.trans (hb1.mono (by simp))⟩
set_option maxRecDepth 100000 in
set_option maxHeartbeats 3200000 in
theorem refSeparates_any (t : Tok) (n : Int) (w : World) (hl : t.text.length ≤ maxLen) : Calls Try.prog 40 #[t.v, .int .i64 n] w fun e w' => e = .returned (.bool (sepB t n)) ∧ Below w.heap.size w w' := by
  have hb := Blk.new w 41 #[.int .i64 t.sym, .string ⟨t.text.toArray⟩, .int .i64 t.at_]
  have hB := (Below.refl w.heap.size w).alloc (Nat.le_refl _) (.cells #[.int .i64 t.sym, .string ⟨t.text.toArray⟩, .int .i64 t.at_] 41)
  have H1 := Lib.hid (fun W => refCheck_any t n W hl)
  unfold sepB
  unfold Tok.v at *
  generalize checkE t n = ce at *
  clear hl
  obtain ⟨s, x, a⟩ := t
  simp only at *
  have hcs : ce = 0 ∧ s = n ∨ ce = 0 ∧ s ≠ n ∨ ce ≠ 0 := by by_cases h : ce = 0 <;> by_cases h2 : s = n <;> simp [h, h2]
  rcases hcs with ⟨rfl, rfl⟩ | ⟨rfl, h2⟩ | h1
  · rw [decide_eq_true rfl, decide_eq_true rfl]
    go_enter Try.func40, Try.ntmps40
    go_wp2_with (go_at_call 37; refine (H1.out _).mono ?_; rintro e w1 ⟨rfl, hb1⟩; obtain ⟨c0, c1, c2, f0, f1, f2⟩ := cells3 (hb.below hb1 (by simp)))
    go_ret
    exact ⟨rfl, hB.trans (hb1.mono (by simp))⟩
  · rw [decide_eq_true rfl, decide_eq_false h2]
    go_enter Try.func40, Try.ntmps40
    go_wp2_with (go_at_call 37; refine (H1.out _).mono ?_; rintro e w1 ⟨rfl, hb1⟩; obtain ⟨c0, c1, c2, f0, f1, f2⟩ := cells3 (hb.below hb1 (by simp)))
    go_ret
    exact ⟨by show Ending.returned (.bool (s == n)) = _; rw [beq_eq_false_iff_ne.2 h2]; rfl, hB.trans (hb1.mono (by simp))⟩
  · rw [decide_eq_false h1]
    go_enter Try.func40, Try.ntmps40
    go_wp2_with (go_at_call 37; refine (H1.out _).mono ?_; rintro e w1 ⟨rfl, hb1⟩; obtain ⟨c0, c1, c2, f0, f1, f2⟩ := cells3 (hb.below hb1 (by simp)))
    go_ret
    exact ⟨rfl, hB.trans (hb1.mono (by simp))⟩
/-- The error of Begins, and its answer. -/
def begE (l : List UInt8) (n : Int) : Int := if rangedB n = false then 2 else badE l n.toNat
def begB (l : List UInt8) (n : Int) : Bool := decide (begE l n = 0) && !wholeB l
theorem beg_cases (l : List UInt8) (n : Int) : (rangedB n = false ∧ begE l n = 2 ∧ begB l n = false) ∨
    (∃ m : Nat, n = m ∧ m ≤ 8 ∧ rangedB n = true ∧ ((badE l m ≠ 0 ∧ begE l n = badE l m ∧ begB l n = false) ∨ (badE l m = 0 ∧ begE l n = 0 ∧ wholeB l = false ∧ begB l n = true) ∨ (badE l m = 0 ∧ begE l n = 0 ∧ wholeB l = true ∧ begB l n = false))) := by
  unfold begB begE
  cases hr : rangedB n
  · exact .inl ⟨rfl, rfl, rfl⟩
  · right
    unfold rangedB at hr
    simp at hr
    refine ⟨n.toNat, by omega, by omega, rfl, ?_⟩
    rw [if_neg (by decide)]
    by_cases h : badE l n.toNat = 0
    · rw [h]
      cases wholeB l
      · exact .inr (.inl ⟨rfl, rfl, rfl, rfl⟩)
      · exact .inr (.inr ⟨rfl, rfl, rfl, rfl⟩)
    · exact .inl ⟨h, rfl, by rw [decide_eq_false h]; rfl⟩
set_option maxRecDepth 100000 in
set_option maxHeartbeats 3200000 in
theorem refBegins_any (l : List UInt8) (n : Int) (w : World) (hl : l.length ≤ 30000) :
    Calls Try.prog 43 #[.string ⟨l.toArray⟩, .int .i64 n] w fun e w' => e = .returned (.tuple #[.bool (begB l n), .int .i64 (begE l n)]) ∧ w = w' := by
  have hc := beg_cases l n
  have H0 := Lib.hid (fun W => terminals_any n W)
  generalize begE l n = ee at *
  generalize begB l n = eb at *
  rcases hc with ⟨h1, rfl, rfl⟩ | ⟨m, rfl, hm, h1, hc⟩
  · rw [h1] at H0
    clear h1
    go_enter Try.func43, Try.ntmps43
    go_wp2_with (go_at_call 71; refine (H0.out _).mono ?_; rintro e w1 ⟨rfl, rfl⟩)
    go_ret2
    exact ⟨rfl, rfl⟩
  · rw [h1] at H0
    clear h1
    have H1 := Lib.hid (fun W => bad_any l m W hl)
    have H2 := Lib.hid (fun W => whole_any l W hl)
    generalize badE l m = be at *
    generalize wholeB l = wb at *
    rcases hc with ⟨h2, rfl, rfl⟩ | ⟨rfl, rfl, rfl, rfl⟩ | ⟨rfl, rfl, rfl, rfl⟩
    all_goals
      go_enter Try.func43, Try.ntmps43
      go_wp2_with (first
        | (go_at_call 71; refine (H0.out _).mono ?_; rintro e w1 ⟨rfl, rfl⟩)
        | (go_at_call 72; refine (H1.out _).mono ?_; rintro e w1 ⟨rfl, rfl⟩)
        | (go_at_call 73; refine (H2.out _).mono ?_; rintro e w1 ⟨rfl, rfl⟩))
      go_ret2
      exact ⟨rfl, rfl⟩
set_option maxRecDepth 100000 in
set_option maxHeartbeats 3200000 in
theorem begins_any (l : List UInt8) (n : Int) (w : World) (hl : l.length ≤ 30000) :
    Calls Try.prog 42 #[.string ⟨l.toArray⟩, .int .i64 n] w fun e w' => e = .returned (.tuple #[.bool (begB l n), .int .i64 (begE l n)]) ∧ Below w.heap.size w w' := by
  have hc := beg_cases l n
  have H0 := Lib.hid (fun W => ranged_any n W)
  generalize begE l n = ee at *
  generalize begB l n = eb at *
  rcases hc with ⟨h1, rfl, rfl⟩ | ⟨m, rfl, hm, h1, hc⟩
  · rw [h1] at H0
    clear h1
    go_enter Try.func42, Try.ntmps42
    go_wp2_with (go_at_call 68; refine (H0.out _).mono ?_; rintro e w1 ⟨rfl, rfl⟩)
    go_ret2
    exact ⟨rfl, Below.refl _ _⟩
  · rw [h1] at H0
    clear h1
    have HR := Lib.hid (fun W => read_any l m W hl)
    unfold readPost at HR
    generalize badE l m = be at *
    generalize hw : wholeB l = wb at *
    rcases hc with ⟨h2, rfl, rfl⟩ | ⟨rfl, rfl, rfl, rfl⟩ | ⟨rfl, rfl, rfl, rfl⟩
    · go_enter Try.func42, Try.ntmps42
      go_wp2_with (first
        | (go_at_call 68; refine (H0.out _).mono ?_; rintro e w1 ⟨rfl, rfl⟩)
        | (go_at_call 70; refine (HR.out _).mono ?_; rintro e w3 ⟨idx, rfl, hb3, _⟩))
      go_ret2
      exact ⟨rfl, hb3⟩
    · go_enter Try.func42, Try.ntmps42
      go_wp2_with (go_at_call 68; refine (H0.out _).mono ?_; rintro e w1 ⟨rfl, rfl⟩)
      refine (HR.out _).mono ?_
      rintro e w3 ⟨idx, rfl, hb3, hrd⟩
      obtain ⟨st, left, sy, tx, hb5, hw1, hw2⟩ := hrd (by first | trivial | rfl)
      obtain ⟨q0, q1, q2, q3, q4, _, _, _, _, j4⟩ := rd_cells hb5
      clear hb5 hw1 hrd
      rcases hw2 (by first | trivial | rfl) with rfl | rfl | rfl
      all_goals
        clear hw2
        go_wp2_with fail
        go_ret2
        exact ⟨rfl, hb3⟩
    · go_enter Try.func42, Try.ntmps42
      go_wp2_with (go_at_call 68; refine (H0.out _).mono ?_; rintro e w1 ⟨rfl, rfl⟩)
      refine (HR.out _).mono ?_
      rintro e w3 ⟨idx, rfl, hb3, hrd⟩
      obtain ⟨st, left, sy, tx, hb5, hw1, hw2⟩ := hrd (by first | trivial | rfl)
      obtain ⟨q0, q1, q2, q3, q4, _, _, _, _, j4⟩ := rd_cells hb5
      clear hb5 hw2 hrd
      obtain ⟨rfl, _, _, _⟩ := hw1 (by first | trivial | rfl)
      clear hw1
      go_wp2_with fail
      go_ret2
      exact ⟨rfl, hb3⟩
end Go.Proofs.Ytdndomjmnlpjgaa
