/- The reference's events: fields, has, counted, symbolic, erring. No condition. -/
import Derived.Test.YtogldckkmjbohaaQ18
namespace Go.Proofs.Ytogldckkmjbohaa
open Go.RowKit
def rflds (k : Int) : List Int := if k = 1 then [1, 2] else if k = 2 then [3, 4, 2] else if k = 3 then [3, 5, 2] else if k = 4 then [3, 4] else if k = 5 then [3, 6, 2] else if k = 6 then [1, 6, 2] else [6, 2]
set_option maxRecDepth 100000 in
theorem rfields_ok (k : Int) (w : World) (h : 1 ≤ k ∧ k ≤ 7) :
    Calls Try.prog 50 #[.int .i64 k] w fun e w' => e = .returned (.slice (some ⟨w.heap.size, 0, none⟩) (rflds k).length (rflds k).length) ∧ w' = w.alloc (.cells ((rflds k).map intV).toArray 3) := by
  rcases kinds k h with rfl | rfl | rfl | rfl | rfl | rfl | rfl
  all_goals
    go_enter Try.func50, Try.ntmps50
    go_wp2_with fail
    go_ret
    exact ⟨rfl, rfl⟩
theorem rflds_len (k : Int) : (rflds k).length ≤ 3 ∧ 2 ≤ (rflds k).length := by
  unfold rflds
  repeat' split
  all_goals simp
set_option maxRecDepth 100000 in
set_option maxHeartbeats 1600000 in
theorem has_any (k f : Int) (w : World) (h : 1 ≤ k ∧ k ≤ 7) :
    Calls Try.prog 43 #[.int .i64 k, .int .i64 f] w fun e w' => e = .returned (.bool ((rflds k).contains f)) ∧ Below w.heap.size w w' := by
  have HF := Lib.hid (rfields_ok k w h)
  have hl := (rflds_len k).1
  have hB := (Below.refl w.heap.size w).alloc (Nat.le_refl _) (.cells ((rflds k).map intV).toArray 3)
  have hS := sl_blk1 (Blk.new w 3 ((rflds k).map intV).toArray) (by simp only [maxLen]; omega)
  generalize rflds k = l at *
  obtain ⟨R, hR⟩ : ∃ R, l.contains f = R := ⟨_, rfl⟩
  rw [hR]
  have HRR := Lib.hid hR
  clear hR
  have HB := Lib.hid hB
  have HS := Lib.hid hS
  clear hB hS
  go_enter Try.func43, Try.ntmps43
  go_wp2_with fail
  refine HF.out.mono ?_
  rintro e w1 ⟨rfl, hw1⟩
  rw [← hw1] at HB HS
  clear hw1 HF
  go_wp2_with fail
  go_loopw [6] (fun v W => W = w1 ∧ ∃ j : Nat, j ≤ l.length ∧ v = .int .i64 j ∧ R = (l.drop j).contains f) (fun v _ => l.length - (intOf v).toNat)
  case atStart => exact ⟨rfl, 0, Nat.zero_le _, rfl, HRR.out.symm⟩
  case round =>
    obtain ⟨rfl, j, hj, rfl, hc⟩ := hrel
    by_cases hlt : j < l.length
    · obtain ⟨b, o, e, hb, c0⟩ := sl_int HS.out hlt
      injection e with e
      injection e with e1 e2
      subst e1 e2
      simp only [Nat.zero_add] at c0
      rw [contains_drop l f j hlt] at hc
      generalize l[j] = y at *
      by_cases hxy : f = y
      · subst hxy
        have HC := Lib.hid hc
        clear hc
        go_wp2_with fail
        go_ret
        exact ⟨by rw [HC.out]; simp, HB.out⟩
      · have hb2 : (f == y) = false := by simpa using hxy
        have hb3 : (y == f) = false := by simpa using fun h => hxy h.symm
        rw [hb2, Bool.false_or] at hc
        have HC := Lib.hid hc
        clear hc hxy
        go_wp2_with fail
        go_roundw
        case rel => exact ⟨trivial, j + 1, by omega, by go_num, HC.out⟩
        case measure => simp [intOf]; omega
    · obtain rfl : j = l.length := by omega
      rw [List.drop_length] at hc
      have HC := Lib.hid hc
      clear hc
      go_wp2_with fail
      go_ret
      exact ⟨by rw [HC.out]; simp, HB.out⟩
set_option maxRecDepth 100000 in
theorem rcounted_any (n : Int) (w : World) : Calls Try.prog 44 #[.int .i64 n] w fun e w' => e = .returned (.bool (countsB n)) ∧ w' = w := by
  unfold countsB
  by_cases h : 0 ≤ n
  all_goals
    go_enter Try.func44, Try.ntmps44
    go_wp2_with fail
    go_ret
    exact ⟨by simp [h] <;> omega, rfl⟩
set_option maxRecDepth 100000 in
theorem rterminal_any (n : Int) (w : World) : Calls Try.prog 51 #[.int .i64 n] w fun e w' => e = .returned (.bool (termB n)) ∧ w' = w := by
  unfold termB
  by_cases h : 0 ≤ n
  all_goals
    go_enter Try.func51, Try.ntmps51
    go_wp2_with fail
    go_ret
    exact ⟨by simp [h] <;> omega, rfl⟩
set_option maxRecDepth 100000 in
theorem rnonterminal_any (n : Int) (w : World) : Calls Try.prog 52 #[.int .i64 n] w fun e w' => e = .returned (.bool (nontB n)) ∧ w' = w := by
  unfold nontB
  by_cases h : 16 ≤ n
  all_goals
    go_enter Try.func52, Try.ntmps52
    go_wp2_with fail
    go_ret
    exact ⟨by simp [h] <;> omega, rfl⟩
set_option maxRecDepth 100000 in
set_option maxHeartbeats 1600000 in
theorem symbolic_any (e : Ev) (w : World) : Calls Try.prog 45 #[e.v] w fun r w' => r = .returned (.bool (symB e)) ∧ w' = w.alloc (.cells e.cs.toArray 34) := by
  have HT := Lib.hid (fun W => rterminal_any e.sym W)
  have HN := Lib.hid (fun W => rnonterminal_any e.sym W)
  obtain ⟨t, ht⟩ : ∃ t, termB e.sym = t := ⟨_, rfl⟩
  obtain ⟨u, hu⟩ : ∃ u, nontB e.sym = u := ⟨_, rfl⟩
  rw [ht] at HT
  rw [hu] at HN
  have hsb : symB e = if e.kind = 3 then t else if e.kind = 5 then decide (e.sym = -1) || t || u else u := by unfold symB; rw [ht, hu]
  rw [hsb]
  clear hsb ht hu
  obtain ⟨k, sy, pr, rc, a, x, er⟩ := e
  unfold Ev.v Ev.cs
  simp only at *
  by_cases h3 : k = 3
  · subst h3
    go_enter Try.func45, Try.ntmps45
    go_wp2_with (go_at_call 51; refine (HT.out _).mono ?_; rintro r w1 ⟨rfl, rfl⟩)
    go_ret
    exact ⟨rfl, rfl⟩
  · by_cases h5 : k = 5
    · subst h5
      by_cases hm : sy = -1
      · subst hm
        go_enter Try.func45, Try.ntmps45
        go_wp2_with fail
        go_ret
        exact ⟨rfl, rfl⟩
      · have hmb : (sy == -1) = false := by simpa using hm
        have HM := Lib.hid hm
        clear hm
        cases t
        · go_enter Try.func45, Try.ntmps45
          go_wp2_with (first | (go_at_call 51; refine (HT.out _).mono ?_; rintro r w1 ⟨rfl, rfl⟩) | (go_at_call 52; refine (HN.out _).mono ?_; rintro r w1 ⟨rfl, rfl⟩))
          go_ret
          exact ⟨by simp [HM.out], rfl⟩
        · go_enter Try.func45, Try.ntmps45
          go_wp2_with (first | (go_at_call 51; refine (HT.out _).mono ?_; rintro r w1 ⟨rfl, rfl⟩) | (go_at_call 52; refine (HN.out _).mono ?_; rintro r w1 ⟨rfl, rfl⟩))
          go_ret
          exact ⟨by simp, rfl⟩
    · have h3b : (k == 3) = false := by simpa using h3
      have h5b : (k == 5) = false := by simpa using h5
      rw [if_neg h3, if_neg h5]
      clear h3 h5
      go_enter Try.func45, Try.ntmps45
      go_wp2_with (go_at_call 52; refine (HN.out _).mono ?_; rintro r w1 ⟨rfl, rfl⟩)
      go_ret
      exact ⟨rfl, rfl⟩
def erringB (e : Ev) : Bool := if e.kind = 6 then decide (e.err = 0) || decide (e.err = 25) else if e.kind = 7 then decide (e.err = 4) || decide (e.err = 5) || decide (e.err = 14) || decide (e.err = 26)
  else if e.err = 24 then nontB e.sym else if e.err = 22 ∨ e.err = 5 then termB e.sym else decide (e.err = 23) && decide (e.sym = -1)
theorem erring_eq (e : Ev) (h : e.kind = 5 → symB e = true) (hk : e.kind = 5 ∨ e.kind = 6 ∨ e.kind = 7) : erringB e = reasonB e := by
  unfold erringB reasonB
  by_cases h6 : e.kind = 6
  · rw [if_pos h6, if_pos h6]
  by_cases h7 : e.kind = 7
  · rw [if_neg h6, if_pos h7, if_neg h6, if_pos h7]
  have h5 : e.kind = 5 := by omega
  have hs := h h5
  unfold symB at hs
  rw [if_neg (by omega), if_pos h5] at hs
  rw [if_neg h6, if_neg h7, if_neg h6, if_neg h7]
  simp only [termB, nontB, Bool.or_eq_true, Bool.and_eq_true, decide_eq_true_eq] at *
  by_cases m : e.sym = -1
  · rw [m]
    by_cases e24 : e.err = 24
    · simp [e24]
    · by_cases e2 : e.err = 22 ∨ e.err = 5
      · rcases e2 with e2 | e2 <;> simp [e2]
      · simp [e24, e2]
  · by_cases t : 0 ≤ e.sym ∧ e.sym < 8
    · by_cases e24 : e.err = 24
      · simp [e24, m, t]; omega
      · by_cases e2 : e.err = 22 ∨ e.err = 5
        · rcases e2 with e2 | e2 <;> simp [e2, m, t]
        · have := not_or.1 e2
          simp [e24, this, m, t]
    · have nt : 16 ≤ e.sym ∧ e.sym < 24 := by omega
      by_cases e24 : e.err = 24
      · simp [e24, m, t, nt]
      · by_cases e2 : e.err = 22 ∨ e.err = 5
        · rcases e2 with e2 | e2 <;> simp [e2] <;> omega
        · have := not_or.1 e2
          simp [e24, this, m, t]
set_option maxRecDepth 100000 in
set_option maxHeartbeats 1600000 in
theorem erring_any (e : Ev) (w : World) : Calls Try.prog 46 #[e.v] w fun r w' => r = .returned (.bool (erringB e)) ∧ w' = w.alloc (.cells e.cs.toArray 34) := by
  have HT := Lib.hid (fun W => rterminal_any e.sym W)
  have HN := Lib.hid (fun W => rnonterminal_any e.sym W)
  obtain ⟨t, ht⟩ : ∃ t, termB e.sym = t := ⟨_, rfl⟩
  obtain ⟨u, hu⟩ : ∃ u, nontB e.sym = u := ⟨_, rfl⟩
  rw [ht] at HT
  rw [hu] at HN
  have hsb : erringB e = if e.kind = 6 then decide (e.err = 0) || decide (e.err = 25) else if e.kind = 7 then decide (e.err = 4) || decide (e.err = 5) || decide (e.err = 14) || decide (e.err = 26)
      else if e.err = 24 then u else if e.err = 22 ∨ e.err = 5 then t else decide (e.err = 23) && decide (e.sym = -1) := by unfold erringB; rw [ht, hu]
  rw [hsb]
  clear hsb ht hu
  obtain ⟨k, sy, pr, rc, a, x, er⟩ := e
  unfold Ev.v Ev.cs
  simp only at *
  by_cases h6 : k = 6
  · subst h6
    by_cases h0 : er = 0
    all_goals
      go_enter Try.func46, Try.ntmps46
      go_wp2_with fail
      go_ret
      exact ⟨by simp [h0, BEq.beq], rfl⟩
  · have h6b : (k == 6) = false := by simpa using h6
    by_cases h7 : k = 7
    · subst h7
      by_cases e4 : er = 4
      · subst e4
        go_enter Try.func46, Try.ntmps46
        go_wp2_with fail
        go_ret
        exact ⟨rfl, rfl⟩
      · by_cases e5 : er = 5
        · subst e5
          go_enter Try.func46, Try.ntmps46
          go_wp2_with fail
          go_ret
          exact ⟨rfl, rfl⟩
        · by_cases e14 : er = 14
          · subst e14
            go_enter Try.func46, Try.ntmps46
            go_wp2_with fail
            go_ret
            exact ⟨rfl, rfl⟩
          · go_enter Try.func46, Try.ntmps46
            go_wp2_with fail
            go_ret
            exact ⟨by simp [e4, e5, e14, BEq.beq], rfl⟩
    · have h7b : (k == 7) = false := by simpa using h7
      rw [if_neg h6, if_neg h7]
      clear h6 h7
      by_cases e24 : er = 24
      · subst e24
        rw [if_pos rfl]
        go_enter Try.func46, Try.ntmps46
        go_wp2_with (go_at_call 52; refine (HN.out _).mono ?_; rintro r w1 ⟨rfl, rfl⟩)
        go_ret
        exact ⟨rfl, rfl⟩
      · have b24 : (er == 24) = false := by simpa using e24
        rw [if_neg e24]
        clear e24
        by_cases e22 : er = 22 ∨ er = 5
        · rw [if_pos e22]
          rcases e22 with rfl | rfl
          all_goals
            go_enter Try.func46, Try.ntmps46
            go_wp2_with (go_at_call 51; refine (HT.out _).mono ?_; rintro r w1 ⟨rfl, rfl⟩)
            go_ret
            exact ⟨rfl, rfl⟩
        · rw [if_neg e22]
          have n1 : (er == 22) = false := by simpa using fun h => e22 (.inl h)
          have n2 : (er == 5) = false := by simpa using fun h => e22 (.inr h)
          clear e22
          by_cases e23 : er = 23
          · subst e23
            go_enter Try.func46, Try.ntmps46
            go_wp2_with fail
            go_ret
            exact ⟨by simp [BEq.beq], rfl⟩
          · go_enter Try.func46, Try.ntmps46
            go_wp2_with fail
            go_ret
            exact ⟨by simp [e23, BEq.beq], rfl⟩
end Go.Proofs.Ytogldckkmjbohaa
