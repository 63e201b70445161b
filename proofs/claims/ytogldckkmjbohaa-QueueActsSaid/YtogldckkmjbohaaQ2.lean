/- The fields of events; what may be asked of them. No condition. -/
import Derived.Test.YtogldckkmjbohaaQ1
namespace Go.Proofs.Ytogldckkmjbohaa
open Go.RowKit
def intV (x : Int) : Value := .int .i64 x
def flds (k : Int) : List Int := if k = 1 then [0, 5] else if k = 2 then [1, 2, 5] else if k = 3 then [1, 3, 5] else if k = 4 then [1, 2] else if k = 5 then [1, 4, 5] else if k = 6 then [0, 4, 5] else [4, 5]
theorem kinds (k : Int) (h : 1 ≤ k ∧ k ≤ 7) : k = 1 ∨ k = 2 ∨ k = 3 ∨ k = 4 ∨ k = 5 ∨ k = 6 ∨ k = 7 := by omega
set_option maxRecDepth 100000 in
theorem fields_ok (k : Int) (w : World) (h : 1 ≤ k ∧ k ≤ 7) :
    Calls Try.prog 38 #[.int .i64 k] w fun e w' => e = .returned (.slice (some ⟨w.heap.size, 0, none⟩) (flds k).length (flds k).length) ∧ w' = w.alloc (.cells ((flds k).map intV).toArray 3) := by
  rcases kinds k h with rfl | rfl | rfl | rfl | rfl | rfl | rfl
  all_goals
    go_enter Try.func38, Try.ntmps38
    go_wp2_with fail
    go_ret
    exact ⟨rfl, rfl⟩
set_option maxRecDepth 100000 in
theorem fields_no (k : Int) (w : World) (h : k < 1 ∨ 7 < k) :
    Calls Try.prog 38 #[.int .i64 k] w fun e w' => e = .returned (.slice none 0 0) ∧ w' = w := by
  have h1 : (k == 1) = false := by simp; omega
  have h2 : (k == 2) = false := by simp; omega
  have h3 : (k == 3) = false := by simp; omega
  have h4 : (k == 4) = false := by simp; omega
  have h5 : (k == 5) = false := by simp; omega
  have h6 : (k == 6) = false := by simp; omega
  have h7 : (k == 7) = false := by simp; omega
  go_enter Try.func38, Try.ntmps38
  go_wp2_with fail
  go_ret
  exact ⟨rfl, rfl⟩
theorem sl_int {w : World} {D : Nat} {A : Option Addr} {cap : Nat} {ls : List Int} (h : Sl w D 1 A ls.length cap (ls.map intV)) {k : Nat} (hk : k < ls.length) :
    ∃ b o, A = some ⟨b, o, none⟩ ∧ b < D ∧ w.cell? ⟨b, o + k, none⟩ = some (.int .i64 ls[k]) := by
  obtain ⟨b, o, u, e, hb, hu, hc⟩ := h.at_ hk
  refine ⟨b, o, e, hb, ?_⟩
  rw [hc, ← hu]
  simp [hk, intV]
theorem contains_drop (l : List Int) (x : Int) (k : Nat) (hk : k < l.length) : (l.drop k).contains x = (x == l[k] || (l.drop (k + 1)).contains x) := by
  rw [List.drop_eq_getElem_cons hk, List.contains_cons]
set_option maxRecDepth 100000 in
set_option maxHeartbeats 1600000 in
theorem index_any (A : Option Addr) (cap D : Nat) (l : List Int) (x : Int) (w : World) (hS : Sl w D 1 A l.length cap (l.map intV)) (hn : l.length ≤ 1000) :
    Calls Try.prog 47 #[.slice A l.length cap, .int .i64 x] w fun e w' => (∃ r : Int, e = .returned (.int .i64 r) ∧ (decide (0 ≤ r) = l.contains x)) ∧ w' = w := by
  go_enter Try.func47, Try.ntmps47
  go_wp2_with fail
  go_loopw [8] (fun v W => w = W ∧ ∃ k : Nat, k ≤ l.length ∧ v = .int .i64 k ∧ l.contains x = (l.drop k).contains x) (fun v _ => l.length - (intOf v).toNat)
  case atStart => exact ⟨rfl, 0, Nat.zero_le _, rfl, rfl⟩
  case round =>
    obtain ⟨rfl, k, hk, rfl, hc⟩ := hrel
    by_cases hlt : k < l.length
    · obtain ⟨b, o, rfl, hb, c0⟩ := sl_int hS hlt
      rw [contains_drop l x k hlt] at hc
      generalize l[k] = y at *
      by_cases hxy : x = y
      · subst hxy
        have HC := Lib.hid hc
        clear hc
        go_wp2_with fail
        go_ret
        refine ⟨⟨k, rfl, ?_⟩, rfl⟩
        rw [HC.out]
        simp
      · have hb2 : (x == y) = false := by simpa using hxy
        rw [hb2, Bool.false_or] at hc
        have HC := Lib.hid hc
        clear hc
        go_wp2_with fail
        go_roundw
        case rel => exact ⟨trivial, k + 1, by omega, by go_num, HC.out⟩
        case measure => simp [intOf]; omega
    · obtain rfl : k = l.length := by omega
      rw [List.drop_length] at hc
      have HC := Lib.hid hc
      clear hc
      go_wp2_with fail
      go_ret
      refine ⟨⟨-1, rfl, ?_⟩, rfl⟩
      rw [HC.out]
      simp
set_option maxRecDepth 100000 in
theorem contains_any (A : Option Addr) (cap D : Nat) (l : List Int) (x : Int) (w : World) (hS : Sl w D 1 A l.length cap (l.map intV)) (hn : l.length ≤ 1000) :
    Calls Try.prog 39 #[.slice A l.length cap, .int .i64 x] w fun e w' => e = .returned (.bool (l.contains x)) ∧ w' = w := by
  have HI := Lib.hid (index_any A cap D l x w hS hn)
  clear hS
  go_enter Try.func39, Try.ntmps39
  go_wp2_with fail
  refine HI.out.mono ?_
  rintro e w1 ⟨⟨r, rfl, hr⟩, rfl⟩
  have HR := Lib.hid hr
  clear hr HI
  go_wp2_with fail
  go_ret
  exact ⟨by rw [← HR.out]; rfl, rfl⟩
def countsB (n : Int) : Bool := decide (0 ≤ n) && decide (n ≤ 1099511627776)
def termB (n : Int) : Bool := decide (0 ≤ n) && decide (n < 8)
def nontB (n : Int) : Bool := decide (16 ≤ n) && decide (n < 24)
def symB (e : Ev) : Bool := if e.kind = 3 then termB e.sym else if e.kind = 5 then decide (e.sym = -1) || termB e.sym || nontB e.sym else nontB e.sym
def reasonB (e : Ev) : Bool := if e.kind = 6 then decide (e.err = 0) || decide (e.err = 25) else if e.kind = 7 then decide (e.err = 4) || decide (e.err = 5) || decide (e.err = 14) || decide (e.err = 26)
  else if e.sym = -1 then decide (e.err = 23) else if termB e.sym = true then decide (e.err = 22) || decide (e.err = 5) else decide (e.err = 24)
set_option maxRecDepth 100000 in
theorem counted_any (n : Int) (w : World) : Calls Try.prog 40 #[.int .i64 n] w fun e w' => e = .returned (.bool (countsB n)) ∧ w' = w := by
  unfold countsB
  by_cases h : 0 ≤ n
  all_goals
    go_enter Try.func40, Try.ntmps40
    go_wp2_with fail
    go_ret
    exact ⟨by simp [h] <;> omega, rfl⟩
set_option maxRecDepth 100000 in
theorem terminal_any (n : Int) (w : World) : Calls Try.prog 48 #[.int .i64 n] w fun e w' => e = .returned (.bool (termB n)) ∧ w' = w := by
  unfold termB
  by_cases h : 0 ≤ n
  all_goals
    go_enter Try.func48, Try.ntmps48
    go_wp2_with fail
    go_ret
    exact ⟨by simp [h] <;> omega, rfl⟩
set_option maxRecDepth 100000 in
theorem nonterminal_any (n : Int) (w : World) : Calls Try.prog 49 #[.int .i64 n] w fun e w' => e = .returned (.bool (nontB n)) ∧ w' = w := by
  unfold nontB
  by_cases h : 16 ≤ n
  all_goals
    go_enter Try.func49, Try.ntmps49
    go_wp2_with fail
    go_ret
    exact ⟨by simp [h] <;> omega, rfl⟩
theorem evBlk (w : World) (e : Ev) : Blk (w.alloc (.cells e.cs.toArray 34)) w.heap.size 34 e.cs.toArray := Blk.new w _ _
set_option maxRecDepth 100000 in
set_option maxHeartbeats 1600000 in
theorem symbol_any (e : Ev) (w : World) : Calls Try.prog 41 #[e.v] w fun r w' => r = .returned (.bool (symB e)) ∧ w' = w.alloc (.cells e.cs.toArray 34) := by
  have HT := Lib.hid (fun W => terminal_any e.sym W)
  have HN := Lib.hid (fun W => nonterminal_any e.sym W)
  obtain ⟨t, ht⟩ : ∃ t, termB e.sym = t := ⟨_, rfl⟩
  obtain ⟨u, hu⟩ : ∃ u, nontB e.sym = u := ⟨_, rfl⟩
  rw [ht] at HT
  rw [hu] at HN
  have hsb : symB e = if e.kind = 3 then t else if e.kind = 5 then decide (e.sym = -1) || t || u else u := by unfold symB; rw [ht, hu]
  rw [hsb]
  clear hsb ht hu
  obtain ⟨k, sy, pr, rc, a, x, er⟩ := e
  unfold Ev.v Ev.cs
  simp only at *
  by_cases h3 : k = 3
  · subst h3
    go_enter Try.func41, Try.ntmps41
    go_wp2_with (go_at_call 48; refine (HT.out _).mono ?_; rintro r w1 ⟨rfl, rfl⟩)
    go_ret
    exact ⟨rfl, rfl⟩
  · by_cases h5 : k = 5
    · subst h5
      by_cases hm : sy = -1
      · subst hm
        go_enter Try.func41, Try.ntmps41
        go_wp2_with fail
        go_ret
        exact ⟨rfl, rfl⟩
      · have hmb : (sy == -1) = false := by simpa using hm
        have HM := Lib.hid hm
        clear hm
        cases t
        · go_enter Try.func41, Try.ntmps41
          go_wp2_with (first | (go_at_call 48; refine (HT.out _).mono ?_; rintro r w1 ⟨rfl, rfl⟩) | (go_at_call 49; refine (HN.out _).mono ?_; rintro r w1 ⟨rfl, rfl⟩))
          go_ret
          exact ⟨by simp [HM.out], rfl⟩
        · go_enter Try.func41, Try.ntmps41
          go_wp2_with (first | (go_at_call 48; refine (HT.out _).mono ?_; rintro r w1 ⟨rfl, rfl⟩) | (go_at_call 49; refine (HN.out _).mono ?_; rintro r w1 ⟨rfl, rfl⟩))
          go_ret
          exact ⟨by simp, rfl⟩
    · have h3b : (k == 3) = false := by simpa using h3
      have h5b : (k == 5) = false := by simpa using h5
      rw [if_neg h3, if_neg h5]
      clear h3 h5
      go_enter Try.func41, Try.ntmps41
      go_wp2_with (go_at_call 49; refine (HN.out _).mono ?_; rintro r w1 ⟨rfl, rfl⟩)
      go_ret
      exact ⟨rfl, rfl⟩
set_option maxRecDepth 100000 in
set_option maxHeartbeats 1600000 in
theorem reason_any (e : Ev) (w : World) : Calls Try.prog 42 #[e.v] w fun r w' => r = .returned (.bool (reasonB e)) ∧ w' = w.alloc (.cells e.cs.toArray 34) := by
  have HT := Lib.hid (fun W => terminal_any e.sym W)
  obtain ⟨t, ht⟩ : ∃ t, termB e.sym = t := ⟨_, rfl⟩
  rw [ht] at HT
  have hsb : reasonB e = if e.kind = 6 then decide (e.err = 0) || decide (e.err = 25) else if e.kind = 7 then decide (e.err = 4) || decide (e.err = 5) || decide (e.err = 14) || decide (e.err = 26)
      else if e.sym = -1 then decide (e.err = 23) else if t = true then decide (e.err = 22) || decide (e.err = 5) else decide (e.err = 24) := by unfold reasonB; rw [ht]
  rw [hsb]
  clear hsb ht
  obtain ⟨k, sy, pr, rc, a, x, er⟩ := e
  unfold Ev.v Ev.cs
  simp only at *
  by_cases h6 : k = 6
  · subst h6
    by_cases h0 : er = 0
    all_goals
      go_enter Try.func42, Try.ntmps42
      go_wp2_with fail
      go_ret
      exact ⟨by simp [h0, BEq.beq], rfl⟩
  · have h6b : (k == 6) = false := by simpa using h6
    by_cases h7 : k = 7
    · subst h7
      by_cases e4 : er = 4
      · subst e4
        go_enter Try.func42, Try.ntmps42
        go_wp2_with fail
        go_ret
        exact ⟨rfl, rfl⟩
      · by_cases e5 : er = 5
        · subst e5
          go_enter Try.func42, Try.ntmps42
          go_wp2_with fail
          go_ret
          exact ⟨rfl, rfl⟩
        · by_cases e14 : er = 14
          · subst e14
            go_enter Try.func42, Try.ntmps42
            go_wp2_with fail
            go_ret
            exact ⟨rfl, rfl⟩
          · go_enter Try.func42, Try.ntmps42
            go_wp2_with fail
            go_ret
            exact ⟨by simp [e4, e5, e14, BEq.beq], rfl⟩
    · have h7b : (k == 7) = false := by simpa using h7
      rw [if_neg h6, if_neg h7]
      clear h6 h7
      by_cases hm : sy = -1
      · subst hm
        rw [if_pos rfl]
        go_enter Try.func42, Try.ntmps42
        go_wp2_with fail
        go_ret
        exact ⟨rfl, rfl⟩
      · have hmb : (sy == -1) = false := by simpa using hm
        rw [if_neg hm]
        clear hm
        cases t
        · go_enter Try.func42, Try.ntmps42
          go_wp2_with (go_at_call 48; refine (HT.out _).mono ?_; rintro r w1 ⟨rfl, rfl⟩)
          go_ret
          exact ⟨rfl, rfl⟩
        · by_cases e22 : er = 22
          all_goals
            go_enter Try.func42, Try.ntmps42
            go_wp2_with (go_at_call 48; refine (HT.out _).mono ?_; rintro r w1 ⟨rfl, rfl⟩)
            go_ret
            exact ⟨by simp [e22, BEq.beq], rfl⟩
end Go.Proofs.Ytogldckkmjbohaa
