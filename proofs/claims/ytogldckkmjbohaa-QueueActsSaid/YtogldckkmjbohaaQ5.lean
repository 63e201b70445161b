/- queue: right, Check, Room, Full, First, Put. No condition. -/
import Derived.Test.YtogldckkmjbohaaQ4
namespace Go.Proofs.Ytogldckkmjbohaa
open Go.RowKit
def rightE : List Ev → Int
  | [] => 0
  | e :: l => if evE e = 0 then rightE l else evE e
def chkQ (q : Int) (l : List Ev) : Int := if q < 1 ∨ 64 < q then 2 else if q < l.length then 6 else rightE l
theorem rightE_drop (l : List Ev) (k : Nat) (hk : k < l.length) : rightE (l.drop k) = if evE l[k] = 0 then rightE (l.drop (k + 1)) else evE l[k] := by
  rw [List.drop_eq_getElem_cons hk]; rfl
set_option maxRecDepth 100000 in
set_option maxHeartbeats 3200000 in
theorem right_any (A : Option Addr) (cap D : Nat) (l : List Ev) (w : World) (hS : Sl w D 7 A l.length cap (evC l)) (hD : D ≤ w.heap.size) (hn : l.length ≤ 1000) (hl : ∀ t ∈ l, t.text.length ≤ maxLen) :
    Calls Try.prog 29 #[.slice A l.length cap] w fun e w' => e = .returned (.int .i64 (rightE l)) ∧ Below w.heap.size w w' := by
  go_enter Try.func29, Try.ntmps29
  go_wp2_with fail
  go_loopw [8] (fun i W => ∃ k : Nat, k ≤ l.length ∧ i = .int .i64 k ∧ rightE l = rightE (l.drop k) ∧ Below w.heap.size w W) (fun i _ => l.length - (intOf i).toNat)
  case atStart => exact ⟨0, Nat.zero_le _, rfl, rfl, Below.refl _ _⟩
  case round =>
    obtain ⟨k, hk, rfl, heq, hB⟩ := hrel
    by_cases hlt : k < l.length
    · obtain ⟨b, o, rfl, hb, c0, c1, c2, c3, c4, c5, c6⟩ := sl_ev (hS.below hB hD) hlt
      rw [rightE_drop l k hlt] at heq
      have htl := hl l[k] (List.getElem_mem hlt)
      have HC := Lib.hid (fun W => evCheck_any l[k] W htl)
      generalize l[k] = t at *
      obtain ⟨kk, sy, pr, rc, a, x, er⟩ := t
      unfold Ev.v at HC
      unfold Ev.cs at HC
      simp only at *
      generalize evE ⟨kk, sy, pr, rc, a, x, er⟩ = ce at *
      have HB := Lib.hid (hB.alloc hB.size (.cells #[.int .i64 kk, .int .i64 sy, .int .i64 pr, .int .i64 rc, .int .i64 a, .string ⟨x.toArray⟩, .int .i64 er] 34))
      have HS := Lib.hid hS
      clear hB hl hS
      by_cases hce : ce = 0
      · rw [if_pos hce] at heq
        subst hce
        have HE := Lib.hid heq
        clear heq
        go_wp2_with fail
        refine (HC.out _).mono ?_
        rintro e w3 ⟨rfl, hb3⟩
        go_wp2_with fail
        go_roundw
        case rel => exact ⟨k + 1, by omega, by go_num, HE.out, below_on HB.out hb3 (Nat.le_refl _)⟩
        case measure => simp [intOf]; omega
      · rw [if_neg hce] at heq
        have HE := Lib.hid heq
        have hcb : (ce != 0) = true := bne_iff_ne.2 hce
        clear heq
        go_wp2_with fail
        refine (HC.out _).mono ?_
        rintro e w3 ⟨rfl, hb3⟩
        go_wp2_with fail
        go_ret
        exact ⟨ret_int HE.out.symm, below_on HB.out hb3 (Nat.le_refl _)⟩
    · obtain rfl : k = l.length := by omega
      rw [List.drop_length] at heq
      have HE := Lib.hid heq
      clear heq
      go_wp2_with fail
      go_ret
      exact ⟨ret_int HE.out.symm, hB⟩
set_option maxRecDepth 100000 in
set_option maxHeartbeats 3200000 in
theorem qCheck_any (q : Int) (A : Option Addr) (cap D : Nat) (l : List Ev) (w : World) (hS : Sl w D 7 A l.length cap (evC l)) (hD : D ≤ w.heap.size) (hn : l.length ≤ 1000) (hl : ∀ t ∈ l, t.text.length ≤ maxLen) :
    Calls Try.prog 10 #[.int .i64 q, .slice A l.length cap] w fun e w' => e = .returned (.int .i64 (chkQ q l)) ∧ Below w.heap.size w w' := by
  have HR := Lib.hid (right_any A cap D l w hS hD hn hl)
  clear hS hl
  by_cases h1 : q < 1
  · rw [show chkQ q l = 2 from if_pos (.inl h1)]
    go_enter Try.func10, Try.ntmps10
    go_wp2_with fail
    go_ret
    exact ⟨rfl, Below.refl _ _⟩
  by_cases h2 : 64 < q
  · rw [show chkQ q l = 2 from if_pos (.inr h2)]
    go_enter Try.func10, Try.ntmps10
    go_wp2_with fail
    go_ret
    exact ⟨rfl, Below.refl _ _⟩
  have h12 : ¬ (q < 1 ∨ 64 < q) := by omega
  by_cases h3 : q < (l.length : Int)
  · rw [show chkQ q l = 6 by unfold chkQ; rw [if_neg h12, if_pos h3]]
    clear h12
    go_enter Try.func10, Try.ntmps10
    go_wp2_with fail
    go_ret
    exact ⟨rfl, Below.refl _ _⟩
  · rw [show chkQ q l = rightE l by unfold chkQ; rw [if_neg h12, if_neg h3]]
    clear h12
    generalize rightE l = r at *
    go_enter Try.func10, Try.ntmps10
    go_wp2_with fail
    refine HR.out.mono ?_
    rintro e w1 ⟨rfl, hb⟩
    go_wp2_with fail
    go_ret
    exact ⟨rfl, hb⟩
theorem chkQ_ok {q : Int} {l : List Ev} (h : chkQ q l = 0) : 1 ≤ q ∧ q ≤ 64 ∧ (l.length : Int) ≤ q ∧ rightE l = 0 := by
  unfold chkQ at h
  split at h
  · cases h
  · split at h
    · cases h
    · exact ⟨by omega, by omega, by omega, h⟩
/-- What Room answers. -/
def roomR (q : Int) (l : List Ev) : Int × Int := if chkQ q l = 0 then (q - l.length, 0) else (0, chkQ q l)
set_option maxRecDepth 100000 in
set_option maxHeartbeats 1600000 in
theorem qRoom_any (q : Int) (A : Option Addr) (cap D : Nat) (l : List Ev) (w : World) (hS : Sl w D 7 A l.length cap (evC l)) (hD : D ≤ w.heap.size) (hn : l.length ≤ 1000) (hl : ∀ t ∈ l, t.text.length ≤ maxLen) :
    Calls Try.prog 19 #[.int .i64 q, .slice A l.length cap] w fun e w' => e = .returned (.tuple #[.int .i64 (roomR q l).1, .int .i64 (roomR q l).2]) ∧ Below w.heap.size w w' := by
  have HC := Lib.hid (qCheck_any q A cap D l w hS hD hn hl)
  have hok : chkQ q l = 0 → _ := fun h => chkQ_ok h
  have HB := Lib.hid (fun W hS hD => begun_any q A cap D l W hS hD hn)
  have HS := Lib.hid hS
  have hrr : roomR q l = if chkQ q l = 0 then (q - l.length, 0) else (0, chkQ q l) := rfl
  generalize roomR q l = R at *
  generalize chkQ q l = c at *
  clear hS hl
  by_cases hc : c = 0
  · rw [if_pos hc] at hrr
    subst hrr
    obtain ⟨h1, h2, h3, _⟩ := hok hc
    subst hc
    clear hok
    go_enter Try.func19, Try.ntmps19
    go_wp2_with fail
    refine HC.out.mono ?_
    rintro e w1 ⟨rfl, hb1⟩
    have HB1 := Lib.hid (HB.out w1 (HS.out.below hb1 hD) (Nat.le_trans hD hb1.size))
    go_wp2_with fail
    refine HB1.out.mono ?_
    rintro e w2 ⟨⟨A2, g, hg1, hg2, rfl, hw, hs⟩, hb2⟩
    have HRo := Lib.hid (room_any q g l.length l.length A2 w2 hw h1 (by omega) hn)
    have HB2 := Lib.hid (below_on hb1 hb2 (Nat.le_refl _))
    clear hw hs
    go_wp2_with fail
    refine HRo.out.mono ?_
    rintro e w3 ⟨rfl, hb3⟩
    have HB3 := Lib.hid (below_on HB2.out hb3 (Nat.le_refl _))
    clear hb3
    go_wp2_with fail
    go_ret2
    exact ⟨rfl, HB3.out⟩
  · rw [if_neg hc] at hrr
    subst hrr
    have hcb : (c != 0) = true := bne_iff_ne.2 hc
    clear hok
    go_enter Try.func19, Try.ntmps19
    go_wp2_with fail
    refine HC.out.mono ?_
    rintro e w1 ⟨rfl, hb1⟩
    go_wp2_with fail
    go_ret2
    exact ⟨rfl, hb1⟩
set_option maxRecDepth 100000 in
theorem qFull_any (q : Int) (A : Option Addr) (cap D : Nat) (l : List Ev) (w : World) (hS : Sl w D 7 A l.length cap (evC l)) (hD : D ≤ w.heap.size) (hn : l.length ≤ 1000) (hl : ∀ t ∈ l, t.text.length ≤ maxLen) :
    Calls Try.prog 21 #[.int .i64 q, .slice A l.length cap] w fun e w' => e = .returned (.tuple #[.bool (decide ((roomR q l).2 = 0) && decide ((roomR q l).1 = 0)), .int .i64 (roomR q l).2]) ∧ Below w.heap.size w w' := by
  have HC := Lib.hid (qRoom_any q A cap D l w hS hD hn hl)
  generalize roomR q l = R at *
  obtain ⟨r, c⟩ := R
  simp only at *
  clear hS hl
  by_cases hc : c = 0
  · subst hc
    rw [decide_eq_true rfl, Bool.true_and]
    go_enter Try.func21, Try.ntmps21
    go_wp2_with fail
    refine HC.out.mono ?_
    rintro e w1 ⟨rfl, hb1⟩
    go_wp2_with fail
    go_ret2
    exact ⟨rfl, hb1⟩
  · rw [decide_eq_false hc, Bool.false_and]
    have hcb : (c == 0) = false := by simpa using hc
    clear hc
    go_enter Try.func21, Try.ntmps21
    go_wp2_with fail
    refine HC.out.mono ?_
    rintro e w1 ⟨rfl, hb1⟩
    go_wp2_with fail
    go_ret2
    exact ⟨rfl, hb1⟩
end Go.Proofs.Ytogldckkmjbohaa
