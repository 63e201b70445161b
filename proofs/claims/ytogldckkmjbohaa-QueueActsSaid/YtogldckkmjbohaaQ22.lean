/- The reference's queue: right, Check, Room, Full, First. No condition. -/
import Derived.Test.YtogldckkmjbohaaQ21
namespace Go.Proofs.Ytogldckkmjbohaa
open Go.RowKit
set_option maxRecDepth 100000 in
set_option maxHeartbeats 3200000 in
theorem rright_any (A : Option Addr) (cap D : Nat) (l : List Ev) (w : World) (hS : Sl w D 7 A l.length cap (evC l)) (hD : D ≤ w.heap.size) (hn : l.length ≤ 1000) (hl : ∀ t ∈ l, t.text.length ≤ maxLen) :
    Calls Try.prog 30 #[.slice A l.length cap] w fun e w' => e = .returned (.int .i64 (rightE l)) ∧ Below w.heap.size w w' := by
  go_enter Try.func30, Try.ntmps30
  go_wp2_with fail
  go_loopw [3] (fun i W => ∃ k : Nat, k ≤ l.length ∧ i = .int .i64 k ∧ rightE l = rightE (l.drop k) ∧ Below w.heap.size w W) (fun i _ => l.length - (intOf i).toNat)
  case atStart => exact ⟨0, Nat.zero_le _, rfl, rfl, Below.refl _ _⟩
  case round =>
    obtain ⟨k, hk, rfl, heq, hB⟩ := hrel
    by_cases hlt : k < l.length
    · obtain ⟨b, o, rfl, hb, c0, c1, c2, c3, c4, c5, c6⟩ := sl_ev (hS.below hB hD) hlt
      rw [rightE_drop l k hlt] at heq
      have htl := hl l[k] (List.getElem_mem hlt)
      have HC := Lib.hid (fun W => rchk_any l[k] W htl)
      generalize l[k] = t at *
      obtain ⟨kk, sy, pr, rc, a, x, er⟩ := t
      unfold Ev.v at HC
      unfold Ev.cs at HC
      simp only at *
      generalize evE ⟨kk, sy, pr, rc, a, x, er⟩ = ce at *
      have HB := Lib.hid hB
      have HS := Lib.hid hS
      clear hB hl hS
      by_cases hce : ce = 0
      · rw [if_pos hce] at heq
        subst hce
        have HE := Lib.hid heq
        clear heq
        go_wp2_with fail
        refine (HC.out _).mono ?_
        rintro e w3 ⟨rfl, hb3⟩
        go_wp2_with fail
        go_roundw
        case rel => exact ⟨k + 1, by omega, by go_num, HE.out, below_on HB.out hb3 (Nat.le_refl _)⟩
        case measure => simp [intOf]; omega
      · rw [if_neg hce] at heq
        have HE := Lib.hid heq
        have hcb : (ce != 0) = true := bne_iff_ne.2 hce
        clear heq
        go_wp2_with fail
        refine (HC.out _).mono ?_
        rintro e w3 ⟨rfl, hb3⟩
        go_wp2_with fail
        go_ret
        exact ⟨ret_int HE.out.symm, below_on HB.out hb3 (Nat.le_refl _)⟩
    · obtain rfl : k = l.length := by omega
      rw [List.drop_length] at heq
      have HE := Lib.hid heq
      clear heq
      go_wp2_with fail
      go_ret
      exact ⟨ret_int HE.out.symm, hB⟩
set_option maxRecDepth 100000 in
set_option maxHeartbeats 3200000 in
theorem rqCheck_any (q : Int) (A : Option Addr) (cap D : Nat) (l : List Ev) (w : World) (hS : Sl w D 7 A l.length cap (evC l)) (hD : D ≤ w.heap.size) (hn : l.length ≤ 1000) (hl : ∀ t ∈ l, t.text.length ≤ maxLen) :
    Calls Try.prog 11 #[.int .i64 q, .slice A l.length cap] w fun e w' => e = .returned (.int .i64 (chkQ q l)) ∧ Below w.heap.size w w' := by
  have HR := Lib.hid (rright_any A cap D l w hS hD hn hl)
  clear hS hl
  by_cases h1 : q < 1
  · rw [show chkQ q l = 2 from if_pos (.inl h1)]
    go_enter Try.func11, Try.ntmps11
    go_wp2_with fail
    go_ret
    exact ⟨rfl, Below.refl _ _⟩
  by_cases h2 : 64 < q
  · rw [show chkQ q l = 2 from if_pos (.inr h2)]
    go_enter Try.func11, Try.ntmps11
    go_wp2_with fail
    go_ret
    exact ⟨rfl, Below.refl _ _⟩
  have h12 : ¬ (q < 1 ∨ 64 < q) := by omega
  by_cases h3 : q < (l.length : Int)
  · rw [show chkQ q l = 6 by unfold chkQ; rw [if_neg h12, if_pos h3]]
    clear h12
    go_enter Try.func11, Try.ntmps11
    go_wp2_with fail
    go_ret
    exact ⟨rfl, Below.refl _ _⟩
  · rw [show chkQ q l = rightE l by unfold chkQ; rw [if_neg h12, if_neg h3]]
    clear h12
    generalize rightE l = r at *
    go_enter Try.func11, Try.ntmps11
    go_wp2_with fail
    refine HR.out.mono ?_
    rintro e w1 ⟨rfl, hb⟩
    go_wp2_with fail
    go_ret
    exact ⟨rfl, hb⟩
set_option maxRecDepth 100000 in
set_option maxHeartbeats 1600000 in
theorem rqRoom_any (q : Int) (A : Option Addr) (cap D : Nat) (l : List Ev) (w : World) (hS : Sl w D 7 A l.length cap (evC l)) (hD : D ≤ w.heap.size) (hn : l.length ≤ 1000) (hl : ∀ t ∈ l, t.text.length ≤ maxLen) :
    Calls Try.prog 20 #[.int .i64 q, .slice A l.length cap] w fun e w' => e = .returned (.tuple #[.int .i64 (roomR q l).1, .int .i64 (roomR q l).2]) ∧ Below w.heap.size w w' := by
  have HC := Lib.hid (rqCheck_any q A cap D l w hS hD hn hl)
  have hok : chkQ q l = 0 → _ := fun h => chkQ_ok h
  have hrr : roomR q l = if chkQ q l = 0 then (q - l.length, 0) else (0, chkQ q l) := rfl
  generalize roomR q l = R at *
  generalize chkQ q l = c at *
  clear hS hl
  by_cases hc : c = 0
  · rw [if_pos hc] at hrr
    subst hrr
    obtain ⟨h1, h2, h3, _⟩ := hok hc
    subst hc
    clear hok
    go_enter Try.func20, Try.ntmps20
    go_wp2_with fail
    refine HC.out.mono ?_
    rintro e w1 ⟨rfl, hb1⟩
    go_wp2_with fail
    go_ret2
    exact ⟨rfl, hb1⟩
  · rw [if_neg hc] at hrr
    subst hrr
    have hcb : (c != 0) = true := bne_iff_ne.2 hc
    clear hok
    go_enter Try.func20, Try.ntmps20
    go_wp2_with fail
    refine HC.out.mono ?_
    rintro e w1 ⟨rfl, hb1⟩
    go_wp2_with fail
    go_ret2
    exact ⟨rfl, hb1⟩
set_option maxRecDepth 100000 in
theorem rqFull_any (q : Int) (A : Option Addr) (cap D : Nat) (l : List Ev) (w : World) (hS : Sl w D 7 A l.length cap (evC l)) (hD : D ≤ w.heap.size) (hn : l.length ≤ 1000) (hl : ∀ t ∈ l, t.text.length ≤ maxLen) :
    Calls Try.prog 22 #[.int .i64 q, .slice A l.length cap] w fun e w' => e = .returned (.tuple #[.bool (decide ((roomR q l).2 = 0) && decide ((roomR q l).1 = 0)), .int .i64 (roomR q l).2]) ∧ Below w.heap.size w w' := by
  have HC := Lib.hid (rqRoom_any q A cap D l w hS hD hn hl)
  generalize roomR q l = R at *
  obtain ⟨r, c⟩ := R
  simp only at *
  clear hS hl
  by_cases hc : c = 0
  · subst hc
    rw [decide_eq_true rfl, Bool.true_and]
    go_enter Try.func22, Try.ntmps22
    go_wp2_with fail
    refine HC.out.mono ?_
    rintro e w1 ⟨rfl, hb1⟩
    go_wp2_with fail
    go_ret2
    exact ⟨rfl, hb1⟩
  · rw [decide_eq_false hc, Bool.false_and]
    have hcb : (c == 0) = false := by simpa using hc
    clear hc
    go_enter Try.func22, Try.ntmps22
    go_wp2_with fail
    refine HC.out.mono ?_
    rintro e w1 ⟨rfl, hb1⟩
    go_wp2_with fail
    go_ret2
    exact ⟨rfl, hb1⟩
set_option maxRecDepth 100000 in
set_option maxHeartbeats 3200000 in
theorem rqFirst_any (q : Int) (A : Option Addr) (cap D : Nat) (l : List Ev) (w : World) (hS : Sl w D 7 A l.length cap (evC l)) (hD : D ≤ w.heap.size) (hn : l.length ≤ 1000) (hl : ∀ t ∈ l, t.text.length ≤ maxLen) :
    Calls Try.prog 24 #[.int .i64 q, .slice A l.length cap] w fun e w' => e = .returned (.tuple #[(firstV q l).v, .int .i64 (firstE q l)]) ∧ Below w.heap.size w w' := by
  have hV : firstV q l = if firstE q l = 0 then l.headD ⟨0, 0, 0, 0, 0, [], 0⟩ else ⟨0, 0, 0, 0, 0, [], 0⟩ := rfl
  have hE : firstE q l = if chkQ q l = 0 then (if l.length = 0 then 20 else 0) else chkQ q l := rfl
  have HC := Lib.hid (fun W hS hD => rqCheck_any q A cap D l W hS hD hn hl)
  have bT := Blk.new w 34 #[.int .i64 0, .int .i64 0, .int .i64 0, .int .i64 0, .int .i64 0, .string ⟨#[]⟩, .int .i64 0]
  have hB0 := (Below.refl w.heap.size w).alloc (Nat.le_refl _) (.cells #[.int .i64 0, .int .i64 0, .int .i64 0, .int .i64 0, .int .i64 0, .string ⟨#[]⟩, .int .i64 0] 34)
  have HS := Lib.hid hS
  have HH := Lib.hid (And.intro bT hB0)
  generalize firstV q l = V at *
  generalize firstE q l = E at *
  generalize chkQ q l = c at *
  clear hS hl bT hB0
  by_cases hc : c = 0
  · rw [if_pos hc] at hE
    subst hc
    by_cases h0 : l.length = 0
    · obtain rfl : l = [] := List.eq_nil_of_length_eq_zero h0
      rw [if_pos (show ([] : List Ev).length = 0 from rfl)] at hE
      subst hE
      rw [if_neg (by decide)] at hV
      subst hV
      go_enter Try.func24, Try.ntmps24
      go_wp2_with fail
      obtain ⟨bT, hB0⟩ := HH.out
      have HC1 := Lib.hid (HC.out _ (HS.out.below hB0 hD) (Nat.le_trans hD hB0.size))
      refine HC1.out.mono ?_
      rintro e w1 ⟨rfl, hb1⟩
      have bT1 := Blk.on bT hb1
      have HB1 := Lib.hid (And.intro bT1 (below_on hB0 hb1 (Nat.le_refl _)))
      clear bT hB0 hb1 bT1 HH HC HC1
      go_wp2_with (refine wpList_store_row rfl _ _ _ rfl w.heap.size rfl #[.int .i64 0, .int .i64 0, .int .i64 0, .int .i64 0, .int .i64 0, .string ⟨#[]⟩, .int .i64 0] rfl _ _ HB1.out.1 (by kernel_rfl) rfl (by simp [Value.oneCell']) ?_)
      exact bodyPost_ret (results_ct rfl _ _ _ _ _ _ rfl (HB1.out.1.row _ rfl) Try.underlying34 rfl (by kernel_rfl)) rfl ⟨rfl, below_setRow HB1.out.2 (Nat.le_refl _) _⟩
    · rw [if_neg h0] at hE
      subst hE
      rw [if_pos rfl] at hV
      obtain ⟨x, l', rfl⟩ : ∃ x l', l = x :: l' := by
        cases l with
        | nil => exact absurd rfl h0
        | cons x l' => exact ⟨x, l', rfl⟩
      have hVx : V = x := hV
      subst hVx
      have hlz : ¬ (((V :: l').length : Nat) : Int) = 0 := by simp only [List.length_cons]; omega
      have hl0 : (0 : Int) < (((V :: l').length : Nat) : Int) := by simp only [List.length_cons]; omega
      have hSv := fun (W : World) (h : Sl W D 7 A (V :: l').length cap (evC (V :: l'))) => sl_ev h (k := 0) (by simp)
      simp only [List.getElem_cons_zero, Nat.zero_mul, Nat.add_zero] at hSv
      generalize (V :: l').length = n at *
      have HSv := Lib.hid hSv
      clear hV hSv
      obtain ⟨k, sy, pr, rc, a, x, er⟩ := V
      unfold Ev.v
      unfold Ev.cs
      simp only at *
      go_enter Try.func24, Try.ntmps24
      go_wp2_with fail
      obtain ⟨bT, hB0⟩ := HH.out
      have HC1 := Lib.hid (HC.out _ (HS.out.below hB0 hD) (Nat.le_trans hD hB0.size))
      refine HC1.out.mono ?_
      rintro e w1 ⟨rfl, hb1⟩
      have bT1 := Blk.on bT hb1
      have hB1 := below_on hB0 hb1 (Nat.le_refl _)
      obtain ⟨b, o, rfl, hb, e0, e1, e2, e3, e4, e5, e6⟩ := HSv.out w1 (HS.out.below hB1 hD)
      have HB1 := Lib.hid (And.intro bT1 hB1)
      clear bT hB0 hb1 bT1 HH HC HC1 hB1 HS
      go_wp2_with (refine wpList_store_row rfl _ _ _ rfl w.heap.size rfl #[.int .i64 k, .int .i64 sy, .int .i64 pr, .int .i64 rc, .int .i64 a, .string ⟨x.toArray⟩, .int .i64 er] rfl _ _ HB1.out.1 (by kernel_rfl) rfl (by simp [Value.oneCell']) ?_)
      exact bodyPost_ret (results_ct rfl _ _ _ _ _ _ rfl (HB1.out.1.row _ rfl) Try.underlying34 rfl (by kernel_rfl)) rfl ⟨rfl, below_setRow HB1.out.2 (Nat.le_refl _) _⟩
  · rw [if_neg hc] at hE
    subst hE
    rw [if_neg hc] at hV
    subst hV
    have hcb : (E != 0) = true := bne_iff_ne.2 hc
    have hcb2 : (E == 0) = false := by simpa using hc
    go_enter Try.func24, Try.ntmps24
    go_wp2_with fail
    obtain ⟨bT, hB0⟩ := HH.out
    have HC1 := Lib.hid (HC.out _ (HS.out.below hB0 hD) (Nat.le_trans hD hB0.size))
    refine HC1.out.mono ?_
    rintro e w1 ⟨rfl, hb1⟩
    have bT1 := Blk.on bT hb1
    have HB1 := Lib.hid (And.intro bT1 (below_on hB0 hb1 (Nat.le_refl _)))
    clear bT hB0 hb1 bT1 HH HC HC1
    go_wp2_with (refine wpList_store_row rfl _ _ _ rfl w.heap.size rfl #[.int .i64 0, .int .i64 0, .int .i64 0, .int .i64 0, .int .i64 0, .string ⟨#[]⟩, .int .i64 0] rfl _ _ HB1.out.1 (by kernel_rfl) rfl (by simp [Value.oneCell']) ?_)
    exact bodyPost_ret (results_ct rfl _ _ _ _ _ _ rfl (HB1.out.1.row _ rfl) Try.underlying34 rfl (by kernel_rfl)) rfl ⟨rfl, below_setRow HB1.out.2 (Nat.le_refl _) _⟩
end Go.Proofs.Ytogldckkmjbohaa
