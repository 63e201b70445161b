/- queue: Put, First. No condition. -/
import Derived.Test.YtogldckkmjbohaaQ11
namespace Go.Proofs.Ytogldckkmjbohaa
open Go.RowKit
set_option maxRecDepth 100000 in
set_option maxHeartbeats 3200000 in
theorem qPut_any (q : Int) (A : Option Addr) (cap D : Nat) (l : List Ev) (t : Ev) (w : World) (hS : Sl w D 7 A l.length cap (evC l)) (hD : D ≤ w.heap.size) (hn : l.length ≤ 1000) (hl : ∀ t ∈ l, t.text.length ≤ maxLen) (ht : t.text.length ≤ maxLen) :
    Calls Try.prog 15 #[.int .i64 q, .slice A l.length cap, t.v] w fun e w' => (∃ A2 c2, e = .returned (.tuple #[.slice A2 (put1R q l t).1.length c2, .int .i64 (put1R q l t).2]) ∧ Sl w' w'.heap.size 7 A2 (put1R q l t).1.length c2 (evC (put1R q l t).1)) ∧ Below w.heap.size w w' := by
  have hR : put1R q l t = if put1E q l t = 0 then (l ++ [t], 0) else ([], put1E q l t) := rfl
  have hE : put1E q l t = if chkQ q l = 0 then (if evE t = 0 then (if q - l.length ≤ 0 then 6 else 0) else evE t) else chkQ q l := rfl
  have hok : chkQ q l = 0 → _ := fun h => chkQ_ok h
  have HC := Lib.hid (fun W hS hD => qCheck_any q A cap D l W hS hD hn hl)
  have HRi := Lib.hid (fun (A1 : Option Addr) (c1 D1 : Nat) W hS hD => right_any A1 c1 D1 [t] W hS hD (by simp) (by simpa using ht))
  have HBe := Lib.hid (fun W hS hD => begun_any q A cap D l W hS hD hn)
  have HPu := Lib.hid (fun g (A2 : Option Addr) W hb h1 h2 hq hs => put_any q g (g + 1) l.length A2 l t W hb h1 h2 hn hq (Nat.lt_succ_self g) hs)
  have bT := Blk.new w 34 t.cs.toArray
  have hB0 := (Below.refl w.heap.size w).alloc (Nat.le_refl _) (.cells t.cs.toArray 34)
  have HS := Lib.hid hS
  rw [show rightE [t] = evE t from right1 t] at HRi
  have hec : t.cs.toArray.toList = evC [t] := by simp [evC]
  have hsn : ∀ W : World, Sl (W.alloc (.cells t.cs.toArray 34)) (W.heap.size + 1) 7 (some ⟨W.heap.size, 0, none⟩) 1 1 (evC [t]) := fun W => by rw [← hec]; exact sl_new7 W t.cs.toArray rfl
  generalize put1R q l t = R at *
  generalize put1E q l t = E at *
  generalize chkQ q l = c at *
  generalize evE t = r at *
  have hevc : evC (l ++ [t]) = evC l ++ evC [t] := evC_append l [t]
  clear hS hl ht hec
  obtain ⟨k, sy, pr, rc, a, x, er⟩ := t
  unfold Ev.v at *
  unfold Ev.cs at *
  simp only at *
  have HSn := Lib.hid hsn
  have HH := Lib.hid (And.intro bT hB0)
  clear hsn bT hB0 hevc
  by_cases hc : c = 0
  · rw [if_pos hc] at hE
    obtain ⟨h1, h2, h3, _⟩ := hok hc
    subst hc
    clear hok
    go_enter Try.func15, Try.ntmps15
    go_wp2_with fail
    obtain ⟨bT, hB0⟩ := HH.out
    have HC1 := Lib.hid (HC.out _ (HS.out.below hB0 hD) (Nat.le_trans hD hB0.size))
    refine HC1.out.mono ?_
    rintro e w1 ⟨rfl, hb1⟩
    have bT1 := Blk.on bT hb1
    have hB1 := below_on hB0 hb1 (Nat.le_refl _)
    obtain ⟨⟨m0, m1, m2, m3, m4, m5, m6⟩, _⟩ := cells7 bT1
    have hB1a := hB1.alloc hB1.size (.cells #[.int .i64 k, .int .i64 sy, .int .i64 pr, .int .i64 rc, .int .i64 a, .string ⟨x.toArray⟩, .int .i64 er] 34)
    have bT1a := bT1.alloc (.cells #[.int .i64 k, .int .i64 sy, .int .i64 pr, .int .i64 rc, .int .i64 a, .string ⟨x.toArray⟩, .int .i64 er] 34)
    have HR1 := Lib.hid (HRi.out _ _ _ _ (HSn.out w1) (by simp))
    have HB1 := Lib.hid (And.intro bT1a hB1a)
    clear bT hB0 hb1 bT1 hB1 HH HC HC1 HRi bT1a hB1a
    by_cases hr : r = 0
    · subst hr
      rw [if_pos rfl] at hE
      go_wp2_with fail
      refine HR1.out.mono ?_
      rintro e w2 ⟨rfl, hb2⟩
      obtain ⟨bT1a, hB1a⟩ := HB1.out
      have bT2 := Blk.on bT1a hb2
      have hB2 := below_on hB1a hb2 (Nat.le_refl _)
      have HBe2 := Lib.hid (HBe.out w2 (HS.out.below hB2 hD) (Nat.le_trans hD hB2.size))
      have HB2 := Lib.hid (And.intro bT2 hB2)
      clear bT1a hB1a hb2 bT2 hB2 HB1 HR1 m0 m1 m2 m3 m4 m5 m6
      go_wp2_with fail
      refine HBe2.out.mono ?_
      rintro e w3 ⟨⟨A2, g, hg1, hg2, rfl, hw3, hs3⟩, hb3⟩
      obtain ⟨bT2, hB2⟩ := HB2.out
      have bT3 := Blk.on bT2 hb3
      have hB3 := below_on hB2 hb3 (Nat.le_refl _)
      obtain ⟨⟨m0, m1, m2, m3, m4, m5, m6⟩, _⟩ := cells7 bT3
      have HP := Lib.hid (HPu.out g A2 w3 hw3 h1 (by omega) (.inl ⟨rfl, hs3.more (by omega)⟩) (by omega))
      have HB3 := Lib.hid hB3
      have hwg : w.heap.size ≤ g := Nat.le_trans hB2.size hg1
      have HWG := Lib.hid hwg
      have HG2 := Lib.hid hg2
      clear bT2 hB2 hb3 bT3 hB3 HB2 HBe2 HBe HPu hw3 hs3 hwg hg1 hg2
      by_cases hroom : q - (l.length : Int) ≤ 0
      · rw [if_pos hroom] at hE
        subst hE
        rw [if_neg (by decide)] at hR
        subst hR
        have HP' := Lib.hid (HP.out.mono fun e w' h => (show e = .returned (.bool false) ∧ Below w3.heap.size w3 w' from h.elim (fun h => ⟨h.2.1, h.2.2⟩) (fun h => by have := h.1; omega)))
        clear HP
        go_wp2_with fail
        refine HP'.out.mono ?_
        rintro e w4 ⟨rfl, hb4⟩
        have HB4 := Lib.hid (below_on HB3.out hb4 (Nat.le_refl _))
        clear hb4
        go_wp2_with fail
        go_ret2
        exact ⟨⟨none, 0, rfl, Sl.nil _ _ _⟩, HB4.out⟩
      · rw [if_neg hroom] at hE
        subst hE
        rw [if_pos rfl] at hR
        obtain ⟨Rl, Re⟩ := R
        injection hR with hRl hRe
        subst hRe
        have hlen : Rl.length = l.length + 1 := by rw [hRl]; simp
        have HL := Lib.hid (And.intro hRl hlen)
        clear hRl hlen
        have HP' := Lib.hid (HP.out.mono fun e w' h => (show e = .returned (.bool true) ∧ _ from h.elim (fun h => absurd h.1 hroom) (fun h => h.2)))
        clear HP
        go_wp2_with fail
        refine HP'.out.mono ?_
        rintro e w4 ⟨rfl, A4, c4, X, b4, o4, hx4, hg4⟩
        have hsz : g + 1 ≤ X.heap.size := by have := hx4.size; have := HG2.out; omega
        have hB4 : Below w.heap.size w w4 := (HB3.out.trans (hx4.mono (by have := HWG.out; omega))).grown hg4 (by have := HWG.out; omega) (fun k hk => by injection hk with hk; have := HWG.out; omega)
        obtain ⟨d0, d1, _, _⟩ := cells2 b4
        have HB4 := Lib.hid (And.intro hB4 o4.sl)
        clear b4 o4 hx4 hg4 hB4
        go_wp2_with fail
        go_ret2
        refine ⟨⟨A4, c4, ?_, ?_⟩, HB4.out.1⟩
        · simp only [HL.out.2]; rfl
        · simp only [HL.out.2]; rw [HL.out.1]; exact HB4.out.2
    · rw [if_neg hr] at hE
      subst hE
      rw [if_neg hr] at hR
      subst hR
      have hrb : (E != 0) = true := bne_iff_ne.2 hr
      go_wp2_with fail
      refine HR1.out.mono ?_
      rintro e w2 ⟨rfl, hb2⟩
      have HB2 := Lib.hid (below_on HB1.out.2 hb2 (Nat.le_refl _))
      clear hb2
      go_wp2_with fail
      go_ret2
      exact ⟨⟨none, 0, rfl, Sl.nil _ _ _⟩, HB2.out⟩
  · rw [if_neg hc] at hE
    subst hE
    rw [if_neg hc] at hR
    subst hR
    clear hok
    have hcb : (E != 0) = true := bne_iff_ne.2 hc
    have hcb2 : (E == 0) = false := by simpa using hc
    clear hc
    go_enter Try.func15, Try.ntmps15
    go_wp2_with fail
    obtain ⟨bT, hB0⟩ := HH.out
    have HC1 := Lib.hid (HC.out _ (HS.out.below hB0 hD) (Nat.le_trans hD hB0.size))
    refine HC1.out.mono ?_
    rintro e w1 ⟨rfl, hb1⟩
    have HB1 := Lib.hid (below_on hB0 hb1 (Nat.le_refl _))
    clear bT hB0 hb1 HH
    go_wp2_with fail
    go_ret2
    exact ⟨⟨none, 0, rfl, Sl.nil _ _ _⟩, HB1.out⟩
def firstE (q : Int) (l : List Ev) : Int := if chkQ q l = 0 then (if l.length = 0 then 20 else 0) else chkQ q l
def firstV (q : Int) (l : List Ev) : Ev := if firstE q l = 0 then l.headD ⟨0, 0, 0, 0, 0, [], 0⟩ else ⟨0, 0, 0, 0, 0, [], 0⟩
theorem results_ct {P : Program} {fn : Func} {p u : Tmp} {tp : TypeId} (h : fn.results = #[.cell p tp, .tmp u]) (tmps : Array Value) (w : World) (g : Nat) (t : TypeId) (cs : Array Value) (d : TypeDesc)
    (hp : tmps.getD p undef = .pointer (some ⟨g, 0, none⟩)) (hg : Blk w g t cs)
    (hu : P.underlying tp = some d) (hd : (match d with | .struct _ | .array _ _ => true | _ => false) = true) (hi : (P.info? tp).map (·.size) = some cs.size) :
    (results fn tmps).run P w = .ok (.tuple #[.agg cs, tmps.getD u undef]) w := by
  obtain ⟨fr, hg, _⟩ := hg
  have hp' : tmps[p]?.getD undef = .pointer (some ⟨g, 0, none⟩) := by simpa using hp
  simp [results, h, hp', asAddr, run_loadVar_row w g t tp cs fr d hg hu hd hi]
set_option maxRecDepth 100000 in
set_option maxHeartbeats 3200000 in
theorem qFirst_any (q : Int) (A : Option Addr) (cap D : Nat) (l : List Ev) (w : World) (hS : Sl w D 7 A l.length cap (evC l)) (hD : D ≤ w.heap.size) (hn : l.length ≤ 1000) (hl : ∀ t ∈ l, t.text.length ≤ maxLen) :
    Calls Try.prog 23 #[.int .i64 q, .slice A l.length cap] w fun e w' => e = .returned (.tuple #[(firstV q l).v, .int .i64 (firstE q l)]) ∧ Below w.heap.size w w' := by
  have hV : firstV q l = if firstE q l = 0 then l.headD ⟨0, 0, 0, 0, 0, [], 0⟩ else ⟨0, 0, 0, 0, 0, [], 0⟩ := rfl
  have hE : firstE q l = if chkQ q l = 0 then (if l.length = 0 then 20 else 0) else chkQ q l := rfl
  have HC := Lib.hid (fun W hS hD => qCheck_any q A cap D l W hS hD hn hl)
  have bT := Blk.new w 34 #[.int .i64 0, .int .i64 0, .int .i64 0, .int .i64 0, .int .i64 0, .string ⟨#[]⟩, .int .i64 0]
  have hB0 := (Below.refl w.heap.size w).alloc (Nat.le_refl _) (.cells #[.int .i64 0, .int .i64 0, .int .i64 0, .int .i64 0, .int .i64 0, .string ⟨#[]⟩, .int .i64 0] 34)
  have HS := Lib.hid hS
  have HH := Lib.hid (And.intro bT hB0)
  generalize firstV q l = V at *
  generalize firstE q l = E at *
  generalize chkQ q l = c at *
  clear hS hl bT hB0
  by_cases hc : c = 0
  · rw [if_pos hc] at hE
    subst hc
    by_cases h0 : l.length = 0
    · obtain rfl : l = [] := List.eq_nil_of_length_eq_zero h0
      rw [if_pos (show ([] : List Ev).length = 0 from rfl)] at hE
      subst hE
      rw [if_neg (by decide)] at hV
      subst hV
      go_enter Try.func23, Try.ntmps23
      go_wp2_with fail
      obtain ⟨bT, hB0⟩ := HH.out
      have HC1 := Lib.hid (HC.out _ (HS.out.below hB0 hD) (Nat.le_trans hD hB0.size))
      refine HC1.out.mono ?_
      rintro e w1 ⟨rfl, hb1⟩
      have bT1 := Blk.on bT hb1
      have HB1 := Lib.hid (And.intro bT1 (below_on hB0 hb1 (Nat.le_refl _)))
      clear bT hB0 hb1 bT1 HH HC HC1
      go_wp2_with (refine wpList_store_row rfl _ _ _ rfl w.heap.size rfl #[.int .i64 0, .int .i64 0, .int .i64 0, .int .i64 0, .int .i64 0, .string ⟨#[]⟩, .int .i64 0] rfl _ _ HB1.out.1 (by kernel_rfl) rfl (by simp [Value.oneCell']) ?_)
      exact bodyPost_ret (results_ct rfl _ _ _ _ _ _ rfl (HB1.out.1.row _ rfl) Try.underlying34 rfl (by kernel_rfl)) rfl ⟨rfl, below_setRow HB1.out.2 (Nat.le_refl _) _⟩
    · rw [if_neg h0] at hE
      subst hE
      rw [if_pos rfl] at hV
      obtain ⟨x, l', rfl⟩ : ∃ x l', l = x :: l' := by
        cases l with
        | nil => exact absurd rfl h0
        | cons x l' => exact ⟨x, l', rfl⟩
      have hVx : V = x := hV
      subst hVx
      have hlz : ¬ (((V :: l').length : Nat) : Int) = 0 := by simp only [List.length_cons]; omega
      have hl0 : (0 : Int) < (((V :: l').length : Nat) : Int) := by simp only [List.length_cons]; omega
      have hSv := fun (W : World) (h : Sl W D 7 A (V :: l').length cap (evC (V :: l'))) => sl_ev h (k := 0) (by simp)
      simp only [List.getElem_cons_zero, Nat.zero_mul, Nat.add_zero] at hSv
      generalize (V :: l').length = n at *
      have HSv := Lib.hid hSv
      clear hV hSv
      obtain ⟨k, sy, pr, rc, a, x, er⟩ := V
      unfold Ev.v
      unfold Ev.cs
      simp only at *
      go_enter Try.func23, Try.ntmps23
      go_wp2_with fail
      obtain ⟨bT, hB0⟩ := HH.out
      have HC1 := Lib.hid (HC.out _ (HS.out.below hB0 hD) (Nat.le_trans hD hB0.size))
      refine HC1.out.mono ?_
      rintro e w1 ⟨rfl, hb1⟩
      have bT1 := Blk.on bT hb1
      have hB1 := below_on hB0 hb1 (Nat.le_refl _)
      obtain ⟨b, o, rfl, hb, e0, e1, e2, e3, e4, e5, e6⟩ := HSv.out w1 (HS.out.below hB1 hD)
      have HB1 := Lib.hid (And.intro bT1 hB1)
      clear bT hB0 hb1 bT1 HH HC HC1 hB1 HS
      go_wp2_with (refine wpList_store_row rfl _ _ _ rfl w.heap.size rfl #[.int .i64 k, .int .i64 sy, .int .i64 pr, .int .i64 rc, .int .i64 a, .string ⟨x.toArray⟩, .int .i64 er] rfl _ _ HB1.out.1 (by kernel_rfl) rfl (by simp [Value.oneCell']) ?_)
      exact bodyPost_ret (results_ct rfl _ _ _ _ _ _ rfl (HB1.out.1.row _ rfl) Try.underlying34 rfl (by kernel_rfl)) rfl ⟨rfl, below_setRow HB1.out.2 (Nat.le_refl _) _⟩
  · rw [if_neg hc] at hE
    subst hE
    rw [if_neg hc] at hV
    subst hV
    have hcb : (E != 0) = true := bne_iff_ne.2 hc
    have hcb2 : (E == 0) = false := by simpa using hc
    go_enter Try.func23, Try.ntmps23
    go_wp2_with fail
    obtain ⟨bT, hB0⟩ := HH.out
    have HC1 := Lib.hid (HC.out _ (HS.out.below hB0 hD) (Nat.le_trans hD hB0.size))
    refine HC1.out.mono ?_
    rintro e w1 ⟨rfl, hb1⟩
    have bT1 := Blk.on bT hb1
    have HB1 := Lib.hid (And.intro bT1 (below_on hB0 hb1 (Nat.le_refl _)))
    clear bT hB0 hb1 bT1 HH HC HC1
    go_wp2_with (refine wpList_store_row rfl _ _ _ rfl w.heap.size rfl #[.int .i64 0, .int .i64 0, .int .i64 0, .int .i64 0, .int .i64 0, .string ⟨#[]⟩, .int .i64 0] rfl _ _ HB1.out.1 (by kernel_rfl) rfl (by simp [Value.oneCell']) ?_)
    exact bodyPost_ret (results_ct rfl _ _ _ _ _ _ rfl (HB1.out.1.row _ rfl) Try.underlying34 rfl (by kernel_rfl)) rfl ⟨rfl, below_setRow HB1.out.2 (Nat.le_refl _) _⟩
end Go.Proofs.Ytogldckkmjbohaa
