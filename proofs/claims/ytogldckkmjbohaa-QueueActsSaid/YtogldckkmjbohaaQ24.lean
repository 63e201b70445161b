/- The reference's queue: Put, Take. No condition. -/
import Derived.Test.YtogldckkmjbohaaQ23
namespace Go.Proofs.Ytogldckkmjbohaa
open Go.RowKit
theorem put_rel (q : Int) (l : List Ev) (t : Ev) : ∃ (R : List Ev) (n : Nat) (er : Int), putR q l [t] = (R, n, er) ∧ ((er ≠ 0 ∧ put1R q l t = ([], er)) ∨ (er = 0 ∧ n = 0 ∧ put1R q l t = ([], 6)) ∨ (er = 0 ∧ n = 1 ∧ put1R q l t = (R, 0))) := by
  unfold putR putE putN put1R put1E
  rw [right1]
  by_cases hc : chkQ q l = 0
  · rw [if_pos hc, if_pos hc]
    by_cases hr : evE t = 0
    · rw [if_pos hr, if_pos hr]
      by_cases h : q - (l.length : Int) ≤ 0
      · rw [if_pos h, show min ([t] : List Ev).length (q - l.length).toNat = 0 by simp only [List.length_singleton]; omega]
        exact ⟨_, _, _, rfl, .inr (.inl ⟨rfl, rfl, rfl⟩)⟩
      · rw [if_neg h, show min ([t] : List Ev).length (q - l.length).toNat = 1 by simp only [List.length_singleton]; omega]
        exact ⟨_, _, _, rfl, .inr (.inr ⟨rfl, rfl, rfl⟩)⟩
    · rw [if_neg hr, if_neg hr, if_neg hr]
      exact ⟨_, _, _, rfl, .inl ⟨hr, rfl⟩⟩
  · rw [if_neg hc, if_neg hc, if_neg hc, if_neg hc]
    exact ⟨_, _, _, rfl, .inl ⟨hc, rfl⟩⟩
set_option maxRecDepth 100000 in
set_option maxHeartbeats 3200000 in
theorem rqPut_any (q : Int) (A : Option Addr) (cap D : Nat) (l : List Ev) (t : Ev) (w : World) (hS : Sl w D 7 A l.length cap (evC l)) (hD : D ≤ w.heap.size) (hn : l.length ≤ 100) (hl : ∀ t ∈ l, t.text.length ≤ maxLen) (ht : t.text.length ≤ maxLen) :
    Calls Try.prog 16 #[.int .i64 q, .slice A l.length cap, t.v] w fun e w' => (∃ A2 c2, e = .returned (.tuple #[.slice A2 (put1R q l t).1.length c2, .int .i64 (put1R q l t).2]) ∧ Sl w' w'.heap.size 7 A2 (put1R q l t).1.length c2 (evC (put1R q l t).1)) ∧ Below w.heap.size w w' := by
  obtain ⟨R, n, er, hput, hcase⟩ := put_rel q l t
  have HP := Lib.hid (fun A2 W hS hM => rqPutAll_any q A A2 cap 1 W.heap.size l [t] W hS hM (Nat.le_refl _) hn (by simp) hl (by simpa using ht))
  rw [hput] at HP
  have bT := Blk.new w 34 t.cs.toArray
  have hB0 := (Below.refl w.heap.size w).alloc (Nat.le_refl _) (.cells t.cs.toArray 34)
  have hec : t.cs.toArray.toList = evC [t] := by simp [evC]
  have hsn : ∀ W : World, Sl (W.alloc (.cells t.cs.toArray 34)) (W.heap.size + 1) 7 (some ⟨W.heap.size, 0, none⟩) 1 1 (evC [t]) := fun W => by rw [← hec]; exact sl_new7 W t.cs.toArray rfl
  have s2 := hsn (w.alloc (.cells t.cs.toArray 34))
  rw [show (w.alloc (.cells t.cs.toArray 34)).heap.size = w.heap.size + 1 by simp] at s2
  have hB1 := hB0.alloc hB0.size (.cells t.cs.toArray 34)
  have s1 := hS.below hB1 hD
  generalize put1R q l t = V at *
  generalize evC [t] = et at *
  clear hput hS hl ht hec hsn
  obtain ⟨k, sy, pr, rc, a, x, e'⟩ := t
  unfold Ev.v at *
  unfold Ev.cs at *
  simp only at *
  have HP1 := Lib.hid (HP.out _ _ (s1.more (Nat.le_trans hD hB1.size)) (s2.more (by simp)))
  have HB1 := Lib.hid hB1
  clear s1 s2 hB0 hB1 bT HP
  rcases hcase with ⟨he, hv⟩ | ⟨he, hn0, hv⟩ | ⟨he, hn1, hv⟩
  · subst hv
    have hb1 : (er == 0) = false := by simpa using he
    have hb2 : (er != 0) = true := bne_iff_ne.2 he
    go_enter Try.func16, Try.ntmps16
    go_wp2_with fail
    refine HP1.out.mono ?_
    rintro e w1 ⟨⟨A1, c1, rfl, _⟩, hd1⟩
    have HB2 := Lib.hid (below_on HB1.out hd1 (Nat.le_refl _))
    clear hd1
    go_wp2_with fail
    go_ret2
    exact ⟨⟨none, 0, rfl, Sl.nil _ _ _⟩, HB2.out⟩
  · subst hv he hn0
    go_enter Try.func16, Try.ntmps16
    go_wp2_with fail
    refine HP1.out.mono ?_
    rintro e w1 ⟨⟨A1, c1, rfl, _⟩, hd1⟩
    have HB2 := Lib.hid (below_on HB1.out hd1 (Nat.le_refl _))
    clear hd1
    go_wp2_with fail
    go_ret2
    exact ⟨⟨none, 0, rfl, Sl.nil _ _ _⟩, HB2.out⟩
  · subst hv he hn1
    go_enter Try.func16, Try.ntmps16
    go_wp2_with fail
    refine HP1.out.mono ?_
    rintro e w1 ⟨⟨A1, c1, rfl, s1⟩, hd1⟩
    have HB2 := Lib.hid (And.intro s1 (below_on HB1.out hd1 (Nat.le_refl _)))
    clear hd1 s1
    go_wp2_with fail
    go_ret2
    exact ⟨⟨A1, c1, rfl, HB2.out.1⟩, HB2.out.2⟩
theorem Own.grownN {w w' : World} {B s n cap : Nat} {e : TypeId} {A : Option Addr} {xs : List Value} (h : Own w B e s A n cap xs) (hg : w.grownBy w' none) : Own w' B e s A n cap xs :=
  h.keep fun g cur _ hb => hb.grown hg (by simp)
set_option maxRecDepth 100000 in
set_option maxHeartbeats 6400000 in
theorem rqTake_any (q n : Int) (A : Option Addr) (cap D : Nat) (l : List Ev) (w : World) (hS : Sl w D 7 A l.length cap (evC l)) (hD : D ≤ w.heap.size) (hn : l.length ≤ 1000) (hl : ∀ t ∈ l, t.text.length ≤ maxLen) :
    Calls Try.prog 18 #[.int .i64 q, .slice A l.length cap, .int .i64 n] w fun e w' => takePost (takeR q l n) e w' ∧ Below w.heap.size w w' := by
  obtain ⟨i0, hi0, hz0, hz1, hz2⟩ := info_parts infoE
  have HC := Lib.hid (rqCheck_any q A cap D l w hS hD hn hl)
  have HS := Lib.hid hS
  have hE : takeE q l n = if chkQ q l = 0 then (if n < 1 ∨ 64 < n then 2 else 0) else chkQ q l := rfl
  have hR : takeR q l n = if takeE q l n = 0 then (l.drop n.toNat, l.take n.toNat, 0) else ([], [], takeE q l n) := rfl
  generalize takeR q l n = R at *
  generalize takeE q l n = E at *
  generalize chkQ q l = c at *
  have fail : ∀ (E : Int) (w' : World), takePost ([], [], E) (.returned (.tuple #[.slice none 0 0, .slice none 0 0, .int .i64 E])) w' := fun E w' => ⟨none, 0, none, 0, rfl, Sl.nil _ _ _, Sl.nil _ _ _⟩
  have HFail := Lib.hid fail
  have hcap := hS.2.1
  have hcm := hS.2.2.1
  clear hS hl fail
  by_cases hc : c = 0
  · rw [if_pos hc] at hE
    subst hc
    by_cases hr : n < 1 ∨ 64 < n
    · rw [if_pos hr] at hE
      subst hE
      rw [if_neg (by decide)] at hR
      subst hR
      rcases (show n < 1 ∨ (¬ n < 1 ∧ 64 < n) by omega) with h | ⟨h, h2⟩
      all_goals
        clear hr
        go_enter Try.func18, Try.ntmps18
        go_wp2_with fail
        refine HC.out.mono ?_
        rintro e w1 ⟨rfl, hb1⟩
        go_wp2_with fail
        go_ret3
        exact ⟨HFail.out _ _, hb1⟩
    · rw [if_neg hr] at hE
      subst hE
      rw [if_pos rfl] at hR
      obtain ⟨k, rfl⟩ := Int.eq_ofNat_of_zero_le (show 0 ≤ n by omega)
      rw [Int.toNat_natCast] at hR
      have h1 : (1 : Int) ≤ k := by omega
      have h2 : (k : Int) ≤ 64 := by omega
      obtain ⟨m, hml, hdk, htk, hmin⟩ : ∃ m : Nat, m ≤ l.length ∧ l.drop k = l.drop m ∧ l.take k = l.take m ∧ ((k : Int) = m ∧ (m : Int) < l.length ∨ (l.length : Int) = m ∧ (m : Int) ≤ k) := by
        rcases Nat.lt_or_ge k l.length with h | h
        · exact ⟨k, by omega, rfl, rfl, .inl ⟨rfl, by omega⟩⟩
        · exact ⟨l.length, Nat.le_refl _, by rw [List.drop_of_length_le h, List.drop_of_length_le (Nat.le_refl _)], by rw [List.take_of_length_le h, List.take_of_length_le (Nat.le_refl _)], .inr ⟨rfl, by omega⟩⟩
      rw [hdk, htk] at hR
      have hl1 : (l.drop m).length = l.length - m := List.length_drop
      have hl2 : (l.take m).length = m := by rw [List.length_take]; omega
      have HR := Lib.hid (And.intro hR (And.intro hl1 hl2))
      have hone1 := evC_one (l.drop m)
      have hone2 := evC_one (l.take m)
      clear hr hR hdk htk hl1 hl2
      have hdl : (l.drop m).length = l.length - m := List.length_drop
      have hcase : (∃ b o, A = some ⟨b, o, none⟩ ∧ m < l.length) ∨ (m = l.length ∧ cap = m) ∨ (m = l.length ∧ ¬ cap = m) := by
        rcases Nat.lt_or_ge m l.length with h | h
        · obtain ⟨b, o, e, _⟩ := HS.out.2.2.2 (by omega)
          exact .inl ⟨b, o, e, h⟩
        · by_cases hc3 : cap = m
          · exact .inr (.inl ⟨by omega, hc3⟩)
          · exact .inr (.inr ⟨by omega, hc3⟩)
      have hmz : (m : Int) ≤ l.length := by omega
      have hmc : (m : Int) ≤ cap := by omega
      have hm1 : l.length - m ≤ maxLen := by simp only [maxLen]; omega
      have hm2 : (l.length - m) * 64 ≤ 140737488355328 := by omega
      have hm3 : m ≤ maxLen := by simp only [maxLen]; omega
      have hm4 : m * 64 ≤ 140737488355328 := by omega
      rcases hcase with ⟨b, o, rfl, hlt⟩ | ⟨hme, hc3⟩ | ⟨hme, hc3⟩
      · have HCut := Lib.hid (show ∀ w1 : World, Below w.heap.size w w1 → ∀ W A' c', Below w1.heap.size w1 W → (A' = some ⟨b, o + m * 7, none⟩ ∧ c' = cap - m) → Sl W D 7 A' (l.length - m) c' (evC (l.drop m)) from fun w1 hb1 W A' c' hW ⟨h1, h2⟩ => by
          subst h1 h2
          have h := Sl.dropE ((HS.out.below hb1 hD).below hW (Nat.le_trans hD hb1.size)) hlt
          rw [hdl] at h
          exact h)
        have hne : ¬ cap = m := by omega
        clear hdl
        rcases hmin with ⟨hk, hmn⟩ | ⟨hk, hmn⟩
        · have hkn : m = k := by omega
          subst hkn
          clear hk
          go_enter Try.func18, Try.ntmps18
          go_wp2_with fail
          refine HC.out.mono ?_
          rintro e w1 ⟨rfl, hb1⟩
          have hD1 : D ≤ w1.heap.size := Nat.le_trans hD hb1.size
          have htakeE : ∀ W, Below w1.heap.size w1 W → Sl W D 7 (some ⟨b, o, none⟩) m cap (evC (l.take m)) := fun W hW => by
            have h := ((HS.out.below hb1 hD).below hW hD1).take hml
            rw [evC_take] at h
            exact h
          have hcutE := HCut.out w1 hb1
          have HB1 := Lib.hid hb1
          clear hb1 HC HCut
          go_wp2_with fail
          have hy0 := (Below.refl w1.heap.size w1).drew
          have hy1 := ((Below.refl w1.heap.size w1).alloc (Nat.le_refl _) (.cells #[] 34)).drew
          have hy2 := (((Below.refl w1.heap.size w1).alloc (Nat.le_refl _) (.cells #[] 34)).alloc (by simp) (.cells #[] 34)).drew
          go_region_held3 (fun W => Below w1.heap.size w1 W)
            (first
              | exact hyz
              | exact hya
              | exact hya1
              | exact hza
              | exact hza1
              | exact hy1
              | exact hy2
              | exact hy0)
            (first
              | (have ou := oA; refine step_append_bare _ (by rfl) (.tmp 35) (.tmp 38) 22 (by rfl) w1.heap.size 34 i0 _ 7 64 Try.underlying22 hi0 hz0 hz1 hz2 rfl (by decide) (by rfl) (by rfl) (htakeE _ (by first | exact hya | exact hya1)) hone2 hm3 hm4 (by first | exact hya.size | exact hya1.size) ?_; intro A8 c8 w8 oB gB bB; have oA2 : Own w8 w1.heap.size 34 7 A7 (l.length - m) c7 (evC (l.drop m)) := (by first | exact oA.grownN gB | exact (oA.alloc _).grownN gB); have hyz : Below w1.heap.size w1 w8 := (by first | exact hya.trans bB | exact hya1.trans bB); have hfin := Lib.hid (And.intro oA2.sl (And.intro oB.sl hyz)); clear oA oB oA2 gB bB)
              | (have ou := oB; refine step_append_bare _ (by rfl) (.tmp 30) (.tmp 33) 22 (by rfl) w1.heap.size 34 i0 _ 7 64 Try.underlying22 hi0 hz0 hz1 hz2 rfl (by decide) (by rfl) (by rfl) (hcutE _ _ _ (by first | exact hza | exact hza1) (by exact ⟨rfl, rfl⟩)) hone1 hm1 hm2 (by first | exact hza.size | exact hza1.size) ?_; intro A7 c7 w7 oA gA bA; have oB2 : Own w7 w1.heap.size 34 7 A8 m c8 (evC (l.take m)) := (by first | exact oB.grownN gA | exact (oB.alloc _).grownN gA); have hyz : Below w1.heap.size w1 w7 := (by first | exact hza.trans bA | exact hza1.trans bA); have hfin := Lib.hid (And.intro oA.sl (And.intro oB2.sl hyz)); clear oA oB oB2 gA bA)
              | (refine step_append_bare _ (by rfl) (.tmp 30) (.tmp 33) 22 (by rfl) w1.heap.size 34 i0 _ 7 64 Try.underlying22 hi0 hz0 hz1 hz2 rfl (by decide) (by rfl) (by rfl) (hcutE _ _ _ (by first | exact hy1 | exact hy2) (by exact ⟨rfl, rfl⟩)) hone1 hm1 hm2 (by first | exact hy1.size | exact hy2.size) ?_; intro A7 c7 w7 oA gA bA; have hya : Below w1.heap.size w1 w7 := (by first | exact hy1.trans bA | exact hy2.trans bA); have hya1 := hya.alloc hya.size (.cells #[] 34))
              | (refine step_append_bare _ (by rfl) (.tmp 35) (.tmp 38) 22 (by rfl) w1.heap.size 34 i0 _ 7 64 Try.underlying22 hi0 hz0 hz1 hz2 rfl (by decide) (by rfl) (by rfl) (htakeE _ (by first | exact hy1 | exact hy2)) hone2 hm3 hm4 (by first | exact hy1.size | exact hy2.size) ?_; intro A8 c8 w8 oB gB bB; have hza : Below w1.heap.size w1 w8 := (by first | exact hy1.trans bB | exact hy2.trans bB); have hza1 := hza.alloc hza.size (.cells #[] 34)))
          all_goals
            clear hy0 hy1 hy2 htakeE hcutE
            (try clear hya hya1)
            (try clear hza hza1)
            clear hyz
            go_wp2_with fail
            go_ret3
            obtain ⟨hR, hl1, hl2⟩ := HR.out
            refine ⟨?_, below_on HB1.out hfin.out.2.2 (Nat.le_refl _)⟩
            rw [hR]
            refine ⟨A7, c7, A8, c8, ?_, ?_, ?_⟩
            · simp only [hl1, hl2]; rfl
            · rw [hl1]; exact hfin.out.1
            · rw [hl2]; exact hfin.out.2.1
        · exfalso; omega
      · have hdE : l.drop m = [] := List.drop_of_length_le (by omega)
        have HCut := Lib.hid (show ∀ w1 : World, Below w.heap.size w w1 → ∀ W A' c', Below w1.heap.size w1 W → c' ≤ maxLen → Sl W D 7 A' 0 c' (evC (l.drop m)) from fun w1 hb1 W A' c' hW h => by
          rw [hdE]
          exact Sl.empty _ _ _ _ h)
        have hmk : (m : Int) < k ∨ m = k := by omega
        have hlm : (l.length : Int) = m := by omega
        clear hdl hdE hmin hme hmz
        have hc3' := hc3.symm
        clear hc3
        subst hc3'
        rcases hmk with hmk | hmk
        case' inr => subst hmk
        all_goals
          go_enter Try.func18, Try.ntmps18
          go_wp2_with fail
          refine HC.out.mono ?_
          rintro e w1 ⟨rfl, hb1⟩
          have hD1 : D ≤ w1.heap.size := Nat.le_trans hD hb1.size
          have htakeE : ∀ W, Below w1.heap.size w1 W → Sl W D 7 A m m (evC (l.take m)) := fun W hW => by
            have h := ((HS.out.below hb1 hD).below hW hD1).take hml
            rw [evC_take] at h
            exact h
          have hcutE := HCut.out w1 hb1
          have HB1 := Lib.hid hb1
          clear hb1 HC HCut
          go_wp2_with fail
          have hy0 := (Below.refl w1.heap.size w1).drew
          have hy1 := ((Below.refl w1.heap.size w1).alloc (Nat.le_refl _) (.cells #[] 34)).drew
          have hy2 := (((Below.refl w1.heap.size w1).alloc (Nat.le_refl _) (.cells #[] 34)).alloc (by simp) (.cells #[] 34)).drew
          go_region_held3 (fun W => Below w1.heap.size w1 W)
            (first
              | exact hyz
              | exact hya
              | exact hya1
              | exact hza
              | exact hza1
              | exact hy1
              | exact hy2
              | exact hy0)
            (first
              | (have ou := oA; refine step_append_bare _ (by rfl) (.tmp 35) (.tmp 38) 22 (by rfl) w1.heap.size 34 i0 _ 7 64 Try.underlying22 hi0 hz0 hz1 hz2 rfl (by decide) (by rfl) (by rfl) (htakeE _ (by first | exact hya | exact hya1)) hone2 hm3 hm4 (by first | exact hya.size | exact hya1.size) ?_; intro A8 c8 w8 oB gB bB; have oA2 : Own w8 w1.heap.size 34 7 A7 0 c7 (evC (l.drop m)) := (by first | exact oA.grownN gB | exact (oA.alloc _).grownN gB); have hyz : Below w1.heap.size w1 w8 := (by first | exact hya.trans bB | exact hya1.trans bB); have hfin := Lib.hid (And.intro oA2.sl (And.intro oB.sl hyz)); clear oA oB oA2 gB bB)
              | (have ou := oB; refine step_append_bare _ (by rfl) (.tmp 30) (.tmp 33) 22 (by rfl) w1.heap.size 34 i0 _ 7 64 Try.underlying22 hi0 hz0 hz1 hz2 rfl (by decide) (by rfl) (by rfl) (hcutE _ _ _ (by first | exact hza | exact hza1) (by omega)) hone1 (Nat.zero_le _) (by decide) (by first | exact hza.size | exact hza1.size) ?_; intro A7 c7 w7 oA gA bA; have oB2 : Own w7 w1.heap.size 34 7 A8 m c8 (evC (l.take m)) := (by first | exact oB.grownN gA | exact (oB.alloc _).grownN gA); have hyz : Below w1.heap.size w1 w7 := (by first | exact hza.trans bA | exact hza1.trans bA); have hfin := Lib.hid (And.intro oA.sl (And.intro oB2.sl hyz)); clear oA oB oB2 gA bA)
              | (refine step_append_bare _ (by rfl) (.tmp 30) (.tmp 33) 22 (by rfl) w1.heap.size 34 i0 _ 7 64 Try.underlying22 hi0 hz0 hz1 hz2 rfl (by decide) (by rfl) (by rfl) (hcutE _ _ _ (by first | exact hy1 | exact hy2) (by omega)) hone1 (Nat.zero_le _) (by decide) (by first | exact hy1.size | exact hy2.size) ?_; intro A7 c7 w7 oA gA bA; have hya : Below w1.heap.size w1 w7 := (by first | exact hy1.trans bA | exact hy2.trans bA); have hya1 := hya.alloc hya.size (.cells #[] 34))
              | (refine step_append_bare _ (by rfl) (.tmp 35) (.tmp 38) 22 (by rfl) w1.heap.size 34 i0 _ 7 64 Try.underlying22 hi0 hz0 hz1 hz2 rfl (by decide) (by rfl) (by rfl) (htakeE _ (by first | exact hy1 | exact hy2)) hone2 hm3 hm4 (by first | exact hy1.size | exact hy2.size) ?_; intro A8 c8 w8 oB gB bB; have hza : Below w1.heap.size w1 w8 := (by first | exact hy1.trans bB | exact hy2.trans bB); have hza1 := hza.alloc hza.size (.cells #[] 34)))
          all_goals
            clear hy0 hy1 hy2 htakeE hcutE
            (try clear hya hya1)
            (try clear hza hza1)
            clear hyz
            go_wp2_with fail
            go_ret3
            obtain ⟨hR, hl1', hl2⟩ := HR.out
            have hl1 : (l.drop m).length = 0 := by rw [hl1']; omega
            refine ⟨?_, below_on HB1.out hfin.out.2.2 (Nat.le_refl _)⟩
            rw [hR]
            refine ⟨A7, c7, A8, c8, ?_, ?_, ?_⟩
            · simp only [hl1, hl2]; rfl
            · rw [hl1]; exact hfin.out.1
            · rw [hl2]; exact hfin.out.2.1
      · have hdE : l.drop m = [] := List.drop_of_length_le (by omega)
        have HCut := Lib.hid (show ∀ w1 : World, Below w.heap.size w w1 → ∀ W A' c', Below w1.heap.size w1 W → c' ≤ maxLen → Sl W D 7 A' (l.length - m) c' (evC (l.drop m)) from fun w1 hb1 W A' c' hW h => by
          rw [hdE, show l.length - m = 0 by omega]
          exact Sl.empty _ _ _ _ h)
        have hmk : (m : Int) < k ∨ m = k := by omega
        have hlm : (l.length : Int) = m := by omega
        clear hdl hdE hmin hme hmz
        rcases hmk with hmk | hmk
        case' inr => subst hmk
        all_goals
          go_enter Try.func18, Try.ntmps18
          go_wp2_with fail
          refine HC.out.mono ?_
          rintro e w1 ⟨rfl, hb1⟩
          have hD1 : D ≤ w1.heap.size := Nat.le_trans hD hb1.size
          have htakeE : ∀ W, Below w1.heap.size w1 W → Sl W D 7 A m cap (evC (l.take m)) := fun W hW => by
            have h := ((HS.out.below hb1 hD).below hW hD1).take hml
            rw [evC_take] at h
            exact h
          have hcutE := HCut.out w1 hb1
          have HB1 := Lib.hid hb1
          clear hb1 HC HCut
          go_wp2_with fail
          have hy0 := (Below.refl w1.heap.size w1).drew
          have hy1 := ((Below.refl w1.heap.size w1).alloc (Nat.le_refl _) (.cells #[] 34)).drew
          have hy2 := (((Below.refl w1.heap.size w1).alloc (Nat.le_refl _) (.cells #[] 34)).alloc (by simp) (.cells #[] 34)).drew
          go_region_held3 (fun W => Below w1.heap.size w1 W)
            (first
              | exact hyz
              | exact hya
              | exact hya1
              | exact hza
              | exact hza1
              | exact hy1
              | exact hy2
              | exact hy0)
            (first
              | (have ou := oA; refine step_append_bare _ (by rfl) (.tmp 35) (.tmp 38) 22 (by rfl) w1.heap.size 34 i0 _ 7 64 Try.underlying22 hi0 hz0 hz1 hz2 rfl (by decide) (by rfl) (by rfl) (htakeE _ (by first | exact hya | exact hya1)) hone2 hm3 hm4 (by first | exact hya.size | exact hya1.size) ?_; intro A8 c8 w8 oB gB bB; have oA2 : Own w8 w1.heap.size 34 7 A7 (l.length - m) c7 (evC (l.drop m)) := (by first | exact oA.grownN gB | exact (oA.alloc _).grownN gB); have hyz : Below w1.heap.size w1 w8 := (by first | exact hya.trans bB | exact hya1.trans bB); have hfin := Lib.hid (And.intro oA2.sl (And.intro oB.sl hyz)); clear oA oB oA2 gB bB)
              | (have ou := oB; refine step_append_bare _ (by rfl) (.tmp 30) (.tmp 33) 22 (by rfl) w1.heap.size 34 i0 _ 7 64 Try.underlying22 hi0 hz0 hz1 hz2 rfl (by decide) (by rfl) (by rfl) (hcutE _ _ _ (by first | exact hza | exact hza1) (by omega)) hone1 hm1 hm2 (by first | exact hza.size | exact hza1.size) ?_; intro A7 c7 w7 oA gA bA; have oB2 : Own w7 w1.heap.size 34 7 A8 m c8 (evC (l.take m)) := (by first | exact oB.grownN gA | exact (oB.alloc _).grownN gA); have hyz : Below w1.heap.size w1 w7 := (by first | exact hza.trans bA | exact hza1.trans bA); have hfin := Lib.hid (And.intro oA.sl (And.intro oB2.sl hyz)); clear oA oB oB2 gA bA)
              | (refine step_append_bare _ (by rfl) (.tmp 30) (.tmp 33) 22 (by rfl) w1.heap.size 34 i0 _ 7 64 Try.underlying22 hi0 hz0 hz1 hz2 rfl (by decide) (by rfl) (by rfl) (hcutE _ _ _ (by first | exact hy1 | exact hy2) (by omega)) hone1 hm1 hm2 (by first | exact hy1.size | exact hy2.size) ?_; intro A7 c7 w7 oA gA bA; have hya : Below w1.heap.size w1 w7 := (by first | exact hy1.trans bA | exact hy2.trans bA); have hya1 := hya.alloc hya.size (.cells #[] 34))
              | (refine step_append_bare _ (by rfl) (.tmp 35) (.tmp 38) 22 (by rfl) w1.heap.size 34 i0 _ 7 64 Try.underlying22 hi0 hz0 hz1 hz2 rfl (by decide) (by rfl) (by rfl) (htakeE _ (by first | exact hy1 | exact hy2)) hone2 hm3 hm4 (by first | exact hy1.size | exact hy2.size) ?_; intro A8 c8 w8 oB gB bB; have hza : Below w1.heap.size w1 w8 := (by first | exact hy1.trans bB | exact hy2.trans bB); have hza1 := hza.alloc hza.size (.cells #[] 34)))
          all_goals
            clear hy0 hy1 hy2 htakeE hcutE
            (try clear hya hya1)
            (try clear hza hza1)
            clear hyz
            go_wp2_with fail
            go_ret3
            obtain ⟨hR, hl1, hl2⟩ := HR.out
            refine ⟨?_, below_on HB1.out hfin.out.2.2 (Nat.le_refl _)⟩
            rw [hR]
            refine ⟨A7, c7, A8, c8, ?_, ?_, ?_⟩
            · simp only [hl1, hl2]; rfl
            · rw [hl1]; exact hfin.out.1
            · rw [hl2]; exact hfin.out.2.1
  · rw [if_neg hc] at hE
    rw [hE, if_neg hc] at hR
    subst hR
    clear hE
    have hcb : (c != 0) = true := bne_iff_ne.2 hc
    have hcb2 : (c == 0) = false := by simpa using hc
    clear hc
    go_enter Try.func18, Try.ntmps18
    go_wp2_with fail
    refine HC.out.mono ?_
    rintro e w1 ⟨rfl, hb1⟩
    go_wp2_with fail
    go_ret3
    exact ⟨HFail.out _ _, hb1⟩
end Go.Proofs.Ytogldckkmjbohaa
