/- The law's same and own. No condition. -/
import Derived.Test.YtogldckkmjbohaaQ10
namespace Go.Proofs.Ytogldckkmjbohaa
open Go.RowKit
theorem ne7 (k sy pr rc a : Int) (x : List UInt8) (er : Int) (k2 sy2 pr2 rc2 a2 : Int) (x2 : List UInt8) (er2 : Int) (h : (⟨k, sy, pr, rc, a, x, er⟩ : Ev) ≠ ⟨k2, sy2, pr2, rc2, a2, x2, er2⟩) :
    k ≠ k2 ∨ k = k2 ∧ sy ≠ sy2 ∨ k = k2 ∧ sy = sy2 ∧ pr ≠ pr2 ∨ k = k2 ∧ sy = sy2 ∧ pr = pr2 ∧ rc ≠ rc2 ∨ k = k2 ∧ sy = sy2 ∧ pr = pr2 ∧ rc = rc2 ∧ a ≠ a2 ∨ k = k2 ∧ sy = sy2 ∧ pr = pr2 ∧ rc = rc2 ∧ a = a2 ∧ x ≠ x2 ∨
      k = k2 ∧ sy = sy2 ∧ pr = pr2 ∧ rc = rc2 ∧ a = a2 ∧ x = x2 ∧ er ≠ er2 := by
  by_cases h1 : k = k2
  · by_cases h2 : sy = sy2
    · by_cases h3 : pr = pr2
      · by_cases h4 : rc = rc2
        · by_cases h5 : a = a2
          · by_cases h6 : x = x2
            · by_cases h7 : er = er2
              · subst h1 h2 h3 h4 h5 h6 h7; exact absurd rfl h
              · exact .inr (.inr (.inr (.inr (.inr (.inr ⟨h1, h2, h3, h4, h5, h6, h7⟩)))))
            · exact .inr (.inr (.inr (.inr (.inr (.inl ⟨h1, h2, h3, h4, h5, h6⟩)))))
          · exact .inr (.inr (.inr (.inr (.inl ⟨h1, h2, h3, h4, h5⟩))))
        · exact .inr (.inr (.inr (.inl ⟨h1, h2, h3, h4⟩)))
      · exact .inr (.inr (.inl ⟨h1, h2, h3⟩))
    · exact .inr (.inl ⟨h1, h2⟩)
  · exact .inl h1
theorem takeSnoc {α : Type} (l : List α) (j : Nat) (h : j < l.length) : l.take (j + 1) = l.take j ++ [l[j]] := by
  rw [List.take_add_one, List.getElem?_eq_getElem h]; rfl
set_option maxRecDepth 100000 in
set_option maxHeartbeats 3200000 in
theorem same_any (A1 A2 : Option Addr) (cap1 cap2 D : Nat) (l k : List Ev) (w : World) (hS1 : Sl w D 7 A1 l.length cap1 (evC l)) (hS2 : Sl w D 7 A2 k.length cap2 (evC k)) (hn : l.length ≤ 100000) (hn2 : k.length ≤ 100000) :
    Calls Try.prog 14 #[.slice A1 l.length cap1, .slice A2 k.length cap2] w fun e w' => e = .returned (.bool (decide (l = k))) ∧ Below w.heap.size w w' := by
  obtain ⟨R, hR⟩ : ∃ R : Bool, decide (l = k) = R := ⟨_, rfl⟩
  have HR1 := Lib.hid (show l = k → R = true from fun h => by rw [← hR]; exact decide_eq_true h)
  have HR2 := Lib.hid (show l ≠ k → R = false from fun h => by rw [← hR]; exact decide_eq_false h)
  rw [hR]
  clear hR
  by_cases hlen : l.length = k.length
  · have HLen := Lib.hid hlen
    have hcast : (l.length : Int) = k.length := by omega
    go_enter Try.func14, Try.ntmps14
    clear hlen
    go_wp2_with fail
    clear hcast
    go_loopw [5] (fun i W => ∃ j : Nat, j ≤ l.length ∧ i = .int .i64 j ∧ l.take j = k.take j ∧ ∃ q, W = w.drewN q) (fun i _ => l.length - (intOf i).toNat)
    case atStart => exact ⟨0, Nat.zero_le _, rfl, rfl, 0, rfl⟩
    case round =>
      obtain ⟨j, hj, rfl, heq, q, rfl⟩ := hrel
      by_cases hlt : j < l.length
      · have hlt2 : j < k.length := by have := HLen.out; omega
        obtain ⟨b, o, rfl, hb, c0, c1, c2, c3, c4, c5, c6⟩ := sl_ev hS1 hlt
        obtain ⟨b2, o2, rfl, hb2, d0, d1, d2, d3, d4, d5, d6⟩ := sl_ev hS2 hlt2
        have hsn : l.take (j + 1) = l.take j ++ [l[j]] := takeSnoc l j hlt
        have hsn2 : k.take (j + 1) = k.take j ++ [k[j]] := takeSnoc k j hlt2
        have hne : l[j] ≠ k[j] → l ≠ k := fun h h' => by subst h'; exact h rfl
        generalize l[j] = t at *
        generalize k[j] = u at *
        obtain ⟨k1, sy, pr, rc, a, x, er⟩ := t
        obtain ⟨k2, sy2, pr2, rc2, a2, x2, er2⟩ := u
        simp only at *
        have H1 := Lib.hid hsn
        have H2 := Lib.hid hsn2
        have HN := Lib.hid hne
        have HQ := Lib.hid heq
        clear hsn hsn2 hne heq hS1 hS2
        by_cases ht : (⟨k1, sy, pr, rc, a, x, er⟩ : Ev) = ⟨k2, sy2, pr2, rc2, a2, x2, er2⟩
        · injection ht with g1 g2 g3 g4 g5 g6 g7
          subst g1 g2 g3 g4 g5 g6 g7
          go_wp2_with fail
          go_quiet (fail)
          go_wp2_with fail
          go_roundw
          case rel => exact ⟨j + 1, by omega, by go_num, by rw [H1.out, H2.out, HQ.out], _, rfl⟩
          case measure => simp [intOf]; omega
        · have hR0 := HR2.out (HN.out ht)
          have hdiff := ne7 _ _ _ _ _ _ _ _ _ _ _ _ _ _ ht
          subst hR0
          clear ht HR1 HR2 HN H1 H2 HQ
          rcases hdiff with h | ⟨rfl, h⟩ | ⟨rfl, rfl, h⟩ | ⟨rfl, rfl, rfl, h⟩ | ⟨rfl, rfl, rfl, rfl, h⟩ | ⟨rfl, rfl, rfl, rfl, rfl, h⟩ | ⟨rfl, rfl, rfl, rfl, rfl, rfl, h⟩
          case' inr.inr.inr.inr.inr.inl => have hxb : (x == x2) = false := by simpa using h
          all_goals
            go_wp2_with fail
            go_quiet (fail)
            go_wp2_with fail
            go_ret
            exact ⟨rfl, rfl, rfl, rfl, Nat.le_refl _, fun _ _ => rfl⟩
      · obtain rfl : j = l.length := by omega
        have hall : l = k := by
          have h1 := HLen.out
          rw [List.take_length] at heq
          rw [heq, h1, List.take_length]
        have hR0 := HR1.out hall
        clear heq hall HR1 HR2 hS1 hS2 HLen
        subst hR0
        go_wp2_with fail
        go_ret
        exact ⟨rfl, rfl, rfl, rfl, Nat.le_refl _, fun _ _ => rfl⟩
  · have hR0 := HR2.out (fun h => hlen (by rw [h]))
    subst hR0
    have hc : ¬ (l.length : Int) = k.length := by omega
    clear HR1 HR2 hS1 hS2
    go_enter Try.func14, Try.ntmps14
    go_wp2_with fail
    go_ret
    exact ⟨rfl, Below.refl _ _⟩
set_option maxRecDepth 100000 in
theorem own_any (A : Option Addr) (cap D : Nat) (l : List Ev) (w : World) (hS : Sl w D 7 A l.length cap (evC l)) (hD : D ≤ w.heap.size) (hn : l.length ≤ 1000) :
    Calls Try.prog 9 #[.slice A l.length cap] w fun e w' => (∃ A2 cap2, e = .returned (.slice A2 l.length cap2) ∧ Own w' w.heap.size 34 7 A2 l.length cap2 (evC l)) ∧ Below w.heap.size w w' := by
  obtain ⟨i0, hi0, hz0, hz1, hz2⟩ := info_parts infoE
  have hone := evC_one l
  have hm1 : 0 + l.length ≤ maxLen := by simp only [maxLen]; omega
  have hm2 : (0 + l.length) * 64 ≤ 140737488355328 := by omega
  have hS1 := hS.alloc hD (.cells #[] 34)
  have hO := (Own.bare w w.heap.size 34 7 (some ⟨w.heap.size, 0, none⟩)).alloc (.cells #[] 34)
  have hB := Lib.hid ((Below.refl w.heap.size w).alloc (Nat.le_refl _) (.cells #[] 34))
  have hbase : w.heap.size ≤ (w.alloc (.cells #[] 34)).heap.size := hB.out.size
  clear hS
  go_enter Try.func9, Try.ntmps9
  go_wp2_with (at_builtin; refine wpList_append_o _ rfl _ _ _ rfl w.heap.size 34 i0 _ 7 64 Try.underlying22 hi0 hz0 hz1 hz2 rfl (by decide) rfl hO rfl hS1 hone hm1 hm2 hbase ?_; intro A5 cap5 W5 hown5 hg5 hat5)
  go_ret
  refine ⟨⟨A5, cap5, by rw [← Nat.zero_add l.length]; rfl, by simpa using hown5⟩, grown_below hB.out hO hg5 hbase⟩
end Go.Proofs.Ytogldckkmjbohaa
