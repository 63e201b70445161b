/- Slices of tokens: SameTokens. -/
import Derived.Test.YtdndomjmnlpjgaaT25
namespace Go.Proofs.Ytdndomjmnlpjgaa
open Go.RowKit
theorem Tok.ext' {s t : Tok} (h1 : s.sym = t.sym) (h2 : s.text = t.text) (h3 : s.at_ = t.at_) : s = t := by
  cases s; cases t; simp only at h1 h2 h3; rw [h1, h2, h3]
set_option maxRecDepth 100000 in
set_option maxHeartbeats 1600000 in
theorem SameTokens_any (A1 A2 : Option Addr) (cap1 cap2 D : Nat) (l k : List Tok) (w : World) (hS1 : Sl w D 3 A1 l.length cap1 (tokC l)) (hS2 : Sl w D 3 A2 k.length cap2 (tokC k)) (hn : l.length ≤ 100000) (hn2 : k.length ≤ 100000) :
    Calls Try.prog 19 #[.slice A1 l.length cap1, .slice A2 k.length cap2] w fun e w' => e = .returned (.bool (decide (l = k))) ∧ Below w.heap.size w w' := by
  obtain ⟨R, hR⟩ : ∃ R : Bool, decide (l = k) = R := ⟨_, rfl⟩
  have HR1 := Lib.hid (show l = k → R = true from fun h => by rw [← hR]; exact decide_eq_true h)
  have HR2 := Lib.hid (show l ≠ k → R = false from fun h => by rw [← hR]; exact decide_eq_false h)
  rw [hR]
  clear hR
  by_cases hlen : l.length = k.length
  · have HLen := Lib.hid hlen
    have hcast : (l.length : Int) = k.length := by omega
    go_enter Try.func19, Try.ntmps19
    clear hlen
    go_wp2_with fail
    clear hcast
    go_loopw [5] (fun i W => ∃ j : Nat, j ≤ l.length ∧ i = .int .i64 j ∧ l.take j = k.take j ∧ ∃ q, W = w.drewN q) (fun i _ => l.length - (intOf i).toNat)
    case atStart => exact ⟨0, Nat.zero_le _, rfl, rfl, 0, rfl⟩
    case round =>
      obtain ⟨j, hj, rfl, heq, q, rfl⟩ := hrel
      by_cases hlt : j < l.length
      · have hlt2 : j < k.length := by have := HLen.out; omega
        obtain ⟨b, o, rfl, hb, c0, c1, c2⟩ := sl_tok hS1 hlt
        obtain ⟨b2, o2, rfl, hb2, d0, d1, d2⟩ := sl_tok hS2 hlt2
        have hsn : l.take (j + 1) = l.take j ++ [l[j]] := take_snoc l j hlt
        have hsn2 : k.take (j + 1) = k.take j ++ [k[j]] := take_snoc k j hlt2
        have hne : l[j] ≠ k[j] → l ≠ k := fun h h' => by subst h'; exact h rfl
        generalize l[j] = t at *
        generalize k[j] = u at *
        obtain ⟨sy, x, a⟩ := t
        obtain ⟨sy2, x2, a2⟩ := u
        simp only at *
        have H1 := Lib.hid hsn
        have H2 := Lib.hid hsn2
        have HN := Lib.hid hne
        have HQ := Lib.hid heq
        clear hsn hsn2 hne heq hS1 hS2
        by_cases ht : sy = sy2 ∧ x = x2 ∧ a = a2
        · obtain ⟨rfl, rfl, rfl⟩ := ht
          go_wp2_with fail
          go_quiet (fail)
          go_wp2_with fail
          go_roundw
          case rel => exact ⟨j + 1, by omega, by go_num, by rw [H1.out, H2.out, HQ.out], _, rfl⟩
          case measure => simp [intOf]; omega
        · have hdiff : sy ≠ sy2 ∨ sy = sy2 ∧ x ≠ x2 ∨ sy = sy2 ∧ x = x2 ∧ a ≠ a2 := by
            by_cases h1 : sy = sy2
            · by_cases h2 : x = x2
              · exact .inr (.inr ⟨h1, h2, fun h3 => ht ⟨h1, h2, h3⟩⟩)
              · exact .inr (.inl ⟨h1, h2⟩)
            · exact .inl h1
          have hne : (⟨sy, x, a⟩ : Tok) ≠ ⟨sy2, x2, a2⟩ := fun h => by cases h; exact ht ⟨rfl, rfl, rfl⟩
          have hR0 := HR2.out (HN.out hne)
          subst hR0
          clear ht hne HR1 HR2 HN H1 H2 HQ
          rcases hdiff with h | ⟨rfl, h⟩ | ⟨rfl, rfl, h⟩
          · go_wp2_with fail
            go_quiet (fail)
            go_wp2_with fail
            go_ret
            exact ⟨rfl, rfl, rfl, rfl, Nat.le_refl _, fun _ _ => rfl⟩
          · have hxb : (x == x2) = false := by simpa using h
            go_wp2_with fail
            go_quiet (fail)
            go_wp2_with fail
            go_ret
            exact ⟨rfl, rfl, rfl, rfl, Nat.le_refl _, fun _ _ => rfl⟩
          · go_wp2_with fail
            go_quiet (fail)
            go_wp2_with fail
            go_ret
            exact ⟨rfl, rfl, rfl, rfl, Nat.le_refl _, fun _ _ => rfl⟩
      · obtain rfl : j = l.length := by omega
        have hall : l = k := by
          have h1 := HLen.out
          rw [List.take_length] at heq
          rw [heq, h1, List.take_length]
        have hR0 := HR1.out hall
        clear heq hall HR1 HR2 hS1 hS2 HLen
        subst hR0
        go_wp2_with fail
        go_ret
        exact ⟨rfl, rfl, rfl, rfl, Nat.le_refl _, fun _ _ => rfl⟩
  · have hR0 := HR2.out (fun h => hlen (by rw [h]))
    subst hR0
    have hc : ¬ (l.length : Int) = k.length := by omega
    clear HR1 HR2 hS1 hS2
    go_enter Try.func19, Try.ntmps19
    go_wp2_with fail
    go_ret
    exact ⟨rfl, Below.refl _ _⟩
end Go.Proofs.Ytdndomjmnlpjgaa
