/- SameTexts, slices.Equal on strings, equal, Same. No condition. -/
import Derived.Test.YtbobpgjgknkogaaI10
namespace Go.Proofs.Ytbobpgjgknkogaa
open Go.RowKit Go.Maps
set_option maxRecDepth 100000 in
set_option maxHeartbeats 3200000 in
theorem SameTexts_any (A1 A2 : Option Addr) (cap1 cap2 D : Nat) (l k : List (List UInt8)) (w : World) (hS1 : Sl w D 1 A1 l.length cap1 (l.map strV)) (hS2 : Sl w D 1 A2 k.length cap2 (k.map strV)) (hn : l.length ≤ 100000) (hn2 : k.length ≤ 100000) :
    Calls Try.prog 36 #[.slice A1 l.length cap1, .slice A2 k.length cap2] w fun e w' => e = .returned (.bool (decide (l = k))) ∧ Below w.heap.size w w' := by
  obtain ⟨R, hR⟩ : ∃ R : Bool, decide (l = k) = R := ⟨_, rfl⟩
  have HR1 := Lib.hid (show l = k → R = true from fun h => by rw [← hR]; exact decide_eq_true h)
  have HR2 := Lib.hid (show l ≠ k → R = false from fun h => by rw [← hR]; exact decide_eq_false h)
  rw [hR]
  clear hR
  by_cases hlen : l.length = k.length
  · have HLen := Lib.hid hlen
    have hcast : (l.length : Int) = k.length := by omega
    go_enter Try.func36, Try.ntmps36
    clear hlen
    go_wp2_with fail
    clear hcast
    go_loopw [5] (fun i W => ∃ j : Nat, j ≤ l.length ∧ i = .int .i64 j ∧ l.take j = k.take j ∧ ∃ q, W = w.drewN q) (fun i _ => l.length - (intOf i).toNat)
    case atStart => exact ⟨0, Nat.zero_le _, rfl, rfl, 0, rfl⟩
    case round =>
      obtain ⟨j, hj, rfl, heq, q, rfl⟩ := hrel
      by_cases hlt : j < l.length
      · have hlt2 : j < k.length := by have := HLen.out; omega
        obtain ⟨b, o, rfl, hb, c0⟩ := sl_str hS1 hlt
        obtain ⟨b2, o2, rfl, hb2, d0⟩ := sl_str hS2 hlt2
        have hsn : l.take (j + 1) = l.take j ++ [l[j]] := takeSnoc l j hlt
        have hsn2 : k.take (j + 1) = k.take j ++ [k[j]] := takeSnoc k j hlt2
        have hne : l[j] ≠ k[j] → l ≠ k := fun h h' => by subst h'; exact h rfl
        generalize l[j] = t at *
        generalize k[j] = u at *
        have H1 := Lib.hid hsn
        have H2 := Lib.hid hsn2
        have HN := Lib.hid hne
        have HQ := Lib.hid heq
        clear hsn hsn2 hne heq hS1 hS2
        by_cases ht : t = u
        · subst ht
          go_wp2_with fail
          go_quiet (fail)
          go_wp2_with fail
          go_roundw
          case rel => exact ⟨j + 1, by omega, by go_num, by rw [H1.out, H2.out, HQ.out], _, rfl⟩
          case measure => simp [intOf]; omega
        · have hR0 := HR2.out (HN.out ht)
          have hxb : (t == u) = false := by simpa using ht
          subst hR0
          clear ht HR1 HR2 HN H1 H2 HQ
          go_wp2_with fail
          go_quiet (fail)
          go_wp2_with fail
          go_ret
          exact ⟨rfl, rfl, rfl, rfl, Nat.le_refl _, fun _ _ => rfl⟩
      · obtain rfl : j = l.length := by omega
        have hall : l = k := by
          have h1 := HLen.out
          rw [List.take_length] at heq
          rw [heq, h1, List.take_length]
        have hR0 := HR1.out hall
        clear heq hall HR1 HR2 hS1 hS2 HLen
        subst hR0
        go_wp2_with fail
        go_ret
        exact ⟨rfl, rfl, rfl, rfl, Nat.le_refl _, fun _ _ => rfl⟩
  · have hR0 := HR2.out (fun h => hlen (by rw [h]))
    subst hR0
    have hc : ¬ (l.length : Int) = k.length := by omega
    clear HR1 HR2 hS1 hS2
    go_enter Try.func36, Try.ntmps36
    go_wp2_with fail
    go_ret
    exact ⟨rfl, Below.refl _ _⟩
set_option maxRecDepth 100000 in
set_option maxHeartbeats 3200000 in
theorem sEqual_any (A1 A2 : Option Addr) (cap1 cap2 D : Nat) (l k : List (List UInt8)) (w : World) (hS1 : Sl w D 1 A1 l.length cap1 (l.map strV)) (hS2 : Sl w D 1 A2 k.length cap2 (k.map strV)) (hn : l.length ≤ 100000) (hn2 : k.length ≤ 100000) :
    Calls Try.prog 51 #[.slice A1 l.length cap1, .slice A2 k.length cap2] w fun e w' => e = .returned (.bool (decide (l = k))) ∧ Below w.heap.size w w' := by
  obtain ⟨R, hR⟩ : ∃ R : Bool, decide (l = k) = R := ⟨_, rfl⟩
  have HR1 := Lib.hid (show l = k → R = true from fun h => by rw [← hR]; exact decide_eq_true h)
  have HR2 := Lib.hid (show l ≠ k → R = false from fun h => by rw [← hR]; exact decide_eq_false h)
  rw [hR]
  clear hR
  by_cases hlen : l.length = k.length
  · have HLen := Lib.hid hlen
    have hcast : (l.length : Int) = k.length := by omega
    go_enter Try.func51, Try.ntmps51
    clear hlen
    go_wp2_with fail
    clear hcast
    go_loopw [13] (fun i W => ∃ j : Nat, j ≤ l.length ∧ i = .int .i64 j ∧ l.take j = k.take j ∧ ∃ q, W = w.drewN q) (fun i _ => l.length - (intOf i).toNat)
    case atStart => exact ⟨0, Nat.zero_le _, rfl, rfl, 0, rfl⟩
    case round =>
      obtain ⟨j, hj, rfl, heq, q, rfl⟩ := hrel
      by_cases hlt : j < l.length
      · have hlt2 : j < k.length := by have := HLen.out; omega
        obtain ⟨b, o, rfl, hb, c0⟩ := sl_str hS1 hlt
        obtain ⟨b2, o2, rfl, hb2, d0⟩ := sl_str hS2 hlt2
        have hsn : l.take (j + 1) = l.take j ++ [l[j]] := takeSnoc l j hlt
        have hsn2 : k.take (j + 1) = k.take j ++ [k[j]] := takeSnoc k j hlt2
        have hne : l[j] ≠ k[j] → l ≠ k := fun h h' => by subst h'; exact h rfl
        generalize l[j] = t at *
        generalize k[j] = u at *
        have H1 := Lib.hid hsn
        have H2 := Lib.hid hsn2
        have HN := Lib.hid hne
        have HQ := Lib.hid heq
        clear hsn hsn2 hne heq hS1 hS2
        by_cases ht : t = u
        · subst ht
          go_wp2_with fail
          go_quiet (fail)
          go_wp2_with fail
          go_roundw
          case rel => exact ⟨j + 1, by omega, by go_num, by rw [H1.out, H2.out, HQ.out], _, rfl⟩
          case measure => simp [intOf]; omega
        · have hR0 := HR2.out (HN.out ht)
          have hxb : (t == u) = false := by simpa using ht
          subst hR0
          clear ht HR1 HR2 HN H1 H2 HQ
          go_wp2_with fail
          go_quiet (fail)
          go_wp2_with fail
          go_ret
          exact ⟨rfl, rfl, rfl, rfl, Nat.le_refl _, fun _ _ => rfl⟩
      · obtain rfl : j = l.length := by omega
        have hall : l = k := by
          have h1 := HLen.out
          rw [List.take_length] at heq
          rw [heq, h1, List.take_length]
        have hR0 := HR1.out hall
        have hlast : ¬ (l.length : Int) < k.length := by have := HLen.out; omega
        have hlast2 : ¬ l.length < k.length := by have := HLen.out; omega
        clear heq hall HR1 HR2 hS1 hS2 HLen
        subst hR0
        go_wp2_with fail
        go_ret
        exact ⟨rfl, rfl, rfl, rfl, Nat.le_refl _, fun _ _ => rfl⟩
  · have hR0 := HR2.out (fun h => hlen (by rw [h]))
    subst hR0
    have hc : ¬ (l.length : Int) = k.length := by omega
    clear HR1 HR2 hS1 hS2
    go_enter Try.func51, Try.ntmps51
    go_wp2_with fail
    go_ret
    exact ⟨rfl, Below.refl _ _⟩
end Go.Proofs.Ytbobpgjgknkogaa
