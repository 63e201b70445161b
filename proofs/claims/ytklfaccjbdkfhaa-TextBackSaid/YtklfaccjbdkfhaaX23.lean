/- Number of both. No condition. -/
import Derived.Test.YtklfaccjbdkfhaaX22
namespace Go.Proofs.Ytklfaccjbdkfhaa
open Go.RowKit
theorem numF_at {l : List UInt8} {m : Nat} (n : Nat) (h : m < l.length) : numF (l.drop m) n = if (9223372036854775807 - (l[m] - 48).toNat) / 10 < n then none else numF (l.drop (m + 1)) (10 * n + (l[m] - 48).toNat) := by
  rw [drop_get h]; rfl
theorem sub48 (b : UInt8) : IntKind.u8.wrap ((b.toNat : Int) - 48) = ((b - 48).toNat : Int) := by
  have h := UInt8.toNat_lt b
  rw [UInt8.toNat_sub]
  simp [IntKind.wrap, IntKind.bits, IntKind.signed, Int.emod_def]
  omega
set_option maxRecDepth 100000 in
set_option maxHeartbeats 3200000 in
theorem Number_any (x : Lx) (least most : Int) (w : World) (hl : x.text.length ≤ 30000) :
    Calls Try.prog 24 #[x.v, .int .i64 least, .int .i64 most] w fun e w' => e = .returned (.tuple #[.int .i64 (numL x least most).1, .int .i64 (numL x least most).2]) ∧ Below w.heap.size w w' := by
  have HC := Lib.hid (fun W => Check_any x W hl)
  have hnum : numL x least most = if checkL x ≠ 0 then ((0 : Int), checkL x) else if x.kind ≠ 2 then (0, 11) else match numF x.text 0 with
    | none => (0, 2)
    | some n => if (n : Int) < least ∨ most < n then (0, 2) else ((n : Int), 0) := rfl
  obtain ⟨p, q, hpq⟩ : ∃ p q, numL x least most = (p, q) := ⟨_, _, rfl⟩
  rw [hpq] at hnum ⊢
  simp only
  clear hpq
  generalize checkL x = C at *
  obtain ⟨kd, tx, a⟩ := x
  simp only at hnum hl
  unfold Lx.v at HC
  simp only at HC
  show Calls Try.prog 24 #[.agg #[.int .i64 kd, .string ⟨tx.toArray⟩, .int .i64 a], .int .i64 least, .int .i64 most] w fun e w' => e = .returned (.tuple #[.int .i64 p, .int .i64 q]) ∧ Below w.heap.size w w'
  have bX := Blk.new w 31 #[.int .i64 kd, .string ⟨tx.toArray⟩, .int .i64 a]
  have hB := (Below.refl w.heap.size w).alloc (Nat.le_refl _) (.cells #[.int .i64 kd, .string ⟨tx.toArray⟩, .int .i64 a] 31)
  have hzz := bX.lt
  obtain ⟨x0, x1, x2, y0, y1, y2⟩ := cells3 bX
  have HG := Lib.hid (And.intro bX (And.intro hB hzz))
  clear bX hB hzz
  by_cases hc : C = 0
  · rw [if_neg (fun h => h hc)] at hnum
    subst hc
    by_cases hk : kd = 2
    · rw [if_neg (fun h => h hk)] at hnum
      subst hk
      have HNum := Lib.hid hnum
      clear hnum
      go_enter Try.func24, Try.ntmps24
      go_wp2_with fail
      clear x0 x1 x2 y0 y1 y2
      obtain ⟨bX, hB, hzz⟩ := HG.out
      clear HG
      generalize w.alloc (.cells #[.int .i64 2, .string ⟨tx.toArray⟩, .int .i64 a] 31) = v1 at *
      refine (HC.out _).mono ?_
      rintro e w3 ⟨rfl, hb3⟩
      have bX3 := Blk.on bX hb3
      have hB3 := below_on hB hb3 (Nat.le_refl _)
      obtain ⟨x0, x1, x2, y0, y1, y2⟩ := cells3 bX3
      clear bX hB hb3 HC bX3
      go_wp2_with fail
      go_loop [9, 23] (fun n i => ∃ j m : Nat, j ≤ tx.length ∧ m ≤ 9223372036854775807 ∧ n = .int .i64 m ∧ i = .int .i64 j ∧ numF (tx.drop j) m = numF tx 0) (fun _ i => tx.length - (intOf i).toNat)
      case atStart => exact ⟨0, 0, Nat.zero_le _, by omega, rfl, rfl, rfl⟩
      case round =>
        obtain ⟨j, m, hj, hm, rfl, rfl, hR⟩ := hrel
        by_cases hlt : j < tx.length
        · rw [numF_at m hlt] at hR
          have hd := UInt8.toNat_lt (tx[j] - 48)
          have hs48 := sub48 tx[j]
          obtain ⟨d, hdd⟩ : ∃ d, (tx[j] - 48).toNat = d := ⟨_, rfl⟩
          rw [hdd] at hR hd hs48
          have w1 : IntKind.i64.wrap (d : Int) = (d : Int) := Go.IntWalk.i64_in _ (by omega)
          have w2 : IntKind.i64.wrap (9223372036854775807 - (d : Int)) = 9223372036854775807 - (d : Int) := Go.IntWalk.i64_in _ (by omega)
          obtain ⟨Q, hQ⟩ : ∃ Q, (9223372036854775807 - d) / 10 = Q := ⟨_, rfl⟩
          have w3' : (9223372036854775807 - (d : Int)).tdiv 10 = (Q : Int) := by
            rw [show (9223372036854775807 - (d : Int)) = ((9223372036854775807 - d : Nat) : Int) by omega]
            rw [← hQ]
            rfl
          have w4 : IntKind.i64.wrap (Q : Int) = (Q : Int) := Go.IntWalk.i64_in _ (by omega)
          rw [hQ] at hR
          by_cases hq : Q < m
          · rw [if_pos hq] at hR
            have HR := Lib.hid hR
            clear hR
            go_wp2_with fail
            have h := HNum.out
            rw [← HR.out] at h
            injection h with h1 h2
            subst h1 h2
            go_ret2
            exact ⟨rfl, hB3⟩
          · rw [if_neg hq] at hR
            have HR := Lib.hid hR
            clear hR
            have hb10 : 10 * m + d ≤ 9223372036854775807 := by omega
            go_wp2_with fail
            go_round
            case rel => exact ⟨j + 1, 10 * m + d, by omega, hb10, by go_num, by go_num, HR.out⟩
            case measure => simp [intOf]; omega
        · obtain rfl : j = tx.length := by omega
          rw [List.drop_length] at hR
          have h := HNum.out
          rw [← hR] at h
          have h' : (p, q) = if (m : Int) < least ∨ most < m then ((0 : Int), (2 : Int)) else ((m : Int), 0) := h
          clear h hR HNum
          have hcs : (m : Int) < least ∨ least ≤ m ∧ most < m ∨ least ≤ m ∧ (m : Int) ≤ most := by omega
          rcases hcs with h1 | ⟨h1, h2⟩ | ⟨h1, h2⟩
          · rw [if_pos (.inl h1)] at h'
            injection h' with e1 e2
            subst e1 e2
            go_wp2_with fail
            go_ret2
            exact ⟨rfl, hB3⟩
          · rw [if_pos (.inr h2)] at h'
            injection h' with e1 e2
            subst e1 e2
            go_wp2_with fail
            go_ret2
            exact ⟨rfl, hB3⟩
          · rw [if_neg (by omega)] at h'
            injection h' with e1 e2
            subst e1 e2
            go_wp2_with fail
            go_ret2
            exact ⟨rfl, hB3⟩
    · rw [if_pos hk] at hnum
      injection hnum with h1 h2
      subst h1 h2
      have hkb : (kd == 2) = false := by simpa using hk
      go_enter Try.func24, Try.ntmps24
      go_wp2_with fail
      clear x0 x1 x2 y0 y1 y2
      obtain ⟨bX, hB, hzz⟩ := HG.out
      clear HG
      generalize w.alloc (.cells #[.int .i64 kd, .string ⟨tx.toArray⟩, .int .i64 a] 31) = v1 at *
      refine (HC.out _).mono ?_
      rintro e w3 ⟨rfl, hb3⟩
      have bX3 := Blk.on bX hb3
      have hB3 := below_on hB hb3 (Nat.le_refl _)
      obtain ⟨x0, x1, x2, y0, y1, y2⟩ := cells3 bX3
      clear bX hB hb3 HC bX3
      go_wp2_with fail
      go_ret2
      exact ⟨rfl, hB3⟩
  · rw [if_pos hc] at hnum
    injection hnum with h1 h2
    subst h1 h2
    have hcb : (q == 0) = false := by simpa using hc
    go_enter Try.func24, Try.ntmps24
    go_wp2_with fail
    clear x0 x1 x2 y0 y1 y2
    obtain ⟨bX, hB, hzz⟩ := HG.out
    clear HG bX
    generalize w.alloc (.cells #[.int .i64 kd, .string ⟨tx.toArray⟩, .int .i64 a] 31) = v1 at *
    refine (HC.out _).mono ?_
    rintro e w3 ⟨rfl, hb3⟩
    have hB3 := below_on hB hb3 (Nat.le_refl _)
    clear hB hb3 HC
    go_wp2_with fail
    go_ret2
    exact ⟨rfl, hB3⟩
set_option maxRecDepth 100000 in
set_option maxHeartbeats 3200000 in
theorem rNumber_any (x : Lx) (least most : Int) (w : World) (hl : x.text.length ≤ 30000) :
    Calls Try.prog 26 #[x.v, .int .i64 least, .int .i64 most] w fun e w' => e = .returned (.tuple #[.int .i64 (numL x least most).1, .int .i64 (numL x least most).2]) ∧ Below w.heap.size w w' := by
  have HC := Lib.hid (fun W => rCheck_any x W hl)
  have hnum : numL x least most = if checkL x ≠ 0 then ((0 : Int), checkL x) else if x.kind ≠ 2 then (0, 11) else match numF x.text 0 with
    | none => (0, 2)
    | some n => if (n : Int) < least ∨ most < n then (0, 2) else ((n : Int), 0) := rfl
  obtain ⟨p, q, hpq⟩ : ∃ p q, numL x least most = (p, q) := ⟨_, _, rfl⟩
  rw [hpq] at hnum ⊢
  simp only
  clear hpq
  generalize checkL x = C at *
  obtain ⟨kd, tx, a⟩ := x
  simp only at hnum hl
  unfold Lx.v at HC
  simp only at HC
  show Calls Try.prog 26 #[.agg #[.int .i64 kd, .string ⟨tx.toArray⟩, .int .i64 a], .int .i64 least, .int .i64 most] w fun e w' => e = .returned (.tuple #[.int .i64 p, .int .i64 q]) ∧ Below w.heap.size w w'
  have bX := Blk.new w 31 #[.int .i64 kd, .string ⟨tx.toArray⟩, .int .i64 a]
  have hB := (Below.refl w.heap.size w).alloc (Nat.le_refl _) (.cells #[.int .i64 kd, .string ⟨tx.toArray⟩, .int .i64 a] 31)
  have hzz := bX.lt
  obtain ⟨x0, x1, x2, y0, y1, y2⟩ := cells3 bX
  have HG := Lib.hid (And.intro bX (And.intro hB hzz))
  clear bX hB hzz
  by_cases hc : C = 0
  · rw [if_neg (fun h => h hc)] at hnum
    subst hc
    by_cases hk : kd = 2
    · rw [if_neg (fun h => h hk)] at hnum
      subst hk
      have HNum := Lib.hid hnum
      clear hnum
      go_enter Try.func26, Try.ntmps26
      go_wp2_with fail
      clear x0 x1 x2 y0 y1 y2
      obtain ⟨bX, hB, hzz⟩ := HG.out
      clear HG
      generalize w.alloc (.cells #[.int .i64 2, .string ⟨tx.toArray⟩, .int .i64 a] 31) = v1 at *
      refine (HC.out _).mono ?_
      rintro e w3 ⟨rfl, hb3⟩
      have bX3 := Blk.on bX hb3
      have hB3 := below_on hB hb3 (Nat.le_refl _)
      obtain ⟨x0, x1, x2, y0, y1, y2⟩ := cells3 bX3
      clear bX hB hb3 HC bX3
      go_wp2_with fail
      go_loop [9, 10] (fun n i => ∃ j m : Nat, j ≤ tx.length ∧ m ≤ 9223372036854775807 ∧ n = .int .i64 m ∧ i = .int .i64 j ∧ numF (tx.drop j) m = numF tx 0) (fun _ i => tx.length - (intOf i).toNat)
      case atStart => exact ⟨0, 0, Nat.zero_le _, by omega, rfl, rfl, rfl⟩
      case round =>
        obtain ⟨j, m, hj, hm, rfl, rfl, hR⟩ := hrel
        by_cases hlt : j < tx.length
        · rw [numF_at m hlt] at hR
          have hd := UInt8.toNat_lt (tx[j] - 48)
          have hs48 := sub48 tx[j]
          obtain ⟨d, hdd⟩ : ∃ d, (tx[j] - 48).toNat = d := ⟨_, rfl⟩
          rw [hdd] at hR hd hs48
          have w1 : IntKind.i64.wrap (d : Int) = (d : Int) := Go.IntWalk.i64_in _ (by omega)
          have w2 : IntKind.i64.wrap (9223372036854775807 - (d : Int)) = 9223372036854775807 - (d : Int) := Go.IntWalk.i64_in _ (by omega)
          obtain ⟨Q, hQ⟩ : ∃ Q, (9223372036854775807 - d) / 10 = Q := ⟨_, rfl⟩
          have w3' : (9223372036854775807 - (d : Int)).tdiv 10 = (Q : Int) := by
            rw [show (9223372036854775807 - (d : Int)) = ((9223372036854775807 - d : Nat) : Int) by omega]
            rw [← hQ]
            rfl
          have w4 : IntKind.i64.wrap (Q : Int) = (Q : Int) := Go.IntWalk.i64_in _ (by omega)
          rw [hQ] at hR
          by_cases hq : Q < m
          · rw [if_pos hq] at hR
            have HR := Lib.hid hR
            clear hR
            go_wp2_with fail
            have h := HNum.out
            rw [← HR.out] at h
            injection h with h1 h2
            subst h1 h2
            go_ret2
            exact ⟨rfl, hB3⟩
          · rw [if_neg hq] at hR
            have HR := Lib.hid hR
            clear hR
            have hb10 : 10 * m + d ≤ 9223372036854775807 := by omega
            go_wp2_with fail
            go_round
            case rel => exact ⟨j + 1, 10 * m + d, by omega, hb10, by go_num, by go_num, HR.out⟩
            case measure => simp [intOf]; omega
        · obtain rfl : j = tx.length := by omega
          rw [List.drop_length] at hR
          have h := HNum.out
          rw [← hR] at h
          have h' : (p, q) = if (m : Int) < least ∨ most < m then ((0 : Int), (2 : Int)) else ((m : Int), 0) := h
          clear h hR HNum
          have hcs : (m : Int) < least ∨ least ≤ m ∧ most < m ∨ least ≤ m ∧ (m : Int) ≤ most := by omega
          rcases hcs with h1 | ⟨h1, h2⟩ | ⟨h1, h2⟩
          · rw [if_pos (.inl h1)] at h'
            injection h' with e1 e2
            subst e1 e2
            go_wp2_with fail
            go_ret2
            exact ⟨rfl, hB3⟩
          · rw [if_pos (.inr h2)] at h'
            injection h' with e1 e2
            subst e1 e2
            go_wp2_with fail
            go_ret2
            exact ⟨rfl, hB3⟩
          · rw [if_neg (by omega)] at h'
            injection h' with e1 e2
            subst e1 e2
            go_wp2_with fail
            go_ret2
            exact ⟨rfl, hB3⟩
    · rw [if_pos hk] at hnum
      injection hnum with h1 h2
      subst h1 h2
      have hkb : (kd == 2) = false := by simpa using hk
      go_enter Try.func26, Try.ntmps26
      go_wp2_with fail
      clear x0 x1 x2 y0 y1 y2
      obtain ⟨bX, hB, hzz⟩ := HG.out
      clear HG
      generalize w.alloc (.cells #[.int .i64 kd, .string ⟨tx.toArray⟩, .int .i64 a] 31) = v1 at *
      refine (HC.out _).mono ?_
      rintro e w3 ⟨rfl, hb3⟩
      have bX3 := Blk.on bX hb3
      have hB3 := below_on hB hb3 (Nat.le_refl _)
      obtain ⟨x0, x1, x2, y0, y1, y2⟩ := cells3 bX3
      clear bX hB hb3 HC bX3
      go_wp2_with fail
      go_ret2
      exact ⟨rfl, hB3⟩
  · rw [if_pos hc] at hnum
    injection hnum with h1 h2
    subst h1 h2
    have hcb : (q == 0) = false := by simpa using hc
    go_enter Try.func26, Try.ntmps26
    go_wp2_with fail
    clear x0 x1 x2 y0 y1 y2
    obtain ⟨bX, hB, hzz⟩ := HG.out
    clear HG bX
    generalize w.alloc (.cells #[.int .i64 kd, .string ⟨tx.toArray⟩, .int .i64 a] 31) = v1 at *
    refine (HC.out _).mono ?_
    rintro e w3 ⟨rfl, hb3⟩
    have hB3 := below_on hB hb3 (Nat.le_refl _)
    clear hB hb3 HC
    go_wp2_with fail
    go_ret2
    exact ⟨rfl, hB3⟩
end Go.Proofs.Ytklfaccjbdkfhaa
