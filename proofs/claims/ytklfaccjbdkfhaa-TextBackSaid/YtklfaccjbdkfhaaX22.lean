/- The reference's Check; Is and Number of both. No condition. -/
import Derived.Test.YtklfaccjbdkfhaaX21
namespace Go.Proofs.Ytklfaccjbdkfhaa
open Go.RowKit
theorem rcheck_cases (x : Lx) : (x.kind < 1 ∧ checkL x = 11) ∨ (1 ≤ x.kind ∧ 3 < x.kind ∧ checkL x = 11) ∨
    ((1 ≤ x.kind ∧ x.kind ≤ 3) ∧ ((x.text = [] ∧ checkL x = 3) ∨
     (0 < x.text.length ∧ ((lexB x.text).1 : Int) ≠ x.kind ∧ checkL x = 3) ∨
     (0 < x.text.length ∧ ((lexB x.text).1 : Int) = x.kind ∧ x.text.take (lexB x.text).2 ≠ x.text ∧ checkL x = 3) ∨
     (0 < x.text.length ∧ ((lexB x.text).1 : Int) = x.kind ∧ x.text.take (lexB x.text).2 = x.text ∧ x.at_ < 0 ∧ checkL x = 2) ∨
     (0 < x.text.length ∧ ((lexB x.text).1 : Int) = x.kind ∧ x.text.take (lexB x.text).2 = x.text ∧ 0 ≤ x.at_ ∧ checkL x = 0))) := by
  by_cases h1 : x.kind < 1
  · exact .inl ⟨h1, by unfold checkL; rw [if_pos (.inl h1)]⟩
  · by_cases h2 : 3 < x.kind
    · exact .inr (.inl ⟨by omega, h2, by unfold checkL; rw [if_pos (.inr h2)]⟩)
    · refine .inr (.inr ⟨⟨by omega, by omega⟩, ?_⟩)
      have e : checkL x = if lexB x.text ≠ (x.kind.toNat, x.text.length) then 3 else if x.at_ < 0 then 2 else 0 := by unfold checkL; rw [if_neg (by omega)]
      by_cases hz : x.text = []
      · refine .inl ⟨hz, ?_⟩
        rw [e, if_pos]
        rw [hz]
        intro h
        have h3 := congrArg Prod.fst h
        have h4 : (lexB []).1 = 0 := by decide
        simp only at h3
        omega
      · have hp : 0 < x.text.length := List.length_pos_iff.2 hz
        by_cases hk : ((lexB x.text).1 : Int) = x.kind
        · have hb := lexB_pos x.text (by omega)
          by_cases ht : x.text.take (lexB x.text).2 = x.text
          · have hn : (lexB x.text).2 = x.text.length := by
              have := congrArg List.length ht
              rw [List.length_take] at this
              omega
            have hc : ¬ lexB x.text ≠ (x.kind.toNat, x.text.length) := by
              intro h
              exact h (Prod.ext (by simp only; omega) hn)
            rw [if_neg hc] at e
            by_cases h0 : x.at_ < 0
            · exact .inr (.inr (.inr (.inl ⟨hp, hk, ht, h0, by rw [e, if_pos h0]⟩)))
            · exact .inr (.inr (.inr (.inr ⟨hp, hk, ht, by omega, by rw [e, if_neg h0]⟩)))
          · refine .inr (.inr (.inl ⟨hp, hk, ht, ?_⟩))
            rw [e, if_pos]
            intro h
            have h3 := congrArg Prod.snd h
            simp only at h3
            rw [h3, List.take_length] at ht
            exact ht rfl
        · refine .inr (.inl ⟨hp, hk, ?_⟩)
          rw [e, if_pos]
          intro h
          have h3 := congrArg Prod.fst h
          simp only at h3
          omega
set_option maxRecDepth 100000 in
set_option maxHeartbeats 3200000 in
theorem rCheck_any (x : Lx) (w : World) (hl : x.text.length ≤ 30000) :
    Calls Try.prog 27 #[x.v] w fun e w' => e = .returned (.int .i64 (checkL x)) ∧ Below w.heap.size w w' := by
  have HC := rcheck_cases x
  obtain ⟨kd, tx, a⟩ := x
  simp only at HC hl
  generalize checkL ⟨kd, tx, a⟩ = R at *
  show Calls Try.prog 27 #[.agg #[.int .i64 kd, .string ⟨tx.toArray⟩, .int .i64 a]] w fun e w' => e = .returned (.int .i64 R) ∧ Below w.heap.size w w'
  have bX := Blk.new w 31 #[.int .i64 kd, .string ⟨tx.toArray⟩, .int .i64 a]
  have hB := (Below.refl w.heap.size w).alloc (Nat.le_refl _) (.cells #[.int .i64 kd, .string ⟨tx.toArray⟩, .int .i64 a] 31)
  have HN := Lib.hid (fun W h => rbegins_any tx W hl h)
  rcases HC with ⟨h1, rfl⟩ | ⟨h1, h2, rfl⟩ | ⟨⟨h1, h2⟩, HC⟩
  · obtain ⟨x0, x1, x2, y0, y1, y2⟩ := cells3 bX
    go_enter Try.func27, Try.ntmps27
    go_wp2_with fail
    go_ret
    exact ⟨rfl, hB⟩
  · obtain ⟨x0, x1, x2, y0, y1, y2⟩ := cells3 bX
    go_enter Try.func27, Try.ntmps27
    go_wp2_with fail
    go_ret
    exact ⟨rfl, hB⟩
  · by_cases hz : tx = []
    · obtain rfl : R = 3 := by
        rcases HC with ⟨_, h⟩ | ⟨h, _⟩ | ⟨h, _⟩ | ⟨h, _⟩ | ⟨h, _⟩
        · exact h
        all_goals (rw [hz] at h; simp at h)
      subst hz
      clear HC HN
      obtain ⟨x0, x1, x2, y0, y1, y2⟩ := cells3 bX
      go_enter Try.func27, Try.ntmps27
      go_wp2_with fail
      go_ret
      exact ⟨rfl, hB⟩
    · have hpos : 0 < tx.length := List.length_pos_iff.2 hz
      have hzb : (tx == []) = false := by simpa using hz
      have HH := Lib.hid HC
      have hzz := bX.lt
      obtain ⟨x0, x1, x2, y0, y1, y2⟩ := cells3 bX
      have HG := Lib.hid (And.intro bX (And.intro hB hzz))
      clear HC bX hB hzz hz
      go_enter Try.func27, Try.ntmps27
      go_wp2_with fail
      clear x0 x1 x2 y0 y1 y2
      obtain ⟨bX, hB, hzz⟩ := HG.out
      clear HG
      generalize w.alloc (.cells #[.int .i64 kd, .string ⟨tx.toArray⟩, .int .i64 a] 31) = v1 at *
      refine (HN.out _ hpos).mono ?_
      rintro e w3 ⟨rfl, hb3⟩
      have bX3 := Blk.on bX hb3
      have hB3 := below_on hB hb3 (Nat.le_refl _)
      have hs3 := hb3.size
      clear bX hB hb3 HN
      obtain ⟨k, n, hkn⟩ : ∃ k n, lexB tx = (k, n) := ⟨_, _, rfl⟩
      have HH2 := HH.out
      rw [hkn] at HH2 ⊢
      simp only at HH2 ⊢
      clear hkn HH
      rcases HH2 with ⟨h, _⟩ | ⟨_, hk, rfl⟩ | ⟨_, rfl, ht, rfl⟩ | ⟨_, rfl, ht, ha, rfl⟩ | ⟨_, rfl, ht, ha, rfl⟩
      · rw [h] at hpos; simp at hpos
      · generalize tx.take n = t2 at *
        have c1 := bX3.alloc (.cells #[.int .i64 k, .string ⟨t2.toArray⟩, .int .i64 0] 31)
        have c2 := Blk.new w3 31 #[.int .i64 k, .string ⟨t2.toArray⟩, .int .i64 0]
        have hB5 := Lib.hid (hB3.alloc hB3.size (.cells #[.int .i64 k, .string ⟨t2.toArray⟩, .int .i64 0] 31))
        obtain ⟨x0, x1, x2, _, _, _⟩ := cells3 c1
        obtain ⟨x3, x4, x5, _, _, _⟩ := cells3 c2
        clear c1 c2 bX3 hB3
        go_wp2_with fail
        go_ret
        exact ⟨rfl, hB5.out⟩
      · generalize tx.take n = t2 at *
        have hxb : (t2 == tx) = false := by simpa using ht
        have c1 := bX3.alloc (.cells #[.int .i64 k, .string ⟨t2.toArray⟩, .int .i64 0] 31)
        have c2 := Blk.new w3 31 #[.int .i64 k, .string ⟨t2.toArray⟩, .int .i64 0]
        have hB5 := Lib.hid (hB3.alloc hB3.size (.cells #[.int .i64 k, .string ⟨t2.toArray⟩, .int .i64 0] 31))
        obtain ⟨x0, x1, x2, _, _, _⟩ := cells3 c1
        obtain ⟨x3, x4, x5, _, _, _⟩ := cells3 c2
        clear c1 c2 bX3 hB3
        go_wp2_with fail
        go_ret
        exact ⟨rfl, hB5.out⟩
      · rw [ht]
        have c1 := bX3.alloc (.cells #[.int .i64 k, .string ⟨tx.toArray⟩, .int .i64 0] 31)
        have c2 := Blk.new w3 31 #[.int .i64 k, .string ⟨tx.toArray⟩, .int .i64 0]
        have hB5 := Lib.hid (hB3.alloc hB3.size (.cells #[.int .i64 k, .string ⟨tx.toArray⟩, .int .i64 0] 31))
        obtain ⟨x0, x1, x2, _, _, _⟩ := cells3 c1
        obtain ⟨x3, x4, x5, _, _, _⟩ := cells3 c2
        clear c1 c2 bX3 hB3
        go_wp2_with fail
        go_ret
        exact ⟨rfl, hB5.out⟩
      · rw [ht]
        have c1 := bX3.alloc (.cells #[.int .i64 k, .string ⟨tx.toArray⟩, .int .i64 0] 31)
        have c2 := Blk.new w3 31 #[.int .i64 k, .string ⟨tx.toArray⟩, .int .i64 0]
        have hB5 := Lib.hid (hB3.alloc hB3.size (.cells #[.int .i64 k, .string ⟨tx.toArray⟩, .int .i64 0] 31))
        obtain ⟨x0, x1, x2, _, _, _⟩ := cells3 c1
        obtain ⟨x3, x4, x5, _, _, _⟩ := cells3 c2
        clear c1 c2 bX3 hB3
        go_wp2_with fail
        go_ret
        exact ⟨rfl, hB5.out⟩
set_option maxRecDepth 100000 in
set_option maxHeartbeats 1600000 in
theorem Is_any (x : Lx) (k : Int) (t : List UInt8) (w : World) :
    Calls Try.prog 28 #[x.v, .int .i64 k, .string ⟨t.toArray⟩] w fun e w' => e = .returned (.bool (decide (keyL x = (k, t)))) ∧ Below w.heap.size w w' := by
  obtain ⟨kd, tx, a⟩ := x
  show Calls Try.prog 28 #[.agg #[.int .i64 kd, .string ⟨tx.toArray⟩, .int .i64 a], .int .i64 k, .string ⟨t.toArray⟩] w fun e w' => e = .returned (.bool (decide ((kd, tx) = (k, t)))) ∧ Below w.heap.size w w'
  have bX := Blk.new w 31 #[.int .i64 kd, .string ⟨tx.toArray⟩, .int .i64 a]
  have hB := (Below.refl w.heap.size w).alloc (Nat.le_refl _) (.cells #[.int .i64 kd, .string ⟨tx.toArray⟩, .int .i64 a] 31)
  obtain ⟨x0, x1, x2, y0, y1, y2⟩ := cells3 bX
  clear bX
  by_cases h1 : kd = k
  · by_cases h2 : tx = t
    · rw [decide_eq_true (show (kd, tx) = (k, t) by rw [h1, h2])]
      subst h1 h2
      go_enter Try.func28, Try.ntmps28
      go_wp2_with fail
      go_ret
      exact ⟨rfl, hB⟩
    · rw [decide_eq_false (fun h => h2 (congrArg Prod.snd h))]
      subst h1
      have h2b : (tx == t) = false := by simpa using h2
      go_enter Try.func28, Try.ntmps28
      go_wp2_with fail
      go_ret
      exact ⟨rfl, hB⟩
  · rw [decide_eq_false (fun h => h1 (congrArg Prod.fst h))]
    have h1b : (kd == k) = false := by simpa using h1
    go_enter Try.func28, Try.ntmps28
    go_wp2_with fail
    go_ret
    exact ⟨rfl, hB⟩
set_option maxRecDepth 100000 in
set_option maxHeartbeats 1600000 in
theorem rIs_any (x : Lx) (k : Int) (t : List UInt8) (w : World) :
    Calls Try.prog 29 #[x.v, .int .i64 k, .string ⟨t.toArray⟩] w fun e w' => e = .returned (.bool (decide (keyL x = (k, t)))) ∧ Below w.heap.size w w' := by
  obtain ⟨kd, tx, a⟩ := x
  show Calls Try.prog 29 #[.agg #[.int .i64 kd, .string ⟨tx.toArray⟩, .int .i64 a], .int .i64 k, .string ⟨t.toArray⟩] w fun e w' => e = .returned (.bool (decide ((kd, tx) = (k, t)))) ∧ Below w.heap.size w w'
  have bX := Blk.new w 31 #[.int .i64 kd, .string ⟨tx.toArray⟩, .int .i64 a]
  have hB := (Below.refl w.heap.size w).alloc (Nat.le_refl _) (.cells #[.int .i64 kd, .string ⟨tx.toArray⟩, .int .i64 a] 31)
  obtain ⟨x0, x1, x2, y0, y1, y2⟩ := cells3 bX
  clear bX
  by_cases h1 : kd = k
  · by_cases h2 : tx = t
    · rw [decide_eq_true (show (kd, tx) = (k, t) by rw [h1, h2])]
      subst h1 h2
      go_enter Try.func29, Try.ntmps29
      go_wp2_with fail
      go_ret
      exact ⟨rfl, hB⟩
    · rw [decide_eq_false (fun h => h2 (congrArg Prod.snd h))]
      subst h1
      have h2b : (tx == t) = false := by simpa using h2
      go_enter Try.func29, Try.ntmps29
      go_wp2_with fail
      go_ret
      exact ⟨rfl, hB⟩
  · rw [decide_eq_false (fun h => h1 (congrArg Prod.fst h))]
    have h1b : (kd == k) = false := by simpa using h1
    go_enter Try.func29, Try.ntmps29
    go_wp2_with fail
    go_ret
    exact ⟨rfl, hB⟩
end Go.Proofs.Ytklfaccjbdkfhaa
