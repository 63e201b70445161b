/- The reference: ranged, bad, good, Good, check, Needs. -/
import Derived.Test.YtfcbbolokhcknaaFa8
namespace Go.Proofs.Ytfcbbolokhcknaa
open Go.RowKit
theorem okG_iff (m : Nat) (t : List UInt8) : okG m t ↔ (∀ k (hk : k < t.length), badN m k t[k].toNat = 0) ∧ (t.length < 2 ∨ t.length < 2 + b1 t) := by
  constructor
  · intro h
    refine ⟨fun k hk => (h k hk).1, ?_⟩
    by_cases h2 : t.length < 2
    · exact .inl h2
    · exact .inr ((okG_len m t h).2 (by omega)).2
  · rintro ⟨h, h2⟩ k hk
    refine ⟨h k hk, ?_⟩
    unfold wholeP
    rw [List.length_take]
    by_cases hk1 : 2 ≤ k + 1
    · have e2 : b1 (t.take (k + 1)) = b1 t := by
        unfold b1
        rw [List.getD_eq_getElem?_getD, List.getD_eq_getElem?_getD, List.getElem?_take, if_pos (by omega)]
      rw [e2, decide_eq_false (show ¬ min (k + 1) t.length = 2 + b1 t by omega), Bool.and_false]
    · rw [decide_eq_false (by omega), Bool.false_and]
theorem refRanged_any (n : Int) (w : World) : Calls Try.prog 29 #[.int .i64 n] w fun e w' => e = .returned (.bool (rangedB n)) ∧ w = w' := by
  unfold rangedB
  go_enter Try.func29, Try.ntmps29
  go_wp2
  all_goals go_ret
  · rename_i h; exact ⟨by rw [decide_eq_true h]; rfl, rfl⟩
  · rename_i h; exact ⟨by rw [decide_eq_false (show ¬ (1 : Int) ≤ n by omega)]; rfl, rfl⟩
set_option maxRecDepth 100000 in
set_option maxHeartbeats 3200000 in
theorem refBad_any (m n b : Nat) (w : World) (h8 : m ≤ 8) (hb8 : b < 256) (hn : n ≤ 1000000) : Calls Try.prog 35 #[.int .i64 m, .int .i64 n, .int .u8 b] w fun e w' => e = .returned (.int .i64 (badN m n b)) ∧ w = w' := by
  have hc := badN_cases m n b
  generalize badN m n b = R at *
  have hwb : IntKind.i64.wrap (b : Int) = b := Go.IntWalk.i64_in _ (by omega)
  rcases hc with ⟨rfl, h1, rfl⟩ | ⟨rfl, h1, h2, rfl⟩ | ⟨rfl, h1, h2, rfl⟩ | ⟨rfl, h1, rfl⟩ | ⟨rfl, h1, h2, rfl⟩ | ⟨rfl, h1, h2, rfl⟩ | ⟨h1, rfl⟩
  case inr.inr.inr.inr.inr.inr =>
    have e0 : ((n : Int) == 1) = false := by simpa using (by omega : ¬ (n : Int) = 1)
    have e3 : ¬ n = 1 := by omega
    have e4 : (1 : Int) < n := by omega
    go_enter Try.func35, Try.ntmps35
    go_wp2
    go_ret
    exact ⟨rfl, rfl⟩
  all_goals
    have d1 : ¬ (b : Int) ≤ m ∨ (b : Int) ≤ m := by omega
    have d2 : ¬ (b : Int) ≤ 24 ∨ (b : Int) ≤ 24 := by omega
    rcases d1 with d1 | d1 <;> rcases d2 with d2 | d2 <;> try omega
    all_goals
      go_enter Try.func35, Try.ntmps35
      go_wp2
      go_ret
      exact ⟨rfl, rfl⟩
set_option maxRecDepth 100000 in
set_option maxHeartbeats 3200000 in
theorem refgood_any (m : Nat) (l : List UInt8) (w : World) (h8 : m ≤ 8) (hl : l.length ≤ 1000) : Calls Try.prog 30 #[.int .i64 m, .string ⟨l.toArray⟩] w fun e w' => e = .returned (.bool (decide (okG m l))) ∧ w = w' := by
  have hiff := okG_iff m l
  obtain ⟨R, hR⟩ : ∃ R, decide (okG m l) = R := ⟨_, rfl⟩
  have HR1 := Lib.hid (show okG m l → R = true from fun h => by rw [← hR]; exact decide_eq_true h)
  have HR2 := Lib.hid (show ¬ okG m l → R = false from fun h => by rw [← hR]; exact decide_eq_false h)
  have HI := Lib.hid hiff
  rw [hR]
  clear hR hiff
  have hlz : (l.length : Int) ≤ 1000 := by omega
  go_enter Try.func30, Try.ntmps30
  go_wp2_with fail
  go_loopw [5] (fun i W => ∃ k : Nat, k ≤ l.length ∧ i = .int .i64 k ∧ (∀ j (hj : j < l.length), j < k → badN m j l[j].toNat = 0) ∧ W = w) (fun i _ => l.length - (intOf i).toNat)
  case atStart => exact ⟨0, Nat.zero_le _, rfl, fun j _ h => absurd h (by omega), rfl⟩
  case round =>
    obtain ⟨k, hk, rfl, hall, rfl⟩ := hrel
    by_cases hlt : k < l.length
    · have HB := Lib.hid (fun W => refBad_any m k l[k].toNat W h8 l[k].toNat_lt (by omega))
      have HA := Lib.hid hall
      have hbk : ∀ x, x = badN m k l[k].toNat → x = badN m k l[k].toNat := fun _ h => h
      have hlb : l[k].toNat < 256 := l[k].toNat_lt
      obtain ⟨e0, he0⟩ : ∃ e0, badN m k l[k].toNat = e0 := ⟨_, rfl⟩
      rw [he0] at HB
      have HE := Lib.hid he0
      clear hall he0 hbk
      by_cases hz : e0 = 0
      · subst hz
        go_wp2_with (go_at_call 35; refine (HB.out _).mono ?_; rintro e w1 ⟨rfl, rfl⟩)
        go_roundw
        case rel => exact ⟨k + 1, by omega, by go_num, fun j hj hjk => by
          by_cases hjk2 : j < k
          · exact HA.out j hj hjk2
          · obtain rfl : j = k := by omega
            exact HE.out, by first | rfl | trivial⟩
        case measure => simp [intOf]; omega
      · have hR0 := HR2.out (fun h => hz (by rw [← HE.out]; exact (HI.out.1 h).1 k hlt))
        subst hR0
        have hz' : (e0 == 0) = false := by simpa using hz
        go_wp2_with (go_at_call 35; refine (HB.out _).mono ?_; rintro e w1 ⟨rfl, rfl⟩)
        go_ret
        exact ⟨rfl, rfl⟩
    · obtain rfl : k = l.length := by omega
      have hall' : ∀ j (hj : j < l.length), badN m j l[j].toNat = 0 := fun j hj => hall j hj hj
      have hy := b1_lt l
      by_cases h2 : l.length < 2
      · have hR0 := HR1.out (HI.out.2 ⟨hall', .inl h2⟩)
        subst hR0
        clear hall hall'
        go_wp2_with fail
        go_ret
        exact ⟨rfl, rfl⟩
      · have e1 : b1 l = l[1].toNat := by unfold b1; rw [List.getD_eq_getElem?_getD, List.getElem?_eq_getElem (by omega)]; rfl
        by_cases h3 : l.length < 2 + b1 l
        · have hR0 := HR1.out (HI.out.2 ⟨hall', .inr h3⟩)
          subst hR0
          rw [e1] at h3 hy
          have hx : decide ((l.length : Int) < 2 + (l[1].toNat : Int)) = true := decide_eq_true (by omega)
          have hx2 : decide ((l.length : Int) < 2) = false := decide_eq_false (by omega)
          clear hall hall' e1
          go_wp2_with fail
          go_ret
          refine ⟨?_, rfl⟩
          show Ending.returned (.bool (decide ((l.length : Int) < 2 + (l[1].toNat : Int)))) = _
          rw [hx]
        · have hR0 := HR2.out (fun h => (HI.out.1 h).2.elim h2 h3)
          subst hR0
          rw [e1] at h3 hy
          have hx : decide ((l.length : Int) < 2 + (l[1].toNat : Int)) = false := decide_eq_false (by omega)
          have hx2 : decide ((l.length : Int) < 2) = false := decide_eq_false (by omega)
          clear hall hall' e1
          go_wp2_with fail
          go_ret
          refine ⟨?_, rfl⟩
          show Ending.returned (.bool (decide ((l.length : Int) < 2 + (l[1].toNat : Int)))) = _
          rw [hx]
set_option maxRecDepth 100000 in
set_option maxHeartbeats 3200000 in
theorem refGood_any (n : Int) (l : List UInt8) (w : World) (hl : l.length ≤ 1000) :
    Calls Try.prog 10 #[.int .i64 n, .string ⟨l.toArray⟩] w fun e w' => e = .returned (.tuple #[.bool (decide (partE n l = 0)), .int .i64 (if partE n l = 3 then 0 else partE n l)]) ∧ w = w' := by
  have HR := Lib.hid (fun W => refRanged_any n W)
  have hr : rangedB n = (decide (1 ≤ n) && decide (n ≤ 8)) := rfl
  rcases partE_cases n l with ⟨h, hE, _⟩ | ⟨h, h8, hE, _⟩ | ⟨m, rfl, h1, h8, hg, hE, _⟩ | ⟨m, rfl, h1, h8, hg, hE, _⟩
  · rw [decide_eq_false (show ¬ 1 ≤ n by omega), Bool.false_and] at hr
    rw [hr] at HR
    rw [hE]
    go_enter Try.func10, Try.ntmps10
    go_wp2_with (go_at_call 29; refine (HR.out _).mono ?_; rintro e w1 ⟨rfl, rfl⟩)
    go_ret2
    exact ⟨rfl, rfl⟩
  · rw [decide_eq_false (show ¬ n ≤ 8 by omega), Bool.and_false] at hr
    rw [hr] at HR
    rw [hE]
    go_enter Try.func10, Try.ntmps10
    go_wp2_with (go_at_call 29; refine (HR.out _).mono ?_; rintro e w1 ⟨rfl, rfl⟩)
    go_ret2
    exact ⟨rfl, rfl⟩
  all_goals
    rw [decide_eq_true (show (1 : Int) ≤ m by omega), decide_eq_true (show (m : Int) ≤ 8 by omega)] at hr
    rw [hr] at HR
    rw [hE]
    have HG := fun W => refgood_any m l W h8 hl
    first | rw [decide_eq_true hg] at HG | rw [decide_eq_false hg] at HG
    have HG' := Lib.hid HG
    clear HG hg hE
    go_enter Try.func10, Try.ntmps10
    go_wp2_with (first
      | (go_at_call 29; refine (HR.out _).mono ?_; rintro e w1 ⟨rfl, rfl⟩)
      | (go_at_call 30; refine (HG'.out _).mono ?_; rintro e w1 ⟨rfl, rfl⟩))
    go_ret2
    exact ⟨rfl, rfl⟩
set_option maxRecDepth 100000 in
set_option maxHeartbeats 3200000 in
theorem refcheck_any (n : Int) (l : List UInt8) (w : World) (hl : l.length ≤ 1000) :
    Calls Try.prog 31 #[.int .i64 n, .string ⟨l.toArray⟩] w fun e w' => e = .returned (.int .i64 (partE n l)) ∧ w = w' := by
  have HR := Lib.hid (fun W => refGood_any n l W hl)
  have hE : partE n l = 0 ∨ partE n l = 2 ∨ partE n l = 3 := by
    rcases partE_cases n l with ⟨_, h, _⟩ | ⟨_, _, h, _⟩ | ⟨m, _, _, _, _, h, _⟩ | ⟨m, _, _, _, _, h, _⟩ <;> omega
  generalize partE n l = PE at *
  rcases hE with rfl | rfl | rfl
  all_goals
    go_enter Try.func31, Try.ntmps31
    go_wp2_with (go_at_call 10; refine (HR.out _).mono ?_; rintro e w1 ⟨rfl, rfl⟩)
    go_ret
    exact ⟨rfl, rfl⟩
set_option maxRecDepth 100000 in
set_option maxHeartbeats 3200000 in
theorem refNeeds_any (n : Int) (l : List UInt8) (w : World) (hl : l.length ≤ 1000) :
    Calls Try.prog 12 #[.int .i64 n, .string ⟨l.toArray⟩] w fun e w' => e = .returned (.tuple #[.int .i64 (needN n l), .int .i64 (partE n l)]) ∧ w = w' := by
  have HR := Lib.hid (fun W => refcheck_any n l W hl)
  have hN := needN_cases n l
  have hL := partL_len n l
  generalize needN n l = N at *
  generalize partE n l = PE at *
  have hy := b1_lt l
  rcases hN with ⟨h0, rfl⟩ | ⟨rfl, hp, h2, rfl⟩ | ⟨rfl, hp, h2, rfl⟩
  · have h0' : (PE == 0) = false := by simpa using h0
    clear h0
    go_enter Try.func12, Try.ntmps12
    go_wp2_with (go_at_call 31; refine (HR.out _).mono ?_; rintro e w1 ⟨rfl, rfl⟩)
    go_ret2
    exact ⟨rfl, rfl⟩
  · rw [hp] at hL
    have hz : (l.length : Int) < 2 := by omega
    clear hp hL
    go_enter Try.func12, Try.ntmps12
    go_wp2_with (go_at_call 31; refine (HR.out _).mono ?_; rintro e w1 ⟨rfl, rfl⟩)
    go_ret2
    exact ⟨rfl, rfl⟩
  · rw [hp] at hL
    have e1 : b1 l = l[1].toNat := by unfold b1; rw [List.getD_eq_getElem?_getD, List.getElem?_eq_getElem (by omega)]; rfl
    rw [e1] at hy ⊢
    have hz : (l.length : Int) ≤ 25 := by omega
    have hz2 : ¬ (l.length : Int) < 2 := by omega
    have hyz : (l[1].toNat : Int) < 256 := by omega
    clear hp e1
    go_enter Try.func12, Try.ntmps12
    go_wp2_with (go_at_call 31; refine (HR.out _).mono ?_; rintro e w1 ⟨rfl, rfl⟩)
    go_ret2
    exact ⟨rfl, rfl⟩
end Go.Proofs.Ytfcbbolokhcknaa
