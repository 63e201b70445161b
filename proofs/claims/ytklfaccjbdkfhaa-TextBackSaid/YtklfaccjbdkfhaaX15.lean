/- The reference's classes of bytes and its gap. No condition. -/
import Derived.Test.YtklfaccjbdkfhaaX14
namespace Go.Proofs.Ytklfaccjbdkfhaa
open Go.RowKit
def isC (n c : Nat) : Bool := clsN n == c
set_option maxRecDepth 100000 in
set_option maxHeartbeats 1600000 in
theorem rletter_any (n : Nat) (hn : n < 256) (w : World) : Calls Try.prog 43 #[.int .u8 n] w fun e w' => e = .returned (.bool (isC n 1)) ∧ w = w' := by
  have hcs : (97 ≤ n ∧ n ≤ 122 ∧ isC n 1 = true) ∨ (65 ≤ n ∧ n ≤ 90 ∧ isC n 1 = true) ∨ (n < 65 ∧ isC n 1 = false) ∨ (90 < n ∧ n < 97 ∧ isC n 1 = false) ∨ (122 < n ∧ isC n 1 = false) := by
    unfold isC clsN
    repeat' split
    all_goals first | omega | simp <;> omega
  obtain ⟨c, hc⟩ : ∃ c : Int, (n : Int) = c := ⟨_, rfl⟩
  generalize isC n 1 = v at *
  have hcs2 : (97 ≤ c ∧ c ≤ 122 ∧ v = true) ∨ (65 ≤ c ∧ c ≤ 90 ∧ v = true) ∨ (c < 65 ∧ v = false) ∨ (90 < c ∧ c < 97 ∧ v = false) ∨ (122 < c ∧ v = false) := by
    rcases hcs with ⟨h, h2, h3⟩ | ⟨h, h2, h3⟩ | ⟨h, h3⟩ | ⟨h, h2, h3⟩ | ⟨h, h3⟩
    · exact .inl ⟨by omega, by omega, h3⟩
    · exact .inr (.inl ⟨by omega, by omega, h3⟩)
    · exact .inr (.inr (.inl ⟨by omega, h3⟩))
    · exact .inr (.inr (.inr (.inl ⟨by omega, by omega, h3⟩)))
    · exact .inr (.inr (.inr (.inr ⟨by omega, h3⟩)))
  rw [hc]
  clear hc hcs hn
  rcases hcs2 with ⟨h, h2, rfl⟩ | ⟨h, h2, rfl⟩ | ⟨h, rfl⟩ | ⟨h, h2, rfl⟩ | ⟨h, rfl⟩
  · have d1 : decide ((97 : Int) ≤ c) = true := decide_eq_true h
    have d2 : decide (c ≤ (122 : Int)) = true := decide_eq_true h2
    clear h h2
    go_enter Try.func43, Try.ntmps43
    go_wp2
    go_ret
    exact ⟨rfl, rfl⟩
  · have d1 : decide ((97 : Int) ≤ c) = false := decide_eq_false (by omega)
    have d3 : decide ((65 : Int) ≤ c) = true := decide_eq_true h
    have d4 : decide (c ≤ (90 : Int)) = true := decide_eq_true h2
    clear h h2
    go_enter Try.func43, Try.ntmps43
    go_wp2
    go_ret
    exact ⟨rfl, rfl⟩
  · have d1 : decide ((97 : Int) ≤ c) = false := decide_eq_false (by omega)
    have d3 : decide ((65 : Int) ≤ c) = false := decide_eq_false (by omega)
    clear h
    go_enter Try.func43, Try.ntmps43
    go_wp2
    go_ret
    exact ⟨rfl, rfl⟩
  · have d1 : decide ((97 : Int) ≤ c) = false := decide_eq_false (by omega)
    have d3 : decide ((65 : Int) ≤ c) = true := decide_eq_true (by omega)
    have d4 : decide (c ≤ (90 : Int)) = false := decide_eq_false (by omega)
    clear h h2
    go_enter Try.func43, Try.ntmps43
    go_wp2
    go_ret
    exact ⟨rfl, rfl⟩
  · have d1 : decide ((97 : Int) ≤ c) = true := decide_eq_true (by omega)
    have d2 : decide (c ≤ (122 : Int)) = false := decide_eq_false (by omega)
    have d3 : decide ((65 : Int) ≤ c) = true := decide_eq_true (by omega)
    have d4 : decide (c ≤ (90 : Int)) = false := decide_eq_false (by omega)
    clear h
    go_enter Try.func43, Try.ntmps43
    go_wp2
    go_ret
    exact ⟨rfl, rfl⟩
set_option maxRecDepth 100000 in
set_option maxHeartbeats 1600000 in
theorem rdigit_any (n : Nat) (hn : n < 256) (w : World) : Calls Try.prog 44 #[.int .u8 n] w fun e w' => e = .returned (.bool (isC n 2)) ∧ w = w' := by
  have hcs : (48 ≤ n ∧ n ≤ 57 ∧ isC n 2 = true) ∨ (n < 48 ∧ isC n 2 = false) ∨ (57 < n ∧ isC n 2 = false) := by
    unfold isC clsN
    repeat' split
    all_goals first | omega | simp <;> omega
  obtain ⟨c, hc⟩ : ∃ c : Int, (n : Int) = c := ⟨_, rfl⟩
  generalize isC n 2 = v at *
  have hcs2 : (48 ≤ c ∧ c ≤ 57 ∧ v = true) ∨ (c < 48 ∧ v = false) ∨ (57 < c ∧ v = false) := by
    rcases hcs with ⟨h, h2, h3⟩ | ⟨h, h3⟩ | ⟨h, h3⟩
    · exact .inl ⟨by omega, by omega, h3⟩
    · exact .inr (.inl ⟨by omega, h3⟩)
    · exact .inr (.inr ⟨by omega, h3⟩)
  rw [hc]
  clear hc hcs hn
  rcases hcs2 with ⟨h, h2, rfl⟩ | ⟨h, rfl⟩ | ⟨h, rfl⟩
  · have d1 : decide ((48 : Int) ≤ c) = true := decide_eq_true h
    have d2 : decide (c ≤ (57 : Int)) = true := decide_eq_true h2
    clear h h2
    go_enter Try.func44, Try.ntmps44
    go_wp2
    go_ret
    exact ⟨rfl, rfl⟩
  · have d1 : decide ((48 : Int) ≤ c) = false := decide_eq_false (by omega)
    clear h
    go_enter Try.func44, Try.ntmps44
    go_wp2
    go_ret
    exact ⟨rfl, rfl⟩
  · have d1 : decide ((48 : Int) ≤ c) = true := decide_eq_true (by omega)
    have d2 : decide (c ≤ (57 : Int)) = false := decide_eq_false (by omega)
    clear h
    go_enter Try.func44, Try.ntmps44
    go_wp2
    go_ret
    exact ⟨rfl, rfl⟩
set_option maxRecDepth 100000 in
set_option maxHeartbeats 1600000 in
theorem rsign_any (n : Nat) (hn : n < 256) (w : World) : Calls Try.prog 42 #[.int .u8 n] w fun e w' => e = .returned (.bool (isC n 4)) ∧ w = w' := by
  have hcs : (n = 61 ∧ isC n 4 = true) ∨ (n = 124 ∧ isC n 4 = true) ∨ (n = 59 ∧ isC n 4 = true) ∨ (n = 44 ∧ isC n 4 = true) ∨ (n ≠ 61 ∧ n ≠ 124 ∧ n ≠ 59 ∧ n ≠ 44 ∧ isC n 4 = false) := by
    unfold isC clsN
    repeat' split
    all_goals first | omega | simp <;> omega
  obtain ⟨c, hc⟩ : ∃ c : Int, (n : Int) = c := ⟨_, rfl⟩
  generalize isC n 4 = v at *
  rcases hcs with ⟨rfl, rfl⟩ | ⟨rfl, rfl⟩ | ⟨rfl, rfl⟩ | ⟨rfl, rfl⟩ | ⟨h1, h2, h3, h4, rfl⟩
  · clear hc hn
    go_enter Try.func42, Try.ntmps42
    go_wp2
    go_ret
    exact ⟨rfl, rfl⟩
  · clear hc hn
    go_enter Try.func42, Try.ntmps42
    go_wp2
    go_ret
    exact ⟨rfl, rfl⟩
  · clear hc hn
    go_enter Try.func42, Try.ntmps42
    go_wp2
    go_ret
    exact ⟨rfl, rfl⟩
  · clear hc hn
    go_enter Try.func42, Try.ntmps42
    go_wp2
    go_ret
    exact ⟨rfl, rfl⟩
  · have d1 : (c == 61) = false := by rw [beq_eq_false_iff_ne]; omega
    have d2 : (c == 124) = false := by rw [beq_eq_false_iff_ne]; omega
    have d3 : (c == 59) = false := by rw [beq_eq_false_iff_ne]; omega
    have d4 : (c == 44) = false := by rw [beq_eq_false_iff_ne]; omega
    rw [hc]
    clear hc h1 h2 h3 h4 hn
    go_enter Try.func42, Try.ntmps42
    go_wp2
    go_ret
    exact ⟨rfl, rfl⟩
set_option maxRecDepth 100000 in
set_option maxHeartbeats 1600000 in
theorem rblank_any (n : Nat) (hn : n < 256) (w : World) : Calls Try.prog 41 #[.int .u8 n] w fun e w' => e = .returned (.bool (isC n 5)) ∧ w = w' := by
  have hcs : (n = 32 ∧ isC n 5 = true) ∨ (n = 9 ∧ isC n 5 = true) ∨ (n = 10 ∧ isC n 5 = true) ∨ (n = 13 ∧ isC n 5 = true) ∨ (n ≠ 32 ∧ n ≠ 9 ∧ n ≠ 10 ∧ n ≠ 13 ∧ isC n 5 = false) := by
    unfold isC clsN
    repeat' split
    all_goals first | omega | simp <;> omega
  obtain ⟨c, hc⟩ : ∃ c : Int, (n : Int) = c := ⟨_, rfl⟩
  generalize isC n 5 = v at *
  rcases hcs with ⟨rfl, rfl⟩ | ⟨rfl, rfl⟩ | ⟨rfl, rfl⟩ | ⟨rfl, rfl⟩ | ⟨h1, h2, h3, h4, rfl⟩
  · clear hc hn
    go_enter Try.func41, Try.ntmps41
    go_wp2
    go_ret
    exact ⟨rfl, rfl⟩
  · clear hc hn
    go_enter Try.func41, Try.ntmps41
    go_wp2
    go_ret
    exact ⟨rfl, rfl⟩
  · clear hc hn
    go_enter Try.func41, Try.ntmps41
    go_wp2
    go_ret
    exact ⟨rfl, rfl⟩
  · clear hc hn
    go_enter Try.func41, Try.ntmps41
    go_wp2
    go_ret
    exact ⟨rfl, rfl⟩
  · have d1 : (c == 32) = false := by rw [beq_eq_false_iff_ne]; omega
    have d2 : (c == 9) = false := by rw [beq_eq_false_iff_ne]; omega
    have d3 : (c == 10) = false := by rw [beq_eq_false_iff_ne]; omega
    have d4 : (c == 13) = false := by rw [beq_eq_false_iff_ne]; omega
    rw [hc]
    clear hc h1 h2 h3 h4 hn
    go_enter Try.func41, Try.ntmps41
    go_wp2
    go_ret
    exact ⟨rfl, rfl⟩
theorem isC_cl (b : UInt8) (c : Nat) : isC b.toNat c = decide (cl b = c) := by unfold isC cl; rw [Bool.eq_iff_iff]; simp
theorem b_at {s : List UInt8} {m : Nat} (h : m < s.length) : ∃ b, s[m]? = some b := ⟨_, List.getElem?_eq_getElem h⟩
set_option maxRecDepth 100000 in
set_option maxHeartbeats 3200000 in
theorem rpass_any (s : List UInt8) (k : Nat) (w : World) (hk : k ≤ s.length) (hl : s.length ≤ 30000) :
    Calls Try.prog 34 #[.string ⟨s.toArray⟩, .int .i64 k] w fun e w' => e = .returned (.int .i64 ((k + skipF false (s.drop k) : Nat) : Int)) ∧ w = w' := by
  have hlz : (s.length : Int) ≤ 30000 := by omega
  have HB := Lib.hid (fun (b : UInt8) W => rblank_any b.toNat (UInt8.toNat_lt b) W)
  obtain ⟨N, hN⟩ : ∃ N, k + skipF false (s.drop k) = N := ⟨_, rfl⟩
  rw [hN]
  go_enter Try.func34, Try.ntmps34
  go_wp2_with fail
  go_loop [1] (fun a => ∃ m : Nat, m ≤ s.length ∧ a = .int .i64 m ∧ m + skipF false (s.drop m) = N) (fun a => s.length - (intOf a).toNat)
  case atStart => exact ⟨k, hk, rfl, hN⟩
  case round =>
    obtain ⟨m, hm, rfl, hmN⟩ := hrel
    have HmN := Lib.hid hmN
    clear hN hmN hk
    by_cases hlt : m < s.length
    · have HBm := Lib.hid (HB.out s[m] w)
      rw [isC_cl] at HBm
      by_cases h5 : cl s[m] = 5
      · rw [decide_eq_true h5] at HBm
        have HN := Lib.hid (show m + 1 + skipF false (s.drop (m + 1)) = N by
          have := HmN.out
          rw [drop_get hlt, skip_b _ h5] at this
          omega)
        clear h5
        go_wp2_with fail
        refine HBm.out.mono ?_
        rintro e w1 ⟨rfl, rfl⟩
        go_wp2_with fail
        go_round
        case rel => exact ⟨m + 1, by omega, by go_num, HN.out⟩
        case measure => simp [intOf]; omega
      · rw [decide_eq_false h5] at HBm
        by_cases h6 : cl s[m] = 6
        · have h35 := cl6 _ h6
          have hz : ((s[m].toNat : Int) == 35) = true := by rw [h35]; rfl
          have H10 := Lib.hid (show s[m] ≠ 10 by rw [h35]; decide)
          have HT := Lib.hid (show m + skipF true (s.drop m) = N by
            have := HmN.out
            rw [← skip_rem (s.drop m) (by rw [drop_get hlt]; exact h6)] at this
            exact this)
          clear h5 h6 h35
          go_wp2_with fail
          refine HBm.out.mono ?_
          rintro e w1 ⟨rfl, rfl⟩
          go_wp2_with fail
          go_loop [1] (fun a => ∃ j : Nat, m ≤ j ∧ j ≤ s.length ∧ a = .int .i64 j ∧ j + skipF true (s.drop j) = N) (fun a => s.length - (intOf a).toNat)
          case atStart => exact ⟨m, Nat.le_refl _, hm, rfl, HT.out⟩
          case round =>
            obtain ⟨j, hmj, hj, rfl, hjN⟩ := hrel
            have HjN := Lib.hid hjN
            clear hjN
            by_cases hjl : j < s.length
            · by_cases h10 : s[j] = 10
              · have hz2 : ((s[j].toNat : Int) == 10) = true := by rw [h10]; rfl
                have HE := Lib.hid (show j + skipF false (s.drop j) = N by
                  have := HjN.out
                  rw [skip_end (s.drop j) (by rw [drop_get hjl, h10]; rfl)] at this
                  exact this)
                have hmj2 : m < j := by
                  rcases Nat.lt_or_eq_of_le hmj with h | h
                  · exact h
                  · subst h; exact absurd h10 H10.out
                clear h10
                go_wp2_with fail
                go_round
                case rel => exact ⟨j, by omega, rfl, HE.out⟩
                case measure => simp [intOf]; omega
              · have hz2 : ((s[j].toNat : Int) == 10) = false := by
                  rw [beq_eq_false_iff_ne]
                  intro e
                  exact h10 (UInt8.toNat_inj.1 (by rw [show (10 : UInt8).toNat = 10 from rfl]; omega))
                have HN1 := Lib.hid (show j + 1 + skipF true (s.drop (j + 1)) = N by
                  have h1 := HjN.out
                  rw [drop_get hjl, skip_t _ h10] at h1
                  omega)
                clear h10
                go_wp2_with fail
                go_round
                case rel => exact ⟨j + 1, by omega, by omega, by go_num, HN1.out⟩
                case measure => simp [intOf]; omega
            · obtain rfl : j = s.length := by omega
              have HE := Lib.hid (show s.length + skipF false (s.drop s.length) = N by
                have h1 := HjN.out
                rw [List.drop_length] at h1 ⊢
                exact h1)
              go_wp2_with fail
              go_round
              case rel => exact ⟨s.length, by omega, rfl, HE.out⟩
              case measure => simp [intOf]; omega
        · have hz : ((s[m].toNat : Int) == 35) = false := by
            rw [beq_eq_false_iff_ne]
            intro e
            have : s[m] = 35 := UInt8.toNat_inj.1 (by rw [show (35 : UInt8).toNat = 35 from rfl]; omega)
            rw [this] at h6
            exact h6 (by decide)
          have he : m = N := by
            have := HmN.out
            rw [drop_get hlt, skip_o _ h5 h6] at this
            exact this
          subst he
          clear h5 h6
          go_wp2_with fail
          refine HBm.out.mono ?_
          rintro e w1 ⟨rfl, rfl⟩
          go_wp2_with fail
          go_ret
          exact ⟨rfl, rfl⟩
    · obtain rfl : m = s.length := by omega
      have he : s.length = N := by
        have := HmN.out
        rw [List.drop_length] at this
        exact this
      subst he
      go_wp2_with fail
      go_ret
      exact ⟨rfl, rfl⟩
end Go.Proofs.Ytklfaccjbdkfhaa
