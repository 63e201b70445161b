/- The reference: names; the number of a name. No condition. -/
import Derived.Test.YtbobpgjgknkogaaI24
namespace Go.Proofs.Ytbobpgjgknkogaa
open Go.RowKit Go.Maps
set_option maxRecDepth 100000 in
theorem rLetter_any (c : Nat) (hc : c < 256) (w : World) : Calls Try.prog 62 #[.int .u8 c] w fun e w' => e = .returned (.bool (letN c)) ∧ w' = w := by
  unfold letN
  by_cases h1 : 97 ≤ c
  · by_cases h2 : c ≤ 122
    · have z1 : (97 : Int) ≤ c := by omega
      have z2 : (c : Int) ≤ 122 := by omega
      go_enter Try.func62, Try.ntmps62
      go_wp2_with fail
      go_ret
      exact ⟨by simp [h1, h2], rfl⟩
    · have z1 : (97 : Int) ≤ c := by omega
      have z2 : ¬ (c : Int) ≤ 122 := by omega
      have z3 : (65 : Int) ≤ c := by omega
      have z4 : ¬ (c : Int) ≤ 90 := by omega
      go_enter Try.func62, Try.ntmps62
      go_wp2_with fail
      go_ret
      exact ⟨by simp <;> omega, rfl⟩
  · by_cases h3 : 65 ≤ c
    all_goals
      go_enter Try.func62, Try.ntmps62
      go_wp2_with fail
      go_ret
      exact ⟨by simp <;> omega, rfl⟩
set_option maxRecDepth 100000 in
theorem rDigit_any (c : Nat) (hc : c < 256) (w : World) : Calls Try.prog 63 #[.int .u8 c] w fun e w' => e = .returned (.bool (digN c)) ∧ w' = w := by
  unfold digN
  by_cases h1 : 48 ≤ c
  all_goals
    go_enter Try.func63, Try.ntmps63
    go_wp2_with fail
    go_ret
    exact ⟨by simp [h1] <;> omega, rfl⟩
set_option maxRecDepth 100000 in
set_option maxHeartbeats 3200000 in
theorem rWord_any (s : List UInt8) (w : World) (hs : s.length ≤ maxLen) : Calls Try.prog 54 #[.string ⟨s.toArray⟩] w fun e w' => e = .returned (.int .i64 (wordE s)) ∧ w' = w := by
  unfold maxLen at hs
  by_cases h0 : s = []
  · subst h0
    go_enter Try.func54, Try.ntmps54
    go_wp2_with fail
    go_ret
    exact ⟨rfl, rfl⟩
  · have h0b : (s == []) = false := by simpa using h0
    obtain ⟨R, hR⟩ : ∃ R, wordE s = R := ⟨_, rfl⟩
    rw [hR]
    have hR1 : scanW 0 s = true → R = 3 := fun h => by rw [← hR]; unfold wordE; rw [if_neg h0, if_pos h]
    have hR2 : scanW 0 s = false → R = if 12 < s.length then 4 else 0 := fun h => by rw [← hR]; unfold wordE; rw [if_neg h0, if_neg (by rw [h]; simp)]
    have HR := Lib.hid (And.intro hR1 hR2)
    clear hR hR1 hR2
    go_enter Try.func54, Try.ntmps54
    go_wp2_with fail
    go_loopw [3] (fun i W => w = W ∧ ∃ pos : Nat, pos ≤ s.length ∧ i = .int .i64 pos ∧ scanW 0 s = scanW pos (s.drop pos)) (fun i _ => s.length - (intOf i).toNat)
    case atStart => exact ⟨rfl, 0, Nat.zero_le _, rfl, rfl⟩
    case round =>
      obtain ⟨rfl, pos, hpos, rfl, hsc⟩ := hrel
      by_cases hp : pos < s.length
      · rw [scan_drop s pos pos hp] at hsc
        have hc8 : s[pos].toNat < 256 := s[pos].toNat_lt
        have HL := Lib.hid (fun W => rLetter_any s[pos].toNat hc8 W)
        have HD := Lib.hid (fun W => rDigit_any s[pos].toNat hc8 W)
        generalize hc : s[pos].toNat = c at *
        have hb : badN pos c = (!letN c && (decide (pos = 0) || (!digN c && !decide (c = 95)))) := rfl
        generalize badN pos c = bd at *
        generalize letN c = lb at *
        generalize digN c = db at *
        have HS := Lib.hid hsc
        have HBd := Lib.hid hb
        clear hsc hb h0b
        cases lb
        · by_cases hz : pos = 0
          · subst hz
            have hR3 : R = 3 := HR.out.1 (by rw [HS.out, HBd.out]; simp)
            subst hR3
            go_wp2_with fail
            refine (HL.out _).mono ?_
            rintro e w1 ⟨rfl, rfl⟩
            go_wp2_with fail
            go_ret
            exact ⟨rfl, rfl⟩
          · have hzz : ¬ (pos : Int) = 0 := by omega
            cases db
            · by_cases h95 : c = 95
              · subst h95
                go_wp2_with fail
                refine (HL.out _).mono ?_
                rintro e w1 ⟨rfl, rfl⟩
                go_wp2_with fail
                refine (HD.out _).mono ?_
                rintro e w1 ⟨rfl, rfl⟩
                go_wp2_with fail
                go_roundw
                case rel => exact ⟨trivial, pos + 1, by omega, by go_num, by rw [HS.out, HBd.out]; simp [hz]⟩
                case measure => simp [intOf]; omega
              · have h9 : ((c : Int) != 95) = true := bne_iff_ne.2 (by omega)
                have hR3 : R = 3 := HR.out.1 (by rw [HS.out, HBd.out]; simp [h95])
                subst hR3
                go_wp2_with fail
                refine (HL.out _).mono ?_
                rintro e w1 ⟨rfl, rfl⟩
                go_wp2_with fail
                refine (HD.out _).mono ?_
                rintro e w1 ⟨rfl, rfl⟩
                go_wp2_with fail
                go_ret
                exact ⟨rfl, rfl⟩
            · go_wp2_with fail
              refine (HL.out _).mono ?_
              rintro e w1 ⟨rfl, rfl⟩
              go_wp2_with fail
              refine (HD.out _).mono ?_
              rintro e w1 ⟨rfl, rfl⟩
              go_wp2_with fail
              go_roundw
              case rel => exact ⟨trivial, pos + 1, by omega, by go_num, by rw [HS.out, HBd.out]; simp [hz]⟩
              case measure => simp [intOf]; omega
        · go_wp2_with fail
          refine (HL.out _).mono ?_
          rintro e w1 ⟨rfl, rfl⟩
          go_wp2_with fail
          go_roundw
          case rel => exact ⟨trivial, pos + 1, by omega, by go_num, by rw [HS.out, HBd.out]; simp⟩
          case measure => simp [intOf]; omega
      · obtain rfl : pos = s.length := by omega
        rw [List.drop_length] at hsc
        have hR3 := HR.out.2 hsc
        clear hsc HR
        by_cases h12 : 12 < s.length
        · rw [if_pos h12] at hR3
          subst hR3
          have hz12 : (12 : Int) < s.length := by omega
          go_wp2_with fail
          go_ret
          exact ⟨rfl, rfl⟩
        · rw [if_neg h12] at hR3
          subst hR3
          have hz12 : ¬ (12 : Int) < s.length := by omega
          go_wp2_with fail
          go_ret
          exact ⟨rfl, rfl⟩
set_option maxRecDepth 100000 in
theorem rLanguage_any (s : List UInt8) (w : World) : Calls Try.prog 55 #[.string ⟨s.toArray⟩] w fun e w' => e = .returned (.bool (langL.contains s)) ∧ w' = w := by
  have hc : langL.contains s = ((s == [108, 111, 111, 107, 97, 104, 101, 97, 100]) || ((s == [116, 111, 107, 101, 110]) || ((s == [115, 101, 112, 97, 114, 97, 116, 111, 114]) || (s == [115, 116, 97, 114, 116])))) := by
    simp only [langL, List.contains_cons, List.contains_nil, Bool.or_false]
  rw [hc]
  generalize h1 : (s == [108, 111, 111, 107, 97, 104, 101, 97, 100]) = b1
  generalize h2 : (s == [116, 111, 107, 101, 110]) = b2
  generalize h3 : (s == [115, 101, 112, 97, 114, 97, 116, 111, 114]) = b3
  generalize h4 : (s == [115, 116, 97, 114, 116]) = b4
  clear hc
  cases b1
  · cases b2
    · cases b3
      · cases b4
        all_goals
          go_enter Try.func55, Try.ntmps55
          go_wp2_with fail
          go_ret
          exact ⟨rfl, rfl⟩
      · go_enter Try.func55, Try.ntmps55
        go_wp2_with fail
        go_ret
        exact ⟨rfl, rfl⟩
    · go_enter Try.func55, Try.ntmps55
      go_wp2_with fail
      go_ret
      exact ⟨rfl, rfl⟩
  · go_enter Try.func55, Try.ntmps55
    go_wp2_with fail
    go_ret
    exact ⟨rfl, rfl⟩
set_option maxRecDepth 100000 in
theorem rName_any (s : List UInt8) (w : World) (hs : s.length ≤ maxLen) : Calls Try.prog 42 #[.string ⟨s.toArray⟩] w fun e w' => e = .returned (.int .i64 (nameE s)) ∧ w' = w := by
  have HW := Lib.hid (rWord_any s w hs)
  have HL := Lib.hid (fun W => rLanguage_any s W)
  have hN : nameE s = if wordE s = 0 then (if langL.contains s = true then 12 else 0) else wordE s := rfl
  generalize nameE s = N at *
  generalize wordE s = e0 at *
  generalize langL.contains s = lg at *
  by_cases h0 : e0 = 0
  · rw [if_pos h0] at hN
    subst h0
    cases lg
    all_goals
      first
        | rw [if_neg (by decide)] at hN
        | rw [if_pos rfl] at hN
      subst hN
      go_enter Try.func42, Try.ntmps42
      go_wp2_with fail
      refine HW.out.mono ?_
      rintro e w1 ⟨rfl, rfl⟩
      go_wp2_with fail
      refine (HL.out _).mono ?_
      rintro e w2 ⟨rfl, rfl⟩
      go_wp2_with fail
      go_ret
      exact ⟨rfl, rfl⟩
  · rw [if_neg h0] at hN
    subst hN
    have hb : (N == 0) = false := by simpa using h0
    go_enter Try.func42, Try.ntmps42
    go_wp2_with fail
    refine HW.out.mono ?_
    rintro e w1 ⟨rfl, rfl⟩
    clear HL
    go_wp2_with fail
    go_ret
    exact ⟨rfl, rfl⟩
/-- The number of a name, or -1. -/
def atR (l : List (List UInt8)) (s : List UInt8) : Int := match idxF l s with | some i => (i : Int) | none => -1
theorem idxF_drop {l : List (List UInt8)} {s : List UInt8} {k : Nat} (hk : k < l.length) (h : s ∉ l.take k) (he : l[k] = s) : idxF l s = some k := by
  subst he
  exact idxF_get hk h
set_option maxRecDepth 100000 in
set_option maxHeartbeats 1600000 in
theorem rAt_any (A : Option Addr) (cap D : Nat) (l : List (List UInt8)) (s : List UInt8) (w : World) (hS : Sl w D 1 A l.length cap (l.map strV)) (hn : l.length ≤ 1000) :
    Calls Try.prog 43 #[.slice A l.length cap, .string ⟨s.toArray⟩] w fun e w' => e = .returned (.int .i64 (atR l s)) ∧ w' = w := by
  obtain ⟨R, hR⟩ : ∃ R, atR l s = R := ⟨_, rfl⟩
  have hR1 : ∀ k, idxF l s = some k → R = (k : Int) := fun k h => by rw [← hR]; unfold atR; rw [h]
  have hR2 : idxF l s = none → R = -1 := fun h => by rw [← hR]; unfold atR; rw [h]
  have HR := Lib.hid (And.intro hR1 hR2)
  rw [hR]
  clear hR hR1 hR2
  go_enter Try.func43, Try.ntmps43
  go_wp2_with fail
  go_loopw [5] (fun i W => w = W ∧ ∃ k : Nat, k ≤ l.length ∧ i = .int .i64 k ∧ s ∉ l.take k) (fun i _ => l.length - (intOf i).toNat)
  case atStart => exact ⟨rfl, 0, Nat.zero_le _, rfl, by simp⟩
  case round =>
    obtain ⟨rfl, k, hk, rfl, hnot⟩ := hrel
    by_cases hlt : k < l.length
    · obtain ⟨b, o, rfl, hb, c0⟩ := sl_str hS hlt
      have hi := fun he => idxF_drop hlt hnot he
      have hsn : s ≠ l[k] → s ∉ l.take (k + 1) := fun h hm => by
        rw [takeSnoc l k hlt] at hm
        rcases List.mem_append.1 hm with h1 | h1
        · exact hnot h1
        · simp at h1; exact h h1
      generalize l[k] = x at *
      have HI := Lib.hid hi
      have HSn := Lib.hid hsn
      clear hi hsn hnot
      by_cases hx : x = s
      · have hR3 := HR.out.1 k (HI.out hx)
        subst hx
        subst hR3
        clear HR HI HSn
        go_wp2_with fail
        go_ret
        exact ⟨rfl, rfl⟩
      · have hxb : (x == s) = false := by simpa using hx
        have h3 := Lib.hid (HSn.out (fun e => hx e.symm))
        clear hx HI HSn
        go_wp2_with fail
        go_roundw
        case rel => exact ⟨trivial, k + 1, by omega, by go_num, h3.out⟩
        case measure => simp [intOf]; omega
    · obtain rfl : k = l.length := by omega
      rw [List.take_length] at hnot
      have hR3 := HR.out.2 (idxF_none.2 hnot)
      subst hR3
      clear HR hnot
      go_wp2_with fail
      go_ret
      exact ⟨rfl, rfl⟩
end Go.Proofs.Ytbobpgjgknkogaa
