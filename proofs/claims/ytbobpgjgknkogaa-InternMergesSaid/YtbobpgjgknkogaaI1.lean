/- Names: name.Word, name.Language, name.Check. No condition. -/
import Derived.Test.YtbobpgjgknkogaaBy
import Derived.Laws.RangeAny
namespace Go.Proofs.Ytbobpgjgknkogaa
open Go.RowKit
def strV (l : List UInt8) : Value := .string ⟨l.toArray⟩
theorem sl_str {w : World} {D : Nat} {A : Option Addr} {cap : Nat} {ls : List (List UInt8)} (h : Sl w D 1 A ls.length cap (ls.map strV)) {k : Nat} (hk : k < ls.length) :
    ∃ b o, A = some ⟨b, o, none⟩ ∧ b < D ∧ w.cell? ⟨b, o + k, none⟩ = some (.string ⟨ls[k].toArray⟩) := by
  obtain ⟨b, o, u, e, hb, hu, hc⟩ := h.at_ hk
  refine ⟨b, o, e, hb, ?_⟩
  rw [hc, ← hu]
  simp [hk, strV]
def letN (c : Nat) : Bool := (decide (97 ≤ c) && decide (c ≤ 122)) || (decide (65 ≤ c) && decide (c ≤ 90))
def digN (c : Nat) : Bool := decide (48 ≤ c) && decide (c ≤ 57)
def badN (i c : Nat) : Bool := !letN c && (decide (i = 0) || (!digN c && !decide (c = 95)))
def scanW : Nat → List UInt8 → Bool
  | _, [] => false
  | i, c :: l => badN i c.toNat || scanW (i + 1) l
def wordE (s : List UInt8) : Int := if s = [] then 5 else if scanW 0 s = true then 3 else if 12 < s.length then 4 else 0
theorem scan_drop (s : List UInt8) (i k : Nat) (h : k < s.length) : scanW i (s.drop k) = (badN i s[k].toNat || scanW (i + 1) (s.drop (k + 1))) := by
  rw [List.drop_eq_getElem_cons h]; rfl
set_option maxRecDepth 100000 in
theorem letter_any (c : Nat) (w : World) : Calls Try.prog 59 #[.int .i32 c] w fun e w' => e = .returned (.bool (letN c)) ∧ w' = w := by
  unfold letN
  by_cases h1 : 97 ≤ c
  · by_cases h2 : c ≤ 122
    · have z1 : (97 : Int) ≤ c := by omega
      have z2 : (c : Int) ≤ 122 := by omega
      go_enter Try.func59, Try.ntmps59
      go_wp2_with fail
      go_ret
      exact ⟨by simp [h1, h2], rfl⟩
    · have z1 : (97 : Int) ≤ c := by omega
      have z2 : ¬ (c : Int) ≤ 122 := by omega
      have z3 : (65 : Int) ≤ c := by omega
      have z4 : ¬ (c : Int) ≤ 90 := by omega
      go_enter Try.func59, Try.ntmps59
      go_wp2_with fail
      go_ret
      exact ⟨by simp <;> omega, rfl⟩
  · by_cases h3 : 65 ≤ c
    all_goals
      go_enter Try.func59, Try.ntmps59
      go_wp2_with fail
      go_ret
      exact ⟨by simp <;> omega, rfl⟩
set_option maxRecDepth 100000 in
theorem digit_any (c : Nat) (w : World) : Calls Try.prog 60 #[.int .i32 c] w fun e w' => e = .returned (.bool (digN c)) ∧ w' = w := by
  unfold digN
  by_cases h1 : 48 ≤ c
  all_goals
    go_enter Try.func60, Try.ntmps60
    go_wp2_with fail
    go_ret
    exact ⟨by simp [h1] <;> omega, rfl⟩
theorem high_bad (i c : Nat) (h : 128 ≤ c) : letN c = false ∧ digN c = false ∧ badN i c = true := by
  have h1 : letN c = false := by unfold letN; simp; omega
  have h2 : digN c = false := by unfold digN; simp; omega
  have h3 : c ≠ 95 := by omega
  exact ⟨h1, h2, by unfold badN; rw [h1, h2]; simp [h3]⟩
set_option maxRecDepth 100000 in
set_option maxHeartbeats 3200000 in
theorem Word_any (s : List UInt8) (w : World) (hs : s.length ≤ maxLen) : Calls Try.prog 52 #[.string ⟨s.toArray⟩] w fun e w' => e = .returned (.int .i64 (wordE s)) ∧ Below w.heap.size w w' := by
  have hB : ∀ p, Below w.heap.size w (w.iter ⟨s.toArray⟩ p) := fun p => (Below.refl w.heap.size w).alloc (Nat.le_refl _) _
  have HB := Lib.hid hB
  clear hB
  unfold maxLen at hs
  by_cases h0 : s = []
  · subst h0
    go_enter Try.func52, Try.ntmps52
    go_wp2_with fail
    go_ret
    exact ⟨rfl, Below.refl _ _⟩
  · have h0b : (s == []) = false := by simpa using h0
    obtain ⟨R, hR⟩ : ∃ R, wordE s = R := ⟨_, rfl⟩
    rw [hR]
    have hR1 : scanW 0 s = true → R = 3 := fun h => by rw [← hR]; unfold wordE; rw [if_neg h0, if_pos h]
    have hR2 : scanW 0 s = false → R = if 12 < s.length then 4 else 0 := fun h => by rw [← hR]; unfold wordE; rw [if_neg h0, if_neg (by rw [h]; simp)]
    have HR := Lib.hid (And.intro hR1 hR2)
    clear hR hR1 hR2
    go_enter Try.func52, Try.ntmps52
    go_wp2_with fail
    go_loopw [3, 4] (fun _ _ W => ∃ pos : Nat, pos ≤ s.length ∧ W = w.iter ⟨s.toArray⟩ pos ∧ scanW 0 s = scanW pos (s.drop pos)) (fun _ _ W => s.length - W.iterPos w.heap.size)
    case atStart => exact ⟨0, Nat.zero_le _, rfl, rfl⟩
    case round =>
      obtain ⟨pos, hpos, rfl, hsc⟩ := hrel
      by_cases hp : pos < s.length
      · have hp' : pos < (⟨s.toArray⟩ : ByteArray).size := by simpa [ByteArray.size] using hp
        have hy : (⟨s.toArray⟩ : ByteArray)[pos]'hp' = s[pos] := rfl
        rw [scan_drop s pos pos hp] at hsc
        by_cases ha : s[pos].toNat < 128
        · have hnx : ∀ ty, (Instr.next (.pointer (some ⟨w.heap.size, 0, none⟩)) true ty).run Try.prog (w.iter ⟨s.toArray⟩ pos) = .ok (.tuple #[.bool true, .int .i64 pos, .int .i32 (s[pos].toNat : Int)]) (w.iter ⟨s.toArray⟩ (pos + 1)) := fun ty => run_next_ascii w _ pos ty hp' ha
          have HL := Lib.hid (fun W => letter_any s[pos].toNat W)
          have HD := Lib.hid (fun W => digit_any s[pos].toNat W)
          generalize s[pos].toNat = c at *
          have hb : badN pos c = (!letN c && (decide (pos = 0) || (!digN c && !decide (c = 95)))) := rfl
          generalize badN pos c = bd at *
          generalize letN c = lb at *
          generalize digN c = db at *
          have hc1 : ∀ k : Nat, s.length - (w.iter ⟨s.toArray⟩ (pos + 1)).iterPos w.heap.size < s.length - (w.iter ⟨s.toArray⟩ pos).iterPos w.heap.size := fun _ => by simp; omega
          have HM := Lib.hid hc1
          have HS := Lib.hid hsc
          have HBd := Lib.hid hb
          clear hsc hb hc1 hy
          cases lb
          · by_cases hz : pos = 0
            · subst hz
              have hR3 : R = 3 := HR.out.1 (by rw [HS.out, HBd.out]; simp)
              subst hR3
              go_wp2_with fail
              refine (HL.out _).mono ?_
              rintro e w1 ⟨rfl, rfl⟩
              go_wp2_with fail
              go_ret
              exact ⟨rfl, HB.out _⟩
            · have hzz : ¬ (pos : Int) = 0 := by omega
              cases db
              · by_cases h95 : c = 95
                · subst h95
                  go_wp2_with fail
                  refine (HL.out _).mono ?_
                  rintro e w1 ⟨rfl, rfl⟩
                  go_wp2_with fail
                  refine (HD.out _).mono ?_
                  rintro e w1 ⟨rfl, rfl⟩
                  go_wp2_with fail
                  go_roundw
                  case rel => exact ⟨pos + 1, by omega, rfl, by rw [HS.out, HBd.out]; simp [hz]⟩
                  case measure => exact HM.out 0
                · have h9 : ((c : Int) != 95) = true := bne_iff_ne.2 (by omega)
                  have hR3 : R = 3 := HR.out.1 (by rw [HS.out, HBd.out]; simp [h95])
                  subst hR3
                  go_wp2_with fail
                  refine (HL.out _).mono ?_
                  rintro e w1 ⟨rfl, rfl⟩
                  go_wp2_with fail
                  refine (HD.out _).mono ?_
                  rintro e w1 ⟨rfl, rfl⟩
                  go_wp2_with fail
                  go_ret
                  exact ⟨rfl, HB.out _⟩
              · go_wp2_with fail
                refine (HL.out _).mono ?_
                rintro e w1 ⟨rfl, rfl⟩
                go_wp2_with fail
                refine (HD.out _).mono ?_
                rintro e w1 ⟨rfl, rfl⟩
                go_wp2_with fail
                go_roundw
                case rel => exact ⟨pos + 1, by omega, rfl, by rw [HS.out, HBd.out]; simp [hz]⟩
                case measure => exact HM.out 0
          · go_wp2_with fail
            refine (HL.out _).mono ?_
            rintro e w1 ⟨rfl, rfl⟩
            go_wp2_with fail
            go_roundw
            case rel => exact ⟨pos + 1, by omega, rfl, by rw [HS.out, HBd.out]; simp⟩
            case measure => exact HM.out 0
        · have hnx : ∀ ty, (Instr.next (.pointer (some ⟨w.heap.size, 0, none⟩)) true ty).run Try.prog (w.iter ⟨s.toArray⟩ pos) = .ok (.tuple #[.bool true, .int .i64 pos, .int .i32 ((Utf8.decode ⟨s.toArray⟩ pos).1 : Int)]) (w.iter ⟨s.toArray⟩ (pos + (Utf8.decode ⟨s.toArray⟩ pos).2)) := fun ty => run_next_any w _ pos ty hp'
          have hd := (decode_high ⟨s.toArray⟩ pos hp' (by rw [hy]; omega)).1
          have hbad := (high_bad pos s[pos].toNat (by omega)).2.2
          rw [hbad, Bool.true_or] at hsc
          have hR3 : R = 3 := HR.out.1 hsc
          subst hR3
          generalize (Utf8.decode ⟨s.toArray⟩ pos).2 = wd at *
          generalize (Utf8.decode ⟨s.toArray⟩ pos).1 = c at *
          have HL := Lib.hid (fun W => letter_any c W)
          have HD := Lib.hid (fun W => digit_any c W)
          rw [(high_bad pos c hd).1] at HL
          rw [(high_bad pos c hd).2.1] at HD
          have h9 : ((c : Int) != 95) = true := bne_iff_ne.2 (by omega)
          clear hsc hbad hd ha hy
          by_cases hz : pos = 0
          · subst hz
            go_wp2_with fail
            refine (HL.out _).mono ?_
            rintro e w1 ⟨rfl, rfl⟩
            go_wp2_with fail
            go_ret
            exact ⟨rfl, HB.out _⟩
          · have hzz : ¬ (pos : Int) = 0 := by omega
            go_wp2_with fail
            refine (HL.out _).mono ?_
            rintro e w1 ⟨rfl, rfl⟩
            go_wp2_with fail
            refine (HD.out _).mono ?_
            rintro e w1 ⟨rfl, rfl⟩
            go_wp2_with fail
            go_ret
            exact ⟨rfl, HB.out _⟩
      · have hnx : ∀ ty, (Instr.next (.pointer (some ⟨w.heap.size, 0, none⟩)) true ty).run Try.prog (w.iter ⟨s.toArray⟩ pos) = .ok (.tuple #[.bool false]) (w.iter ⟨s.toArray⟩ pos) := fun ty => run_next_end w _ pos ty (by simpa [ByteArray.size] using hp)
        have hpe : pos = s.length := by omega
        rw [hpe, List.drop_length] at hsc
        have hR2 := HR.out.2 hsc
        clear hsc hpe
        by_cases h12 : 12 < s.length
        · have h1z : (12 : Int) < s.length := by omega
          rw [if_pos h12] at hR2
          subst hR2
          go_wp2_with fail
          go_ret
          exact ⟨rfl, HB.out _⟩
        · have h1z : ¬ (12 : Int) < s.length := by omega
          rw [if_neg h12] at hR2
          subst hR2
          go_wp2_with fail
          go_ret
          exact ⟨rfl, HB.out _⟩
end Go.Proofs.Ytbobpgjgknkogaa
