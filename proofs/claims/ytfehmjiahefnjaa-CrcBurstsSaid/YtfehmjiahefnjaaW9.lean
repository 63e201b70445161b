/- Walks: stenotyperef02.Seal, Open. -/
import Derived.Test.YtfehmjiahefnjaaW8
namespace Go.Proofs.Ytfehmjiahefnjaa
open Go.RowKit
set_option maxHeartbeats 800000 in
theorem refSeal_any (l : List UInt8) (w : World) (hl : l.length ≤ maxLen) :
    Calls Try.prog 24 #[.string ⟨l.toArray⟩] w fun e w' => e = .returned (.tuple #[.string ⟨(sealS l).toArray⟩, .int .i64 (sealE l)]) ∧ Below w.heap.size w w' := by
  unfold maxLen at hl
  by_cases hlong : 20000 < l.length
  · have h1 : sealS l = [] := if_pos hlong
    have h2 : sealE l = 4 := if_pos hlong
    rw [h1, h2]
    go_enter Try.func24, Try.ntmps24
    go_wp2
    go_ret2
    exact ⟨rfl, Below.refl _ _⟩
  · have h1 : sealS l = sealL l := if_neg hlong
    have h2 : sealE l = 0 := if_neg hlong
    have h3 : sealL l = l ++ fourL (crcL l) := rfl
    rw [h1, h2, h3]
    clear h1 h2 h3
    have HO := Lib.hid (refOf_any _ 1 (w.heap.size + 1) [l] (w.alloc (.cells #[.string ⟨l.toArray⟩] 9)) (sl_one w _ _) (by simp) (by intro x hx; simp at hx; subst hx; omega))
    rw [ofs_one] at HO
    have hc := crcL_lt l
    have hF4 : (fourL (crcL l)).length = 4 := rfl
    generalize crcL l = n at *
    have HF := Lib.hid (four_any n (w.alloc (.cells #[.string ⟨l.toArray⟩] 9)) hc)
    generalize fourL n = f at *
    go_enter Try.func24, Try.ntmps24
    go_wp2_with (first
      | (go_at_call 17; refine HO.out.mono ?_; rintro e w1 ⟨rfl, rfl⟩)
      | (go_at_call 38; refine HF.out.mono ?_; rintro e w1 ⟨rfl, hb1⟩))
    go_ret2
    exact ⟨rfl, ((Below.refl _ w).alloc (Nat.le_refl _) _).trans (hb1.mono (by simp))⟩

theorem open_eq {l : List UInt8} (h1 : ¬ 20004 < l.length) (h2 : ¬ l.length < 4) : (sealS (inner l) = l) ↔ l.drop (l.length - 4) = fourL (crcL (l.take (l.length - 4))) := by
  have e : sealS (inner l) = l.take (l.length - 4) ++ fourL (crcL (l.take (l.length - 4))) := by
    unfold sealS inner; rw [if_neg (by rw [List.length_take]; omega)]; rfl
  rw [e]
  constructor
  · intro h
    have := congrArg (List.drop (l.length - 4)) h
    rw [List.drop_append_of_le_length (by rw [List.length_take]; omega), List.drop_of_length_le (by rw [List.length_take]; omega), List.nil_append] at this
    exact this.symm
  · intro h
    rw [← h, List.take_append_drop]
set_option maxHeartbeats 1600000 in
theorem refOpen_any (l : List UInt8) (w : World) (hl : l.length ≤ maxLen) :
    Calls Try.prog 26 #[.string ⟨l.toArray⟩] w fun e w' => e = .returned (.tuple #[.string ⟨(openS l).toArray⟩, .int .i64 (openE l)]) ∧ Below w.heap.size w w' := by
  unfold maxLen at hl
  by_cases h1 : 20004 < l.length
  · have hS : openS l = [] := if_pos h1
    have hE : openE l = 4 := if_pos h1
    rw [hS, hE]
    go_enter Try.func26, Try.ntmps26
    go_wp2
    go_ret2
    exact ⟨rfl, Below.refl _ _⟩
  by_cases h2 : l.length < 4
  · have hS : openS l = [] := by unfold openS; rw [if_neg h1, if_pos h2]
    have hE : openE l = 5 := by unfold openE; rw [if_neg h1, if_pos h2]
    rw [hS, hE]
    go_enter Try.func26, Try.ntmps26
    go_wp2
    go_ret2
    exact ⟨rfl, Below.refl _ _⟩
  obtain ⟨m, hm⟩ : ∃ m, l.length = m + 4 := ⟨l.length - 4, by omega⟩
  have hq := open_eq h1 h2
  have hS : openS l = if sealS (inner l) = l then inner l else [] := by unfold openS; rw [if_neg h1, if_neg h2]
  have hE : openE l = if sealS (inner l) = l then 0 else 13 := by unfold openE; rw [if_neg h1, if_neg h2]
  have hin : inner l = l.take m := by unfold inner; rw [show l.length - 4 = m by omega]
  rw [show l.length - 4 = m by omega] at hq
  rw [hS, hE]
  clear hS hE
  have hi4 : (l.take m).length ≤ 20000 := by rw [List.length_take]; omega
  have hmi : (l.length : Int) - 4 = (m : Int) := by omega
  have hml : m ≤ l.length := by omega
  have hmL : (m : Int) ≤ (l.length : Int) := by omega
  have hm0 : (m : Int) ≤ 20000 := by omega
  have HO := Lib.hid (refOf_any _ 1 (w.heap.size + 1) [l.take m] (w.drew.alloc (.cells #[.string ⟨(l.take m).toArray⟩] 9)) (sl_one w.drew _ _) (by simp) (by intro x hx; simp at hx; subst hx; omega))
  rw [ofs_one] at HO
  have hc := crcL_lt (l.take m)
  generalize crcL (l.take m) = n at *
  have HF := Lib.hid (four_any n (w.drew.alloc (.cells #[.string ⟨(l.take m).toArray⟩] 9)) hc)
  rw [hin] at hq ⊢
  clear hm h1 h2 hin
  by_cases hd : l.drop m = fourL n
  · rw [if_pos (hq.2 hd), if_pos (hq.2 hd)]
    rw [← hd] at HF
    clear hq hd
    go_enter Try.func26, Try.ntmps26
    go_wp2_with fail
    go_region_with (first
      | (go_at_call 17; refine HO.out.mono ?_; rintro e w1 ⟨rfl, rfl⟩)
      | (go_at_call 38; refine HF.out.mono ?_; rintro e w1 ⟨rfl, hb1⟩))
    all_goals go_wp2
    all_goals go_ret2
    all_goals exact ⟨rfl, ((Below.refl _ w).drew.alloc (Nat.le_refl _) _).trans (hb1.mono (by simp))⟩
  · rw [if_neg (fun h => hd (hq.1 h)), if_neg (fun h => hd (hq.1 h))]
    have hb : (l.drop m == fourL n) = false := by simpa using hd
    clear hq hd
    generalize fourL n = f at *
    go_enter Try.func26, Try.ntmps26
    go_wp2_with fail
    go_region_with (first
      | (go_at_call 17; refine HO.out.mono ?_; rintro e w1 ⟨rfl, rfl⟩)
      | (go_at_call 38; refine HF.out.mono ?_; rintro e w1 ⟨rfl, hb1⟩))
    all_goals go_wp2
    all_goals go_ret2
    all_goals exact ⟨rfl, ((Below.refl _ w).drew.alloc (Nat.le_refl _) _).trans (hb1.mono (by simp))⟩
end Go.Proofs.Ytfehmjiahefnjaa