/- Good, Needs. -/
import Derived.Test.YtfcbbolokhcknaaFa6
namespace Go.Proofs.Ytfcbbolokhcknaa
open Go.RowKit
theorem partL_len (n : Int) (l : List UInt8) : (partL n l).length ≤ 25 := by
  rcases partE_cases n l with ⟨_, _, h⟩ | ⟨_, _, _, h⟩ | ⟨m, _, _, _, hg, _, h⟩ | ⟨m, _, _, _, _, _, h⟩
  · rw [h]; decide
  · rw [h]; decide
  · rw [h]; exact (okG_len m l hg).1
  · rw [h]; decide
set_option maxRecDepth 100000 in
set_option maxHeartbeats 3200000 in
theorem Good_any (n : Int) (l : List UInt8) (w : World) (hl : l.length ≤ 1000) :
    Calls Try.prog 9 #[.int .i64 n, .string ⟨l.toArray⟩] w fun e w' => e = .returned (.tuple #[.bool (decide (partE n l = 0)), .int .i64 (if partE n l = 3 then 0 else partE n l)]) ∧ Below w.heap.size w w' := by
  have HR := Lib.hid (fun W => begun_any n l W hl)
  have hL := partL_len n l
  have hE : partE n l = 0 ∨ partE n l = 2 ∨ partE n l = 3 := by
    rcases partE_cases n l with ⟨_, h, _⟩ | ⟨_, _, h, _⟩ | ⟨m, _, _, _, _, h, _⟩ | ⟨m, _, _, _, _, h, _⟩ <;> omega
  generalize partE n l = PE at *
  generalize partL n l = PL at *
  have hL26 : PL.length ≤ 26 := by omega
  rcases hE with rfl | rfl | rfl
  all_goals
    go_enter Try.func9, Try.ntmps9
    go_wp2_with fail
    refine (HR.out _).mono ?_
    rintro e w1 ⟨rfl, hb1⟩
    have hZ1 := Pt.zz w1 (g := w1.heap.size) rfl
    have hB2 := below_setRow (hb1.alloc hb1.size (.cells #[.int .u8 0, .int .u8 0, .int .u8 0, .int .u8 0, .int .u8 0, .int .u8 0, .int .u8 0, .int .u8 0, .int .u8 0, .int .u8 0, .int .u8 0, .int .u8 0, .int .u8 0, .int .u8 0, .int .u8 0, .int .u8 0, .int .u8 0, .int .u8 0, .int .u8 0, .int .u8 0, .int .u8 0, .int .u8 0, .int .u8 0, .int .u8 0, .int .u8 0, .int .u8 0, .int .i64 0] 53)) hb1.size (partC PL).toArray
    go_wp2_with (first
      | (refine wpList_store_part rfl _ _ rfl w1.heap.size rfl PL hL26 rfl [] hZ1 ?_))
    go_ret2
    exact ⟨rfl, hB2⟩
/-- How many bytes a part needs. -/
def needN (n : Int) (l : List UInt8) : Int := if partE n l ≠ 0 then 0 else if l.length < 2 then 2 - l.length else 2 + b1 l - l.length
theorem needN_cases (n : Int) (l : List UInt8) : (partE n l ≠ 0 ∧ needN n l = 0) ∨ (partE n l = 0 ∧ partL n l = l ∧ l.length < 2 ∧ needN n l = 2 - l.length) ∨ (partE n l = 0 ∧ partL n l = l ∧ ¬ l.length < 2 ∧ needN n l = 2 + b1 l - l.length) := by
  unfold needN
  by_cases h : partE n l = 0
  · have hp : partL n l = l := if_pos h
    rw [if_neg (by simpa using h)]
    by_cases h2 : l.length < 2
    · exact .inr (.inl ⟨h, hp, h2, if_pos h2⟩)
    · exact .inr (.inr ⟨h, hp, h2, if_neg h2⟩)
  · exact .inl ⟨h, if_pos h⟩
set_option maxRecDepth 100000 in
set_option maxHeartbeats 3200000 in
theorem Needs_any (n : Int) (l : List UInt8) (w : World) (hl : l.length ≤ 1000) :
    Calls Try.prog 11 #[.int .i64 n, .string ⟨l.toArray⟩] w fun e w' => e = .returned (.tuple #[.int .i64 (needN n l), .int .i64 (partE n l)]) ∧ Below w.heap.size w w' := by
  have HR := Lib.hid (fun W => begun_any n l W hl)
  have hL := partL_len n l
  have hN := needN_cases n l
  have hE : partE n l = 0 ∨ partE n l = 2 ∨ partE n l = 3 := by
    rcases partE_cases n l with ⟨_, h, _⟩ | ⟨_, _, h, _⟩ | ⟨m, _, _, _, _, h, _⟩ | ⟨m, _, _, _, _, h, _⟩ <;> omega
  have hy := b1_lt l
  generalize needN n l = N at *
  generalize partE n l = PE at *
  generalize partL n l = PL at *
  have hL26 : PL.length ≤ 26 := by omega
  rcases hN with ⟨h0, rfl⟩ | ⟨rfl, hp, h2, rfl⟩ | ⟨rfl, hp, h2, rfl⟩
  · have h0' : (PE == 0) = false := by simpa using h0
    clear h0
    go_enter Try.func11, Try.ntmps11
    go_wp2_with fail
    refine (HR.out _).mono ?_
    rintro e w1 ⟨rfl, hb1⟩
    have hZ1 := Pt.zz w1 (g := w1.heap.size) rfl
    have hB2 := below_setRow (hb1.alloc hb1.size (.cells #[.int .u8 0, .int .u8 0, .int .u8 0, .int .u8 0, .int .u8 0, .int .u8 0, .int .u8 0, .int .u8 0, .int .u8 0, .int .u8 0, .int .u8 0, .int .u8 0, .int .u8 0, .int .u8 0, .int .u8 0, .int .u8 0, .int .u8 0, .int .u8 0, .int .u8 0, .int .u8 0, .int .u8 0, .int .u8 0, .int .u8 0, .int .u8 0, .int .u8 0, .int .u8 0, .int .i64 0] 53)) hb1.size (partC PL).toArray
    go_wp2_with (first
      | (refine wpList_store_part rfl _ _ rfl w1.heap.size rfl PL hL26 rfl [] hZ1 ?_))
    go_ret2
    exact ⟨rfl, hB2⟩
  all_goals
    have hp' := hp.symm
    subst hp'
    clear hp
    have hz : (l.length : Int) ≤ 25 := by omega
    have hyz : (b1 l : Int) < 256 := by omega
    go_enter Try.func11, Try.ntmps11
    go_wp2_with fail
    refine (HR.out _).mono ?_
    rintro e w1 ⟨rfl, hb1⟩
    have hZ1 := Pt.zz w1 (g := w1.heap.size) rfl
    have hB2 := below_setRow (hb1.alloc hb1.size (.cells #[.int .u8 0, .int .u8 0, .int .u8 0, .int .u8 0, .int .u8 0, .int .u8 0, .int .u8 0, .int .u8 0, .int .u8 0, .int .u8 0, .int .u8 0, .int .u8 0, .int .u8 0, .int .u8 0, .int .u8 0, .int .u8 0, .int .u8 0, .int .u8 0, .int .u8 0, .int .u8 0, .int .u8 0, .int .u8 0, .int .u8 0, .int .u8 0, .int .u8 0, .int .u8 0, .int .i64 0] 53)) hb1.size (partC l).toArray
    have hZ2 := hZ1.row hL26
    have c26 := hZ2.n
    have c1 := hZ2.b1
    go_wp2_with (first
      | (refine wpList_store_part rfl _ _ rfl w1.heap.size rfl l hL26 rfl [] hZ1 ?_))
    go_ret2
    exact ⟨rfl, hB2⟩
end Go.Proofs.Ytfcbbolokhcknaa
