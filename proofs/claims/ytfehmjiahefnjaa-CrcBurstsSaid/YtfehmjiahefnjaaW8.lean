/- Walks: crc.Open, stenotyperef02.four, Seal, Open; opens. -/
import Derived.Test.YtfehmjiahefnjaaW7
namespace Go.Proofs.Ytfehmjiahefnjaa
open Go.RowKit

def inner (l : List UInt8) : List UInt8 := l.take (l.length - 4)
def openS (l : List UInt8) : List UInt8 := if 20004 < l.length then [] else if l.length < 4 then [] else if sealS (inner l) = l then inner l else []
def openE (l : List UInt8) : Int := if 20004 < l.length then 4 else if l.length < 4 then 5 else if sealS (inner l) = l then 0 else 13
set_option maxHeartbeats 800000 in
theorem Open_any (l : List UInt8) (w : World) (hl : l.length ≤ maxLen) :
    Calls Try.prog 25 #[.string ⟨l.toArray⟩] w fun e w' => e = .returned (.tuple #[.string ⟨(openS l).toArray⟩, .int .i64 (openE l)]) ∧ Below w.heap.size w w' := by
  unfold maxLen at hl
  by_cases h1 : 20004 < l.length
  · have hS : openS l = [] := if_pos h1
    have hE : openE l = 4 := if_pos h1
    rw [hS, hE]
    go_enter Try.func25, Try.ntmps25
    go_wp2
    go_ret2
    exact ⟨rfl, Below.refl _ _⟩
  by_cases h2 : l.length < 4
  · have hS : openS l = [] := by unfold openS; rw [if_neg h1, if_pos h2]
    have hE : openE l = 5 := by unfold openE; rw [if_neg h1, if_pos h2]
    rw [hS, hE]
    go_enter Try.func25, Try.ntmps25
    go_wp2
    go_ret2
    exact ⟨rfl, Below.refl _ _⟩
  have hil : (l.take (l.length - 4)).length ≤ maxLen := by unfold maxLen; rw [List.length_take]; omega
  by_cases hq : sealS (inner l) = l
  · have hS : openS l = inner l := by unfold openS; rw [if_neg h1, if_neg h2, if_pos hq]
    have hE : openE l = 0 := by unfold openE; rw [if_neg h1, if_neg h2, if_pos hq]
    rw [hS, hE]
    have HC := Lib.hid (Seal_any (inner l) w hil)
    rw [hq] at HC
    clear hS hE hq
    unfold inner at *
    go_enter Try.func25, Try.ntmps25
    go_wp2_with (go_at_call 23; refine HC.out.mono ?_; rintro e w1 ⟨rfl, hb1⟩)
    go_ret2
    exact ⟨rfl, hb1⟩
  · have hS : openS l = [] := by unfold openS; rw [if_neg h1, if_neg h2, if_neg hq]
    have hE : openE l = 13 := by unfold openE; rw [if_neg h1, if_neg h2, if_neg hq]
    rw [hS, hE]
    have HC := Lib.hid (Seal_any (inner l) w hil)
    have hb : (sealS (inner l) == l) = false := by simpa using hq
    clear hS hE hq
    generalize sealS (inner l) = y at *
    unfold inner at *
    go_enter Try.func25, Try.ntmps25
    go_wp2_with (go_at_call 23; refine HC.out.mono ?_; rintro e w1 ⟨rfl, hb1⟩)
    go_ret2
    exact ⟨rfl, hb1⟩
theorem opens_any (l : List UInt8) (w : World) (hl : l.length ≤ maxLen) :
    Calls Try.prog 33 #[.string ⟨l.toArray⟩] w fun e w' => e = .returned (.int .i64 (openE l)) ∧ Below w.heap.size w w' := by
  go_enter Try.func33, Try.ntmps33
  go_wp2_with (go_at_call 25; refine (Open_any l w hl).mono ?_; rintro e w1 ⟨rfl, hb1⟩)
  go_ret
  exact ⟨rfl, hb1⟩
theorem sl_one (w : World) (x : Value) (e : TypeId) : Sl (w.alloc (.cells #[x] e)) (w.heap.size + 1) 1 (some ⟨w.heap.size, 0, none⟩) 1 1 [x] :=
  ⟨rfl, Nat.le_refl _, by decide, fun _ => ⟨w.heap.size, 0, rfl, by omega, fun j u hu => by
    rw [Nat.zero_add, (Blk.new w e #[x]).cell j, ← hu]
    match j with
    | 0 => rfl
    | j + 1 => simp⟩⟩
theorem four_any (n : Nat) (w : World) (hn : n < 4294967296) :
    Calls Try.prog 38 #[.int .u32 n] w fun e w' => e = .returned (.string ⟨(fourL n).toArray⟩) ∧ Below w.heap.size w w' := by
  have hF := fourL_val n hn
  have hL : 4 = (fourL n).length := rfl
  generalize fourL n = L at *
  have HL := Lib.hid hL; clear hL
  have HB := Lib.hid (show Sl (w.alloc (.cells #[.int .u8 ((n : Int) % 256), .int .u8 ((n : Int) / 256 % 256), .int .u8 ((n : Int) / 65536 % 256), .int .u8 ((n : Int) / 16777216)] 5)) (w.heap.size + 1) 1 (some ⟨w.heap.size, 0, none⟩) 4 4 (L.map byteV) by
    rw [hF]
    refine ⟨rfl, Nat.le_refl _, by decide, fun _ => ⟨w.heap.size, 0, rfl, by omega, fun j u hu => ?_⟩⟩
    rw [Nat.zero_add, (Blk.new w 5 _).cell j, ← hu]
    simp)
  clear hF
  go_enter Try.func38, Try.ntmps38
  go_wp2_with (refine wpList_bytes_back rfl 51 9 5 _ rfl Try.underlying51 Try.underlying5 Try.underlying9 rfl HL.out HB.out ?_)
  go_ret
  exact ⟨rfl, (Below.refl _ _).alloc (Nat.le_refl _) _⟩
end Go.Proofs.Ytfehmjiahefnjaa
