/- Parts of a frame: how they read; whole. -/
import Derived.Test.YtfcbbolokhcknaaF0
namespace Go.Proofs.Ytfcbbolokhcknaa
open Go.RowKit
/-- The bytes of a part, and how many these are. -/
def byteC (l : List UInt8) : List Value := l.map (fun b => .int .u8 b.toNat) ++ List.replicate (26 - l.length) (.int .u8 0)
def partC (l : List UInt8) : List Value := byteC l ++ [.int .i64 l.length]
def partV (l : List UInt8) : Value := .agg (partC l).toArray
theorem byteC_len (l : List UInt8) (h : l.length ≤ 26) : (byteC l).length = 26 := by
  unfold byteC; rw [List.length_append, List.length_map, List.length_replicate]; omega
theorem partC_len (l : List UInt8) (h : l.length ≤ 26) : (partC l).length = 27 := by
  unfold partC; rw [List.length_append, byteC_len l h]; rfl
def b0 (l : List UInt8) : Nat := (l.getD 0 0).toNat
def b1 (l : List UInt8) : Nat := (l.getD 1 0).toNat
theorem b0_lt (l : List UInt8) : b0 l < 256 := (l.getD 0 0).toNat_lt
theorem b1_lt (l : List UInt8) : b1 l < 256 := (l.getD 1 0).toNat_lt
theorem part_n (l : List UInt8) (h : l.length ≤ 26) : (partC l)[26]? = some (.int .i64 l.length) := by
  unfold partC
  rw [List.getElem?_append_right (by rw [byteC_len l h]; exact Nat.le_refl _), byteC_len l h]
  rfl
theorem part_0 (l : List UInt8) (h : l.length ≤ 26) : (partC l)[0]? = some (.int .u8 (b0 l)) := by
  unfold partC
  rw [List.getElem?_append_left (by rw [byteC_len l h]; omega)]
  unfold byteC
  cases l <;> rfl
theorem part_1 (l : List UInt8) (h : l.length ≤ 26) : (partC l)[1]? = some (.int .u8 (b1 l)) := by
  unfold partC
  rw [List.getElem?_append_left (by rw [byteC_len l h]; omega)]
  unfold byteC
  match l with
  | [] => rfl
  | [_] => rfl
  | _ :: _ :: _ => rfl
/-- A whole frame. -/
def wholeP (l : List UInt8) : Bool := decide (2 ≤ l.length) && decide (l.length = 2 + b1 l)
set_option maxHeartbeats 1600000 in
theorem whole_any (l : List UInt8) (w : World) (h : l.length ≤ 26) : Calls Try.prog 41 #[partV l] w fun e w' => e = .returned (.bool (wholeP l)) ∧ Below w.heap.size w w' := by
  have hb := (Below.refl w.heap.size w).alloc (Nat.le_refl _) (.cells (partC l).toArray 53)
  have hn := part_n l h
  have h1 := part_1 l h
  have hlt := b1_lt l
  have hw : wholeP l = (decide (2 ≤ l.length) && decide (l.length = 2 + b1 l)) := rfl
  generalize wholeP l = wl at *
  unfold partV
  generalize b1 l = y at *
  have hz : (l.length : Int) ≤ 26 := by omega
  by_cases h2 : 2 ≤ l.length
  · rw [decide_eq_true h2, Bool.true_and] at hw
    by_cases he : l.length = 2 + y
    · rw [decide_eq_true he] at hw
      subst hw
      have he2 : ((l.length : Int) == 2 + (y : Int)) = true := by simpa using (by omega : (l.length : Int) = 2 + (y : Int))
      have hz2 : (2 : Int) ≤ l.length := by omega
      clear he h2
      go_enter Try.func41, Try.ntmps41
      go_wp2
      go_ret
      exact ⟨rfl, hb⟩
    · rw [decide_eq_false he] at hw
      subst hw
      have he2 : ((l.length : Int) == 2 + (y : Int)) = false := by simpa using (by omega : ¬ (l.length : Int) = 2 + (y : Int))
      have hz2 : (2 : Int) ≤ l.length := by omega
      clear he h2
      go_enter Try.func41, Try.ntmps41
      go_wp2
      go_ret
      exact ⟨rfl, hb⟩
  · rw [decide_eq_false h2, Bool.false_and] at hw
    subst hw
    have hz2 : ¬ (2 : Int) ≤ l.length := by omega
    clear h2
    go_enter Try.func41, Try.ntmps41
    go_wp2
    go_ret
    exact ⟨rfl, hb⟩
end Go.Proofs.Ytfcbbolokhcknaa
