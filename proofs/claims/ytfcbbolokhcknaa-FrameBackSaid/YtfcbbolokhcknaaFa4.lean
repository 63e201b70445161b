/- The bytes of a string, one by one: the iterator's contract. -/
import Derived.Test.YtfcbbolokhcknaaFa3
import Derived.Test.YtfcbbolokhcknaaRange
import Derived.RangeFuncFrom
namespace Go.Proofs.Ytfcbbolokhcknaa
open Go.RowKit Go.Shelf
attribute [local go_sem] Oper.semAt_some
/-- A byte and its place. -/
abbrev IB := { x : Nat × UInt8 // x.1 < 1000 }
def ibEnc (x : IB) : Array Value := #[.int .i64 (x.1.1 : Int), .int .u8 (x.1.2.toNat : Int)]
def ibs : Nat → List UInt8 → List IB
  | _, [] => []
  | n, b :: l => if h : n < 1000 then ⟨(n, b), h⟩ :: ibs (n + 1) l else []
theorem bytesIt_any (l : List UInt8) (w : World) :
    Calls Try.prog 36 #[.string ⟨l.toArray⟩] w fun e w' => e = .returned (.func (.func 42) #[] #[.pointer (some ⟨w.heap.size, 0, none⟩)]) ∧ w' = w.alloc (.cells #[.string ⟨l.toArray⟩] 9) := by
  go_enter Try.func36, Try.ntmps36
  go_wp2
  go_ret
  exact ⟨rfl, rfl⟩
theorem ibs_take (n k : Nat) (l : List UInt8) (hk : k < l.length) (hn : n + l.length ≤ 1000) : (ibs n l).take k ++ [⟨(n + k, l[k]), by omega⟩] = (ibs n l).take (k + 1) := by
  induction l generalizing n k with
  | nil => simp at hk
  | cons b t ih =>
    simp only [List.length_cons] at hk hn
    unfold ibs
    rw [dif_pos (by omega)]
    cases k with
    | zero => simp
    | succ k =>
      have h := ih (n + 1) k (by omega) (by omega)
      simp only [List.take_succ_cons, List.cons_append, List.getElem_cons_succ]
      rw [← h]
      simp only [Nat.add_assoc, Nat.add_comm 1 k]
theorem ibs_len (n : Nat) (l : List UInt8) (hn : n + l.length ≤ 1000) : (ibs n l).length = l.length := by
  induction l generalizing n with
  | nil => rfl
  | cons b t ih =>
    simp only [List.length_cons] at hn
    unfold ibs
    rw [dif_pos (by omega), List.length_cons, ih (n + 1) (by omega), List.length_cons]
theorem ibs_bytes (n : Nat) (l : List UInt8) (hn : n + l.length ≤ 1000) : (ibs n l).map (·.1.2) = l := by
  induction l generalizing n with
  | nil => rfl
  | cons b t ih =>
    simp only [List.length_cons] at hn
    unfold ibs
    rw [dif_pos (by omega), List.map_cons, ih (n + 1) (by omega)]
set_option maxRecDepth 100000 in
set_option maxHeartbeats 2000000 in
theorem bytes_stops (Bs : Nat) (l : List UInt8) (hl : l.length ≤ 1000) (w : World) (hBs : w.cell? ⟨Bs, 0, none⟩ = some (.string ⟨l.toArray⟩)) :
    SeqStopsK Fence.wide 2 Try.prog 42 #[.pointer (some ⟨Bs, 0, none⟩)] ibEnc (fun A B => B.cell? ⟨Bs, 0, none⟩ = A.cell? ⟨Bs, 0, none⟩) (fun ys => ys = ibs 0 l)
      (fun pre => ∃ k, k ≤ l.length ∧ pre = (ibs 0 l).take k) l.length w := fun loop J Jx W hW _ _ hY h0 => by
  have hBs' : W.cell? ⟨Bs, 0, none⟩ = some (.string ⟨l.toArray⟩) := (hW.cell (p := ⟨Bs, 0, none⟩) (block_lt_of_cell hBs)).trans hBs
  have HT := Lib.hid (fun k (hk : k < l.length) => ibs_take 0 k l hk (by omega))
  have HL := Lib.hid (ibs_len 0 l (by omega))
  have hlz : (l.length : Int) ≤ 1000 := by omega
  refine callsIn_of_wp Try.func42 rfl trivial ?_ rfl
  simp only [Try.ntmps42, List.size_toArray, List.length_cons, List.length_nil, Nat.reduceAdd, Nat.reduceSub, Array.replicate_succ, Array.replicate_zero, List.push_toArray, List.append_toArray, List.nil_append, List.cons_append]
  gi_wp2
  gi_loopw [6] (fun i wr => ∃ k : Nat, k ≤ l.length ∧ i = .int .i64 k ∧ J ((ibs 0 l).take k) wr ∧ wr.cell? ⟨Bs, 0, none⟩ = some (.string ⟨l.toArray⟩)) (fun i _ => l.length - (intOf i).toNat)
  case atStart => exact ⟨0, Nat.zero_le _, rfl, h0, hBs'⟩
  case round =>
    obtain ⟨k, hk, rfl, hJs, hc⟩ := hrel
    clear hBs'
    by_cases hlt : k < l.length
    · obtain ⟨fn, tmps, assign, body, hy, hR⟩ := hY _ ⟨(0 + k, l[k]), by omega⟩ wr hJs (by rw [List.length_take, HL.out]; omega)
      rw [HT.out k hlt] at hR
      have HR := Lib.hid hR
      clear hR hJs hY h0
      unfold ibEnc at hy
      simp only [Nat.zero_add] at hy
      gi_wp2
      refine HR.out.mono ?_
      rintro e W3 (⟨rfl, hJ3, hk3⟩ | ⟨rfl, hJx3⟩)
      · rw [hc] at hk3
        clear hc
        gi_wp2
        go_roundw
        case rel => exact ⟨k + 1, by omega, by go_num, hJ3, hk3⟩
        case measure => simp [intOf]; omega
      · gi_wp2
        refine bodyPost_ret (results_none rfl _ _ _) rfl ?_
        exact ⟨⟨_, rfl⟩, .inr ⟨_, ⟨k + 1, by omega, rfl⟩, hJx3⟩⟩
    · obtain rfl : k = l.length := by omega
      have hall : (ibs 0 l).take l.length = ibs 0 l := List.take_of_length_le (by rw [HL.out]; exact Nat.le_refl _)
      rw [hall] at hJs
      gi_wp2
      exact ⟨rfl, _, results_none rfl _ _ _, ⟨_, rfl⟩, .inl ⟨_, rfl, hJs⟩⟩
end Go.Proofs.Ytfcbbolokhcknaa
