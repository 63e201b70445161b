/- The walk of TokenCuts. -/
import Derived.Test.YtdndomjmnlpjgaaT17
namespace Go.Proofs.Ytdndomjmnlpjgaa
open Go.RowKit
theorem b0_take (l : List UInt8) (c : Nat) (h : 0 < c) : b0 (l.take c) = b0 l := by
  obtain ⟨k, rfl⟩ : ∃ k, c = k + 1 := ⟨c - 1, by omega⟩
  cases l <;> rfl
theorem b1_take (l : List UInt8) (c : Nat) (h : 1 < c) : b1 (l.take c) = b1 l := by
  obtain ⟨k, rfl⟩ : ∃ k, c = k + 2 := ⟨c - 2, by omega⟩
  match l with
  | [] => rfl
  | [_] => rfl
  | _ :: _ :: _ => rfl
theorem b1_snoc (l : List UInt8) (b : UInt8) (h : 1 < l.length) : b1 (l ++ [b]) = b1 l := by
  match l, h with
  | _ :: _ :: _, _ => rfl
/-- A frame cut off. -/
theorem cut_facts (t : Tok) (m : Nat) (h : checkE t m = 0) (c : Nat) (hc : c < (bytesL t m).length) :
    badE ((bytesL t m).take c) m = 0 ∧ wholeB ((bytesL t m).take c) = false ∧ (1 < c → c < 2 + b1 ((bytesL t m).take c)) := by
  obtain ⟨s, hs, hsm, h1, h8, ht, ha, hb, hB, e0, e1⟩ := frame_facts t m h []
  rw [List.append_nil] at e0 e1
  have hL := bytes_len t m h
  have hlen : ((bytesL t m).take c).length = c := by rw [List.length_take]; omega
  refine ⟨bad_none _ _ h8 (fun hp => ?_) (fun hp => ?_), ?_, fun hp => ?_⟩
  · rw [b0_take _ _ (by omega), e0]; exact hsm
  · rw [b1_take _ _ (by omega), e1]; exact ht
  · unfold wholeB
    by_cases h2 : 2 ≤ c
    · rw [b1_take _ _ (by omega), e1, hlen, decide_eq_false (show ¬ 2 + t.text.length ≤ c by omega), Bool.and_false]
    · rw [hlen, decide_eq_false h2, Bool.false_and]
  · rw [b1_take _ _ hp, e1]; omega
/-- A beginning with a byte more. -/
theorem more_facts (p : List UInt8) (b : UInt8) (m : Nat) (h1 : 1 ≤ m) (h8 : m ≤ 8) (h : 1 < p.length → p.length < 2 + b1 p) :
    (begB (p ++ [b]) m = true ∧ begE (p ++ [b]) m = 0 ∧ (readF (p ++ [b]) m 0).err = 5) ∨
    (begB (p ++ [b]) m = false ∧ begE (p ++ [b]) m = 0 ∧ (readF (p ++ [b]) m 0).err = 0 ∧ readU (p ++ [b]) m 0 = p.length + 1) ∨
    (begB (p ++ [b]) m = false ∧ begE (p ++ [b]) m ≠ 0 ∧ (readF (p ++ [b]) m 0).err = begE (p ++ [b]) m) := by
  have hlen : (p ++ [b]).length = p.length + 1 := by simp
  have hU : readOk (p ++ [b]) m 0 = true → readU (p ++ [b]) m 0 = 2 + b1 (p ++ [b]) := fun h => if_pos h
  rw [readOk_in _ _ _ h1 h8 (by decide) (by decide)] at hU
  rw [begB_in _ _ h1 h8, begE_in _ _ h1 h8, readF_in _ _ _ h1 h8 (by decide) (by decide)]
  by_cases hb : badE (p ++ [b]) m = 0
  · cases hw : wholeB (p ++ [b])
    · left
      rw [hb]
      exact ⟨rfl, rfl, rfl⟩
    · right; left
      rw [hU (by rw [hb, hw]; rfl), hb]
      refine ⟨rfl, rfl, rfl, ?_⟩
      unfold wholeB at hw
      simp at hw
      obtain ⟨hw1, hw2⟩ := hw
      by_cases hp : 1 < p.length
      · have := h hp
        rw [b1_snoc p b hp] at hw2 ⊢
        omega
      · omega
  · right; right
    rw [decide_eq_false hb, if_pos hb]
    exact ⟨rfl, hb, rfl⟩
end Go.Proofs.Ytdndomjmnlpjgaa
