/- Plain laws of frames: what is read back, and what is cut. -/
import Derived.Test.YtdndomjmnlpjgaaT15
namespace Go.Proofs.Ytdndomjmnlpjgaa
open Go.RowKit
theorem b0_cons (a : UInt8) (l : List UInt8) : b0 (a :: l) = a.toNat := rfl
theorem b1_cons (a b : UInt8) (l : List UInt8) : b1 (a :: b :: l) = b.toNat := rfl
theorem counts_ok (a : Int) (h : 0 ≤ a) (h2 : a ≤ 1099511627776) : countsB a = true := by unfold countsB; simp; omega
theorem ranged_ok (m : Nat) (h1 : 1 ≤ m) (h8 : m ≤ 8) : rangedB m = true := by unfold rangedB; simp; omega
theorem readF_in (l : List UInt8) (m : Nat) (a : Int) (h1 : 1 ≤ m) (h8 : m ≤ 8) (ha : 0 ≤ a) (ha2 : a ≤ 1099511627776) :
    readF l m a = if badE l m ≠ 0 then ⟨badE l m, a⟩ else if wholeB l = true then ⟨0, 0⟩ else ⟨5, a⟩ := by
  unfold readF
  rw [if_neg (by rw [ranged_ok m h1 h8, counts_ok a ha ha2]; decide), Int.toNat_natCast]
theorem readOk_in (l : List UInt8) (m : Nat) (a : Int) (h1 : 1 ≤ m) (h8 : m ≤ 8) (ha : 0 ≤ a) (ha2 : a ≤ 1099511627776) :
    readOk l m a = (decide (badE l m = 0) && wholeB l) := by
  unfold readOk
  rw [ranged_ok m h1 h8, counts_ok a ha ha2, Int.toNat_natCast]
  rfl
theorem begE_in (l : List UInt8) (m : Nat) (h1 : 1 ≤ m) (h8 : m ≤ 8) : begE l m = badE l m := by
  unfold begE
  rw [if_neg (by rw [ranged_ok m h1 h8]; decide), Int.toNat_natCast]
theorem begB_in (l : List UInt8) (m : Nat) (h1 : 1 ≤ m) (h8 : m ≤ 8) : begB l m = (decide (badE l m = 0) && !wholeB l) := by
  unfold begB
  rw [begE_in l m h1 h8]
/-- A frame with more behind it: not bad, whole, and what its first two bytes are. -/
theorem frame_facts (t : Tok) (m : Nat) (h : checkE t m = 0) (r : List UInt8) :
    ∃ s : Nat, t.sym = s ∧ s ≤ m ∧ 1 ≤ m ∧ m ≤ 8 ∧ t.text.length ≤ 24 ∧ 0 ≤ t.at_ ∧ t.at_ ≤ 1099511627776 ∧ bytesL t m = UInt8.ofNat s :: UInt8.ofNat t.text.length :: t.text ∧
      b0 (bytesL t m ++ r) = s ∧ b1 (bytesL t m ++ r) = t.text.length := by
  obtain ⟨s, m', hs, hm, hsm, h1, hm8, ht, ha, hb⟩ := check_ok t m h
  obtain rfl : m = m' := by omega
  have hB : bytesL t m = UInt8.ofNat s :: UInt8.ofNat t.text.length :: t.text := by
    unfold bytesL
    rw [if_pos h, hs, Int.toNat_natCast]
    rfl
  refine ⟨s, hs, hsm, h1, hm8, ht, ha, hb, hB, ?_, ?_⟩
  · rw [hB]; exact Nat.mod_eq_of_lt (by omega)
  · rw [hB]; exact Nat.mod_eq_of_lt (by omega)
theorem bad_none (l : List UInt8) (m : Nat) (hm : m ≤ 8) (h0 : 0 < l.length → b0 l ≤ m) (h1 : 1 < l.length → b1 l ≤ 24) : badE l m = 0 := by
  unfold badE
  rw [if_neg (fun ⟨a, b⟩ => by have := h0 a; omega), if_neg (fun ⟨a, b⟩ => by have := h0 a; omega), if_neg (fun ⟨a, b⟩ => by have := h1 a; omega), if_neg (fun ⟨a, b⟩ => by have := h1 a; omega)]
theorem bytes_len (t : Tok) (m : Nat) (h : checkE t m = 0) : (bytesL t m).length = 2 + t.text.length := by
  obtain ⟨s, _, _, _, _, _, _, _, hB, _⟩ := frame_facts t m h []
  rw [hB]
  simp
  omega
theorem read_frame (t : Tok) (m : Nat) (h : checkE t m = 0) (r : List UInt8) :
    readT (bytesL t m ++ r) m t.at_ = t ∧ readU (bytesL t m ++ r) m t.at_ = (bytesL t m).length ∧ readF (bytesL t m ++ r) m t.at_ = ⟨0, 0⟩ ∧ badE (bytesL t m ++ r) m = 0 ∧ wholeB (bytesL t m ++ r) = true := by
  obtain ⟨s, hs, hsm, h1, h8, ht, ha, hb, hB, e0, e1⟩ := frame_facts t m h r
  have hL := bytes_len t m h
  have hbad : badE (bytesL t m ++ r) m = 0 := bad_none _ _ h8 (fun _ => by omega) (fun _ => by omega)
  have hwh : wholeB (bytesL t m ++ r) = true := by
    unfold wholeB
    rw [e1, decide_eq_true (show 2 ≤ (bytesL t m ++ r).length by rw [List.length_append]; omega), decide_eq_true (show 2 + t.text.length ≤ (bytesL t m ++ r).length by rw [List.length_append]; omega)]
    rfl
  have hok : readOk (bytesL t m ++ r) m t.at_ = true := by rw [readOk_in _ m _ h1 h8 ha hb, hbad, hwh]; rfl
  refine ⟨?_, ?_, ?_, hbad, hwh⟩
  · unfold readT
    rw [if_pos hok, e0, e1, List.take_append_of_le_length (by omega), List.take_of_length_le (by omega), hB]
    obtain ⟨sy, x, a⟩ := t
    simp only at hs
    subst hs
    rfl
  · unfold readU
    rw [if_pos hok, e1, hL]
  · rw [readF_in _ m _ h1 h8 ha hb, hbad, hwh]; rfl
/-- What is read has these bytes. -/
theorem frame_read (l : List UInt8) (m : Nat) (h1 : 1 ≤ m) (h8 : m ≤ 8) (a : Int) (ha : 0 ≤ a) (ha2 : a ≤ 1099511627776) (hf : (readF l m a).err = 0) :
    checkE (readT l m a) m = 0 ∧ 2 ≤ readU l m a ∧ readU l m a ≤ l.length ∧ l.take (readU l m a) = bytesL (readT l m a) m ∧ badE l m = 0 ∧ wholeB l = true := by
  rw [readF_in l m a h1 h8 ha ha2] at hf
  by_cases hb : badE l m = 0
  · rw [if_neg (fun h => h hb)] at hf
    cases hw : wholeB l
    · rw [if_neg (by rw [hw]; decide)] at hf; cases hf
    have hok : readOk l m a = true := by rw [readOk_in l m a h1 h8 ha ha2, hb, hw]; rfl
    have hU : readU l m a = 2 + b1 l := if_pos hok
    have hT : readT l m a = ⟨b0 l, (l.take (2 + b1 l)).drop 2, a⟩ := if_pos hok
    have hw2 := hw
    unfold wholeB at hw2
    simp at hw2
    obtain ⟨hl2, hl3⟩ := hw2
    have hc0 : b0 l ≤ m ∧ b1 l ≤ 24 := by
      rcases badE_cases l m with ⟨h, _⟩ | ⟨_, _, h⟩ | ⟨_, _, _, h⟩ | ⟨h, _⟩ | ⟨_, _, _, _, h⟩ | ⟨_, _, _, _, _, h⟩ | ⟨_, _, h3, _, h5, _⟩
      · omega
      · rw [hb] at h; cases h
      · rw [hb] at h; cases h
      · omega
      · rw [hb] at h; cases h
      · rw [hb] at h; cases h
      · exact ⟨h3, h5⟩
    have hlen : ((l.take (2 + b1 l)).drop 2).length = b1 l := by rw [List.length_drop, List.length_take]; omega
    have hck : checkE (readT l m a) m = 0 := by
      rw [hT]
      exact checkE_ok _ m (by simp) (by simp; omega) h1 h8 (by simp only [hlen]; omega) ha ha2
    refine ⟨hck, by omega, by omega, ?_, hb, rfl⟩
    obtain ⟨s, hs, _, _, _, _, _, _, hB, _⟩ := frame_facts (readT l m a) m hck []
    rw [hB, hU]
    rw [hT] at hs ⊢
    simp only at hs ⊢
    rw [hlen]
    obtain rfl : b0 l = s := by omega
    match l, hl2 with
    | x :: y :: r, _ =>
      have : 2 + b1 (x :: y :: r) = b1 (x :: y :: r) + 1 + 1 := by omega
      rw [this, List.take_succ_cons, List.take_succ_cons, List.drop_succ_cons, List.drop_succ_cons, List.drop_zero]
      simp [b0_cons, b1_cons]
  · rw [if_pos hb] at hf
    exact absurd hf hb
end Go.Proofs.Ytdndomjmnlpjgaa
