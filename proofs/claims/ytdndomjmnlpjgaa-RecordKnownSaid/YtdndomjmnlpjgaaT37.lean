/- Plain laws of frames with more behind them. -/
import Derived.Test.YtdndomjmnlpjgaaT36
namespace Go.Proofs.Ytdndomjmnlpjgaa
open Go.RowKit
theorem readT_at (l : List UInt8) (m a : Int) (h : readOk l m a = true) : (readT l m a).at_ = a := by
  unfold readT; rw [if_pos h]
theorem read_ok (l : List UInt8) (m : Nat) (h1 : 1 ≤ m) (h8 : m ≤ 8) (a : Int) (ha : 0 ≤ a) (ha2 : a ≤ 1099511627776) (hf : (readF l m a).err = 0) : readOk l m a = true := by
  obtain ⟨_, _, _, _, hb, hw⟩ := frame_read l m h1 h8 a ha ha2 hf
  rw [readOk_in l m a h1 h8 ha ha2, hb, hw]; rfl
theorem read_more (l r : List UInt8) (m : Nat) (h1 : 1 ≤ m) (h8 : m ≤ 8) (a : Int) (ha : 0 ≤ a) (ha2 : a ≤ 1099511627776) (hf : (readF l m a).err = 0) :
    readT (l ++ r) m a = readT l m a ∧ readU (l ++ r) m a = readU l m a ∧ readF (l ++ r) m a = ⟨0, 0⟩ ∧ (l ++ r).drop (readU l m a) = l.drop (readU l m a) ++ r := by
  have hok := read_ok l m h1 h8 a ha ha2 hf
  obtain ⟨hck, hu2, hul, htk, _, _⟩ := frame_read l m h1 h8 a ha ha2 hf
  have hat := readT_at l m a hok
  have hl : l ++ r = bytesL (readT l m a) m ++ (l.drop (readU l m a) ++ r) := by
    rw [← htk, ← List.append_assoc, List.take_append_drop]
  have hU : readU l m a = (bytesL (readT l m a) m).length := by rw [← htk, List.length_take]; omega
  obtain ⟨r1, r2, r3, _, _⟩ := read_frame (readT l m a) m hck (l.drop (readU l m a) ++ r)
  rw [← hl, hat] at r1 r2 r3
  exact ⟨r1, by rw [r2, ← hU], r3, List.drop_append_of_le_length hul⟩
theorem bad_more (l r : List UInt8) (m : Nat) (hb : badE l m ≠ 0) : badE (l ++ r) m = badE l m := by
  match l with
  | [] => exact absurd rfl hb
  | [x] =>
    have e0 : ∀ r, b0 ([x] ++ r) = b0 [x] := fun _ => rfl
    unfold badE at hb ⊢
    rw [e0]
    simp only [List.length_append, List.length_cons, List.length_nil, Nat.zero_add, Nat.lt_irrefl, false_and, if_false, Nat.zero_lt_one, true_and, Nat.add_pos_left] at hb ⊢
    by_cases c1 : 128 ≤ b0 [x]
    · simp only [c1, if_true]
    · by_cases c2 : m < b0 [x]
      · simp only [c1, c2, if_true, if_false]
      · simp only [c1, c2, if_false] at hb
        exact absurd rfl hb
  | x :: y :: t =>
    have e0 : b0 (x :: y :: t ++ r) = b0 (x :: y :: t) := rfl
    have e1 : b1 (x :: y :: t ++ r) = b1 (x :: y :: t) := rfl
    unfold badE
    rw [e0, e1]
    simp
theorem framesT_one (m : Nat) (h1 : 1 ≤ m) (h8 : m ≤ 8) (n : Nat) (b : UInt8) (a : Int) (ha : 0 ≤ a) (ha2 : a ≤ 1099511627776) : (framesT m n [b] a).1 = [] := by
  cases n with
  | zero => rfl
  | succ n =>
    unfold framesT
    rw [if_neg (by simp)]
    by_cases hf : (readF [b] m a).err = 0
    · obtain ⟨_, h2, h3, _⟩ := frame_read [b] m h1 h8 a ha ha2 hf
      simp at h3; omega
    · rw [if_pos hf]
theorem framesT_longer (m : Nat) (h1 : 1 ≤ m) (h8 : m ≤ 8) (b : UInt8) : ∀ (n : Nat) (l : List UInt8) (a : Int), l.length ≤ n → 0 ≤ a → a + l.length + 1 ≤ 1099511627776 →
    ∃ zs, (framesT m (n + 1) (l ++ [b]) a).1 = (framesT m n l a).1 ++ zs ∧ zs.length ≤ 1 ∧ (framesT m n l a).2.1 ≤ (framesT m (n + 1) (l ++ [b]) a).2.1 ∧
      ((framesT m n l a).2.2.err = 0 ∨ (framesT m n l a).2.2.err = 5 ∨ (framesT m n l a).2.2 = (framesT m (n + 1) (l ++ [b]) a).2.2 ∧ zs = [])
  | n, [], a, _, ha, ha2 => by
    rw [framesT_nil]
    exact ⟨[], by rw [List.nil_append, framesT_one m h1 h8 _ b a ha (by omega)]; rfl, Nat.zero_le _, Nat.zero_le _, .inl rfl⟩
  | 0, x :: l, a, h, _, _ => by simp at h
  | n + 1, x :: l, a, hn, ha, ha2 => by
    have hne : x :: l ≠ [] := by simp
    have hne2 : x :: l ++ [b] ≠ [] := by simp
    generalize x :: l = l at *
    have eX : framesT m (n + 1) l a = if (readF l m a).err ≠ 0 then ([], 0, readF l m a) else
      (readT l m a :: (framesT m n (l.drop (readU l m a)) (a + readU l m a)).1, readU l m a + (framesT m n (l.drop (readU l m a)) (a + readU l m a)).2.1, (framesT m n (l.drop (readU l m a)) (a + readU l m a)).2.2) := if_neg hne
    have eY : framesT m (n + 1 + 1) (l ++ [b]) a = if (readF (l ++ [b]) m a).err ≠ 0 then ([], 0, readF (l ++ [b]) m a) else
      (readT (l ++ [b]) m a :: (framesT m (n + 1) ((l ++ [b]).drop (readU (l ++ [b]) m a)) (a + readU (l ++ [b]) m a)).1, readU (l ++ [b]) m a + (framesT m (n + 1) ((l ++ [b]).drop (readU (l ++ [b]) m a)) (a + readU (l ++ [b]) m a)).2.1, (framesT m (n + 1) ((l ++ [b]).drop (readU (l ++ [b]) m a)) (a + readU (l ++ [b]) m a)).2.2) := if_neg hne2
    have hL : (l ++ [b]).length = l.length + 1 := by simp
    by_cases hf : (readF l m a).err = 0
    · rw [if_neg (by simpa using hf)] at eX
      obtain ⟨r1, r2, r3, r4⟩ := read_more l [b] m h1 h8 a ha (by omega) hf
      obtain ⟨_, hu2, hul, _⟩ := frame_read l m h1 h8 a ha (by omega) hf
      rw [r1, r2, r3, r4, if_neg (by simp)] at eY
      obtain ⟨zs, i1, i2, i3, i4⟩ := framesT_longer m h1 h8 b n (l.drop (readU l m a)) (a + readU l m a) (by rw [List.length_drop]; omega) (by omega) (by rw [List.length_drop]; omega)
      rw [eX, eY]
      exact ⟨zs, by simp only; rw [i1]; rfl, i2, Nat.add_le_add_left i3 _, i4⟩
    · rw [if_pos (by simpa using hf)] at eX
      rw [eX]
      by_cases hb : badE l m = 0
      · have hf5 : (readF l m a).err = 5 ∧ wholeB l = false := by
          rw [readF_in l m a h1 h8 ha (by omega), if_neg (fun h => h hb)] at hf ⊢
          cases hw : wholeB l
          · exact ⟨rfl, rfl⟩
          · rw [if_pos hw] at hf; exact absurd rfl hf
        by_cases hg : (readF (l ++ [b]) m a).err = 0
        · obtain ⟨_, hu2, hul, _, hb2, hw2⟩ := frame_read (l ++ [b]) m h1 h8 a ha (by omega) hg
          have hok2 := read_ok (l ++ [b]) m h1 h8 a ha (by omega) hg
          have hU : readU (l ++ [b]) m a = 2 + b1 (l ++ [b]) := if_pos hok2
          have hfull : (l ++ [b]).length ≤ readU (l ++ [b]) m a := by
            have hw := hf5.2
            unfold wholeB at hw
            by_cases h2 : 2 ≤ l.length
            · rw [decide_eq_true h2, Bool.true_and, decide_eq_false_iff_not] at hw
              rw [hU, b1_snoc l b (by omega)]
              omega
            · omega
          rw [if_neg (by simpa using hg), List.drop_eq_nil_of_le hfull, framesT_nil] at eY
          rw [eY]
          exact ⟨[readT (l ++ [b]) m a], rfl, Nat.le_refl _, Nat.zero_le _, .inr (.inl hf5.1)⟩
        · rw [if_pos (by simpa using hg)] at eY
          rw [eY]
          exact ⟨[], rfl, Nat.zero_le _, Nat.le_refl _, .inr (.inl hf5.1)⟩
      · have hb2 := bad_more l [b] m hb
        have e1 : readF l m a = ⟨badE l m, a⟩ := by rw [readF_in l m a h1 h8 ha (by omega), if_pos hb]
        have e2 : readF (l ++ [b]) m a = ⟨badE l m, a⟩ := by rw [readF_in _ m a h1 h8 ha (by omega), hb2, if_pos hb]
        rw [e2, if_pos (by simpa using hb)] at eY
        rw [eY, e1]
        exact ⟨[], rfl, Nat.zero_le _, Nat.le_refl _, .inr (.inr ⟨rfl, rfl⟩)⟩
end Go.Proofs.Ytdndomjmnlpjgaa
