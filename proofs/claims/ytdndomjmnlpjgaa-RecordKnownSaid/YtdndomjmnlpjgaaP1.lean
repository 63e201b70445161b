/- Plain laws of frames in parts. -/
import Derived.Test.YtdndomjmnlpjgaaT39
namespace Go.Proofs.Ytdndomjmnlpjgaa
open Go.RowKit
theorem framesT_step (m n : Nat) (l : List UInt8) (a : Int) (hne : l ≠ []) : framesT m (n + 1) l a = if (readF l m a).err ≠ 0 then ([], 0, readF l m a) else
    (readT l m a :: (framesT m n (l.drop (readU l m a)) (a + readU l m a)).1, readU l m a + (framesT m n (l.drop (readU l m a)) (a + readU l m a)).2.1, (framesT m n (l.drop (readU l m a)) (a + readU l m a)).2.2) := if_neg hne
theorem framesT_parts (m : Nat) (h1 : 1 ≤ m) (h8 : m ≤ 8) : ∀ (n k : Nat) (l r : List UInt8) (a : Int), l.length ≤ n → (l ++ r).length ≤ k → 0 ≤ a → a + (l ++ r).length ≤ 1099511627776 →
    (framesT m n l a).2.1 ≤ l.length ∧
    (framesT m n l a).1 ++ (framesT m k ((l ++ r).drop (framesT m n l a).2.1) (a + (framesT m n l a).2.1)).1 = (framesT m k (l ++ r) a).1 ∧
    (framesT m n l a).2.1 + (framesT m k ((l ++ r).drop (framesT m n l a).2.1) (a + (framesT m n l a).2.1)).2.1 = (framesT m k (l ++ r) a).2.1 ∧
    (framesT m k ((l ++ r).drop (framesT m n l a).2.1) (a + (framesT m n l a).2.1)).2.2 = (framesT m k (l ++ r) a).2.2 ∧
    ((framesT m n l a).2.2.err = 0 ∨ (framesT m n l a).2.2 = (framesT m k (l ++ r) a).2.2 ∨ (framesT m n l a).2.2 = ⟨5, a + (framesT m n l a).2.1⟩)
  | n, k, [], r, a, _, _, _, _ => by
    rw [framesT_nil]
    simp
  | 0, k, x :: l, r, a, h, _, _, _ => by simp at h
  | n + 1, 0, x :: l, r, a, _, h, _, _ => by simp at h
  | n + 1, k + 1, x :: l, r, a, hn, hk, ha, hal => by
    have hne : x :: l ≠ [] := by simp
    have hne2 : x :: l ++ r ≠ [] := by simp
    generalize x :: l = l at *
    have hL : (l ++ r).length = l.length + r.length := List.length_append
    have eX := framesT_step m n l a hne
    have eY := framesT_step m k (l ++ r) a hne2
    by_cases hf : (readF l m a).err = 0
    · rw [if_neg (by simpa using hf)] at eX
      obtain ⟨r1, r2, r3, r4⟩ := read_more l r m h1 h8 a ha (by omega) hf
      obtain ⟨_, hu2, hul, _⟩ := frame_read l m h1 h8 a ha (by omega) hf
      rw [r1, r2, r3, r4, if_neg (by simp)] at eY
      have hlen2 : (l.drop (readU l m a) ++ r).length = l.length - readU l m a + r.length := by rw [List.length_append, List.length_drop]
      obtain ⟨i0, i1, i2, i3, i4⟩ := framesT_parts m h1 h8 n k (l.drop (readU l m a)) r (a + readU l m a) (by rw [List.length_drop]; omega) (by omega) (by omega) (by omega)
      rw [List.length_drop] at i0
      rw [eX, eY]
      simp only
      have hd : (l ++ r).drop (readU l m a + (framesT m n (l.drop (readU l m a)) (a + readU l m a)).2.1) = (l.drop (readU l m a) ++ r).drop (framesT m n (l.drop (readU l m a)) (a + readU l m a)).2.1 := by
        rw [← r4, List.drop_drop]
      have hadd : a + ((readU l m a + (framesT m n (l.drop (readU l m a)) (a + readU l m a)).2.1 : Nat) : Int) = a + readU l m a + ((framesT m n (l.drop (readU l m a)) (a + readU l m a)).2.1 : Int) := by omega
      rw [hd, hadd]
      generalize framesT m n (l.drop (readU l m a)) (a + readU l m a) = F at *
      have hfu := framesT_fuel m h1 h8 (k + 1) k ((l.drop (readU l m a) ++ r).drop F.2.1) (a + readU l m a + F.2.1) (by rw [List.length_drop]; omega) (by rw [List.length_drop]; omega) (by omega) (by rw [List.length_drop]; omega)
      rw [hfu]
      refine ⟨by omega, by rw [List.cons_append, i1], by omega, i3, ?_⟩
      rcases i4 with h | h | h
      · exact .inl h
      · exact .inr (.inl h)
      · exact .inr (.inr h)
    · rw [if_pos (by simpa using hf)] at eX
      rw [eX]
      simp only [List.drop_zero, Int.ofNat_zero, Int.add_zero, List.nil_append, Nat.zero_add, Nat.zero_le, true_and]
      by_cases hb : badE l m = 0
      · refine .inr (.inr ?_)
        rw [readF_in l m a h1 h8 ha (by omega), if_neg (fun h => h hb)] at hf ⊢
        cases hw : wholeB l
        · rfl
        · rw [if_pos hw] at hf; exact absurd rfl hf
      · refine .inr (.inl ?_)
        have hb2 := bad_more l r m hb
        have e1 : readF l m a = ⟨badE l m, a⟩ := by rw [readF_in l m a h1 h8 ha (by omega), if_pos hb]
        have e2 : readF (l ++ r) m a = ⟨badE l m, a⟩ := by rw [readF_in _ m a h1 h8 ha (by omega), hb2, if_pos hb]
        rw [e2, if_pos (by simpa using hb)] at eY
        rw [eY, e1]
theorem framesT_bytes (m : Nat) (h1 : 1 ≤ m) (h8 : m ≤ 8) : ∀ (n : Nat) (l : List UInt8) (a : Int), l.length ≤ n → 0 ≤ a → a + l.length ≤ 1099511627776 →
    (∀ t ∈ (framesT m n l a).1, checkE t m = 0) ∧ ((framesT m n l a).1.map (fun t => bytesL t m)).flatten = l.take (framesT m n l a).2.1
  | n, [], a, _, _, _ => by rw [framesT_nil]; simp
  | 0, x :: l, a, h, _, _ => by simp at h
  | n + 1, x :: l, a, hn, ha, hal => by
    have hne : x :: l ≠ [] := by simp
    generalize x :: l = l at *
    have eX := framesT_step m n l a hne
    by_cases hf : (readF l m a).err = 0
    · rw [if_neg (by simpa using hf)] at eX
      obtain ⟨hck, hu2, hul, htk, _, _⟩ := frame_read l m h1 h8 a ha (by omega) hf
      obtain ⟨i1, i2⟩ := framesT_bytes m h1 h8 n (l.drop (readU l m a)) (a + readU l m a) (by rw [List.length_drop]; omega) (by omega) (by rw [List.length_drop]; omega)
      rw [eX]
      refine ⟨?_, ?_⟩
      · intro t ht
        rcases List.mem_cons.1 ht with rfl | ht
        · exact hck
        · exact i1 t ht
      · simp only [List.map_cons, List.flatten_cons]
        rw [i2, ← htk, ← List.take_add]
    · rw [if_pos (by simpa using hf)] at eX
      rw [eX]
      simp
theorem listE1_none (m : Int) : ∀ l : List Tok, (∀ t ∈ l, checkE t m = 0) → listE1 l m = 0
  | [], _ => rfl
  | t :: l, h => by
    show (if checkE t m = 0 then listE1 l m else checkE t m) = 0
    rw [if_pos (h t (by simp))]
    exact listE1_none m l (fun x hx => h x (List.mem_cons_of_mem _ hx))
end Go.Proofs.Ytdndomjmnlpjgaa
