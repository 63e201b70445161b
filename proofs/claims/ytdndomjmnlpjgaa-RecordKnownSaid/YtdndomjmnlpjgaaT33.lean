/- Slices of tokens: the reference's Place; OwnTokens. -/
import Derived.Test.YtdndomjmnlpjgaaT32
namespace Go.Proofs.Ytdndomjmnlpjgaa
open Go.RowKit
theorem tokC_one (l : List Tok) : ∀ u ∈ tokC l, u.oneCell' = true := by
  intro u hu
  unfold tokC at hu
  obtain ⟨t, _, ht⟩ := List.mem_flatMap.1 hu
  simp at ht
  rcases ht with rfl | rfl | rfl <;> rfl
set_option maxRecDepth 100000 in
theorem OwnTokens_any (A : Option Addr) (cap D : Nat) (l : List Tok) (w : World) (h : Sl w D 3 A l.length cap (tokC l)) (hD : D ≤ w.heap.size) (hn : l.length ≤ 100000) :
    Calls Try.prog 45 #[.slice A l.length cap] w fun e w' => (∃ A' cap', e = .returned (.slice A' l.length cap') ∧ Sl w' w'.heap.size 3 A' l.length cap' (tokC l)) ∧ Below w.heap.size w w' := by
  obtain ⟨i0, hi0, hz0, hz1, hz2⟩ := info_parts infoT
  have h1 := tokC_one l
  have hA := Sl.alloc h hD (.cells #[] 41)
  have hO := (Own.bare w w.heap.size 41 3 (some ⟨w.heap.size, 0, none⟩)).alloc (.cells #[] 41)
  have hB := (Below.refl w.heap.size w).alloc (Nat.le_refl _) (.cells #[] 41)
  go_enter Try.func45, Try.ntmps45
  go_wp2_with (at_builtin; refine wpList_append_o _ rfl _ _ _ rfl w.heap.size 41 i0 _ 3 32 Try.underlying24 hi0 hz0 hz1 hz2 rfl (by decide) rfl hO rfl hA h1 (by simp only [maxLen]; omega) (by omega) (by simp) ?_; intro A2 cap2 w2 hown2 hg2 _)
  have hb2 := grown_below hB hO hg2 (by simp)
  simp only [Nat.zero_add, List.nil_append] at hown2
  go_ret
  exact ⟨⟨A2, cap2, by simp, hown2.sl⟩, hb2⟩
def zeroL (l : List Tok) : List Tok := l.map fun t => ⟨t.sym, t.text, 0⟩
theorem checkE_at (sy : Int) (x : List UInt8) (a b n : Int) (ha : countsB a = true) (hb : countsB b = true) : checkE ⟨sy, x, a⟩ n = checkE ⟨sy, x, b⟩ n := by
  unfold checkE
  simp only [ha, hb]
theorem listE1_zero : ∀ (l : List Tok) (n a : Int), (∀ t ∈ l, t.text.length ≤ 10000) → 0 ≤ a → a + l.length * 10002 ≤ 1099511627776 → listE1 (zeroL l) n = listE1 (placeL l a) n
  | [], _, _, _, _, _ => rfl
  | t :: l, n, a, h, ha, hb => by
    have ht := h t (by simp)
    rw [List.length_cons] at hb
    have ih := listE1_zero l n (a + (2 + t.text.length)) (fun x hx => h x (List.mem_cons_of_mem _ hx)) (by omega) (by omega)
    show (if checkE ⟨t.sym, t.text, 0⟩ n = 0 then listE1 (zeroL l) n else checkE ⟨t.sym, t.text, 0⟩ n) = (if checkE ⟨t.sym, t.text, a⟩ n = 0 then listE1 (placeL l _) n else checkE ⟨t.sym, t.text, a⟩ n)
    rw [checkE_at t.sym t.text 0 a n rfl (counts_ok a ha (by omega)), ih]
theorem place_facts (l : List Tok) (n a : Int) (hn : ¬ 1000 < l.length) (hl : ∀ t ∈ l, t.text.length ≤ 10000) :
    (listE1 (zeroL l) n ≠ 0 → placeE l n a = listE1 (zeroL l) n ∧ placeR l n a = []) ∧ (listE1 (zeroL l) n = 0 → countsB a = false → placeE l n a = 2 ∧ placeR l n a = []) ∧
    (listE1 (zeroL l) n = 0 → countsB a = true → 1099511627776 < endL l a → placeE l n a = 2 ∧ placeR l n a = []) ∧ (listE1 (zeroL l) n = 0 → countsB a = true → ¬ 1099511627776 < endL l a → placeE l n a = 0 ∧ placeR l n a = placeL l a) := by
  rw [listE1_zero l n 0 hl (Int.le_refl _) (by omega)]
  rcases place_cases l n a with ⟨h, _⟩ | ⟨_, h2, h3, h4⟩ | ⟨_, h2, h3, h4, h5⟩ | ⟨_, h2, h3, h4, h5, h6⟩ | ⟨_, h2, h3, h4, h5, h6⟩
  · exact absurd h hn
  · exact ⟨fun _ => ⟨h3, h4⟩, fun h => absurd h h2, fun h => absurd h h2, fun h => absurd h h2⟩
  · refine ⟨fun h => absurd h2 h, fun _ _ => ⟨h4, h5⟩, fun _ h => ?_, fun _ h => ?_⟩ <;> rw [h3] at h <;> cases h
  · have hb := (endL_bound l a 10000 hl).1
    have ha : 0 ≤ a := by unfold countsB at h3; simp at h3; omega
    have hq : 1099511627776 < endL l a := by unfold countsB at h4; simp at h4; omega
    exact ⟨fun h => absurd h2 h, fun _ h => (by rw [h3] at h; cases h), fun _ _ _ => ⟨h5, h6⟩, fun _ _ h => absurd hq h⟩
  · have hq : ¬ 1099511627776 < endL l a := by unfold countsB at h4; simp at h4; omega
    exact ⟨fun h => absurd h2 h, fun _ h => (by rw [h3] at h; cases h), fun _ _ h => absurd h hq, fun _ _ _ => ⟨h5, h6⟩⟩
end Go.Proofs.Ytdndomjmnlpjgaa
