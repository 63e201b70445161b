/- Plain laws of placed tokens. -/
import Derived.Test.YtdndomjmnlpjgaaT26
namespace Go.Proofs.Ytdndomjmnlpjgaa
open Go.RowKit
theorem check_moved (t : Tok) (m : Nat) (h : checkE t m = 0) (a : Int) (ha : 0 ≤ a) (ha2 : a ≤ 1099511627776) : checkE ⟨t.sym, t.text, a⟩ m = 0 := by
  obtain ⟨s, m', hs, hm, h1, h2, h3, h4, _, _⟩ := check_ok t m h
  obtain rfl : m = m' := by omega
  exact checkE_ok _ m (by simp only; omega) (by simp only; omega) h2 h3 h4 ha ha2
theorem listE1_place : ∀ (l : List Tok) (m : Nat) (a : Int), (∀ t ∈ l, checkE t m = 0) → 0 ≤ a → a + l.length * 26 ≤ 1099511627776 → listE1 (placeL l a) m = 0 ∧ (∀ t ∈ placeL l a, checkE t m = 0)
  | [], _, _, _, _, _ => ⟨rfl, by simp [placeL]⟩
  | t :: l, m, a, h, ha, hb => by
    have ht := h t (by simp)
    obtain ⟨hx, _, _⟩ := frame_bounds t m ht
    rw [List.length_cons] at hb
    have hc := check_moved t m ht a ha (by omega)
    have ih := listE1_place l m (a + (2 + t.text.length)) (fun x hx => h x (List.mem_cons_of_mem _ hx)) (by omega) (by omega)
    refine ⟨?_, ?_⟩
    · show (if checkE ⟨t.sym, t.text, a⟩ m = 0 then listE1 (placeL l _) m else _) = 0
      rw [if_pos hc]
      exact ih.1
    · intro x hx
      rcases List.mem_cons.1 hx with rfl | hx
      · exact hc
      · exact ih.2 x hx
theorem placeL_placeL : ∀ (l : List Tok) (a b : Int), placeL (placeL l a) b = placeL l b
  | [], _, _ => rfl
  | t :: l, a, b => by
    show ⟨t.sym, t.text, b⟩ :: placeL (placeL l _) _ = _
    rw [placeL_placeL l]
    rfl
theorem place_ok (l : List Tok) (m : Nat) (a : Int) (h : ∀ t ∈ l, checkE t m = 0) (hn : l.length ≤ 1000) (ha : 0 ≤ a) (ha2 : a ≤ 1073741824) : placeE l m a = 0 ∧ placeR l m a = placeL l a := by
  have h1 := (listE1_place l m 0 h (Int.le_refl _) (by omega)).1
  have hb := endL_bound l a 24 (fun t ht => (frame_bounds t m (h t ht)).1)
  have hb2 : (l.length : Int) * (2 + (24 : Nat)) ≤ 26000 := by omega
  rcases place_cases l m a with ⟨h', _⟩ | ⟨_, h', _⟩ | ⟨_, _, h', _⟩ | ⟨_, _, _, h', _⟩ | ⟨_, _, _, _, h5, h6⟩
  · omega
  · exact absurd h1 h'
  · rw [counts_ok a ha (by omega)] at h'; cases h'
  · rw [counts_ok _ (by omega) (by omega)] at h'; cases h'
  · exact ⟨h5, h6⟩
theorem placed_ok (l : List Tok) (m : Nat) (a : Int) (h : ∀ t ∈ l, checkE t m = 0) (hn : l.length ≤ 1000) (ha : 0 ≤ a) (ha2 : a ≤ 1073741824) : placedE (placeL l a) m = 0 ∧ listE (placeL l a) m = 0 := by
  have h1 := (listE1_place l m a h ha (by omega)).1
  have h2 : listE (placeL l a) m = 0 := by unfold listE; rw [if_neg (by rw [placeL_len]; omega)]; exact h1
  refine ⟨?_, h2⟩
  unfold placedE
  rw [if_neg (by rw [h2]; decide)]
  cases l with
  | nil => rfl
  | cons t l =>
    show (if placeL (placeL (t :: l) a) a = placeL (t :: l) a then (0 : Int) else 9) = 0
    rw [placeL_placeL, if_pos rfl]
theorem listL_ok (l : List Tok) (m : Nat) (h : listE l m = 0) : listL l m = (l.map (fun t => bytesL t m)).flatten := if_pos h
theorem placeL_at (l : List Tok) (a : Int) (k : Nat) (hk : k < l.length) (hk2 : k < (placeL l a).length) : (placeL l a)[k].sym = l[k].sym ∧ (placeL l a)[k].text = l[k].text := by
  rw [placeL_get l a k hk hk2]
  exact ⟨rfl, rfl⟩
end Go.Proofs.Ytdndomjmnlpjgaa
