/- Slices of tokens: Place. -/
import Derived.Test.YtdndomjmnlpjgaaT23
namespace Go.Proofs.Ytdndomjmnlpjgaa
open Go.RowKit
theorem tokC_take (l : List Tok) (k : Nat) : tokC (l.take k) = (tokC l).take (k * 3) := by
  by_cases h : k ≤ l.length
  · have e : tokC l = tokC (l.take k) ++ tokC (l.drop k) := by rw [← tokC_append, List.take_append_drop]
    have hl : (tokC (l.take k)).length = k * 3 := by rw [tokC_len, List.length_take]; omega
    rw [e, List.take_append_of_le_length (by omega), ← hl, List.take_length]
  · rw [List.take_of_length_le (by omega), List.take_of_length_le (by rw [tokC_len]; omega)]
/-- The error of Place, and what it gives. -/
def placeE (l : List Tok) (n a : Int) : Int :=
  if 1000 < l.length then 6 else if listE1 (placeL l 0) n ≠ 0 then listE1 (placeL l 0) n else if countsB a = false then 2 else if countsB (endL l a) = false then 2 else 0
def placeR (l : List Tok) (n a : Int) : List Tok := if placeE l n a = 0 then placeL l a else []
theorem place_cases (l : List Tok) (n a : Int) :
    (1000 < l.length ∧ placeE l n a = 6 ∧ placeR l n a = []) ∨ (¬ 1000 < l.length ∧ listE1 (placeL l 0) n ≠ 0 ∧ placeE l n a = listE1 (placeL l 0) n ∧ placeR l n a = []) ∨
    (¬ 1000 < l.length ∧ listE1 (placeL l 0) n = 0 ∧ countsB a = false ∧ placeE l n a = 2 ∧ placeR l n a = []) ∨
    (¬ 1000 < l.length ∧ listE1 (placeL l 0) n = 0 ∧ countsB a = true ∧ countsB (endL l a) = false ∧ placeE l n a = 2 ∧ placeR l n a = []) ∨
    (¬ 1000 < l.length ∧ listE1 (placeL l 0) n = 0 ∧ countsB a = true ∧ countsB (endL l a) = true ∧ placeE l n a = 0 ∧ placeR l n a = placeL l a) := by
  unfold placeR placeE
  by_cases h1 : 1000 < l.length
  · left; simp [h1]
  · right
    by_cases h2 : listE1 (placeL l 0) n = 0
    · right
      cases h3 : countsB a
      · left; simp [h1, h2]
      · right
        cases h4 : countsB (endL l a)
        · left; simp [h1, h2]
        · right; simp [h1, h2]
    · left; simp [h1, h2]
theorem placeL_text : ∀ (l : List Tok) (a : Int) (N : Nat), (∀ t ∈ l, t.text.length ≤ N) → ∀ t ∈ placeL l a, t.text.length ≤ N
  | [], _, _, _ => by simp [placeL]
  | x :: l, a, N, h => by
    intro t ht
    rcases List.mem_cons.1 ht with rfl | ht
    · exact h x (by simp)
    · exact placeL_text l _ N (fun y hy => h y (List.mem_cons_of_mem _ hy)) t ht
set_option maxRecDepth 100000 in
set_option maxHeartbeats 3200000 in
theorem Place_any (A : Option Addr) (cap D : Nat) (l : List Tok) (n a : Int) (w : World) (hS : Sl w D 3 A l.length cap (tokC l)) (hD : D ≤ w.heap.size) (hn : l.length ≤ 2000) (hl : ∀ t ∈ l, t.text.length ≤ 10000) :
    Calls Try.prog 47 #[.slice A l.length cap, .int .i64 n, .int .i64 a] w fun e w' => ∃ A2 cap2, e = .returned (.tuple #[.slice A2 (placeR l n a).length cap2, .int .i64 (placeE l n a)]) ∧ Own w' w.heap.size 41 3 A2 (placeR l n a).length cap2 (tokC (placeR l n a)) ∧ Below w.heap.size w w' := by
  have hcap := hS.2.1
  have hcapm := hS.2.2.1
  unfold maxLen at hcapm
  have hcs := place_cases l n a
  rcases hcs with ⟨h1, h2, h3⟩ | hcs
  · rw [h2, h3]
    have ht : (l.take 1000).length = 1000 := by rw [List.length_take]; omega
    have HP := placed_any A cap D (l.take 1000) 0 w (by rw [ht, tokC_take]; exact hS.take (by omega)) hD (by omega) (fun t ht => hl t (List.mem_of_mem_take ht)) (by decide) (by decide)
    rw [ht] at HP
    have HP' := Lib.hid HP
    have hmin : min (l.length : Int) 1000 = 1000 := by omega
    clear HP ht h2 h3 hS hl
    go_enter Try.func47, Try.ntmps47
    go_wp2_with fail
    refine HP'.out.mono ?_
    rintro e w1 ⟨A1, cap1, rfl, _, hb1⟩
    clear HP'
    go_wp2_with fail
    go_ret2
    exact ⟨none, 0, rfl, Own.nil _ _ _ _, hb1⟩
  · have h1 : ¬ 1000 < l.length := by rcases hcs with ⟨h, _⟩ | ⟨h, _⟩ | ⟨h, _⟩ | ⟨h, _⟩ <;> exact h
    have HP := Lib.hid (placed_any A cap D l 0 w hS hD hn hl (by decide) (by decide))
    have hPl := placeL_len l 0
    have hPt := placeL_text l 0 10000 hl
    have hmin : min (l.length : Int) 1000 = l.length := by omega
    have HL := Lib.hid (fun A1 cap1 (W : World) (h : Sl W W.heap.size 3 A1 (placeL l 0).length cap1 (tokC (placeL l 0))) => list_any A1 cap1 W.heap.size (placeL l 0) n W h (Nat.le_refl _) (by omega) hPt)
    rw [show listE (placeL l 0) n = listE1 (placeL l 0) n from if_neg (by omega), hPl] at HL
    have HS := Lib.hid hS
    have Hl := Lib.hid hl
    clear hl hPt hS
    rcases hcs with ⟨_, h2, h3, h4⟩ | ⟨_, h2, h3, h4, h5⟩ | ⟨_, h2, h3, h4, h5, h6⟩ | ⟨_, h2, h3, h4, h5, h6⟩
    · rw [h3, h4]
      generalize listE1 (placeL l 0) n = le at *
      clear hPl h3 h4
      go_enter Try.func47, Try.ntmps47
      go_wp2_with fail
      refine HP.out.mono ?_
      rintro e w1 ⟨A1, cap1, rfl, hown1, hb1⟩
      have HL1 := Lib.hid (HL.out A1 cap1 w1 hown1.sl)
      clear HP HL hown1
      go_wp2_with fail
      refine HL1.out.mono ?_
      rintro e w2 ⟨rfl, hb2⟩
      go_wp2_with fail
      go_ret2
      exact ⟨none, 0, rfl, Own.nil _ _ _ _, below_on hb1 hb2 (Nat.le_refl _)⟩
    · rw [h4, h5]
      rw [h2] at HL
      have HC := fun W => counts_any a W
      rw [h3] at HC
      have HC' := Lib.hid HC
      clear hPl h2 h3 h4 h5 HC
      go_enter Try.func47, Try.ntmps47
      go_wp2_with fail
      refine HP.out.mono ?_
      rintro e w1 ⟨A1, cap1, rfl, hown1, hb1⟩
      have HL1 := Lib.hid (HL.out A1 cap1 w1 hown1.sl)
      clear HP HL hown1
      go_wp2_with fail
      refine HL1.out.mono ?_
      rintro e w2 ⟨rfl, hb2⟩
      clear HL1
      go_wp2_with (go_at_call 69; refine (HC'.out _).mono ?_; rintro e w3 ⟨rfl, rfl⟩)
      go_ret2
      exact ⟨none, 0, rfl, Own.nil _ _ _ _, below_on hb1 hb2 (Nat.le_refl _)⟩
    all_goals
      have ha : 0 ≤ a ∧ a ≤ 1099511627776 := by unfold countsB at h3; simp at h3; omega
      have HQ := Lib.hid (fun (W : World) (h : Sl W D 3 A l.length cap (tokC l)) (hW : D ≤ W.heap.size) => placed_any A cap D l a W h hW hn Hl.out ha.1 ha.2)
      rw [h5, h6]
      rw [h2] at HL
      have HC := fun W => counts_any a W
      rw [h3] at HC
      have HC' := Lib.hid HC
      have HG := fun W => counts_any (endL l a) W
      rw [h4] at HG
      generalize endL l a = E at *
      have HG' := Lib.hid HG
      clear hPl h2 h3 h4 h5 HC HG h6 ha
      go_enter Try.func47, Try.ntmps47
      go_wp2_with fail
      refine HP.out.mono ?_
      rintro e w1 ⟨A1, cap1, rfl, hown1, hb1⟩
      have HL1 := Lib.hid (HL.out A1 cap1 w1 hown1.sl)
      clear HP HL hown1
      go_wp2_with fail
      refine HL1.out.mono ?_
      rintro e w2 ⟨rfl, hb2⟩
      have hB2 := below_on hb1 hb2 (Nat.le_refl _)
      have HQ2 := Lib.hid (HQ.out w2 (HS.out.below hB2 hD) (Nat.le_trans hD hB2.size))
      clear HL1 HQ hb1 hb2 HS
      go_wp2_with (go_at_call 69; refine (HC'.out _).mono ?_; rintro e w3 ⟨rfl, rfl⟩)
      refine HQ2.out.mono ?_
      rintro e w4 ⟨A4, cap4, rfl, hown4, hb4⟩
      have hB4 := below_on hB2 hb4 (Nat.le_refl _)
      have hown5 := hown4.base (B' := w.heap.size) hB2.size
      clear HQ2 HC'
      go_wp2_with (go_at_call 69; refine (HG'.out _).mono ?_; rintro e w3 ⟨rfl, rfl⟩)
      go_ret2
      first
        | exact ⟨none, 0, rfl, Own.nil _ _ _ _, hB4⟩
        | exact ⟨A4, cap4, by rw [placeL_len]; rfl, by rw [placeL_len]; exact hown5, hB4⟩
end Go.Proofs.Ytdndomjmnlpjgaa
