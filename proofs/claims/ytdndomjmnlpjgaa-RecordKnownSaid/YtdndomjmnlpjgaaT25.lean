/- Slices of tokens: Placed. -/
import Derived.Test.YtdndomjmnlpjgaaT24
namespace Go.Proofs.Ytdndomjmnlpjgaa
open Go.RowKit
/-- The error of tokens that have to be placed. -/
def placedE (l : List Tok) (n : Int) : Int :=
  if listE l n ≠ 0 then listE l n else match l with
    | [] => 0
    | t :: r => if placeL (t :: r) t.at_ = t :: r then 0 else 9
theorem placeL_get : ∀ (l : List Tok) (a : Int) (k : Nat) (hk : k < l.length) (hk2 : k < (placeL l a).length), (placeL l a)[k] = ⟨l[k].sym, l[k].text, (placeL l a)[k].at_⟩
  | _ :: _, _, 0, _, _ => rfl
  | _ :: l, _, k + 1, hk, _ => placeL_get l _ k (by simpa using hk) (by rw [placeL_len]; simpa using hk)
theorem check_at (t : Tok) (n : Int) (h : checkE t n = 0) : 0 ≤ t.at_ ∧ t.at_ ≤ 1099511627776 := by
  obtain ⟨_, _, _, _, _, _, _, _, h1, h2⟩ := check_ok t n h
  exact ⟨h1, h2⟩
set_option maxRecDepth 100000 in
set_option maxHeartbeats 400000 in
theorem Placed_any (A : Option Addr) (cap D : Nat) (l : List Tok) (n : Int) (w : World) (hS : Sl w D 3 A l.length cap (tokC l)) (hD : D ≤ w.heap.size) (hn : l.length ≤ 2000) (hl : ∀ t ∈ l, t.text.length ≤ 10000) :
    Calls Try.prog 49 #[.slice A l.length cap, .int .i64 n] w fun e w' => e = .returned (.int .i64 (placedE l n)) ∧ Below w.heap.size w w' := by
  have HL := Lib.hid (list_any A cap D l n w hS hD (by omega) hl)
  by_cases he : listE l n = 0
  · rw [he] at HL
    rcases Nat.eq_zero_or_pos l.length with h0 | hpos
    · obtain rfl : l = [] := List.eq_nil_of_length_eq_zero h0
      rw [show placedE [] n = 0 by unfold placedE; rw [if_neg (by rw [he]; decide)]]
      clear he hS hl
      go_enter Try.func49, Try.ntmps49
      go_wp2_with fail
      refine HL.out.mono ?_
      rintro e w1 ⟨rfl, hb1⟩
      go_wp2_with fail
      go_ret
      exact ⟨rfl, hb1⟩
    · obtain ⟨t0, ht0⟩ : ∃ t0, l[0] = t0 := ⟨_, rfl⟩
      have hE : placedE l n = if placeL l t0.at_ = l then 0 else 9 := by
        unfold placedE
        rw [if_neg (by rw [he]; decide)]
        cases l with
        | nil => simp at hpos
        | cons x r => cases ht0; rfl
      have hc0 : checkE t0 n = 0 := by
        rw [← ht0]
        unfold listE at he
        split at he
        · cases he
        · exact listE1_all _ n he _ (List.getElem_mem hpos)
      obtain ⟨ha0, ha1⟩ := check_at t0 n hc0
      rw [hE]
      clear hE hc0 he
      have HQ := Lib.hid (fun (W : World) (h : Sl W D 3 A l.length cap (tokC l)) (hW : D ≤ W.heap.size) => placed_any A cap D l t0.at_ W h hW hn hl ha0 ha1)
      have hPl := placeL_len l t0.at_
      have hPg := placeL_get l t0.at_
      generalize endL l t0.at_ = E at *
      generalize placeL l t0.at_ = P at *
      obtain ⟨R, hR⟩ : ∃ R : Int, (if P = l then 0 else 9) = R := ⟨_, rfl⟩
      have HR1 := Lib.hid (show P = l → R = 0 from fun h => by rw [← hR, if_pos h])
      have HR2 := Lib.hid (show P ≠ l → R = 9 from fun h => by rw [← hR, if_neg h])
      rw [hR]
      clear hR
      go_enter Try.func49, Try.ntmps49
      go_wp2_with fail
      refine HL.out.mono ?_
      rintro e w1 ⟨rfl, hb1⟩
      have hS1 := hS.below hb1 hD
      obtain ⟨b, o, rfl, hb, c0, c1, c2⟩ := sl_tok hS1 hpos
      rw [ht0] at c2
      simp only [Nat.zero_mul, Nat.add_zero] at c2
      have HQ1 := Lib.hid (HQ.out w1 hS1 (Nat.le_trans hD hb1.size))
      have HL0 := Lib.hid hl
      have HPg := Lib.hid hPg
      clear HL HQ hl hPg c0 c1 ht0
      go_wp2_with fail
      refine HQ1.out.mono ?_
      rintro e w2 ⟨A2, cap2, rfl, hown2, hb2⟩
      have hB2 := below_on hb1 hb2 (Nat.le_refl _)
      have hS2 := hS1.below hb2 (Nat.le_trans hD hb1.size)
      have hSP := hown2.sl
      have hD2 := Nat.le_trans hD hB2.size
      clear HQ1 hown2 hb2 hb1 c2 hS1
      go_wp2_with fail
      go_loopw [32] (fun i W => ∃ k : Nat, k ≤ l.length ∧ i = .int .i64 k ∧ P.take k = l.take k ∧ Below w2.heap.size w2 W) (fun i _ => l.length - (intOf i).toNat)
      case atStart => exact ⟨0, Nat.zero_le _, rfl, rfl, Below.refl _ _⟩
      case round =>
        obtain ⟨k, hk, rfl, heq, hB⟩ := hrel
        by_cases hlt : k < l.length
        · have hltP : k < P.length := by omega
          obtain ⟨b', o', hbo, hb', c0, c1, c2⟩ := sl_tok (hS2.below hB hD2) hlt
          obtain ⟨rfl, rfl⟩ : b = b' ∧ o = o' := by cases hbo; exact ⟨rfl, rfl⟩
          obtain ⟨bP, oP, rfl, hbP, d0, d1, d2⟩ := sl_tok (by rw [hPl]; exact hSP.below hB (Nat.le_refl _)) hltP
          have hpg := HPg.out k hlt hltP
          have h1 : P[k].sym = l[k].sym := by rw [hpg]
          have h2 : P[k].text = l[k].text := by rw [hpg]
          rw [h1] at d0
          rw [h2] at d1
          have hsn : P.take (k + 1) = P.take k ++ [P[k]] := take_snoc P k hltP
          have hsn2 : l.take (k + 1) = l.take k ++ [l[k]] := take_snoc l k hlt
          have hdec : P[k].at_ = l[k].at_ → P[k] = l[k] := fun h => by rw [hpg, h]
          have hneq : P[k].at_ ≠ l[k].at_ → P ≠ l := fun h h' => by subst h'; exact h rfl
          clear hpg h1 h2
          generalize P[k] = p at *
          generalize l[k] = t at *
          obtain ⟨sy, x, a⟩ := t
          obtain ⟨sy2, x2, a2⟩ := p
          simp only at *
          have HD := Lib.hid hdec
          have HN := Lib.hid hneq
          have H1 := Lib.hid hsn
          have H2 := Lib.hid hsn2
          have HQ := Lib.hid heq
          have hB3 := hB.alloc hB.size (.cells #[.int .i64 sy, .string ⟨x.toArray⟩, .int .i64 a] 41)
          have d0' := fun o => (World.cell?_alloc_lt wr o ⟨bP, oP + k * 3, none⟩ (by have := hB.size; simp; omega)).trans d0
          have d1' := fun o => (World.cell?_alloc_lt wr o ⟨bP, oP + k * 3 + 1, none⟩ (by have := hB.size; simp; omega)).trans d1
          have d2' := fun o => (World.cell?_alloc_lt wr o ⟨bP, oP + k * 3 + 2, none⟩ (by have := hB.size; simp; omega)).trans d2
          clear hsn hsn2 hdec hneq heq hS hS2 hSP d0 d1 d2
          by_cases ha : a2 = a
          · subst ha
            go_wp2_with fail
            go_quiet (fail)
            have hBq := hB3.trans (show Below w2.heap.size _ ((wr.alloc (.cells #[.int .i64 sy, .string ⟨x.toArray⟩, .int .i64 a2] 41)).drewN nq) from ⟨rfl, rfl, rfl, Nat.le_refl _, fun _ _ => rfl⟩)
            clear hB3 d0' d1' d2' c0 c1 c2
            go_wp2_with fail
            go_roundw
            case rel => exact ⟨k + 1, by omega, by go_num, by rw [H1.out, H2.out, HQ.out, HD.out trivial], hBq⟩
            case measure => simp [intOf]; omega
          · have ha' : ¬ a = a2 := fun h => ha h.symm
            go_wp2_with fail
            go_quiet (fail)
            have hBq := hB3.trans (show Below w2.heap.size _ ((wr.alloc (.cells #[.int .i64 sy, .string ⟨x.toArray⟩, .int .i64 a] 41)).drewN nq) from ⟨rfl, rfl, rfl, Nat.le_refl _, fun _ _ => rfl⟩)
            clear hB3 d0' d1' d2' c0 c1 c2
            go_wp2_with fail
            go_ret
            exact ⟨by rw [HR2.out (HN.out ha)]; rfl, below_on hB2 hBq (Nat.le_refl _)⟩
        · obtain rfl : k = l.length := by omega
          have hPe : P = l := by
            rw [List.take_length, ← hPl, List.take_length] at heq
            exact heq
          have hR0 := HR1.out hPe
          clear heq hPl hPe HR1 HR2
          subst hR0
          go_wp2_with fail
          go_ret
          exact ⟨rfl, below_on hB2 hB (Nat.le_refl _)⟩
  · rw [show placedE l n = listE l n from if_pos he]
    generalize listE l n = le at *
    go_enter Try.func49, Try.ntmps49
    go_wp2_with fail
    refine HL.out.mono ?_
    rintro e w1 ⟨rfl, hb1⟩
    go_wp2_with fail
    go_ret
    exact ⟨rfl, hb1⟩
end Go.Proofs.Ytdndomjmnlpjgaa
