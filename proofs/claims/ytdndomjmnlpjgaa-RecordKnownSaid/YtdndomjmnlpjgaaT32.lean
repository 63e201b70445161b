/- Slices of tokens: the reference's Placed. -/
import Derived.Test.YtdndomjmnlpjgaaT31
namespace Go.Proofs.Ytdndomjmnlpjgaa
open Go.RowKit
theorem placeL_take (l : List Tok) (a : Int) (k : Nat) (hk : k ≤ l.length) : (placeL l a).take k = placeL (l.take k) a := by
  have e : placeL l a = placeL (l.take k) a ++ placeL (l.drop k) (endL (l.take k) a) := by rw [← placeL_append, List.take_append_drop]
  have hl : (placeL (l.take k) a).length = k := by rw [placeL_len, List.length_take]; omega
  rw [e, List.take_append_of_le_length (by omega), List.take_of_length_le (by omega)]
theorem snoc_inj {α : Type} {xs ys : List α} {x y : α} (h : xs ++ [x] = ys ++ [y]) (hl : xs.length = ys.length) : xs = ys ∧ x = y := by
  have := List.append_inj h hl
  exact ⟨this.1, by simpa using this.2⟩
theorem endL_last (l : List Tok) (a : Int) (j : Nat) (hj : j < l.length) (h : placeL (l.take (j + 1)) a = l.take (j + 1)) : endL (l.take (j + 1)) a = l[j].at_ + (2 + l[j].text.length) := by
  obtain ⟨h1, h2⟩ := placeL_snoc l j hj a
  rw [h1, take_snoc l j hj] at h
  obtain ⟨_, h3⟩ := snoc_inj h (by rw [placeL_len])
  rw [h2, ← h3]
theorem placed_step (l : List Tok) (a : Int) (j : Nat) (hj : j < l.length) (hj2 : j + 1 < l.length) (h : placeL (l.take (j + 1)) a = l.take (j + 1)) :
    (l[j + 1].at_ = l[j].at_ + (2 + l[j].text.length) → placeL (l.take (j + 1 + 1)) a = l.take (j + 1 + 1)) ∧ (l[j + 1].at_ ≠ l[j].at_ + (2 + l[j].text.length) → placeL l a ≠ l) := by
  obtain ⟨h1, _⟩ := placeL_snoc l (j + 1) hj2 a
  have he := endL_last l a j hj h
  rw [he, h] at h1
  refine ⟨fun hq => ?_, fun hq hE => ?_⟩
  · rw [h1, take_snoc l (j + 1) hj2, ← hq]
  · have h2 := placeL_take l a (j + 1 + 1) (by omega)
    rw [hE, h1, take_snoc l (j + 1) hj2] at h2
    obtain ⟨_, h3⟩ := snoc_inj h2 rfl
    exact hq (by rw [h3])
set_option maxRecDepth 100000 in
set_option maxHeartbeats 1600000 in
theorem refPlaced_any (A : Option Addr) (cap D : Nat) (l : List Tok) (n : Int) (w : World) (hS : Sl w D 3 A l.length cap (tokC l)) (hD : D ≤ w.heap.size) (hn : l.length ≤ 2000) (hl : ∀ t ∈ l, t.text.length ≤ 10000) :
    Calls Try.prog 50 #[.slice A l.length cap, .int .i64 n] w fun e w' => e = .returned (.int .i64 (placedE l n)) ∧ Below w.heap.size w w' := by
  have HL := Lib.hid (refList_any A cap D l n w hS hD hn hl)
  by_cases he : listE l n = 0
  · rw [he] at HL
    rcases Nat.eq_zero_or_pos l.length with h0 | hpos
    · obtain rfl : l = [] := List.eq_nil_of_length_eq_zero h0
      rw [show placedE [] n = 0 by unfold placedE; rw [if_neg (by rw [he]; decide)]]
      clear he hS hl
      go_enter Try.func50, Try.ntmps50
      go_wp2_with fail
      refine HL.out.mono ?_
      rintro e w1 ⟨rfl, hb1⟩
      go_wp2_with fail
      go_loopw [7] (fun i W => i = .int .i64 1 ∧ Below w.heap.size w W) (fun _ _ => 0)
      case atStart => exact ⟨rfl, hb1⟩
      case round =>
        obtain ⟨rfl, hB⟩ := hrel
        go_wp2_with fail
        go_ret
        exact ⟨rfl, hB⟩
    · obtain ⟨t0, ht0⟩ : ∃ t0, l[0] = t0 := ⟨_, rfl⟩
      have hE : placedE l n = if placeL l t0.at_ = l then 0 else 9 := by
        unfold placedE
        rw [if_neg (by rw [he]; decide)]
        cases l with
        | nil => simp at hpos
        | cons x r => cases ht0; rfl
      have he2 : listE1 l n = 0 := by
        unfold listE at he
        split at he
        · cases he
        · exact he
      have hall := listE1_all l n he2
      have hats : ∀ t ∈ l, 0 ≤ t.at_ ∧ t.at_ ≤ 1099511627776 := fun t ht => check_at t n (hall t ht)
      rw [hE]
      obtain ⟨R, hR⟩ : ∃ R : Int, (if placeL l t0.at_ = l then 0 else 9) = R := ⟨_, rfl⟩
      have HR1 := Lib.hid (show placeL l t0.at_ = l → R = 0 from fun h => by rw [← hR, if_pos h])
      have HR2 := Lib.hid (show placeL l t0.at_ ≠ l → R = 9 from fun h => by rw [← hR, if_neg h])
      rw [hR]
      have hst : placeL (l.take 1) t0.at_ = l.take 1 := by
        cases l with
        | nil => simp at hpos
        | cons x r => cases ht0; rfl
      clear hR hE he he2 hall
      generalize t0.at_ = a0 at *
      clear ht0
      go_enter Try.func50, Try.ntmps50
      go_wp2_with fail
      refine HL.out.mono ?_
      rintro e w1 ⟨rfl, hb1⟩
      clear HL
      go_wp2_with fail
      go_loopw [7] (fun i W => ∃ j : Nat, j + 1 ≤ l.length ∧ i = .int .i64 ((j : Int) + 1) ∧ placeL (l.take (j + 1)) a0 = l.take (j + 1) ∧ Below w.heap.size w W) (fun i _ => l.length - (intOf i).toNat)
      case atStart => exact ⟨0, hpos, rfl, hst, hb1⟩
      case round =>
        obtain ⟨j, hj, rfl, heq, hB⟩ := hrel
        clear hst hb1
        by_cases hlt : j + 1 < l.length
        · obtain ⟨b, o, rfl, hb, _, _, c2⟩ := sl_tok (hS.below hB hD) hlt
          obtain ⟨b', o', hbo, _, d0, d1, d2⟩ := sl_tok (hS.below hB hD) (Nat.lt_of_succ_lt hlt)
          obtain ⟨rfl, rfl⟩ : b = b' ∧ o = o' := by cases hbo; exact ⟨rfl, rfl⟩
          obtain ⟨hs1, hs2⟩ := placed_step l a0 j (Nat.lt_of_succ_lt hlt) hlt heq
          have htl := hl l[j] (List.getElem_mem _)
          obtain ⟨ht1, ht2⟩ := hats l[j] (List.getElem_mem _)
          generalize l[j + 1] = t at *
          generalize l[j] = p at *
          obtain ⟨sy, x, a⟩ := t
          obtain ⟨sy2, x2, a2⟩ := p
          simp only at *
          have hbw : b < wr.heap.size := block_lt_of_cell c2
          have HSz : ∀ W, Below wr.heap.size wr W → Calls Try.prog 38 #[.agg #[.int .i64 sy2, .string ⟨x2.toArray⟩, .int .i64 a2]] W fun e W' => e = .returned (.int .i64 (2 + x2.length)) ∧ Below wr.heap.size wr W' :=
            fun W hW => (refSize_any ⟨sy2, x2, a2⟩ W (by simp only; omega)).mono fun e W' ⟨he, hb⟩ => ⟨he, hW.trans (hb.mono hW.size)⟩
          have HSz' := Lib.hid HSz
          have H1 := Lib.hid hs1
          have H2 := Lib.hid hs2
          have HB := Lib.hid hB
          have HS := Lib.hid hS
          have hbd := (Below.refl wr.heap.size wr).drew
          have hj0 : (j : Int) < (l.length : Int) := by omega
          have hj1 : (j : Int) + 1 < (l.length : Int) := by omega
          have hj2 : (j : Int) + 1 - 1 = (j : Int) := by omega
          have hj3 : j < l.length := by omega
          have hjn : (0 : Int) ≤ (j : Int) + 1 := by omega
          have hjw : IntKind.i64.wrap (j : Int) = (j : Int) := Go.IntWalk.i64_in _ (by omega)
          have haw : IntKind.i64.wrap (a2 + (2 + (x2.length : Int))) = a2 + (2 + (x2.length : Int)) := Go.IntWalk.i64_in _ (by omega)
          clear HSz hs1 hs2 heq hl hats hB hS
          go_wp2_with fail
          by_cases ha : a = a2 + (2 + x2.length)
          · have hP := Lib.hid (H1.out ha)
            have HA := Lib.hid ha
            have ha3 : (a != a2 + (2 + (x2.length : Int))) = false := by simp [ha]
            clear ha
            go_region_held3 (fun W => Below wr.heap.size wr W ∧ W.cell? ⟨b, o + (j + 1) * 3 + 2, none⟩ = some (.int .i64 a) ∧ W.cell? ⟨b, o + j * 3, none⟩ = some (.int .i64 sy2) ∧ W.cell? ⟨b, o + j * 3 + 1, none⟩ = some (.string ⟨x2.toArray⟩) ∧ W.cell? ⟨b, o + j * 3 + 2, none⟩ = some (.int .i64 a2))
              (exact ⟨by assumption, ((by assumption : Below wr.heap.size wr _).cell (p := ⟨b, o + (j + 1) * 3 + 2, none⟩) hbw).trans c2, ((by assumption : Below wr.heap.size wr _).cell (p := ⟨b, o + j * 3, none⟩) hbw).trans d0, ((by assumption : Below wr.heap.size wr _).cell (p := ⟨b, o + j * 3 + 1, none⟩) hbw).trans d1, ((by assumption : Below wr.heap.size wr _).cell (p := ⟨b, o + j * 3 + 2, none⟩) hbw).trans d2⟩)
              (first
                | (go_at_call 38; refine (HSz'.out _ ?_).mono ?_; (exact (by assumption : _ ∧ _).1); rintro e w3 ⟨rfl, hb3⟩))
            go_wp2_with fail
            go_roundw
            case rel => exact ⟨j + 1, by omega, by go_num, hP.out, below_on HB.out (by assumption) (Nat.le_refl _)⟩
            case measure => simp [intOf]; omega
          · have hRR := HR2.out (H2.out ha)
            subst hRR
            have ha3 : (a != a2 + (2 + (x2.length : Int))) = true := bne_iff_ne.2 ha
            clear H1 H2 HR1 HR2
            go_region_held3 (fun W => Below wr.heap.size wr W ∧ W.cell? ⟨b, o + (j + 1) * 3 + 2, none⟩ = some (.int .i64 a) ∧ W.cell? ⟨b, o + j * 3, none⟩ = some (.int .i64 sy2) ∧ W.cell? ⟨b, o + j * 3 + 1, none⟩ = some (.string ⟨x2.toArray⟩) ∧ W.cell? ⟨b, o + j * 3 + 2, none⟩ = some (.int .i64 a2))
              (exact ⟨by assumption, ((by assumption : Below wr.heap.size wr _).cell (p := ⟨b, o + (j + 1) * 3 + 2, none⟩) hbw).trans c2, ((by assumption : Below wr.heap.size wr _).cell (p := ⟨b, o + j * 3, none⟩) hbw).trans d0, ((by assumption : Below wr.heap.size wr _).cell (p := ⟨b, o + j * 3 + 1, none⟩) hbw).trans d1, ((by assumption : Below wr.heap.size wr _).cell (p := ⟨b, o + j * 3 + 2, none⟩) hbw).trans d2⟩)
              (first
                | (go_at_call 38; refine (HSz'.out _ ?_).mono ?_; (exact (by assumption : _ ∧ _).1); rintro e w3 ⟨rfl, hb3⟩))
            go_wp2_with fail
            go_ret
            exact ⟨rfl, below_on HB.out (by assumption) (Nat.le_refl _)⟩
        · obtain hjl : j + 1 = l.length := by omega
          rw [hjl, List.take_length] at heq
          have hRR := HR1.out heq
          subst hRR
          have hjl2 : (j : Int) + 1 = (l.length : Int) := by omega
          clear heq HR1 HR2
          go_wp2_with fail
          go_ret
          exact ⟨rfl, hB⟩
  · rw [show placedE l n = listE l n from if_pos he]
    generalize listE l n = le at *
    generalize listL l n = ll at *
    go_enter Try.func50, Try.ntmps50
    go_wp2_with fail
    refine HL.out.mono ?_
    rintro e w1 ⟨rfl, hb1⟩
    go_wp2_with fail
    go_ret
    exact ⟨rfl, hb1⟩
end Go.Proofs.Ytdndomjmnlpjgaa
