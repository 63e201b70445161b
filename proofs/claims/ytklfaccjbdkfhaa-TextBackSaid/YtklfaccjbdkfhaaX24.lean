/- Same of both; light. No condition. -/
import Derived.Test.YtklfaccjbdkfhaaX23
namespace Go.Proofs.Ytklfaccjbdkfhaa
open Go.RowKit
def lightL (l : List Lx) : Bool := decide (l.length ≤ 100 ∧ ∀ x ∈ l, x.text.length ≤ 100)
set_option maxRecDepth 100000 in
set_option maxHeartbeats 1600000 in
theorem light_any (A : Option Addr) (cap D : Nat) (l : List Lx) (w : World) (hS : Sl w D 3 A l.length cap (lxC l)) (hn : l.length ≤ maxLen) :
    Calls Try.prog 25 #[.slice A l.length cap] w fun e w' => e = .returned (.bool (lightL l)) ∧ w = w' := by
  unfold maxLen at hn
  obtain ⟨R, hR⟩ : ∃ R : Bool, lightL l = R := ⟨_, rfl⟩
  have HR1 := Lib.hid (show (l.length ≤ 100 ∧ ∀ x ∈ l, x.text.length ≤ 100) → R = true from fun h => by rw [← hR]; exact decide_eq_true h)
  have HR2 := Lib.hid (show ¬ (l.length ≤ 100 ∧ ∀ x ∈ l, x.text.length ≤ 100) → R = false from fun h => by rw [← hR]; exact decide_eq_false h)
  rw [hR]
  clear hR
  by_cases h1 : 100 < l.length
  · have hc : (100 : Int) < l.length := by omega
    have hR0 := HR2.out (fun h => by omega)
    subst hR0
    clear HR1 HR2 hS
    go_enter Try.func25, Try.ntmps25
    go_wp2_with fail
    go_ret
    exact ⟨rfl, rfl⟩
  · have hc : (l.length : Int) ≤ 100 := by omega
    have hl100 : l.length ≤ 100 := by omega
    clear h1
    go_enter Try.func25, Try.ntmps25
    go_wp2_with fail
    go_loop [3] (fun i => ∃ j : Nat, j ≤ l.length ∧ i = .int .i64 j ∧ ∀ k (hk : k < l.length), k < j → l[k].text.length ≤ 100) (fun i => l.length - (intOf i).toNat)
    case atStart => exact ⟨0, Nat.zero_le _, rfl, fun k _ h => absurd h (by omega)⟩
    case round =>
      obtain ⟨j, hj, rfl, hall⟩ := hrel
      have HAll := Lib.hid hall
      clear hall
      by_cases hlt : j < l.length
      · obtain ⟨b, o, rfl, hb, c0, c1, c2⟩ := sl_lx hS hlt
        have hmem : l[j] ∈ l := List.getElem_mem hlt
        by_cases ht : l[j].text.length ≤ 100
        · have HN := Lib.hid (show ∀ k (hk : k < l.length), k < j + 1 → l[k].text.length ≤ 100 from fun k hk h => by
            by_cases h2 : k < j
            · exact HAll.out k hk h2
            · obtain rfl : k = j := by omega
              exact ht)
          have hz : (l[j].text.length : Int) ≤ 100 := by omega
          clear HAll hmem ht hS
          generalize l[j].text = x at *
          go_wp2_with fail
          go_round
          case rel => exact ⟨j + 1, by omega, by go_num, HN.out⟩
          case measure => simp [intOf]; omega
        · have hR0 := HR2.out (fun h => ht (h.2 _ hmem))
          subst hR0
          have hz : (100 : Int) < l[j].text.length := by omega
          clear HAll hmem ht hS HR1 HR2
          generalize l[j].text = x at *
          go_wp2_with fail
          go_ret
          exact ⟨rfl, rfl⟩
      · obtain rfl : j = l.length := by omega
        have hR0 := HR1.out ⟨hl100, fun x hx => by
          obtain ⟨k, hk, rfl⟩ := List.getElem_of_mem hx
          exact HAll.out k hk hk⟩
        subst hR0
        clear HR1 HR2 HAll hS
        go_wp2_with fail
        go_ret
        exact ⟨rfl, rfl⟩
set_option maxRecDepth 100000 in
set_option maxHeartbeats 1600000 in
theorem rSame_any (A1 A2 : Option Addr) (cap1 cap2 D : Nat) (l k : List Lx) (w : World) (hS1 : Sl w D 3 A1 l.length cap1 (lxC l)) (hS2 : Sl w D 3 A2 k.length cap2 (lxC k)) (hn : l.length ≤ 100000) :
    Calls Try.prog 31 #[.slice A1 l.length cap1, .slice A2 k.length cap2] w fun e w' => e = .returned (.bool (decide (l.map keyL = k.map keyL))) ∧ Below w.heap.size w w' := by
  obtain ⟨R, hR⟩ : ∃ R : Bool, decide (l.map keyL = k.map keyL) = R := ⟨_, rfl⟩
  have HR1 := Lib.hid (show l.map keyL = k.map keyL → R = true from fun h => by rw [← hR]; exact decide_eq_true h)
  have HR2 := Lib.hid (show l.map keyL ≠ k.map keyL → R = false from fun h => by rw [← hR]; exact decide_eq_false h)
  rw [hR]
  clear hR
  by_cases hlen : l.length = k.length
  · have HLen := Lib.hid hlen
    have hcast : (l.length : Int) = k.length := by omega
    go_enter Try.func31, Try.ntmps31
    clear hlen
    go_wp2_with fail
    clear hcast
    go_loopw [5] (fun i W => ∃ j : Nat, j ≤ l.length ∧ i = .int .i64 j ∧ (l.take j).map keyL = (k.take j).map keyL ∧ ∃ q, W = w.drewN q) (fun i _ => l.length - (intOf i).toNat)
    case atStart => exact ⟨0, Nat.zero_le _, rfl, rfl, 0, rfl⟩
    case round =>
      obtain ⟨j, hj, rfl, heq, q, rfl⟩ := hrel
      by_cases hlt : j < l.length
      · have hlt2 : j < k.length := by have := HLen.out; omega
        obtain ⟨b, o, rfl, hb, c0, c1, c2⟩ := sl_lx hS1 hlt
        obtain ⟨b2, o2, rfl, hb2, d0, d1, d2⟩ := sl_lx hS2 hlt2
        have hsn : (l.take (j + 1)).map keyL = (l.take j).map keyL ++ [keyL l[j]] := by rw [take_snoc l j hlt, List.map_append]; rfl
        have hsn2 : (k.take (j + 1)).map keyL = (k.take j).map keyL ++ [keyL k[j]] := by rw [take_snoc k j hlt2, List.map_append]; rfl
        have hne : keyL l[j] ≠ keyL k[j] → l.map keyL ≠ k.map keyL := fun h h' => by
          have e1 : (l.map keyL)[j]? = some (keyL l[j]) := by rw [List.getElem?_map, List.getElem?_eq_getElem hlt]; rfl
          have e2 : (k.map keyL)[j]? = some (keyL k[j]) := by rw [List.getElem?_map, List.getElem?_eq_getElem hlt2]; rfl
          rw [h', e2] at e1
          injection e1 with e1
          exact h e1.symm
        generalize l[j] = t at *
        generalize k[j] = u at *
        obtain ⟨sy, x, a⟩ := t
        obtain ⟨sy2, x2, a2⟩ := u
        unfold keyL at hsn hsn2 hne
        simp only at *
        have H1 := Lib.hid hsn
        have H2 := Lib.hid hsn2
        have HN := Lib.hid hne
        have HQ := Lib.hid heq
        clear hsn hsn2 hne heq hS1 hS2
        by_cases ht : sy = sy2 ∧ x = x2
        · obtain ⟨rfl, rfl⟩ := ht
          go_wp2_with fail
          go_quiet (fail)
          go_wp2_with fail
          go_roundw
          case rel => exact ⟨j + 1, by omega, by go_num, by show List.map keyL _ = List.map keyL _; unfold keyL; rw [H1.out, H2.out]; have := HQ.out; unfold keyL at this; rw [this], _, rfl⟩
          case measure => simp [intOf]; omega
        · have hdiff : sy ≠ sy2 ∨ sy = sy2 ∧ x ≠ x2 := by
            by_cases h1 : sy = sy2
            · exact .inr ⟨h1, fun h2 => ht ⟨h1, h2⟩⟩
            · exact .inl h1
          have hne : (sy, x) ≠ (sy2, x2) := fun h => by cases h; exact ht ⟨rfl, rfl⟩
          have hR0 := HR2.out (HN.out hne)
          subst hR0
          clear ht hne HR1 HR2 HN H1 H2 HQ
          rcases hdiff with h | ⟨rfl, h⟩
          · go_wp2_with fail
            go_quiet (fail)
            go_wp2_with fail
            go_ret
            exact ⟨rfl, rfl, rfl, rfl, Nat.le_refl _, fun _ _ => rfl⟩
          · have hxb : (x == x2) = false := by simpa using h
            go_wp2_with fail
            go_quiet (fail)
            go_wp2_with fail
            go_ret
            exact ⟨rfl, rfl, rfl, rfl, Nat.le_refl _, fun _ _ => rfl⟩
      · obtain rfl : j = l.length := by omega
        have hall : l.map keyL = k.map keyL := by
          have h1 := HLen.out
          rw [List.take_length] at heq
          rw [heq, h1, List.take_length]
        have hR0 := HR1.out hall
        clear heq hall HR1 HR2 hS1 hS2 HLen
        subst hR0
        go_wp2_with fail
        go_ret
        exact ⟨rfl, rfl, rfl, rfl, Nat.le_refl _, fun _ _ => rfl⟩
  · have hR0 := HR2.out (fun h => hlen (by have := congrArg List.length h; rw [List.length_map, List.length_map] at this; exact this))
    subst hR0
    have hc : ¬ (l.length : Int) = k.length := by omega
    clear HR1 HR2 hS1 hS2
    go_enter Try.func31, Try.ntmps31
    go_wp2_with fail
    go_ret
    exact ⟨rfl, Below.refl _ _⟩
set_option maxRecDepth 100000 in
set_option maxHeartbeats 3200000 in
theorem Same_any (A1 A2 : Option Addr) (cap1 cap2 D : Nat) (l k : List Lx) (w : World) (hS1 : Sl w D 3 A1 l.length cap1 (lxC l)) (hS2 : Sl w D 3 A2 k.length cap2 (lxC k)) (hD : D ≤ w.heap.size) (hn : l.length ≤ 100000) :
    Calls Try.prog 20 #[.slice A1 l.length cap1, .slice A2 k.length cap2] w fun e w' => e = .returned (.bool (decide (l.map keyL = k.map keyL))) ∧ Below w.heap.size w w' := by
  obtain ⟨R, hR⟩ : ∃ R : Bool, decide (l.map keyL = k.map keyL) = R := ⟨_, rfl⟩
  have HR1 := Lib.hid (show l.map keyL = k.map keyL → R = true from fun h => by rw [← hR]; exact decide_eq_true h)
  have HR2 := Lib.hid (show l.map keyL ≠ k.map keyL → R = false from fun h => by rw [← hR]; exact decide_eq_false h)
  rw [hR]
  clear hR
  by_cases hlen : l.length = k.length
  · have HLen := Lib.hid hlen
    have hcast : (l.length : Int) = k.length := by omega
    go_enter Try.func20, Try.ntmps20
    clear hlen
    go_wp2_with fail
    clear hcast
    go_loopw [14] (fun i W => ∃ j : Nat, j ≤ l.length ∧ i = .int .i64 j ∧ (l.take j).map keyL = (k.take j).map keyL ∧ Below w.heap.size w W) (fun i _ => l.length - (intOf i).toNat)
    case atStart => exact ⟨0, Nat.zero_le _, rfl, rfl, Below.refl _ _⟩
    case round =>
      obtain ⟨j, hj, rfl, heq, hBr⟩ := hrel
      have hsr := hBr.size
      by_cases hlt : j < l.length
      · have hlt2 : j < k.length := by have := HLen.out; omega
        have X1 := Blk.new wr 31 #[.int .i64 l[j].kind, .string ⟨l[j].text.toArray⟩, .int .i64 l[j].at_]
        have hb2 := (Below.refl wr.heap.size wr).alloc (Nat.le_refl _) (.cells #[.int .i64 l[j].kind, .string ⟨l[j].text.toArray⟩, .int .i64 l[j].at_] 31)
        have T1 := hS1.below hBr hD
        have T2 := (hS2.below hBr hD).below hb2 (by omega)
        obtain ⟨b, o, rfl, hb, c0, c1, c2⟩ := sl_lx T1 hlt
        obtain ⟨b2, o2, rfl, hb3, d0, d1, d2⟩ := sl_lx T2 hlt2
        have HIs := Lib.hid (fun W => Is_any k[j] l[j].kind l[j].text W)
        have hsn : (l.take (j + 1)).map keyL = (l.take j).map keyL ++ [keyL l[j]] := by rw [take_snoc l j hlt, List.map_append]; rfl
        have hsn2 : (k.take (j + 1)).map keyL = (k.take j).map keyL ++ [keyL k[j]] := by rw [take_snoc k j hlt2, List.map_append]; rfl
        have hne : keyL l[j] ≠ keyL k[j] → l.map keyL ≠ k.map keyL := fun h h' => by
          have e1 : (l.map keyL)[j]? = some (keyL l[j]) := by rw [List.getElem?_map, List.getElem?_eq_getElem hlt]; rfl
          have e2 : (k.map keyL)[j]? = some (keyL k[j]) := by rw [List.getElem?_map, List.getElem?_eq_getElem hlt2]; rfl
          rw [h', e2] at e1
          injection e1 with e1
          exact h e1.symm
        have hbs := hb2.size
        have hltX := X1.lt
        obtain ⟨x0, x1, x2, _, _, _⟩ := cells3 X1
        have hB2 := Lib.hid (below_on hBr hb2 (Nat.le_refl _))
        clear X1 hb2 T1 T2 hBr
        generalize l[j] = t at *
        generalize k[j] = u at *
        obtain ⟨sy, x, a⟩ := t
        obtain ⟨sy2, y, a2⟩ := u
        unfold Lx.v keyL at HIs
        unfold keyL at hsn hsn2 hne
        simp only at *
        have H1 := Lib.hid hsn
        have H2 := Lib.hid hsn2
        have HN := Lib.hid hne
        have HQ := Lib.hid heq
        have hbw : b2 < wr.heap.size := by omega
        clear hsn hsn2 hne heq
        go_wp2_with fail
        generalize wr.alloc (.cells #[.int .i64 sy, .string ⟨x.toArray⟩, .int .i64 a] 31) = wv at *
        have hbw2 : b2 < wv.heap.size := by omega
        have KI := Lib.hid (fun W (hW : Below wv.heap.size wv W) => (HIs.out W).mono fun e W' ⟨he, hb⟩ => And.intro he (hW.trans (hb.mono hW.size)))
        have hb0 := (Below.refl wv.heap.size wv).drew
        clear HIs c0 c1 c2
        have hlk : j < k.length := hlt2
        have hlkz : (j : Int) < k.length := by omega
        by_cases ht : (sy2, y) = (sy, x)
        · rw [decide_eq_true ht] at KI
          injection ht with e1 e2
          subst e1 e2
          go_region_held3 (fun W => Below wv.heap.size wv W ∧ W.cell? ⟨wr.heap.size, 0, none⟩ = some (.int .i64 sy2) ∧ W.cell? ⟨wr.heap.size, 1, none⟩ = some (.string ⟨y.toArray⟩) ∧ W.cell? ⟨b2, o2 + j * 3, none⟩ = some (.int .i64 sy2) ∧ W.cell? ⟨b2, o2 + j * 3 + 1, none⟩ = some (.string ⟨y.toArray⟩) ∧ W.cell? ⟨b2, o2 + j * 3 + 2, none⟩ = some (.int .i64 a2))
            (exact ⟨by assumption, ((by assumption : Below wv.heap.size wv _).cell (p := ⟨wr.heap.size, 0, none⟩) hltX).trans x0, ((by assumption : Below wv.heap.size wv _).cell (p := ⟨wr.heap.size, 1, none⟩) hltX).trans x1, ((by assumption : Below wv.heap.size wv _).cell (p := ⟨b2, o2 + j * 3, none⟩) hbw2).trans d0, ((by assumption : Below wv.heap.size wv _).cell (p := ⟨b2, o2 + j * 3 + 1, none⟩) hbw2).trans d1, ((by assumption : Below wv.heap.size wv _).cell (p := ⟨b2, o2 + j * 3 + 2, none⟩) hbw2).trans d2⟩)
            (first
              | (go_at_call 28; refine (KI.out _ ?_).mono ?_; (exact (by assumption : _ ∧ _).1); rintro e w3 ⟨rfl, hb3⟩))
          go_wp2_with fail
          go_roundw
          case rel => exact ⟨j + 1, by omega, by go_num, by show List.map keyL _ = List.map keyL _; unfold keyL; rw [H1.out, H2.out]; have := HQ.out; unfold keyL at this; rw [this], below_on hB2.out (by assumption) (Nat.le_refl _)⟩
          case measure => simp [intOf]; omega
        · rw [decide_eq_false ht] at KI
          have hR0 := HR2.out (HN.out (fun h => ht h.symm))
          subst hR0
          clear ht HR1 HR2 HN H1 H2 HQ
          go_region_held3 (fun W => Below wv.heap.size wv W ∧ W.cell? ⟨wr.heap.size, 0, none⟩ = some (.int .i64 sy) ∧ W.cell? ⟨wr.heap.size, 1, none⟩ = some (.string ⟨x.toArray⟩) ∧ W.cell? ⟨b2, o2 + j * 3, none⟩ = some (.int .i64 sy2) ∧ W.cell? ⟨b2, o2 + j * 3 + 1, none⟩ = some (.string ⟨y.toArray⟩) ∧ W.cell? ⟨b2, o2 + j * 3 + 2, none⟩ = some (.int .i64 a2))
            (exact ⟨by assumption, ((by assumption : Below wv.heap.size wv _).cell (p := ⟨wr.heap.size, 0, none⟩) hltX).trans x0, ((by assumption : Below wv.heap.size wv _).cell (p := ⟨wr.heap.size, 1, none⟩) hltX).trans x1, ((by assumption : Below wv.heap.size wv _).cell (p := ⟨b2, o2 + j * 3, none⟩) hbw2).trans d0, ((by assumption : Below wv.heap.size wv _).cell (p := ⟨b2, o2 + j * 3 + 1, none⟩) hbw2).trans d1, ((by assumption : Below wv.heap.size wv _).cell (p := ⟨b2, o2 + j * 3 + 2, none⟩) hbw2).trans d2⟩)
            (first
              | (go_at_call 28; refine (KI.out _ ?_).mono ?_; (exact (by assumption : _ ∧ _).1); rintro e w3 ⟨rfl, hb3⟩))
          go_wp2_with fail
          go_ret
          exact ⟨rfl, below_on hB2.out (by assumption) (Nat.le_refl _)⟩
      · obtain rfl : j = l.length := by omega
        have hall : l.map keyL = k.map keyL := by
          have h1 := HLen.out
          rw [List.take_length] at heq
          rw [heq, h1, List.take_length]
        have hR0 := HR1.out hall
        have hnl : ¬ l.length < k.length := by have := HLen.out; omega
        have hnlz : ¬ (l.length : Int) < (k.length : Int) := by have := HLen.out; omega
        clear heq hall HR1 HR2 hS1 hS2 HLen
        subst hR0
        go_wp2_with fail
        go_ret
        exact ⟨rfl, hBr⟩
  · have hR0 := HR2.out (fun h => hlen (by have := congrArg List.length h; rw [List.length_map, List.length_map] at this; exact this))
    subst hR0
    have hc : ¬ (l.length : Int) = k.length := by omega
    clear HR1 HR2 hS1 hS2
    go_enter Try.func20, Try.ntmps20
    go_wp2_with fail
    go_ret
    exact ⟨rfl, Below.refl _ _⟩
end Go.Proofs.Ytklfaccjbdkfhaa
