/- Slices of tokens: the walk of the reference's Place. -/
import Derived.Test.YtdndomjmnlpjgaaT33
namespace Go.Proofs.Ytdndomjmnlpjgaa
open Go.RowKit
theorem sl_newT (w : World) (l : List Tok) (cs : Array Value) (h : cs.toList = tokC l) (hm : l.length ≤ maxLen) :
    Sl (w.alloc (.cells cs 41)) (w.heap.size + 1) 3 (some ⟨w.heap.size, 0, none⟩) l.length l.length (tokC l) :=
  ⟨tokC_len l, Nat.le_refl _, hm, fun _ => ⟨w.heap.size, 0, rfl, by omega, fun j u hu => by
    rw [Nat.zero_add, (Blk.new w 41 cs).cell j, ← hu, ← h, Array.getElem?_toList]⟩⟩
set_option maxRecDepth 100000 in
set_option maxHeartbeats 3200000 in
theorem refPlace_any (A : Option Addr) (cap D : Nat) (l : List Tok) (n a : Int) (w : World) (hS : Sl w D 3 A l.length cap (tokC l)) (hD : D ≤ w.heap.size) (hn : l.length ≤ 2000) (hl : ∀ t ∈ l, t.text.length ≤ 10000) :
    Calls Try.prog 48 #[.slice A l.length cap, .int .i64 n, .int .i64 a] w fun e w' => ∃ A2 cap2, e = .returned (.tuple #[.slice A2 (placeR l n a).length cap2, .int .i64 (placeE l n a)]) ∧ Sl w' w'.heap.size 3 A2 (placeR l n a).length cap2 (tokC (placeR l n a)) ∧ Below w.heap.size w w' := by
  obtain ⟨i0, hi0, hz0, hz1, hz2⟩ := info_parts infoT
  by_cases hlong : 1000 < l.length
  · have hE : placeE l n a = 6 := if_pos hlong
    have hR : placeR l n a = [] := if_neg (by rw [hE]; decide)
    rw [hE, hR]
    clear hE hR hS hl
    go_enter Try.func48, Try.ntmps48
    go_wp2_with fail
    go_ret2
    exact ⟨none, 0, rfl, Sl.nil _ _ _, Below.refl _ _⟩
  · obtain ⟨F1, F2, F3, F4⟩ := place_facts l n a hlong hl
    obtain ⟨PE, hPE⟩ : ∃ P, placeE l n a = P := ⟨_, rfl⟩
    obtain ⟨PR, hPR⟩ : ∃ P, placeR l n a = P := ⟨_, rfl⟩
    rw [hPE, hPR] at F1 F2 F3 F4 ⊢
    clear hPE hPR
    have G1 := Lib.hid F1; clear F1
    have G2 := Lib.hid F2; clear F2
    have G3 := Lib.hid F3; clear F3
    have G4 := Lib.hid F4; clear F4
    have hZl : (zeroL l).length = l.length := by unfold zeroL; rw [List.length_map]
    have hZg : ∀ (k : Nat) (h : k < l.length) (h' : k < (zeroL l).length), (zeroL l)[k] = ⟨l[k].sym, l[k].text, 0⟩ := fun k h h' => by simp [zeroL]
    obtain ⟨Z, hZ⟩ : ∃ Z, zeroL l = Z := ⟨_, rfl⟩
    rw [hZ] at G1 G2 G3 G4 hZl
    have hZg' : ∀ (k : Nat) (h : k < l.length) (h' : k < Z.length), Z[k] = ⟨l[k].sym, l[k].text, 0⟩ := by subst hZ; exact hZg
    have HZ := Lib.hid hZg'
    have HZl := Lib.hid hZl
    clear hZg hZg' hZl hZ
    obtain ⟨ze, hze⟩ : ∃ z, listE1 Z n = z := ⟨_, rfl⟩
    rw [hze] at G1 G2 G3 G4
    have Hl := Lib.hid hl
    clear hl
    go_enter Try.func48, Try.ntmps48
    go_wp2_with fail
    go_loopw [8] (fun i W => ∃ k : Nat, k ≤ l.length ∧ i = .int .i64 k ∧ ze = listE1 (Z.drop k) n ∧ Below w.heap.size w W) (fun i _ => l.length - (intOf i).toNat)
    case atStart => exact ⟨0, Nat.zero_le _, rfl, hze.symm, Below.refl _ _⟩
    case round =>
      obtain ⟨k, hk, rfl, heq, hB⟩ := hrel
      clear hze
      by_cases hlt : k < l.length
      · have hltZ : k < Z.length := by rw [HZl.out]; exact hlt
        obtain ⟨b, o, rfl, hb, c0, c1, c2⟩ := sl_tok (hS.below hB hD) hlt
        rw [listE1_drop Z n k hltZ, HZ.out k hlt hltZ] at heq
        have htl := Hl.out l[k] (List.getElem_mem hlt)
        have HC := fun W => refCheck_any ⟨l[k].sym, l[k].text, 0⟩ n W (by simp only; unfold maxLen; omega)
        generalize l[k] = t at *
        obtain ⟨sy, x, at_⟩ := t
        unfold Tok.v at HC
        simp only at *
        generalize checkE ⟨sy, x, 0⟩ n = ce at *
        have HC' := Lib.hid HC
        have HB := Lib.hid (hB.alloc hB.size (.cells #[.int .i64 sy, .string ⟨x.toArray⟩, .int .i64 0] 41))
        have HS := Lib.hid hS
        clear hB HC hS
        by_cases hce : ce = 0
        · rw [if_pos hce] at heq
          subst hce
          have HE := Lib.hid heq
          clear heq
          go_wp2_with fail
          refine (HC'.out _).mono ?_
          rintro e w3 ⟨rfl, hb3⟩
          go_wp2_with fail
          go_roundw
          case rel => exact ⟨k + 1, by omega, by go_num, HE.out, below_on HB.out hb3 (Nat.le_refl _)⟩
          case measure => simp [intOf]; omega
        · rw [if_neg hce] at heq
          subst heq
          obtain ⟨rfl, rfl⟩ := G1.out hce
          clear G1 G2 G3 G4
          go_wp2_with fail
          refine (HC'.out _).mono ?_
          rintro e w3 ⟨rfl, hb3⟩
          go_wp2_with fail
          go_ret2
          exact ⟨none, 0, rfl, Sl.nil _ _ _, below_on HB.out hb3 (Nat.le_refl _)⟩
      · obtain rfl : k = l.length := by omega
        rw [List.drop_eq_nil_of_le (by rw [HZl.out]; exact Nat.le_refl _)] at heq
        have hz0' : ze = 0 := heq
        clear heq G1
        subst hz0'
        by_cases hca : countsB a = true
        · have ha : 0 ≤ a ∧ a ≤ 1099511627776 := by unfold countsB at hca; simp at hca; omega
          obtain ⟨ha0, ha1⟩ := ha
          have K3 := Lib.hid (G3.out rfl hca)
          have K4 := Lib.hid (G4.out rfl hca)
          clear G2 G3 G4 hca
          go_wp2_with fail
          go_loopw [2, 11, 12] (fun v out i W => ∃ (k : Nat) (A2 : Option Addr) (cap2 : Nat), k ≤ l.length ∧ i = .int .i64 k ∧ v = .int .i64 (endL (l.take k) a) ∧ out = .slice A2 k cap2 ∧ Own W w.heap.size 41 3 A2 k cap2 (tokC (placeL (l.take k) a)) ∧ Below w.heap.size w W) (fun _ _ i _ => l.length - (intOf i).toNat)
          case atStart => exact ⟨0, none, 0, Nat.zero_le _, rfl, rfl, rfl, Own.nil _ _ _ _, hB⟩
          case round =>
            obtain ⟨k, A2, cap2, hk, rfl, rfl, rfl, hown, hB2⟩ := hrel
            clear hB
            by_cases hlt : k < l.length
            · obtain ⟨b, o, rfl, hb, c0, c1, c2⟩ := sl_tok (hS.below hB2 hD) hlt
              obtain ⟨hp1, hp2⟩ := placeL_snoc l k hlt a
              have htl := Hl.out l[k] (List.getElem_mem hlt)
              have hbd := endL_bound (l.take k) a 10000 (fun t ht => Hl.out t (List.mem_of_mem_take ht))
              rw [List.length_take] at hbd
              have hbd2 : 0 ≤ endL (l.take k) a ∧ endL (l.take k) a ≤ 1099611627776 := by
                have : min k l.length ≤ 1000 := by omega
                have : ((min k l.length : Nat) : Int) * (2 + (10000 : Nat)) ≤ 1000 * 10002 := by omega
                omega
              have hlen : (placeL (l.take k) a).length = k := by rw [placeL_len, List.length_take]; omega
              generalize placeL (l.take k) a = P0 at *
              generalize endL (l.take k) a = E0 at *
              generalize l[k] = t at *
              obtain ⟨sy, x, at_⟩ := t
              simp only at *
              have hT := Blk.new wr 41 #[.int .i64 sy, .string ⟨x.toArray⟩, .int .i64 E0]
              have hB3 := hB2.alloc hB2.size (.cells #[.int .i64 sy, .string ⟨x.toArray⟩, .int .i64 E0] 41)
              have hown3 := hown.alloc (.cells #[.int .i64 sy, .string ⟨x.toArray⟩, .int .i64 E0] 41)
              have HP := Lib.hid hp1
              have HE := Lib.hid hp2
              have HK := Lib.hid hlen
              have HS' := Lib.hid hS
              have HNE := Lib.hid (show some wr.heap.size ≠ blockOf A2 cap2 from fun e => by have := (hown.lt e.symm).2; omega)
              obtain ⟨hbd3, hbd4⟩ := hbd2
              clear hp1 hp2 hlen hown hB2 hbd hS
              have hne : some wr.heap.size ≠ blockOf A2 cap2 := HNE.out
              have HSz := Lib.hid (fun W => refSize_any ⟨sy, x, E0⟩ W (by simp only; omega))
              unfold Tok.v at HSz
              simp only at HSz
              have hone : ∀ u ∈ [Value.int .i64 sy, .string ⟨x.toArray⟩, .int .i64 E0], u.oneCell' = true := by simp [Value.oneCell']
              have hwe : IntKind.i64.wrap (E0 + (2 + (x.length : Int))) = E0 + (2 + (x.length : Int)) := Go.IntWalk.i64_in _ (by omega)
              have hsz4 := hB3.size
              have hgl := hT.lt
              go_wp2_with fail
              generalize wr.alloc (.cells #[.int .i64 sy, .string ⟨x.toArray⟩, .int .i64 E0] 41) = wb at *
              have hTn := (hT.alloc (.cells #[.int .i64 sy, .string ⟨x.toArray⟩, .int .i64 E0] 41)).drew
              have hBn := (hB3.alloc hsz4 (.cells #[.int .i64 sy, .string ⟨x.toArray⟩, .int .i64 E0] 41)).drew
              have hownN := (hown3.alloc (.cells #[.int .i64 sy, .string ⟨x.toArray⟩, .int .i64 E0] 41)).drew
              have hslN := (sl_newT wb [⟨sy, x, E0⟩] #[.int .i64 sy, .string ⟨x.toArray⟩, .int .i64 E0] rfl (by simp [maxLen])).drew
              have hm1 : k + 1 ≤ maxLen := by simp only [maxLen]; omega
              have hm2 : (k + 1) * 32 ≤ 140737488355328 := by omega
              have hm3 : w.heap.size ≤ (wb.alloc (.cells #[.int .i64 sy, .string ⟨x.toArray⟩, .int .i64 E0] 41)).drew.heap.size := hBn.size
              go_region_held3 (fun W => W.cell? ⟨wr.heap.size, 0, none⟩ = some (.int .i64 sy) ∧ W.cell? ⟨wr.heap.size, 1, none⟩ = some (.string ⟨x.toArray⟩) ∧ W.cell? ⟨wr.heap.size, 2, none⟩ = some (.int .i64 E0))
                (first
                  | exact ⟨hT5.cell 0, hT5.cell 1, hT5.cell 2⟩
                  | exact ⟨hT4.cell 0, hT4.cell 1, hT4.cell 2⟩
                  | exact ⟨hTn.cell 0, hTn.cell 1, hTn.cell 2⟩
                  | exact ⟨hT.cell 0, hT.cell 1, hT.cell 2⟩)
                (first
                  | (refine step_append_o _ (by rfl) (.tmp 52) (.tmp 54) 24 (by rfl) w.heap.size 41 i0 _ 3 32 Try.underlying24 hi0 hz0 hz1 hz2 rfl (by decide) (by rfl) hownN (by rfl) hslN hone hm1 hm2 hm3 ?_; intro A4 cap4 W4 hown4 hg4 hat4; have hT4 := hTn.grown hg4 hne)
                  | (go_at_call 38; refine (HSz.out _).mono ?_; rintro e w5 ⟨rfl, hb5⟩; have hT5 := Blk.on hT4 hb5))
              have hB5 := below_on (grown_below hBn hownN hg4 hm3) hb5 (Nat.le_refl _)
              have hown5 := hown4.below hb5 (Nat.le_refl _)
              go_wp2_with fail
              go_roundw
              case rel =>
                refine ⟨k + 1, A4, cap4, by omega, by go_num, by rw [HE.out], rfl, ?_, hB5⟩
                rw [HP.out, tokC_append]
                exact hown5
              case measure => simp [intOf]; omega
            · obtain rfl : k = l.length := by omega
              rw [List.take_length] at hown ⊢
              have hsl := hown.sl
              by_cases hbig : 1099511627776 < endL l a
              · obtain ⟨rfl, rfl⟩ := K3.out hbig
                generalize endL l a = E at *
                clear K3 K4 hown
                go_wp2_with fail
                go_ret2
                exact ⟨none, 0, rfl, Sl.nil _ _ _, hB2⟩
              · obtain ⟨rfl, rfl⟩ := K4.out (by omega)
                have hpl := placeL_len l a
                generalize endL l a = E at *
                clear K3 K4 hown
                go_wp2_with fail
                go_ret2
                exact ⟨A2, cap2, by first | rfl | (rw [hpl]; rfl), by first | exact hsl | (rw [hpl]; exact hsl), hB2⟩
        · have hcf : countsB a = false := by revert hca; cases countsB a <;> simp
          obtain ⟨rfl, rfl⟩ := G2.out rfl hcf
          have hcs : a < 0 ∨ 0 ≤ a ∧ 1099511627776 < a := by unfold countsB at hcf; simp at hcf; omega
          clear G2 G3 G4 hca hcf
          rcases hcs with h | ⟨h, h'⟩
          all_goals
            go_wp2_with fail
            go_ret2
            exact ⟨none, 0, rfl, Sl.nil _ _ _, hB⟩
end Go.Proofs.Ytdndomjmnlpjgaa
