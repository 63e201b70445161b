/- The reference: Check, ok, own. No condition. -/
import Derived.Test.YtbobpgjgknkogaaI29
namespace Go.Proofs.Ytbobpgjgknkogaa
open Go.RowKit Go.Maps
theorem atR_ge (l : List (List UInt8)) (s : List UInt8) : decide (0 ≤ atR l s) = l.contains s := by
  unfold atR
  cases hq : idxF l s with
  | none =>
    have := idxF_none.1 hq
    simp [this]
  | some i =>
    have : s ∈ l := by
      by_cases h : s ∈ l
      · exact h
      · rw [idxF_none.2 h] at hq; cases hq
    simp [this]
theorem rAt_take (A : Option Addr) (cap D : Nat) (l : List (List UInt8)) (k : Nat) (hk : k ≤ l.length) (s : List UInt8) (w : World) (hS : Sl w D 1 A l.length cap (l.map strV)) (hn : l.length ≤ 1000) :
    Calls Try.prog 43 #[.slice A k cap, .string ⟨s.toArray⟩] w fun e w' => e = .returned (.int .i64 (atR (l.take k) s)) ∧ w' = w := by
  have h1 : (l.take k).length = k := by rw [List.length_take]; exact Nat.min_eq_left hk
  have h2 := hS.take hk
  rw [Nat.mul_one, ← List.map_take] at h2
  have h := rAt_any A cap D (l.take k) s w (by rw [h1]; exact h2) (by omega)
  rw [h1] at h
  exact h
set_option maxRecDepth 100000 in
set_option maxHeartbeats 6400000 in
theorem rCheck_any (A : Option Addr) (cap D : Nat) (l : List (List UInt8)) (w : World) (hS : Sl w D 1 A l.length cap (l.map strV)) (hD : D ≤ w.heap.size) (hn : l.length ≤ 1000) (hl : ∀ s ∈ l, s.length ≤ maxLen) :
    Calls Try.prog 13 #[.agg #[.slice A l.length cap]] w fun e w' => e = .returned (.tuple #[.int .i64 (chkT l).1, .int .i64 (chkT l).2]) ∧ Below w.heap.size w w' := by
  have b0 := Blk.new w 24 #[.slice A l.length cap]
  have hB0 := (Below.refl w.heap.size w).alloc (Nat.le_refl _) (.cells #[.slice A l.length cap] 24)
  have hR : chkT l = if 32 < l.length then (6, 0) else chkFrom l 0 l := rfl
  generalize chkT l = R at *
  have HB := Lib.hid (And.intro b0 hB0)
  have HS := Lib.hid hS
  have HL := Lib.hid hl
  have hcap := hS.2.1
  clear b0 hB0 hS hl
  by_cases h32 : 32 < l.length
  · rw [if_pos h32] at hR
    subst hR
    have hz : (32 : Int) < l.length := by omega
    go_enter Try.func13, Try.ntmps13
    go_wp2_with fail
    go_ret2
    exact ⟨rfl, HB.out.2⟩
  · rw [if_neg h32] at hR
    have hz : ¬ (32 : Int) < l.length := by omega
    have HR := Lib.hid (show R = chkFrom l 0 (l.drop 0) from hR)
    clear hR
    go_enter Try.func13, Try.ntmps13
    go_wp2_with fail
    clear hz h32
    go_loopw [4] (fun i W => ∃ k : Nat, k ≤ l.length ∧ i = .int .i64 k ∧ R = chkFrom l k (l.drop k) ∧ Blk W w.heap.size 24 #[.slice A l.length cap] ∧ Below w.heap.size w W) (fun i _ => l.length - (intOf i).toNat)
    case atStart => exact ⟨0, Nat.zero_le _, rfl, HR.out, HB.out.1, HB.out.2⟩
    case round =>
      obtain ⟨k, hk, rfl, hRk, b0, hB⟩ := hrel
      have c0 := (cells1 b0).1
      by_cases hlt : k < l.length
      · have hSw := HS.out.below hB hD
        obtain ⟨bb, o, rfl, hbb, d0⟩ := sl_str hSw hlt
        rw [chkFrom_drop l k hlt] at hRk
        have hs := HL.out l[k] (List.getElem_mem hlt)
        have HN := Lib.hid (rName_any l[k] wr hs)
        have HA := Lib.hid (rAt_take (some ⟨bb, o, none⟩) cap D l k hk l[k] wr.drew hSw hn)
        have hge := atR_ge (l.take k) l[k]
        generalize atR (l.take k) l[k] = ar at *
        generalize (l.take k).contains l[k] = cn at *
        generalize nameE l[k] = ne at *
        generalize l[k] = s at *
        have hkc : k ≤ cap := Nat.le_trans hk hcap
        have hkc2 : (k : Int) ≤ cap := by omega
        have HK := Lib.hid (And.intro b0 hB)
        have HRk := Lib.hid hRk
        have HGe := Lib.hid hge
        clear hRk hSw b0 hB HR HB hge
        by_cases hne : ne = 0
        · subst hne
          go_wp2_with fail
          refine HN.out.mono ?_
          rintro e w2 ⟨rfl, rfl⟩
          cases cn
          · have hlt0 : ¬ (0 : Int) ≤ ar := of_decide_eq_false HGe.out
            have hR2 : R = chkFrom l (k + 1) (l.drop (k + 1)) := by rw [HRk.out]; simp
            have HR2 := Lib.hid hR2
            clear hR2
            go_wp2_with fail
            go_region_held3 (fun W => W.cell? ⟨w.heap.size, 0, none⟩ = some (.slice (some ⟨bb, o, none⟩) l.length cap) ∧ W.cell? ⟨bb, o + k, none⟩ = some (.string ⟨s.toArray⟩))
              (exact ⟨c0, d0⟩)
              (first
                | (go_at_call 43; refine HA.out.mono ?_; rintro e w3 ⟨rfl, rfl⟩))
            go_wp2_with fail
            go_roundw
            case rel => exact ⟨k + 1, by omega, by go_num, HR2.out, HK.out.1.drew, HK.out.2.drew⟩
            case measure => simp [intOf]; omega
          · have hlt0 : (0 : Int) ≤ ar := of_decide_eq_true HGe.out
            have hR2 : R = (8, k) := by rw [HRk.out]; simp
            subst hR2
            go_wp2_with fail
            go_region_held3 (fun W => W.cell? ⟨w.heap.size, 0, none⟩ = some (.slice (some ⟨bb, o, none⟩) l.length cap) ∧ W.cell? ⟨bb, o + k, none⟩ = some (.string ⟨s.toArray⟩))
              (exact ⟨c0, d0⟩)
              (first
                | (go_at_call 43; refine HA.out.mono ?_; rintro e w3 ⟨rfl, rfl⟩))
            go_wp2_with fail
            go_ret2
            exact ⟨rfl, HK.out.2.drew⟩
        · have hR2 : R = (ne, k) := by rw [HRk.out, if_neg hne]
          have hnb : (ne != 0) = true := bne_iff_ne.2 hne
          subst hR2
          clear HA HGe HRk
          go_wp2_with fail
          refine HN.out.mono ?_
          rintro e w2 ⟨rfl, rfl⟩
          go_wp2_with fail
          go_ret2
          exact ⟨rfl, HK.out.2⟩
      · obtain rfl : k = l.length := by omega
        rw [List.drop_length] at hRk
        have hR2 : R = (0, 0) := hRk
        have HB2 := Lib.hid hB
        subst hR2
        clear hRk b0 hB HR HB
        go_wp2_with fail
        go_ret2
        exact ⟨rfl, HB2.out⟩
set_option maxRecDepth 100000 in
theorem rOk_any (A : Option Addr) (cap D : Nat) (l : List (List UInt8)) (w : World) (hS : Sl w D 1 A l.length cap (l.map strV)) (hD : D ≤ w.heap.size) (hn : l.length ≤ 1000) (hl : ∀ s ∈ l, s.length ≤ maxLen) :
    Calls Try.prog 46 #[.agg #[.slice A l.length cap]] w fun e w' => e = .returned (.int .i64 (chkT l).1) ∧ Below w.heap.size w w' := by
  have hB0 := (Below.refl w.heap.size w).alloc (Nat.le_refl _) (.cells #[.slice A l.length cap] 24)
  have HC := Lib.hid (rCheck_any A cap D l _ (hS.below hB0 hD) (Nat.le_trans hD hB0.size) hn hl)
  generalize chkT l = R at *
  have HB := Lib.hid hB0
  clear hS hl hB0
  go_enter Try.func46, Try.ntmps46
  go_wp2_with fail
  refine HC.out.mono ?_
  rintro e w1 ⟨rfl, hb1⟩
  have HB1 := Lib.hid (below_on HB.out hb1 (Nat.le_refl _))
  clear hb1
  go_wp2_with fail
  go_ret
  exact ⟨rfl, HB1.out⟩
set_option maxRecDepth 100000 in
set_option maxHeartbeats 1600000 in
theorem rOwn_any (A : Option Addr) (cap D : Nat) (l : List (List UInt8)) (w : World) (hS : Sl w D 1 A l.length cap (l.map strV)) (hD : D ≤ w.heap.size) (hn : l.length ≤ 1000) :
    Calls Try.prog 45 #[.agg #[.slice A l.length cap]] w fun e w' => (∃ A2 c2, e = .returned (.agg #[.slice A2 l.length c2]) ∧ Own w' w.heap.size 9 1 A2 l.length c2 (l.map strV)) ∧ Below w.heap.size w w' := by
  obtain ⟨i0, hi0, hz0, hz1, hz2⟩ := info_parts infoS
  obtain ⟨b0, b1, hB0⟩ := two w (.slice A l.length cap)
  have hone := str_one l
  have hm1 : 0 + l.length ≤ maxLen := by simp only [maxLen]; omega
  have hm2 : (0 + l.length) * 16 ≤ 140737488355328 := by omega
  have hz : ((w.alloc (.cells #[.slice A l.length cap] 24)).alloc (.cells #[.slice none 0 0] 24)).heap.size = w.heap.size + 1 + 1 := by simp
  have hB1 := hB0.alloc hB0.size (.cells #[] 9)
  have hS1 := hS.below hB1 hD
  have b2 := b1.alloc (.cells #[] 9)
  have hO := Own.bare (((w.alloc (.cells #[.slice A l.length cap] 24)).alloc (.cells #[.slice none 0 0] 24)).alloc (.cells #[] 9)) w.heap.size 9 1 (some ⟨w.heap.size + 1 + 1, 0, none⟩)
  have hbs := hB1.size
  have HB := Lib.hid (And.intro hB1 b2)
  clear b0 b1 b2 hB0 hB1 hz hS
  go_enter Try.func45, Try.ntmps45
  go_wp2_with (at_builtin; refine wpList_append_o _ rfl _ _ _ rfl w.heap.size 9 i0 _ 1 16 Try.underlying22 hi0 hz0 hz1 hz2 rfl (by decide) rfl hO rfl hS1 hone hm1 hm2 hbs ?_; intro A2 c2 w5 o5 hg5 hat5; have b5 := HB.out.2.grown hg5 (by simp [blockOf]); obtain ⟨q5, f5⟩ := cells1 b5)
  have hB5 := grown_below HB.out.1 hO hg5 hbs
  rw [Nat.zero_add, List.nil_append] at o5
  have o6 := o5.farNe (p := ⟨w.heap.size + 1, 0, none⟩) (o5.ne_blk (by decide) b5) (.slice A2 l.length c2)
  have HR := Lib.hid (And.intro o6 (hB5.setCell (p := ⟨w.heap.size + 1, 0, none⟩) (by show w.heap.size ≤ w.heap.size + 1; omega) (.slice A2 l.length c2)))
  have b6 := b5.set 0 (.slice A2 l.length c2)
  exact bodyPost_ret (results_cell_blk rfl _ _ (w.heap.size + 1) _ _ _ rfl b6 Try.underlying24 rfl (by kernel_rfl)) rfl ⟨⟨A2, c2, rfl, HR.out.1⟩, HR.out.2⟩
end Go.Proofs.Ytbobpgjgknkogaa
