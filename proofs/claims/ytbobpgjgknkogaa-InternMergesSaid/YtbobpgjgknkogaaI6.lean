/- intern: put. No condition. -/
import Derived.Test.YtbobpgjgknkogaaI5
namespace Go.Proofs.Ytbobpgjgknkogaa
open Go.RowKit Go.Maps
set_option maxRecDepth 100000 in
set_option maxHeartbeats 3200000 in
theorem put_any (B g bm c : Nat) (A : Option Addr) (l : List (List UInt8)) (s : List UInt8) (er : Int) (w : World) (h : WK w B g bm l er A c) (hn : l.length ≤ 1000) (hs : s.length ≤ maxLen) (hBw : B ≤ w.heap.size) :
    Calls Try.prog 49 #[.pointer (some ⟨g, 0, none⟩), .string ⟨s.toArray⟩] w fun e w' =>
      ((s ∈ l ∧ e = .returned (.int .i64 (((idxF l s).getD 0 : Nat) : Int)) ∧ WK w' B g bm l er A c) ∨ (s ∉ l ∧ 32 ≤ l.length ∧ e = .returned (.int .i64 0) ∧ WK w' B g bm l 6 A c) ∨
        (s ∉ l ∧ l.length < 32 ∧ e = .returned (.int .i64 l.length) ∧ ∃ A2 c2, WK w' B g bm (l ++ [s]) er A2 c2)) ∧ Below B w w' := by
  obtain ⟨i0, hi0, hz0, hz1, hz2⟩ := info_parts infoS
  obtain ⟨bW, hM, oO, hBm, hBg, hne⟩ := h
  obtain ⟨c0, c1, c2, f0, f1, f2⟩ := cells3 bW
  by_cases hin : s ∈ l
  · obtain ⟨i, hi⟩ : ∃ i, idxF l s = some i := by
      cases hq : idxF l s with
      | none => exact absurd hin (idxF_none.1 hq)
      | some i => exact ⟨i, rfl⟩
    have hI : (idxF l s).isSome = true := by rw [hi]; rfl
    have hD : (idxF l s).getD 0 = i := by rw [hi]; rfl
    have HW := Lib.hid (show WK w B g bm l er A c from ⟨bW, hM, oO, hBm, hBg, hne⟩)
    rw [hD]
    go_enter Try.func49, Try.ntmps49
    go_wp2_with (at_lookup; refine wpList_num rfl _ _ rfl hM s hs rfl rfl ?_; rw [hI, hD])
    go_ret
    exact ⟨.inl ⟨hin, rfl, HW.out⟩, Below.refl _ _⟩
  · have hq : idxF l s = none := idxF_none.2 hin
    have hI : (idxF l s).isSome = false := by rw [hq]; rfl
    have hD : (idxF l s).getD 0 = 0 := by rw [hq]; rfl
    by_cases h32 : 32 ≤ l.length
    · have h32z : (32 : Int) ≤ l.length := by omega
      have HW := Lib.hid (show WK (w.setCell ⟨g, 2, none⟩ (.int .i64 6)) B g bm l 6 A c from ⟨bW.set 2 _, hM.setCell hne _, oO.farNe (oO.ne_blk (by decide) bW) _, hBm, hBg, hne⟩)
      have HB := Lib.hid ((Below.refl B w).setCell (p := ⟨g, 2, none⟩) hBg (.int .i64 6))
      go_enter Try.func49, Try.ntmps49
      go_wp2_with (at_lookup; refine wpList_num rfl _ _ rfl hM s hs rfl rfl ?_; rw [hI, hD])
      go_ret
      exact ⟨.inr (.inl ⟨hin, h32, rfl, HW.out⟩), HB.out⟩
    · have h32z : ¬ (32 : Int) ≤ l.length := by omega
      have hkw : (Lit.int .i64 (l.length : Int)).wf = true := Go.WalkArith.wf_i64 (by omega)
      obtain ⟨w4, hrun, hM4, hg4⟩ := (hM.drew).update Try.underlying65 (by simp only [maxLen]; omega) s hs (plainElem_int Try.underlying3 hkw)
      have hM5 : MapF w4 3 bm (l.length + 1) (numF (l ++ [s])) := hM4.ext (numF_snoc hin)
      have bW4 := bW.drew.grown hg4 (by simpa using fun e => hne e.symm)
      have o4 := oO.drew.grown hg4 (.inr (oO.ne_map hM))
      have hB4 : Below B w w4 := (Below.refl B w).drew.grown hg4 hBw (fun j hj => by injection hj with hj; omega)
      obtain ⟨d0, d1, d2, e0, e1, e2⟩ := cells3 bW4
      have hsz4 := hB4.size
      have HH := Lib.hid (And.intro hM5 (And.intro bW4 (And.intro o4 hB4)))
      have hbase : B ≤ w4.heap.size := Nat.le_trans hBw hsz4
      clear hM4 hM5 bW4 hB4
      go_enter Try.func49, Try.ntmps49
      go_wp2_with (at_lookup; refine wpList_num rfl _ _ rfl hM s hs rfl rfl ?_; rw [hI, hD])
      go_region_held3 (fun W => W.cell? ⟨g, 0, none⟩ = some (.slice A l.length c) ∧ W.cell? ⟨g, 1, none⟩ = some (.map (some bm)))
        (first
          | exact ⟨c0, c1⟩
          | exact ⟨d0, d1⟩)
        (fail)
      have hw1 : wrap64 ((l.length : Int) + 1 - 1) = l.length := by unfold wrap64; omega
      go_wp2_with (at_builtin; refine wpList_append_new rfl _ _ _ rfl B 9 i0 _ 1 16 Try.underlying22 hi0 hz0 hz1 hz2 rfl (by decide) rfl o4 #[.string ⟨s.toArray⟩] rfl rfl (by simp [Value.oneCell']) (by simp only [maxLen]; omega) (by omega) hbase ?_; intro A5 c5 w5 o5 hg5 hat5; have bW5 := HH.out.2.1.grown hg5 (fun e => o4.ne_blk (by decide) HH.out.2.1 e.symm); obtain ⟨k0, k1, k2, z0, z1, z2⟩ := cells3 bW5)
      have hM6 := (HH.out.1.kept hg5 (fun e => o4.ne_map HH.out.1 e.symm)).setCell (a := ⟨g, 0, none⟩) hne (.slice A5 (l.length + 1) c5)
      have bW6 := bW5.set 0 (.slice A5 (l.length + 1) c5)
      have o6 := o5.farNe (p := ⟨g, 0, none⟩) (o5.ne_blk (by decide) bW5) (.slice A5 (l.length + 1) c5)
      have hB6 := (grown_below HH.out.2.2.2 o4 hg5 hbase).setCell (p := ⟨g, 0, none⟩) hBg (.slice A5 (l.length + 1) c5)
      go_ret
      refine ⟨⟨by omega, rfl, A5, c5, ?_, ?_, ?_, hBm, hBg, hne⟩, hB6⟩
      · rw [List.length_append]; exact bW6
      · rw [List.length_append]; exact hM6
      · rw [List.length_append, List.map_append]; exact o6
end Go.Proofs.Ytbobpgjgknkogaa
