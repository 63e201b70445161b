/- intern: put, with what it leaves alone. No condition. -/
import Derived.Test.YtbobpgjgknkogaaI16
namespace Go.Proofs.Ytbobpgjgknkogaa
open Go.RowKit Go.Maps
def putN (l : List (List UInt8)) (s : List UInt8) : Int := if s ∈ l then (((idxF l s).getD 0 : Nat) : Int) else if 32 ≤ l.length then 0 else (l.length : Int)
def putL (l : List (List UInt8)) (s : List UInt8) : List (List UInt8) := if s ∈ l then l else if 32 ≤ l.length then l else l ++ [s]
def putEr (l : List (List UInt8)) (er : Int) (s : List UInt8) : Int := if s ∈ l then er else if 32 ≤ l.length then 6 else er
theorem put_in {l : List (List UInt8)} {s : List UInt8} (er : Int) (h : s ∈ l) : putN l s = (((idxF l s).getD 0 : Nat) : Int) ∧ putL l s = l ∧ putEr l er s = er := ⟨if_pos h, if_pos h, if_pos h⟩
theorem put_full {l : List (List UInt8)} {s : List UInt8} (er : Int) (h : s ∉ l) (h2 : 32 ≤ l.length) : putN l s = 0 ∧ putL l s = l ∧ putEr l er s = 6 := ⟨(if_neg h).trans (if_pos h2), (if_neg h).trans (if_pos h2), (if_neg h).trans (if_pos h2)⟩
theorem put_free {l : List (List UInt8)} {s : List UInt8} (er : Int) (h : s ∉ l) (h2 : ¬ 32 ≤ l.length) : putN l s = l.length ∧ putL l s = l ++ [s] ∧ putEr l er s = er := ⟨(if_neg h).trans (if_neg h2), (if_neg h).trans (if_neg h2), (if_neg h).trans (if_neg h2)⟩
/-- What lies in other blocks than those of the table at work stays. -/
def Oth (w w' : World) (g bm : Nat) (r : Option Nat) : Prop := w.heap.size ≤ w'.heap.size ∧ ∀ k, k < w.heap.size → k ≠ g → k ≠ bm → some k ≠ r → w'.heap[k]? = w.heap[k]?
theorem Oth.own {w w' : World} {g bm : Nat} {r : Option Nat} (h : Oth w w' g bm r) {B s n cap : Nat} {e : TypeId} {A : Option Addr} {xs : List Value} (ho : Own w B e s A n cap xs) (h1 : blockOf A cap ≠ some g) (h2 : blockOf A cap ≠ some bm) (h3 : blockOf A cap = none ∨ blockOf A cap ≠ r) : Own w' B e s A n cap xs :=
  ho.keep fun k cur hk hb => by
    obtain ⟨fr, hh, hf⟩ := hb
    refine ⟨fr, (h.2 k (ho.lt hk).2 (fun e => h1 (by rw [hk, e])) (fun e => h2 (by rw [hk, e])) (fun e => ?_)).trans hh, hf⟩
    rcases h3 with h3 | h3
    · rw [hk] at h3; cases h3
    · exact h3 (by rw [hk, e])
/-- Two slices of the call's own of different types lie apart. -/
theorem Own.apart {w : World} {B B' s s' n n' cap cap' : Nat} {e e' : TypeId} {A A' : Option Addr} {xs xs' : List Value} (he : e ≠ e') (h : Own w B e s A n cap xs) (h' : Own w B' e' s' A' n' cap' xs') : blockOf A cap = none ∨ blockOf A cap ≠ blockOf A' cap' := by
  rcases h'.2.2.2 with h0 | ⟨g1, cur, rfl, _, hk, _, _⟩
  · have : blockOf A' cap' = none := by simp [blockOf, h0]
    rw [this]
    cases blockOf A cap with
    | none => exact .inl rfl
    | some _ => exact .inr (by simp)
  · by_cases h0 : cap' = 0
    · have : blockOf (some (⟨g1, 0, none⟩ : Addr)) cap' = none := by simp [blockOf, h0]
      rw [this]
      cases blockOf A cap with
      | none => exact .inl rfl
      | some _ => exact .inr (by simp)
    · have : blockOf (some (⟨g1, 0, none⟩ : Addr)) cap' = some g1 := by simp [blockOf, h0]
      rw [this]
      exact .inr (h.ne_blk he hk)
set_option maxRecDepth 100000 in
set_option maxHeartbeats 3200000 in
theorem put2_any (B g bm c : Nat) (A : Option Addr) (l : List (List UInt8)) (s : List UInt8) (er : Int) (w : World) (h : WK w B g bm l er A c) (hn : l.length ≤ 1000) (hs : s.length ≤ maxLen) (hBw : B ≤ w.heap.size) :
    Calls Try.prog 49 #[.pointer (some ⟨g, 0, none⟩), .string ⟨s.toArray⟩] w fun e w' =>
      (e = .returned (.int .i64 (putN l s)) ∧ ∃ A2 c2, WK w' B g bm (putL l s) (putEr l er s) A2 c2) ∧ Below B w w' ∧ Oth w w' g bm (blockOf A c) := by
  obtain ⟨i0, hi0, hz0, hz1, hz2⟩ := info_parts infoS
  obtain ⟨bW, hM, oO, hBm, hBg, hne⟩ := h
  obtain ⟨c0, c1, c2, f0, f1, f2⟩ := cells3 bW
  by_cases hin : s ∈ l
  · obtain ⟨i, hi⟩ : ∃ i, idxF l s = some i := by
      cases hq : idxF l s with
      | none => exact absurd hin (idxF_none.1 hq)
      | some i => exact ⟨i, rfl⟩
    have hI : (idxF l s).isSome = true := by rw [hi]; rfl
    have hD : (idxF l s).getD 0 = i := by rw [hi]; rfl
    have HW := Lib.hid (show WK w B g bm l er A c from ⟨bW, hM, oO, hBm, hBg, hne⟩)
    obtain ⟨q1, q2, q3⟩ := put_in er hin
    rw [q1, q2, q3, hD]
    clear q1 q2 q3
    go_enter Try.func49, Try.ntmps49
    go_wp2_with (at_lookup; refine wpList_num rfl _ _ rfl hM s hs rfl rfl ?_; rw [hI, hD])
    go_ret
    exact ⟨⟨rfl, A, c, HW.out⟩, Below.refl _ _, Nat.le_refl _, fun _ _ _ _ _ => rfl⟩
  · have hq : idxF l s = none := idxF_none.2 hin
    have hI : (idxF l s).isSome = false := by rw [hq]; rfl
    have hD : (idxF l s).getD 0 = 0 := by rw [hq]; rfl
    by_cases h32 : 32 ≤ l.length
    · have h32z : (32 : Int) ≤ l.length := by omega
      have HW := Lib.hid (show WK (w.setCell ⟨g, 2, none⟩ (.int .i64 6)) B g bm l 6 A c from ⟨bW.set 2 _, hM.setCell hne _, oO.farNe (oO.ne_blk (by decide) bW) _, hBm, hBg, hne⟩)
      have HB := Lib.hid ((Below.refl B w).setCell (p := ⟨g, 2, none⟩) hBg (.int .i64 6))
      have HO := Lib.hid (show Oth w (w.setCell ⟨g, 2, none⟩ (.int .i64 6)) g bm (blockOf A c) from ⟨by simp, fun k _ hk _ _ => Below.heap_setCell w ⟨g, 2, none⟩ (.int .i64 6) k hk⟩)
      obtain ⟨q1, q2, q3⟩ := put_full er hin h32
      rw [q1, q2, q3]
      clear q1 q2 q3
      go_enter Try.func49, Try.ntmps49
      go_wp2_with (at_lookup; refine wpList_num rfl _ _ rfl hM s hs rfl rfl ?_; rw [hI, hD])
      go_ret
      exact ⟨⟨rfl, A, c, HW.out⟩, HB.out, HO.out⟩
    · have h32z : ¬ (32 : Int) ≤ l.length := by omega
      obtain ⟨q1, q2, q3⟩ := put_free er hin h32
      rw [q1, q2, q3]
      clear q1 q2 q3
      have hkw : (Lit.int .i64 (l.length : Int)).wf = true := Go.WalkArith.wf_i64 (by omega)
      obtain ⟨w4, hrun, hM4, hg4⟩ := (hM.drew).update Try.underlying65 (by simp only [maxLen]; omega) s hs (plainElem_int Try.underlying3 hkw)
      have hM5 : MapF w4 3 bm (l.length + 1) (numF (l ++ [s])) := hM4.ext (numF_snoc hin)
      have bW4 := bW.drew.grown hg4 (by simpa using fun e => hne e.symm)
      have o4 := oO.drew.grown hg4 (.inr (oO.ne_map hM))
      have hB4 : Below B w w4 := (Below.refl B w).drew.grown hg4 hBw (fun j hj => by injection hj with hj; omega)
      obtain ⟨d0, d1, d2, e0, e1, e2⟩ := cells3 bW4
      have hsz4 := hB4.size
      have HH := Lib.hid (And.intro hM5 (And.intro bW4 (And.intro o4 hB4)))
      have hbase : B ≤ w4.heap.size := Nat.le_trans hBw hsz4
      have HO4 := Lib.hid (show w.heap.size ≤ w4.heap.size ∧ ∀ k, k < w.heap.size → k ≠ bm → w4.heap[k]? = w.heap[k]? from ⟨hg4.size, fun k hk hb => hg4.block k hk (by simpa using hb)⟩)
      clear hM4 hM5 bW4 hB4
      go_enter Try.func49, Try.ntmps49
      go_wp2_with (at_lookup; refine wpList_num rfl _ _ rfl hM s hs rfl rfl ?_; rw [hI, hD])
      go_region_held3 (fun W => W.cell? ⟨g, 0, none⟩ = some (.slice A l.length c) ∧ W.cell? ⟨g, 1, none⟩ = some (.map (some bm)))
        (first
          | exact ⟨c0, c1⟩
          | exact ⟨d0, d1⟩)
        (fail)
      have hw1 : wrap64 ((l.length : Int) + 1 - 1) = l.length := by unfold wrap64; omega
      go_wp2_with (at_builtin; refine wpList_append_new rfl _ _ _ rfl B 9 i0 _ 1 16 Try.underlying22 hi0 hz0 hz1 hz2 rfl (by decide) rfl o4 #[.string ⟨s.toArray⟩] rfl rfl (by simp [Value.oneCell']) (by simp only [maxLen]; omega) (by omega) hbase ?_; intro A5 c5 w5 o5 hg5 hat5; have bW5 := HH.out.2.1.grown hg5 (fun e => o4.ne_blk (by decide) HH.out.2.1 e.symm); obtain ⟨k0, k1, k2, z0, z1, z2⟩ := cells3 bW5)
      have hM6 := (HH.out.1.kept hg5 (fun e => o4.ne_map HH.out.1 e.symm)).setCell (a := ⟨g, 0, none⟩) hne (.slice A5 (l.length + 1) c5)
      have bW6 := bW5.set 0 (.slice A5 (l.length + 1) c5)
      have o6 := o5.farNe (p := ⟨g, 0, none⟩) (o5.ne_blk (by decide) bW5) (.slice A5 (l.length + 1) c5)
      have hB6 := (grown_below HH.out.2.2.2 o4 hg5 hbase).setCell (p := ⟨g, 0, none⟩) hBg (.slice A5 (l.length + 1) c5)
      have hO6 : Oth w (w5.setCell ⟨g, 0, none⟩ (.slice A5 (l.length + 1) c5)) g bm (blockOf A c) := ⟨by rw [World.size_setCell]; exact Nat.le_trans HO4.out.1 hg5.size, fun k hk h1 h2 h3 => ((Below.heap_setCell w5 ⟨g, 0, none⟩ _ k h1).trans (hg5.block k (Nat.lt_of_lt_of_le hk HO4.out.1) h3)).trans (HO4.out.2 k hk h2)⟩
      go_ret
      refine ⟨⟨rfl, A5, c5, ?_, ?_, ?_, hBm, hBg, hne⟩, hB6, hO6⟩
      · rw [List.length_append]; exact bW6
      · rw [List.length_append]; exact hM6
      · rw [List.length_append, List.map_append]; exact o6
end Go.Proofs.Ytbobpgjgknkogaa
