/- intern: Find, Name. No condition. -/
import Derived.Test.YtbobpgjgknkogaaI8
namespace Go.Proofs.Ytbobpgjgknkogaa
open Go.RowKit Go.Maps
/-- What Find answers. -/
def findR (l : List (List UInt8)) (s : List UInt8) : Nat × Int := if (chkT l).1 ≠ 0 then (0, (chkT l).1) else if nameE s ≠ 0 then (0, nameE s) else if s ∈ l then ((idxF l s).getD 0, 0) else (0, 7)
set_option maxRecDepth 100000 in
set_option maxHeartbeats 3200000 in
theorem Find_any (A : Option Addr) (cap D : Nat) (l : List (List UInt8)) (s : List UInt8) (w : World) (hS : Sl w D 1 A l.length cap (l.map strV)) (hD : D ≤ w.heap.size) (hn : l.length ≤ 1000) (hl : ∀ s ∈ l, s.length ≤ maxLen) (hs : s.length ≤ maxLen) :
    Calls Try.prog 21 #[.agg #[.slice A l.length cap], .string ⟨s.toArray⟩] w fun e w' => e = .returned (.tuple #[.int .i64 ((findR l s).1 : Int), .int .i64 (findR l s).2]) ∧ Below w.heap.size w w' := by
  have hB0 := (Below.refl w.heap.size w).alloc (Nat.le_refl _) (.cells #[.slice A l.length cap] 24)
  have HB := Lib.hid (begun_any A cap D l _ (hS.below hB0 hD) (Nat.le_trans hD hB0.size) hn hl)
  have HN := Lib.hid (fun W => nCheck_any s W hs)
  have hR : findR l s = if (chkT l).1 ≠ 0 then (0, (chkT l).1) else if nameE s ≠ 0 then (0, nameE s) else if s ∈ l then ((idxF l s).getD 0, 0) else (0, 7) := rfl
  generalize findR l s = R at *
  generalize hc0 : (chkT l).1 = c0 at *
  generalize nameE s = ne at *
  have HB0 := Lib.hid hB0
  clear hS hl hB0
  by_cases hc : c0 = 0
  · rw [if_neg (by simpa using hc)] at hR
    subst hc
    go_enter Try.func21, Try.ntmps21
    go_wp2_with fail
    refine HB.out.mono ?_
    rintro e w1 ⟨⟨hbad, _⟩ | ⟨hg, g, bm, A2, c2, rfl, hWK⟩, hb1⟩
    · exact absurd rfl hbad
    have hB1 := below_on HB0.out hb1 (Nat.le_refl _)
    have HW := Lib.hid (And.intro hWK hB1)
    clear hWK hB1 hb1 HB HB0
    go_wp2_with fail
    refine (HN.out _).mono ?_
    rintro e w2 ⟨rfl, hb2⟩
    have hWK := HW.out.1.below hb2
    have HB2 := Lib.hid (below_on HW.out.2 hb2 (Nat.le_refl _))
    clear hb2 HW HN
    by_cases hne : ne = 0
    · rw [if_neg (by simpa using hne)] at hR
      subst hne
      obtain ⟨p0, p1, p2, _⟩ := cells3 hWK.1
      have hM := hWK.2.1
      clear hWK
      by_cases hin : s ∈ l
      · rw [if_pos hin] at hR
        subst hR
        have hI : (idxF l s).isSome = true := by
          cases hq : idxF l s with
          | none => exact absurd hin (idxF_none.1 hq)
          | some i => rfl
        go_wp2_with (at_lookup; refine wpList_num rfl _ _ rfl hM s hs rfl rfl ?_; rw [hI])
        go_ret2
        exact ⟨rfl, HB2.out⟩
      · rw [if_neg hin] at hR
        subst hR
        have hI : (idxF l s).isSome = false := by rw [idxF_none.2 hin]; rfl
        go_wp2_with (at_lookup; refine wpList_num rfl _ _ rfl hM s hs rfl rfl ?_; rw [hI])
        go_ret2
        exact ⟨rfl, HB2.out⟩
    · rw [if_pos hne] at hR
      subst hR
      have hnb : (ne != 0) = true := bne_iff_ne.2 hne
      clear hWK
      go_wp2_with fail
      go_ret2
      exact ⟨rfl, HB2.out⟩
  · rw [if_pos hc] at hR
    subst hR
    have hcb : (c0 != 0) = true := bne_iff_ne.2 hc
    have hcb2 : (c0 == 0) = false := by simpa using hc
    go_enter Try.func21, Try.ntmps21
    go_wp2_with fail
    refine HB.out.mono ?_
    rintro e w1 ⟨⟨_, rfl⟩ | ⟨hg, _⟩, hb1⟩
    · have HB1 := Lib.hid (below_on HB0.out hb1 (Nat.le_refl _))
      clear hb1
      go_wp2_with fail
      go_ret2
      exact ⟨rfl, HB1.out⟩
    · exact absurd (hc0.symm.trans ((chk_good l).1.2 hg)) hc
end Go.Proofs.Ytbobpgjgknkogaa
