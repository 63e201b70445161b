/- The reference: Merge. No condition. -/
import Derived.Test.YtbobpgjgknkogaaI32
import Derived.Deep.CutRange
namespace Go.Proofs.Ytbobpgjgknkogaa
open Go.RowKit Go.Maps
theorem mrg_six : ∀ (b l : List (List UInt8)), (mrg l 6 b).2.2 = 6
  | [], _ => rfl
  | s :: b, l => by
    have h : putEr l 6 s = 6 := by
      unfold putEr
      split
      · rfl
      · split <;> rfl
    show (mrg (putL l s) (putEr l 6 s) b).2.2 = 6
    rw [h]
    exact mrg_six b _
theorem intern_full {l : List (List UInt8)} {s : List UInt8} (hl : goodT l) (hs : nameE s = 0) (h : s ∉ l ∧ 32 ≤ l.length) : internR l s false = ([], 0, 6) ∧ putEr l 0 s = 6 := by
  have hc := (chk_good l).1.2 hl
  refine ⟨?_, (put_full 0 h.1 h.2).2.2⟩
  unfold internR
  rw [if_neg (by simpa using hc), if_neg (by simpa using hs), if_neg h.1, if_pos h.2]
theorem intern_room {l : List (List UInt8)} {s : List UInt8} (hl : goodT l) (hs : nameE s = 0) (h : ¬ (s ∉ l ∧ 32 ≤ l.length)) : ∃ j : Nat, internR l s false = (putL l s, j, 0) ∧ putN l s = (j : Int) ∧ putEr l 0 s = 0 ∧ goodT (putL l s) := by
  have hc := (chk_good l).1.2 hl
  unfold internR
  rw [if_neg (by simpa using hc), if_neg (by simpa using hs)]
  by_cases hin : s ∈ l
  · obtain ⟨q1, q2, q3⟩ := put_in 0 hin
    rw [if_pos hin, if_neg (by decide), q1, q2, q3]
    exact ⟨_, rfl, rfl, rfl, hl⟩
  · have hlt : ¬ 32 ≤ l.length := fun h2 => h ⟨hin, h2⟩
    obtain ⟨q1, q2, q3⟩ := put_free 0 hin hlt
    rw [if_neg hin, if_neg hlt, q1, q2, q3]
    exact ⟨_, rfl, rfl, rfl, good_snoc hl (by omega) hs hin⟩
theorem MRG.six {M : List (List UInt8) × List Int × Int} {l : List (List UInt8)} {ns : List Int} {b : List (List UInt8)} {k : Nat} (h : MRG M l 0 ns (b.drop k)) (hk : k < b.length) (he : putEr l 0 b[k] = 6) : M.2.2 = 6 := by
  have h2 := h.step hk
  rw [he] at h2
  unfold MRG at h2
  rw [h2]
  exact mrg_six _ _
theorem good_short {l : List (List UInt8)} (h : goodT l) : ∀ s ∈ l, s.length ≤ maxLen := by
  intro s hs
  obtain ⟨k, hk, rfl⟩ := List.getElem_of_mem hs
  have h0 := (h.2 k hk).1
  unfold nameE at h0
  have hw : wordE l[k] = 0 := by
    by_cases hw : wordE l[k] = 0
    · exact hw
    · rw [if_neg hw] at h0; exact absurd h0 hw
  unfold wordE at hw
  by_cases h1 : l[k] = []
  · rw [h1]; exact Nat.zero_le _
  · rw [if_neg h1] at hw
    by_cases h2 : scanW 0 l[k] = true
    · rw [if_pos h2] at hw; exact absurd hw (by decide)
    · rw [if_neg h2] at hw
      by_cases h3 : 12 < l[k].length
      · rw [if_pos h3] at hw; exact absurd hw (by decide)
      · simp only [maxLen]; omega
/-- Block G is a table of the call's own. -/
def TO (W : World) (B G : Nat) (A : Option Addr) (c : Nat) (l : List (List UInt8)) : Prop := Blk W G 24 #[.slice A l.length c] ∧ Own W B 9 1 A l.length c (l.map strV)
theorem TO.on {W W' : World} {B G c : Nat} {A : Option Addr} {l : List (List UInt8)} (h : TO W B G A c l) (hb : Below W.heap.size W W') : TO W' B G A c l := ⟨h.1.on hb, h.2.below hb (Nat.le_refl _)⟩
theorem TO.new {w : World} {B c : Nat} {A : Option Addr} {l : List (List UInt8)} (h : Own w B 9 1 A l.length c (l.map strV)) : TO (w.alloc (.cells #[.slice A l.length c] 24)) B w.heap.size A c l := ⟨Blk.new w _ _, h.alloc _⟩
theorem TO.cell {W : World} {B G c : Nat} {A : Option Addr} {l : List (List UInt8)} (h : TO W B G A c l) : W.cell? ⟨G, 0, none⟩ = some (.slice A l.length c) := h.1.cell 0
/-- The reference's Merge at work. -/
def RM (w W : World) (Ab : Option Addr) (capb : Nat) (b : List (List UInt8)) (G : Nat) (l2 : List (List UInt8)) (A4 : Option Addr) (c4 : Nat) (ns : List Int) (A3 : Option Addr) (c3 : Nat) : Prop :=
  Blk W (w.heap.size + 1) 24 #[.slice Ab b.length capb] ∧ Blk W (w.heap.size + 1 + 1) 24 #[.slice none 0 0] ∧ TO W w.heap.size G A4 c4 l2 ∧ Own W w.heap.size 3 1 A3 ns.length c3 (ns.map intV) ∧ Below w.heap.size w W ∧ w.heap.size + 1 + 1 < G
section
variable {w W W' : World} {Ab A4 A3 : Option Addr} {capb G c4 c3 : Nat} {b l2 : List (List UInt8)} {ns : List Int}
theorem RM.on (h : RM w W Ab capb b G l2 A4 c4 ns A3 c3) (hb : Below W.heap.size W W') : RM w W' Ab capb b G l2 A4 c4 ns A3 c3 :=
  ⟨h.1.on hb, h.2.1.on hb, h.2.2.1.on hb, h.2.2.2.1.below hb (Nat.le_refl _), below_on h.2.2.2.2.1 hb (Nat.le_refl _), h.2.2.2.2.2⟩
end
set_option maxRecDepth 100000 in
set_option maxHeartbeats 12800000 in
theorem rMerge_any (A Ab : Option Addr) (cap capb D : Nat) (l b : List (List UInt8)) (w : World) (hS : Sl w D 1 A l.length cap (l.map strV)) (hSb : Sl w D 1 Ab b.length capb (b.map strV)) (hD : D ≤ w.heap.size) (hn : l.length ≤ 1000) (hnb : b.length ≤ 1000) (hl : ∀ s ∈ l, s.length ≤ maxLen) (hlb : ∀ s ∈ b, s.length ≤ maxLen) :
    Calls Try.prog 27 #[.agg #[.slice A l.length cap], .agg #[.slice Ab b.length capb]] w fun e w' => mergePost (mergeR l b) e w' ∧ Below w.heap.size w w' := by
  obtain ⟨i0, hi0, hz0, hz1, hz2⟩ := info_parts infoI
  obtain ⟨W0, hW0, hz, k0, k1, k2, hB0⟩ := three w (.slice A l.length cap) (.slice Ab b.length capb)
  have HA := Lib.hid (rOk_any A cap D l W0 (hS.below hB0 hD) (Nat.le_trans hD hB0.size) hn hl)
  have HC := Lib.hid (fun W h hD => rOk_any Ab capb D b W h hD hnb hlb)
  have HO := Lib.hid (fun W h hD => rOwn_any A cap D l W h hD hn)
  have hR : mergeR l b = if (chkT l).1 ≠ 0 then ([], [], (chkT l).1) else if (chkT b).1 ≠ 0 then ([], [], (chkT b).1) else if (mrg l 0 b).2.2 ≠ 0 then ([], [], (mrg l 0 b).2.2) else mrg l 0 b := rfl
  generalize mergeR l b = R at *
  have hM0 : MRG (mrg l 0 b) l 0 [] (b.drop 0) := rfl
  generalize mrg l 0 b = M at *
  have hg1 := (chk_good l).1
  have hg2 := (chk_good b).1
  generalize (chkT l).1 = c0 at *
  generalize (chkT b).1 = cb at *
  have HG := Lib.hid (And.intro hg1 hg2)
  have HK := Lib.hid (And.intro k0 (And.intro k1 (And.intro k2 (And.intro hB0 hz))))
  have HW0 := Lib.hid hW0
  have HS := Lib.hid hS
  have HSb := Lib.hid hSb
  have HLb := Lib.hid hlb
  have HM0 := Lib.hid hM0
  have p0 := (cells1 k0).1
  clear hS hSb hl hlb k0 k1 k2 hB0 hz hW0 hg1 hg2 hM0
  unfold mergePost
  go_enter Try.func27, Try.ntmps27
  go_wp2_with fail
  rw [← HW0.out]
  go_wp2_with fail
  refine HA.out.mono ?_
  rintro e w1 ⟨rfl, hb1⟩
  have k0 := HK.out.1.on hb1
  have k1 := HK.out.2.1.on hb1
  have k2 := HK.out.2.2.1.on hb1
  have hB1 := below_on HK.out.2.2.2.1 hb1 (Nat.le_refl _)
  have hsz1 : w.heap.size + 3 ≤ w1.heap.size := by have := hb1.size; have := HK.out.2.2.2.2; omega
  have p1 := (cells1 k1).1
  obtain ⟨x2, y2⟩ := cells1 k2
  have HK1 := Lib.hid (And.intro k0 (And.intro k1 (And.intro k2 hB1)))
  clear k0 k1 k2 hB1 hb1 HA HK HW0 p0
  by_cases hc : c0 ≠ 0
  · rw [if_pos hc] at hR
    subst hR
    have hcb : (c0 != 0) = true := bne_iff_ne.2 hc
    have hcb2 : (c0 == 0) = false := by simpa using hc
    go_wp2_with fail
    exact bodyPost_ret (results_ctt rfl _ _ _ _ _ _ rfl (HK1.out.2.2.1.set 0 (.slice none 0 0)) Try.underlying24 rfl (by kernel_rfl)) rfl ⟨⟨none, 0, none, 0, rfl, Sl.nil _ _ _, Sl.nil _ _ _⟩, HK1.out.2.2.2.setCell (p := ⟨w.heap.size + 1 + 1, 0, none⟩) (by show w.heap.size ≤ w.heap.size + 1 + 1; omega) _⟩
  · rw [if_neg hc] at hR
    have hc' : c0 = 0 := by simpa using hc
    clear hc
    subst hc'
    have HC1 := Lib.hid (HC.out w1 (HSb.out.below HK1.out.2.2.2 hD) (Nat.le_trans hD HK1.out.2.2.2.size))
    clear HC
    go_wp2_with fail
    refine HC1.out.mono ?_
    rintro e w2 ⟨rfl, hb2⟩
    have k0 := HK1.out.1.on hb2
    have k1 := HK1.out.2.1.on hb2
    have k2 := HK1.out.2.2.1.on hb2
    have hB2 := below_on HK1.out.2.2.2 hb2 (Nat.le_refl _)
    have p2 := (cells1 k0).1
    clear x2 y2 p1
    obtain ⟨x2, y2⟩ := cells1 k2
    have hsz2 := Nat.le_trans hsz1 hb2.size
    have HK2 := Lib.hid (And.intro k0 (And.intro k1 (And.intro k2 hB2)))
    clear k0 k1 k2 hB2 hb2 HC1 HK1
    by_cases hcb0 : cb ≠ 0
    · rw [if_pos hcb0] at hR
      subst hR
      have hcb : (cb != 0) = true := bne_iff_ne.2 hcb0
      clear HO
      go_wp2_with fail
      exact bodyPost_ret (results_ctt rfl _ _ _ _ _ _ rfl (HK2.out.2.2.1.set 0 (.slice none 0 0)) Try.underlying24 rfl (by kernel_rfl)) rfl ⟨⟨none, 0, none, 0, rfl, Sl.nil _ _ _, Sl.nil _ _ _⟩, HK2.out.2.2.2.setCell (p := ⟨w.heap.size + 1 + 1, 0, none⟩) (by show w.heap.size ≤ w.heap.size + 1 + 1; omega) _⟩
    · rw [if_neg hcb0] at hR
      have hcb' : cb = 0 := by simpa using hcb0
      clear hcb0
      subst hcb'
      have hgl := HG.out.1.1 (by first | rfl | trivial)
      have hgb := HG.out.2.1 (by first | rfl | trivial)
      have HGs := Lib.hid (And.intro hgl hgb)
      have HO2 := Lib.hid (HO.out w2 (HS.out.below HK2.out.2.2.2 hD) (Nat.le_trans hD HK2.out.2.2.2.size))
      clear hgl hgb HG HO
      go_wp2_with fail
      refine HO2.out.mono ?_
      rintro e w3 ⟨⟨A4, c4, rfl, o3⟩, hb3⟩
      have hT := TO.new (o3.base HK2.out.2.2.2.size)
      have hba := hb3.alloc hb3.size (.cells #[.slice A4 l.length c4] 24)
      have HR0 := Lib.hid (show RM w (w3.alloc (.cells #[.slice A4 l.length c4] 24)) Ab capb b w3.heap.size l A4 c4 [] none 0 from ⟨HK2.out.2.1.on hba, HK2.out.2.2.1.on hba, hT, Own.nil _ _ _ _, below_on HK2.out.2.2.2 hba (Nat.le_refl _), by have := hb3.size; omega⟩)
      clear hT hba hb3 o3 HO2 HK2 p2 x2 y2
      go_wp2_with fail
      generalize w3.alloc (.cells #[.slice A4 l.length c4] 24) = v at *
      generalize w3.heap.size = G at *
      go_loopw [9, 10] (fun num i W => ∃ (k : Nat) (l2 : List (List UInt8)) (ns : List Int) (A4 : Option Addr) (c4 : Nat) (A3 : Option Addr) (c3 : Nat), k ≤ b.length ∧ i = .int .i64 k ∧ num = .slice A3 ns.length c3 ∧ Hid (ns.length = k) ∧ goodT l2 ∧ MRG M l2 0 ns (b.drop k) ∧ RM w W Ab capb b G l2 A4 c4 ns A3 c3) (fun _ i _ => b.length - (intOf i).toNat)
      case atStart => exact ⟨0, l, [], A4, c4, none, 0, Nat.zero_le _, rfl, rfl, Lib.hid rfl, HGs.out.1, HM0.out, HR0.out⟩
      case round =>
        obtain ⟨k, l2, ns, A4, c4, A3, c3, hk, rfl, rfl, hns, hg2, hM, hRM⟩ := hrel
        have HH := Lib.hid hRM
        have q1 := (cells1 hRM.1).1
        by_cases hlt : k < b.length
        · obtain ⟨bb, o, rfl, hbb, d0⟩ := sl_str (HSb.out.below hRM.2.2.2.2.1 hD) hlt
          have hget : b[k]? = some b[k] := List.getElem?_eq_getElem hlt
          have hsl := HLb.out b[k] (List.getElem_mem hlt)
          have hne := (HGs.out.2.2 k hlt).1
          have hsix := hM.six hlt
          have hstep := hM.step hlt
          have hl2 : l2.length ≤ 32 := hg2.1
          have hls : ∀ s ∈ l2, s.length ≤ maxLen := fun s hs => good_short hg2 s hs
          generalize b[k] = s at *
          have HI := Lib.hid (fun W h => rIntern_any A4 c4 W.heap.size l2 s W h (Nat.le_refl _) (by omega) hls hsl)
          unfold tabO at HI
          have HM1 := Lib.hid (And.intro hsix hstep)
          have HGd := Lib.hid hg2
          have hcG := hRM.2.2.1.cell
          clear hRM hM hsix hstep hls hget hg2 HR0 HM0
          have hrr : ∃ R2, internR l2 s false = R2 := ⟨_, rfl⟩
          obtain ⟨R2, hR2⟩ := hrr
          rw [hR2] at HI
          have HR2 := Lib.hid hR2
          clear hR2
          go_upto_region 11 with fail
          go_cut [11, 12, 13] from 26 to 52 (fun s11 s12 s13 wx => ∃ g11 A5 c5, s11 = .pointer (some ⟨g11, 0, none⟩) ∧ s12 = .int .i64 (R2.2.1 : Int) ∧ s13 = .int .i64 R2.2.2 ∧ TO wx w.heap.size g11 A5 c5 R2.1 ∧ Below wr.heap.size wr wx ∧ wr.heap.size ≤ g11)
          case first =>
            have hGl := HH.out.2.2.1.1.lt
            have hTl := HH.out.1.lt
            have hbl : bb < wr.heap.size := Nat.lt_of_lt_of_le hbb (Nat.le_trans hD HH.out.2.2.2.2.1.size)
            have F3 : ∀ X, Below wr.heap.size wr X → X.cell? ⟨G, 0, none⟩ = some (.slice A4 l2.length c4) ∧ X.cell? ⟨w.heap.size + 1, 0, none⟩ = some (.slice (some ⟨bb, o, none⟩) b.length capb) ∧ X.cell? ⟨bb, o + k, none⟩ = some (.string ⟨s.toArray⟩) := fun X hX =>
              ⟨(hX.cell (p := ⟨G, 0, none⟩) hGl).trans hcG, (hX.cell (p := ⟨w.heap.size + 1, 0, none⟩) hTl).trans q1, (hX.cell (p := ⟨bb, o + k, none⟩) hbl).trans d0⟩
            have HF3 := Lib.hid F3
            have hww := HH.out.2.2.2.2.1.size
            have hz0 := (Below.refl wr.heap.size wr).drew
            have hz1 := hz0.alloc (Nat.le_refl _) (.cells #[.slice none 0 0] 24)
            have HTa := Lib.hid (HH.out.2.2.1.on hz1)
            have HTb := Lib.hid (HH.out.2.2.1.on hz0)
            clear F3 hGl hTl hbl HM1 HGd hsl HR2
            go_wp2_with fail
            go_region_held3 (fun X => X.cell? ⟨G, 0, none⟩ = some (.slice A4 l2.length c4) ∧ X.cell? ⟨w.heap.size + 1, 0, none⟩ = some (.slice (some ⟨bb, o, none⟩) b.length capb) ∧ X.cell? ⟨bb, o + k, none⟩ = some (.string ⟨s.toArray⟩))
              (exact HF3.out _ (by assumption))
              (first
                | (go_at_call 18; refine (HI.out _ HTa.out.2.sl).mono ?_; rintro e w5 ⟨⟨A5, c5, rfl, s5⟩, hb5⟩; have hz5 := below_ac hb5; have hz6 := hz5.setCell (p := ⟨wr.heap.size, 0, none⟩) (Nat.le_refl _) (.slice A5 R2.1.length c5); have b5 := (Blk.new wr.drew 24 #[.slice none 0 0]).on hb5; have f5 : w5.frozen? ⟨wr.heap.size, 0, none⟩ = false := (cells1 b5).2; have q5 : w5.cell? ⟨wr.heap.size, 0, none⟩ = some (.slice none 0 0) := (cells1 b5).1)
                | (go_at_call 18; refine (HI.out _ HTb.out.2.sl).mono ?_; rintro e w5 ⟨⟨A5, c5, rfl, s5⟩, hb5⟩; have hz5 : Below wr.heap.size wr w5 := hz0.trans hb5; have hz6 := hz5.alloc hz5.size (.cells #[.slice none 0 0] 24); have hz7 := hz5.alloc hz5.size (.cells #[.slice A5 R2.1.length c5] 24)))
            · have hT6 := TO.new (s5.base hww)
              have HR := Lib.hid (And.intro hT6 (And.intro hz7 hz5.size))
              clear hT6 s5 hb5 hz5 hz6 hz7 hz0 hz1
              go_wp2_with fail
              go_meet
              case rel => exact ⟨w5.heap.size, A5, c5, rfl, rfl, rfl, HR.out.1, HR.out.2.1, HR.out.2.2⟩
            · have s6 := (s5.base (Nat.le_trans hww hz1.size)).farNe (p := ⟨wr.heap.size, 0, none⟩) (s5.ne_blk (by decide) b5) (.slice A5 R2.1.length c5)
              have hT6 : TO (w5.setCell ⟨wr.heap.size, 0, none⟩ (.slice A5 R2.1.length c5)) w.heap.size wr.heap.size A5 c5 R2.1 := ⟨b5.set 0 _, s6⟩
              have HR := Lib.hid (And.intro hT6 hz6)
              clear hT6 s6 s5 hb5 hz5 hz6 hz0 hz1 b5 f5 q5
              go_wp2_with fail
              go_meet
              case rel => exact ⟨wr.heap.size, A5, c5, rfl, rfl, rfl, HR.out.1, HR.out.2, Nat.le_refl _⟩
          case rest =>
            obtain ⟨g11, A5, c5, rfl, rfl, rfl, hT5, hBw, hg11⟩ := hcut
            have hRw := HH.out.on hBw
            have hGl := HH.out.2.2.1.1.lt
            have hgG : g11 ≠ G := by omega
            obtain ⟨x2, y2⟩ := cells1 hRw.2.1
            have HQ := Lib.hid (And.intro hT5 hRw)
            clear hT5 hRw hBw HH HI q1 d0 hcG
            by_cases hfull : s ∉ l2 ∧ 32 ≤ l2.length
            · obtain ⟨r1, r2⟩ := intern_full HGd.out hne hfull
              rw [HR2.out] at r1
              subst r1
              have hM6 := HM1.out.1 r2
              rw [if_pos (by rw [hM6]; decide), hM6] at hR
              subst hR
              clear r2 hM6 HM1
              go_wp2_with fail
              exact bodyPost_ret (results_ctt rfl _ _ _ _ _ _ rfl (HQ.out.2.2.1.set 0 (.slice none 0 0)) Try.underlying24 rfl (by kernel_rfl)) rfl ⟨⟨none, 0, none, 0, rfl, Sl.nil _ _ _, Sl.nil _ _ _⟩, HQ.out.2.2.2.2.2.1.setCell (p := ⟨w.heap.size + 1 + 1, 0, none⟩) (by show w.heap.size ≤ w.heap.size + 1 + 1; omega) _⟩
            · obtain ⟨j, r1, r2, r3, r4⟩ := intern_room HGd.out hne hfull
              rw [HR2.out] at r1
              subst r1
              generalize putL l2 s = m at *
              rw [r2, r3] at HM1
              have hT5 := HQ.out.1
              have hRw := HQ.out.2
              have hT5' : TO wc w.heap.size g11 A5 c5 m := hT5
              have hns1 : ns.length ≤ 1000 := by have := hns.out; omega
              have oN := (hRw.2.2.2.1.alloc (.cells #[.int .i64 (j : Int)] 3)).drew
              have hslN := (sl_row wc #[.int .i64 (j : Int)] 3 1 rfl (by decide)).drew
              have hone : ∀ u ∈ #[Value.int .i64 (j : Int)].toList, u.oneCell' = true := by simp [Value.oneCell']
              have hm1 : ns.length + 1 ≤ maxLen := by simp only [maxLen]; omega
              have hm2 : (ns.length + 1) * 8 ≤ 140737488355328 := by omega
              have hm3 : w.heap.size ≤ (wc.alloc (.cells #[.int .i64 (j : Int)] 3)).drew.heap.size := by show w.heap.size ≤ (wc.alloc (.cells #[.int .i64 (j : Int)] 3)).heap.size; rw [World.size_alloc]; have := hRw.2.2.2.2.1.size; omega
              have k11 := (hT5'.1.alloc (.cells #[.int .i64 (j : Int)] 3)).drew
              have kG := (hRw.2.2.1.1.alloc (.cells #[.int .i64 (j : Int)] 3)).drew
              have k1 := (hRw.1.alloc (.cells #[.int .i64 (j : Int)] 3)).drew
              have k2 := (hRw.2.1.alloc (.cells #[.int .i64 (j : Int)] 3)).drew
              have oS := (hT5'.2.alloc (.cells #[.int .i64 (j : Int)] 3)).drew
              have hBN := (hRw.2.2.2.2.1.alloc hRw.2.2.2.2.1.size (.cells #[.int .i64 (j : Int)] 3)).drew
              have z0 := hT5'.cell
              have z1 := (cells1 k11).1
              have HW := Lib.hid (And.intro k11 (And.intro kG (And.intro k1 (And.intro k2 (And.intro oS (And.intro hBN hRw.2.2.2.2.2))))))
              clear k11 kG k1 k2 oS hBN hT5 hT5' hRw HQ HR2 x2 y2
              go_wp2_with fail
              go_region_law (refine step_append_o _ (by rfl) (.tmp 49) (.tmp 51) 41 (by rfl) w.heap.size 3 i0 _ 1 8 Try.underlying41 hi0 hz0 hz1 hz2 rfl (by decide) (by rfl) oN (by rfl) hslN hone hm1 hm2 hm3 ?_; intro A6 c6 w5 o6 hg6 hat6; have e11 := HW.out.1.grown hg6 (fun e => oN.ne_blk (by decide) HW.out.1 e.symm); have eG := HW.out.2.1.grown hg6 (fun e => oN.ne_blk (by decide) HW.out.2.1 e.symm); obtain ⟨z11, _⟩ := cells1 e11; obtain ⟨zG, fG⟩ := cells1 eG)
              all_goals have e1 := (HW.out.2.2.1.grown hg6 (fun e => oN.ne_blk (by decide) HW.out.2.2.1 e.symm)).far (p := ⟨G, 0, none⟩) (by show w.heap.size + 1 ≠ G; have := HW.out.2.2.2.2.2.2; omega) (.slice A5 m.length c5)
              all_goals have e2 := (HW.out.2.2.2.1.grown hg6 (fun e => oN.ne_blk (by decide) HW.out.2.2.2.1 e.symm)).far (p := ⟨G, 0, none⟩) (by show w.heap.size + 1 + 1 ≠ G; have := HW.out.2.2.2.2.2.2; omega) (.slice A5 m.length c5)
              all_goals have oS6 := HW.out.2.2.2.2.1.grown hg6 (HW.out.2.2.2.2.1.apart (by decide) oN)
              all_goals have oS7 := oS6.farNe (p := ⟨G, 0, none⟩) (oS6.ne_blk (by decide) eG) (.slice A5 m.length c5)
              all_goals have o7 := o6.farNe (p := ⟨G, 0, none⟩) (o6.ne_blk (by decide) eG) (.slice A5 m.length c5)
              all_goals have eG7 : Blk (w5.setCell ⟨G, 0, none⟩ (.slice A5 m.length c5)) G 24 #[.slice A5 m.length c5] := eG.set 0 _
              all_goals have hB7 := (grown_below HW.out.2.2.2.2.2.1 oN hg6 hm3).setCell (p := ⟨G, 0, none⟩) (by show w.heap.size ≤ G; have := HW.out.2.2.2.2.2.2; omega) (.slice A5 m.length c5)
              all_goals have hlen : (ns ++ [(j : Int)]).length = ns.length + 1 := by simp
              all_goals have o8 : Own (w5.setCell ⟨G, 0, none⟩ (.slice A5 m.length c5)) w.heap.size 3 1 A6 (ns ++ [(j : Int)]).length c6 ((ns ++ [(j : Int)]).map intV) := by rw [hlen, ← int_map]; exact o7
              all_goals have HR9 := Lib.hid (show RM w (w5.setCell ⟨G, 0, none⟩ (.slice A5 m.length c5)) (some ⟨bb, o, none⟩) capb b G m A5 c5 (ns ++ [(j : Int)]) A6 c6 from ⟨e1, e2, ⟨eG7, oS7⟩, o8, hB7, HW.out.2.2.2.2.2.2⟩)
              all_goals have HL9 := Lib.hid hlen
              all_goals have hk9 : Hid ((ns ++ [(j : Int)]).length = k + 1) := Lib.hid (by rw [hlen, hns.out])
              all_goals clear e1 e2 oS6 oS7 o7 eG7 hB7 hlen o8 e11 eG z11 zG fG o6 hg6 hat6 oN hslN hone z0 z1 HW
              all_goals go_wp2_with fail
              all_goals go_roundw
              all_goals first
                | exact ⟨k + 1, m, ns ++ [(j : Int)], A5, c5, A6, c6, by omega, by go_num, by rw [HL9.out], hk9, r4, HM1.out.2, HR9.out⟩
                | (simp [intOf]; omega)
        · obtain rfl : k = b.length := by omega
          have hMe : M = (l2, ns, 0) := by
            unfold MRG at hM
            rw [List.drop_length] at hM
            rw [hM]
            simp [mrg]
          rw [if_neg (by rw [hMe]; simp), hMe] at hR
          subst hR
          have c8 := hRM.2.2.1.cell
          obtain ⟨x2, y2⟩ := cells1 hRM.2.1
          have o1 := hRM.2.2.1.2.farNe (p := ⟨w.heap.size + 1 + 1, 0, none⟩) (hRM.2.2.1.2.ne_blk (by decide) hRM.2.1) (.slice A4 l2.length c4)
          have o2 := hRM.2.2.2.1.farNe (p := ⟨w.heap.size + 1 + 1, 0, none⟩) (hRM.2.2.2.1.ne_blk (by decide) hRM.2.1) (.slice A4 l2.length c4)
          have HE := Lib.hid (And.intro o1 o2)
          clear o1 o2 hRM hM hMe HM0 HR0
          go_wp2_with fail
          exact bodyPost_ret (results_ctt rfl _ _ _ _ _ _ rfl (HH.out.2.1.set 0 (.slice A4 l2.length c4)) Try.underlying24 rfl (by kernel_rfl)) rfl ⟨⟨A4, c4, A3, c3, rfl, HE.out.1.sl, HE.out.2.sl⟩, HH.out.2.2.2.2.1.setCell (p := ⟨w.heap.size + 1 + 1, 0, none⟩) (by show w.heap.size ≤ w.heap.size + 1 + 1; omega) _⟩
end Go.Proofs.Ytbobpgjgknkogaa
