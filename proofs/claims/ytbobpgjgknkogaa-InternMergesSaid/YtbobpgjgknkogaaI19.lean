/- intern: Merge. No condition. -/
import Derived.Test.YtbobpgjgknkogaaI18
namespace Go.Proofs.Ytbobpgjgknkogaa
open Go.RowKit Go.Maps
/-- The loop of Merge. -/
def mrg : List (List UInt8) → Int → List (List UInt8) → List (List UInt8) × List Int × Int
  | l, er, [] => (l, [], er)
  | l, er, s :: b => ((mrg (putL l s) (putEr l er s) b).1, putN l s :: (mrg (putL l s) (putEr l er s) b).2.1, (mrg (putL l s) (putEr l er s) b).2.2)
/-- What Merge answers. -/
def mergeR (l b : List (List UInt8)) : List (List UInt8) × List Int × Int :=
  if (chkT l).1 ≠ 0 then ([], [], (chkT l).1) else if (chkT b).1 ≠ 0 then ([], [], (chkT b).1) else if (mrg l 0 b).2.2 ≠ 0 then ([], [], (mrg l 0 b).2.2) else mrg l 0 b
def mergePost (R : List (List UInt8) × List Int × Int) (e : Ending) (w' : World) : Prop :=
  ∃ A2 c2 A3 c3, e = .returned (.tuple #[.agg #[.slice A2 R.1.length c2], .slice A3 R.2.1.length c3, .int .i64 R.2.2]) ∧ Sl w' w'.heap.size 1 A2 R.1.length c2 (R.1.map strV) ∧ Sl w' w'.heap.size 1 A3 R.2.1.length c3 (R.2.1.map intV)
theorem putL_len {l : List (List UInt8)} (s : List UInt8) (h : l.length ≤ 32) : (putL l s).length ≤ 32 := by
  unfold putL
  split
  · exact h
  · split
    · exact h
    · rw [List.length_append]; simp; omega
theorem mrg_drop {l : List (List UInt8)} {er : Int} {b : List (List UInt8)} {k : Nat} (h : k < b.length) :
    mrg l er (b.drop k) = ((mrg (putL l b[k]) (putEr l er b[k]) (b.drop (k + 1))).1, putN l b[k] :: (mrg (putL l b[k]) (putEr l er b[k]) (b.drop (k + 1))).2.1, (mrg (putL l b[k]) (putEr l er b[k]) (b.drop (k + 1))).2.2) := by
  rw [List.drop_eq_getElem_cons h]
  rfl
/-- Where the loop of Merge stands. -/
def MRG (M : List (List UInt8) × List Int × Int) (l : List (List UInt8)) (er : Int) (ns : List Int) (b : List (List UInt8)) : Prop := M = ((mrg l er b).1, ns ++ (mrg l er b).2.1, (mrg l er b).2.2)
theorem MRG.step {M : List (List UInt8) × List Int × Int} {l : List (List UInt8)} {er : Int} {ns : List Int} {b : List (List UInt8)} {k : Nat} (h : MRG M l er ns (b.drop k)) (hk : k < b.length) : MRG M (putL l b[k]) (putEr l er b[k]) (ns ++ [putN l b[k]]) (b.drop (k + 1)) := by
  unfold MRG at *
  rw [mrg_drop hk] at h
  rw [h, List.append_assoc]
  rfl
theorem three (w : World) (v u : Value) : ∃ W0, W0 = (((w.alloc (.cells #[v] 24)).alloc (.cells #[u] 24)).alloc (.cells #[.slice none 0 0] 24)) ∧ W0.heap.size = w.heap.size + 3 ∧
    Blk W0 w.heap.size 24 #[v] ∧ Blk W0 (w.heap.size + 1) 24 #[u] ∧ Blk W0 (w.heap.size + 1 + 1) 24 #[.slice none 0 0] ∧ Below w.heap.size w W0 := by
  refine ⟨_, rfl, by simp, ((Blk.new w _ _).alloc _).alloc _, (Blk.newAt _ _ _ (by simp)).alloc _, Blk.newAt _ _ _ (by simp), ?_⟩
  exact (((Below.refl w.heap.size w).alloc (Nat.le_refl _) _).alloc (by simp) _).alloc (by simp; omega) _
theorem WK.grown {w w' : World} {B g bm : Nat} {l : List (List UInt8)} {er : Int} {A : Option Addr} {c : Nat} (h : WK w B g bm l er A c) {B' s n cap : Nat} {A' : Option Addr} {xs : List Value} (ho : Own w B' 3 s A' n cap xs) (hg : w.grownBy w' (blockOf A' cap)) : WK w' B g bm l er A c :=
  ⟨h.1.grown hg (fun e => ho.ne_blk (by decide) h.1 e.symm), h.2.1.kept hg (fun e => ho.ne_map h.2.1 e.symm), h.2.2.1.grown hg (h.2.2.1.apart (by decide) ho), h.2.2.2⟩
theorem WK.oth {w w' : World} {B g bm : Nat} {l : List (List UInt8)} {er : Int} {A : Option Addr} {c : Nat} (h : WK w B g bm l er A c) {B' s n cap : Nat} {A' : Option Addr} {xs : List Value} (ho : Own w B' 3 s A' n cap xs) (hO : Oth w w' g bm (blockOf A c)) : Own w' B' 3 s A' n cap xs :=
  hO.own ho (ho.ne_blk (by decide) h.1) (ho.ne_map h.2.1) (ho.apart (by decide) h.2.2.1)
theorem int_map (l : List Int) (x : Int) : l.map intV ++ [Value.int .i64 x] = (l ++ [x]).map intV := by simp [intV]
/-- Merge at work: its result's block and what it holds. -/
def MG (w W : World) (B G g bm : Nat) (l : List (List UInt8)) (er : Int) (A : Option Addr) (c : Nat) (ns : List Int) (A3 : Option Addr) (c3 : Nat) : Prop :=
  WK W B g bm l er A c ∧ Own W B 3 1 A3 ns.length c3 (ns.map intV) ∧ Blk W G 24 #[.slice none 0 0] ∧ Below w.heap.size w W ∧ G < B ∧ w.heap.size ≤ G ∧ B ≤ W.heap.size
set_option maxRecDepth 100000 in
set_option maxHeartbeats 6400000 in
theorem Merge_any (A Ab : Option Addr) (cap capb D : Nat) (l b : List (List UInt8)) (w : World) (hS : Sl w D 1 A l.length cap (l.map strV)) (hSb : Sl w D 1 Ab b.length capb (b.map strV)) (hD : D ≤ w.heap.size) (hn : l.length ≤ 1000) (hnb : b.length ≤ 1000) (hl : ∀ s ∈ l, s.length ≤ maxLen) (hlb : ∀ s ∈ b, s.length ≤ maxLen) :
    Calls Try.prog 26 #[.agg #[.slice A l.length cap], .agg #[.slice Ab b.length capb]] w fun e w' => mergePost (mergeR l b) e w' ∧ Below w.heap.size w w' := by
  obtain ⟨i0, hi0, hz0, hz1, hz2⟩ := info_parts infoI
  obtain ⟨W0, hW0, hz, k0, k1, k2, hB0⟩ := three w (.slice A l.length cap) (.slice Ab b.length capb)
  have HB := Lib.hid (begun_any A cap D l W0 (hS.below hB0 hD) (Nat.le_trans hD hB0.size) hn hl)
  have HC := Lib.hid (fun W hS hD => iCheck_any Ab capb D b W hS hD hnb hlb)
  have hR : mergeR l b = if (chkT l).1 ≠ 0 then ([], [], (chkT l).1) else if (chkT b).1 ≠ 0 then ([], [], (chkT b).1) else if (mrg l 0 b).2.2 ≠ 0 then ([], [], (mrg l 0 b).2.2) else mrg l 0 b := rfl
  generalize mergeR l b = R at *
  have hM0 : MRG (mrg l 0 b) l 0 [] (b.drop 0) := rfl
  generalize mrg l 0 b = M at *
  generalize hc0 : (chkT l).1 = c0 at *
  generalize chkT b = cb at *
  have HK := Lib.hid (And.intro k0 (And.intro k1 (And.intro k2 (And.intro hB0 hz))))
  have HW0 := Lib.hid hW0
  have HSb := Lib.hid hSb
  have HLb := Lib.hid hlb
  have p0 := (cells1 k0).1
  clear hS hSb hl hlb k0 k1 k2 hB0 hz hW0
  unfold mergePost
  by_cases hc : c0 ≠ 0
  · rw [if_pos hc] at hR
    subst hR
    have hcb : (c0 != 0) = true := bne_iff_ne.2 hc
    have hcb2 : (c0 == 0) = false := by simpa using hc
    go_enter Try.func26, Try.ntmps26
    go_wp2_with fail
    rw [← HW0.out]
    go_wp2_with fail
    refine HB.out.mono ?_
    rintro e w1 ⟨⟨_, rfl⟩ | ⟨hg, _⟩, hb1⟩
    · have b1 := Blk.on HK.out.2.2.1 hb1
      have hB1 := below_on HK.out.2.2.2.1 hb1 (Nat.le_refl _)
      obtain ⟨q0, f0⟩ := cells1 b1
      have HB1 := Lib.hid (And.intro b1 hB1)
      clear b1 hB1 hb1 HB HC HK HW0 p0
      go_wp2_with fail
      exact bodyPost_ret (results_ctt rfl _ _ _ _ _ _ rfl (HB1.out.1.set 0 (.slice none 0 0)) Try.underlying24 rfl (by kernel_rfl)) rfl ⟨⟨none, 0, none, 0, rfl, Sl.nil _ _ _, Sl.nil _ _ _⟩, HB1.out.2.setCell (p := ⟨w.heap.size + 1 + 1, 0, none⟩) (by show w.heap.size ≤ w.heap.size + 1 + 1; omega) _⟩
    · exact absurd (hc0.symm.trans ((chk_good l).1.2 hg)) hc
  · rw [if_neg (by simpa using hc)] at hR
    have hc' : c0 = 0 := by simpa using hc
    clear hc
    subst hc'
    go_enter Try.func26, Try.ntmps26
    go_wp2_with fail
    rw [← HW0.out]
    go_wp2_with fail
    refine HB.out.mono ?_
    rintro e w1 ⟨⟨hbad, _⟩ | ⟨hg, g, bm, A2, c2, rfl, hWK⟩, hb1⟩
    · exact absurd rfl hbad
    have hG1 : MG w w1 W0.heap.size (w.heap.size + 1 + 1) g bm l 0 A2 c2 [] none 0 :=
      ⟨hWK, Own.nil _ _ _ _, Blk.on HK.out.2.2.1 hb1, below_on HK.out.2.2.2.1 hb1 (Nat.le_refl _), by have := HK.out.2.2.2.2; omega, by omega, hb1.size⟩
    have kb := Blk.on HK.out.2.1 hb1
    have q1 := (cells1 kb).1
    have HC1 := Lib.hid (HC.out w1 (HSb.out.below hG1.2.2.2.1 hD) (Nat.le_trans hD hG1.2.2.2.1.size))
    have HG1 := Lib.hid (And.intro hG1 kb)
    have HG := Lib.hid hg
    clear hWK hb1 hG1 kb hg HB HC p0
    go_wp2_with fail
    refine HC1.out.mono ?_
    rintro e w2 ⟨rfl, hb2⟩
    have hG2 : MG w w2 W0.heap.size (w.heap.size + 1 + 1) g bm l 0 A2 c2 [] none 0 :=
      ⟨HG1.out.1.1.below hb2, Own.nil _ _ _ _, Blk.on HG1.out.1.2.2.1 hb2, below_on HG1.out.1.2.2.2.1 hb2 (Nat.le_refl _), HG1.out.1.2.2.2.2.1, HG1.out.1.2.2.2.2.2.1, Nat.le_trans HG1.out.1.2.2.2.2.2.2 hb2.size⟩
    have kb := Blk.on HG1.out.2 hb2
    have q2 := (cells1 kb).1
    have HG2 := Lib.hid hG2
    clear hb2 hG2 kb HC1 HG1 HK HW0 q1
    by_cases hcb : cb.1 ≠ 0
    · rw [if_pos hcb] at hR
      subst hR
      have hbb : (cb.1 != 0) = true := bne_iff_ne.2 hcb
      obtain ⟨q0, f0⟩ := cells1 HG2.out.2.2.1
      have hB2 := Lib.hid HG2.out.2.2.2.1
      go_wp2_with fail
      exact bodyPost_ret (results_ctt rfl _ _ _ _ _ _ rfl (HG2.out.2.2.1.set 0 (.slice none 0 0)) Try.underlying24 rfl (by kernel_rfl)) rfl ⟨⟨none, 0, none, 0, rfl, Sl.nil _ _ _, Sl.nil _ _ _⟩, hB2.out.setCell (p := ⟨w.heap.size + 1 + 1, 0, none⟩) (by show w.heap.size ≤ w.heap.size + 1 + 1; omega) _⟩
    · rw [if_neg hcb] at hR
      have hcb0 : cb.1 = 0 := by simpa using hcb
      clear hcb
      have HM0 := Lib.hid hM0
      clear hM0
      go_wp2_with fail
      clear q2
      go_loopw [9, 31] (fun num i W => ∃ (k : Nat) (l2 : List (List UInt8)) (er : Int) (ns : List Int) (A4 : Option Addr) (c4 : Nat) (A3 : Option Addr) (c3 : Nat), k ≤ b.length ∧ i = .int .i64 k ∧ num = .slice A3 ns.length c3 ∧ ns.length = k ∧ l2.length ≤ 32 ∧ MRG M l2 er ns (b.drop k) ∧ MG w W W0.heap.size (w.heap.size + 1 + 1) g bm l2 er A4 c4 ns A3 c3) (fun _ i _ => b.length - (intOf i).toNat)
      case atStart => exact ⟨0, l, 0, [], A2, c2, none, 0, Nat.zero_le _, rfl, rfl, rfl, HG.out.1, HM0.out, HG2.out⟩
      case round =>
        obtain ⟨k, l2, er, ns, A4, c4, A3, c3, hk, rfl, rfl, hns0, hl2, hM, hG⟩ := hrel
        have hns1 : ns.length ≤ 1000 := by omega
        have HNS := Lib.hid hns0
        clear hns0
        by_cases hlt : k < b.length
        · obtain ⟨bb, o, rfl, hb, d0⟩ := sl_str (HSb.out.below hG.2.2.2.1 hD) hlt
          have hM2 := hM.step hlt
          have hsl := HLb.out b[k] (List.getElem_mem hlt)
          have hL2 := putL_len b[k] hl2
          generalize b[k] = s at *
          have HP := Lib.hid (put2_any W0.heap.size g bm c4 A4 l2 s er _ hG.1 (by omega) hsl hG.2.2.2.2.2.2)
          have HH := Lib.hid (And.intro hG (And.intro hM2 hL2))
          clear hG hM hM2 hL2 hl2 HM0 HG2
          go_wp2_with fail
          refine HP.out.mono ?_
          rintro e w4 ⟨⟨rfl, A5, c5, hK5⟩, hb5, hO5⟩
          have o3 := HH.out.1.1.oth HH.out.1.2.1 hO5
          have hbase : W0.heap.size ≤ w4.heap.size := Nat.le_trans HH.out.1.2.2.2.2.2.2 hO5.1
          have bR := HH.out.1.2.2.1.below hb5 HH.out.1.2.2.2.2.1
          have hB5 := HH.out.1.2.2.2.1.trans (hb5.mono (show w.heap.size ≤ W0.heap.size by have := HH.out.1.2.2.2.2; omega))
          have HK5 := Lib.hid (And.intro hK5 (And.intro bR hB5))
          clear hK5 hb5 hO5 HP bR hB5
          have hcm := int_map ns (putN l2 s)
          generalize putN l2 s = pn at *
          have HCM := Lib.hid hcm
          clear hcm
          have hnl : ns.length + 1 ≤ maxLen := by simp only [maxLen]; omega
          have hn8 : (ns.length + 1) * 8 ≤ 140737488355328 := by omega
          go_wp2_with (at_builtin; refine wpList_append_new rfl _ _ _ rfl W0.heap.size 3 i0 _ 1 8 Try.underlying41 hi0 hz0 hz1 hz2 rfl (by decide) rfl o3 #[.int .i64 pn] rfl rfl (by simp [Value.oneCell']) hnl hn8 hbase ?_; intro A6 c6 w5 o6 hg6 hat6)
          have hK6 := HK5.out.1.grown o3 hg6
          have bR6 := HK5.out.2.1.grown hg6 (o3.ne HH.out.1.2.2.2.2.1)
          have hB6 := grown_below HK5.out.2.2 (o3.base (show w.heap.size ≤ W0.heap.size by have := HH.out.1.2.2.2.2; omega)) hg6 (by have := HH.out.1.2.2.2.2; omega)
          have hs6 := hg6.size
          rw [show (#[Value.int .i64 pn].toList) = [Value.int .i64 pn] from rfl, HCM.out] at o6
          have hlen : (ns ++ [pn]).length = ns.length + 1 := by simp
          go_roundw
          case rel => exact ⟨k + 1, putL l2 s, putEr l2 er s, ns ++ [pn], A5, c5, A6, c6, by omega, by go_num, by rw [hlen], by rw [hlen, HNS.out], HH.out.2.2, HH.out.2.1, hK6, by rw [hlen]; exact o6, bR6, hB6, HH.out.1.2.2.2.2.1, HH.out.1.2.2.2.2.2.1, Nat.le_trans hbase hs6⟩
          case measure => simp [intOf]; omega
        · obtain rfl : k = b.length := by omega
          clear HNS
          have hMe : M = (l2, ns, er) := by
            unfold MRG at hM
            rw [List.drop_length] at hM
            rw [hM]
            simp [mrg]
          have HH := Lib.hid hG
          obtain ⟨x0, x1, x2, _⟩ := cells3 hG.1.1
          obtain ⟨y0, y1⟩ := cells1 hG.2.2.1
          clear hM hG HM0 HG2
          subst hMe
          by_cases her : er ≠ 0
          · rw [if_pos her] at hR
            subst hR
            have heb : (er != 0) = true := bne_iff_ne.2 her
            have bR1 : Blk (wr.setCell ⟨w.heap.size + 1 + 1, 0, none⟩ (.slice none 0 0)) (w.heap.size + 1 + 1) 24 #[.slice none 0 0] := HH.out.2.2.1.set 0 _
            have hK1 := HH.out.1.far HH.out.2.2.2.2.1 (p := ⟨w.heap.size + 1 + 1, 0, none⟩) (.slice none 0 0)
            have hB1 := HH.out.2.2.2.1.setCell (p := ⟨w.heap.size + 1 + 1, 0, none⟩) (by show w.heap.size ≤ w.heap.size + 1 + 1; omega) (.slice none 0 0)
            obtain ⟨_, _, v2, _⟩ := cells3 hK1.1
            obtain ⟨u0, u1⟩ := cells1 bR1
            have HE := Lib.hid (And.intro bR1 hB1)
            clear bR1 hK1 hB1
            go_wp2_with fail
            go_region_held3 (fun W => W.cell? ⟨g, 2, none⟩ = some (.int .i64 er) ∧ W.cell? ⟨w.heap.size + 1 + 1, 0, none⟩ = some (.slice none 0 0) ∧ W.frozen? ⟨w.heap.size + 1 + 1, 0, none⟩ = false)
              (first
                | exact ⟨x2, y0, y1⟩
                | exact ⟨v2, u0, u1⟩)
              (fail)
            go_wp2_with fail
            exact bodyPost_ret (results_ctt rfl _ _ _ _ _ _ rfl HE.out.1.drew Try.underlying24 rfl (by kernel_rfl)) rfl ⟨⟨none, 0, none, 0, rfl, Sl.nil _ _ _, Sl.nil _ _ _⟩, HE.out.2.drew⟩
          · rw [if_neg her] at hR
            subst hR
            have her0 : er = 0 := by simpa using her
            subst her0
            have hK1 := HH.out.1.far HH.out.2.2.2.2.1 (p := ⟨w.heap.size + 1 + 1, 0, none⟩) (.slice A4 l2.length c4)
            have o1 := HH.out.2.1.far (p := ⟨w.heap.size + 1 + 1, 0, none⟩) HH.out.2.2.2.2.1 (.slice A4 l2.length c4)
            have HE := Lib.hid (And.intro hK1 o1)
            clear hK1 o1
            go_wp2_with fail
            exact bodyPost_ret (results_ctt rfl _ _ _ _ _ _ rfl (HH.out.2.2.1.set 0 (.slice A4 l2.length c4)) Try.underlying24 rfl (by kernel_rfl)) rfl ⟨⟨A4, c4, A3, c3, rfl, HE.out.1.2.2.1.sl, HE.out.2.sl⟩, HH.out.2.2.2.1.setCell (p := ⟨w.heap.size + 1 + 1, 0, none⟩) (by show w.heap.size ≤ w.heap.size + 1 + 1; omega) _⟩
end Go.Proofs.Ytbobpgjgknkogaa
