/- queue: PutAll. No condition. -/
import Derived.Test.YtogldckkmjbohaaQ7
namespace Go.Proofs.Ytogldckkmjbohaa
open Go.RowKit
def putE (q : Int) (l more : List Ev) : Int := if chkQ q l = 0 then rightE more else chkQ q l
def putN (q : Int) (l more : List Ev) : Nat := min more.length (q - l.length).toNat
def putR (q : Int) (l more : List Ev) : List Ev × Nat × Int := if putE q l more = 0 then (l ++ more.take (putN q l more), putN q l more, 0) else ([], 0, putE q l more)
theorem meas_step (n j : Nat) (h : j < n) : n - ((j : Int) + 1).toNat < n - j := by omega
set_option maxRecDepth 100000 in
set_option maxHeartbeats 3200000 in
theorem qPutAll_any (q : Int) (A Am : Option Addr) (cap cm D : Nat) (l more : List Ev) (w : World) (hS : Sl w D 7 A l.length cap (evC l)) (hM : Sl w D 7 Am more.length cm (evC more)) (hD : D ≤ w.heap.size) (hn : l.length ≤ 100) (hm : more.length ≤ 100) (hl : ∀ t ∈ l, t.text.length ≤ maxLen) (hl2 : ∀ t ∈ more, t.text.length ≤ maxLen) :
    Calls Try.prog 12 #[.int .i64 q, .slice A l.length cap, .slice Am more.length cm] w fun e w' => (∃ A2 c2, e = .returned (.tuple #[.slice A2 (putR q l more).1.length c2, .int .i64 (putR q l more).2.1, .int .i64 (putR q l more).2.2]) ∧
      Sl w' w'.heap.size 7 A2 (putR q l more).1.length c2 (evC (putR q l more).1)) ∧ Below w.heap.size w w' := by
  have hR : putR q l more = if putE q l more = 0 then (l ++ more.take (putN q l more), putN q l more, 0) else ([], 0, putE q l more) := rfl
  have hE : putE q l more = if chkQ q l = 0 then rightE more else chkQ q l := rfl
  have hok : chkQ q l = 0 → _ := fun h => chkQ_ok h
  have HPN := Lib.hid (show putN q l more = min more.length (q - l.length).toNat from rfl)
  have HC := Lib.hid (fun W hS hD => qCheck_any q A cap D l W hS hD (by omega) hl)
  have HRi := Lib.hid (fun W hS hD => right_any Am cm D more W hS hD (by omega) hl2)
  have HBe := Lib.hid (fun W hS hD => begun_any q A cap D l W hS hD (by omega))
  have bM := Blk.new w 22 #[.slice Am more.length cm]
  have hB0 := (Below.refl w.heap.size w).alloc (Nat.le_refl _) (.cells #[.slice Am more.length cm] 22)
  have HS := Lib.hid (And.intro hS hM)
  have HH := Lib.hid (And.intro bM hB0)
  generalize putR q l more = R at *
  generalize putE q l more = E at *
  generalize putN q l more = N at *
  generalize chkQ q l = c at *
  generalize rightE more = r at *
  clear hS hM hl hl2 bM hB0
  by_cases hc : c = 0
  · rw [if_pos hc] at hE
    obtain ⟨h1, h2, h3, _⟩ := hok hc
    subst hc
    clear hok
    go_enter Try.func12, Try.ntmps12
    go_wp2_with fail
    obtain ⟨bM, hB0⟩ := HH.out
    have HC1 := Lib.hid (HC.out _ (HS.out.1.below hB0 hD) (Nat.le_trans hD hB0.size))
    refine HC1.out.mono ?_
    rintro e w1 ⟨rfl, hb1⟩
    have bM1 := Blk.on bM hb1
    have hB1 := below_on hB0 hb1 (Nat.le_refl _)
    have m0 := (cells1 bM1).1
    have HR1 := Lib.hid (HRi.out w1 (HS.out.2.below hB1 hD) (Nat.le_trans hD hB1.size))
    have HB1 := Lib.hid (And.intro bM1 hB1)
    clear bM hB0 hb1 bM1 hB1 HH HC HC1 HRi
    by_cases hr : r = 0
    · subst hr
      rw [if_pos hE] at hR
      go_wp2_with fail
      refine HR1.out.mono ?_
      rintro e w2 ⟨rfl, hb2⟩
      obtain ⟨bM1, hB1⟩ := HB1.out
      have bM2 := Blk.on bM1 hb2
      have hB2 := below_on hB1 hb2 (Nat.le_refl _)
      have HBe2 := Lib.hid (HBe.out w2 (HS.out.1.below hB2 hD) (Nat.le_trans hD hB2.size))
      have HB2 := Lib.hid (And.intro bM2 hB2)
      have hmw := bM2.lt
      clear bM1 hB1 hb2 bM2 hB2 HB1 HR1 m0
      go_wp2_with fail
      refine HBe2.out.mono ?_
      rintro e w3 ⟨⟨A2, g, hg1, hg2, rfl, hw3, hs3⟩, hb3⟩
      obtain ⟨bM2, hB2⟩ := HB2.out
      have bM3 := Blk.on bM2 hb3
      have hB3 := below_on hB2 hb3 (Nat.le_refl _)
      have HR' := Lib.hid hR
      have HSm := Lib.hid (HS.out.2.below hB3 hD)
      have hz : (w3.alloc (.cells #[.pointer (some ⟨g, 0, none⟩)] 53)).heap.size = g + 1 + 1 := by simp [hg2]
      have b1 := ((Blk.newAt w3 53 #[.pointer (some ⟨g, 0, none⟩)] (g := g + 1) hg2.symm).alloc (.cells #[.int .i64 0] 3))
      have b2 := Blk.newAt (w3.alloc (.cells #[.pointer (some ⟨g, 0, none⟩)] 53)) 3 #[.int .i64 0] (g := g + 1 + 1) hz.symm
      have b3 := (hw3.alloc (.cells #[.pointer (some ⟨g, 0, none⟩)] 53)).alloc (.cells #[.int .i64 0] 3)
      have b4 := (bM3.alloc (.cells #[.pointer (some ⟨g, 0, none⟩)] 53)).alloc (.cells #[.int .i64 0] 3)
      have q5 : QL ((w3.alloc (.cells #[.pointer (some ⟨g, 0, none⟩)] 53)).alloc (.cells #[.int .i64 0] 3)) (g + 3) A2 l.length l.length (evC l) :=
        .inl ⟨rfl, (((hs3.more (by omega : g ≤ w3.heap.size)).alloc (Nat.le_refl _) _).more (by simp)).alloc (Nat.le_refl _) _ |>.more (by simp)⟩
      have hB5 := (hB3.alloc hB3.size (.cells #[.pointer (some ⟨g, 0, none⟩)] 53)).alloc (by rw [hz]; omega) (.cells #[.int .i64 0] 3)
      have hz5 : ((w3.alloc (.cells #[.pointer (some ⟨g, 0, none⟩)] 53)).alloc (.cells #[.int .i64 0] 3)).heap.size = g + 3 := by simp [hg2]
      have HW := Lib.hid (And.intro b1 (And.intro b2 (And.intro b3 (And.intro b4 (And.intro q5 (And.intro hB5 hz5))))))
      have hwg : w.heap.size ≤ g := by omega
      have hmg : w.heap.size < g := by have := bM2.lt; omega
      clear hw3 hs3 bM3 hB3 bM2 hB2 hb3 HB2 HBe2 HBe hR hz b1 b2 b3 b4 q5 hB5 hz5
      go_wp2_with fail
      obtain ⟨b1, b2, b3, b4, q5, hB5, hz5⟩ := HW.out
      clear HW
      go_loopw [28] (fun _ W => ∃ (j : Nat) (K : List Ev) (A5 : Option Addr) (c5 : Nat), j ≤ more.length ∧ K = l ++ more.take j ∧ (K.length : Int) ≤ q ∧ Blk W (g + 1 + 1) 3 #[.int .i64 j] ∧ Blk W w.heap.size 22 #[.slice Am more.length cm] ∧ Blk W (g + 1) 53 #[.pointer (some ⟨g, 0, none⟩)] ∧
        Blk W g 57 #[.int .i64 q, .slice A5 K.length c5] ∧ QL W (g + 3) A5 K.length c5 (evC K) ∧ Below w.heap.size w W ∧ g + 3 ≤ W.heap.size) (fun _ W => more.length - (intOf ((W.cell? ⟨g + 1 + 1, 0, none⟩).getD undef)).toNat)
      case atStart => exact ⟨0, l, A2, l.length, Nat.zero_le _, by simp, h3, b2, b4, b1, b3, q5, hB5, by omega⟩
      case round =>
        clear b1 b2 b3 b4 q5 hB5 hz5
        obtain ⟨j, K, A5, c5, hj, hK, hKq, b2, b4, b1, b3, q5, hB5, hz5⟩ := hrel
        have hKl : K.length = l.length + j := by rw [hK, List.length_append, List.length_take]; omega
        have HNx := Lib.hid (next_any q g (g + 3) (g + 1 + 1) w.heap.size (g + 1) j c5 cm A5 Am K more wr b2 b4 b1 b3 q5 (((HS.out.2.below hB5 hD)).more (by omega)) h1 (by omega) (by omega) (by omega) (by omega) (by omega) (by omega) (by omega) (by omega) (by omega) hz5)
        have HB := Lib.hid (And.intro b1 (And.intro b2 (And.intro b3 (And.intro b4 (And.intro q5 hB5)))))
        have HKK := Lib.hid hK
        have HKL := Lib.hid hKl
        have hmeas := (b2.cell 0)
        have HMe := Lib.hid (show (intOf ((wr.cell? ⟨g + 1 + 1, 0, none⟩).getD undef)).toNat = j by rw [hmeas]; simp [intOf])
        clear b1 b2 b3 b4 q5 hB5 hK hKl hmeas
        go_wp2_with fail
        refine HNx.out.mono ?_
        rintro e w5 (⟨hor, rfl, hb5⟩ | ⟨hlt, hpos, rfl, A6, c6, X, hw6, ho6, hx6, hg6⟩)
        · obtain ⟨b1, b2, b3, b4, q5, hB5⟩ := HB.out
          have hKl := HKL.out
          have hN : N = j := by rw [HPN.out]; omega
          obtain ⟨d0, d1, _, _⟩ := cells2 (Blk.on b3 hb5)
          obtain ⟨e0, _⟩ := cells1 (Blk.on b1 hb5)
          obtain ⟨f0, _⟩ := cells1 (Blk.on b2 hb5)
          have HRe := Lib.hid (And.intro (q5.below hb5).sl (below_on hB5 hb5 (Nat.le_refl _)))
          have HNN := Lib.hid hN
          clear hor b1 b2 b3 b4 q5 hB5 hb5 hN hKl HNx HB
          go_wp2_with fail
          go_quiet (fail)
          go_wp2_with fail
          go_ret3
          rw [HR'.out, HNN.out, ← HKK.out]
          exact ⟨⟨A5, c5, rfl, HRe.out.1.drewN _⟩, HRe.out.2.trans ⟨rfl, rfl, rfl, Nat.le_refl _, fun _ _ => rfl⟩⟩
        · obtain ⟨b1, b2, b3, b4, q5, hB5⟩ := HB.out
          have hKl := HKL.out
          have b1' := Gb2 b1 hx6 hg6 (by omega) (by omega)
          have b2' := Gb2 b2 hx6 hg6 (by omega) (by omega)
          have b4' := Gb2 b4 hx6 hg6 (by omega) (by omega)
          have hB6 : Below w.heap.size w w5 := (hB5.trans (hx6.mono (by omega))).grown hg6 (Nat.le_trans hB5.size hx6.size) (fun k hk => by injection hk with hk; omega)
          obtain ⟨f0, f1⟩ := cells1 b2'
          have hz6 : g + 3 ≤ w5.heap.size := Nat.le_trans hz5 (Nat.le_trans hx6.size hg6.size)
          have b2'' : Blk (w5.setCell ⟨g + 1 + 1, 0, none⟩ (.int .i64 ((j : Int) + 1))) (g + 1 + 1) 3 #[.int .i64 ((j : Int) + 1)] := b2'.set 0 _
          have HRe := Lib.hid (And.intro b2'' (And.intro (b4'.far (p := ⟨g + 1 + 1, 0, none⟩) (show w.heap.size ≠ g + 1 + 1 by omega) (.int .i64 ((j : Int) + 1))) (And.intro (b1'.far (p := ⟨g + 1 + 1, 0, none⟩) (show g + 1 ≠ g + 1 + 1 by omega) (.int .i64 ((j : Int) + 1))) (And.intro (hw6.far (p := ⟨g + 1 + 1, 0, none⟩) (show g ≠ g + 1 + 1 by omega) (.int .i64 ((j : Int) + 1))) (And.intro (ho6.far (p := ⟨g + 1 + 1, 0, none⟩) (show g + 1 + 1 < g + 3 by omega) (.int .i64 ((j : Int) + 1))) (hB6.setCell (p := ⟨g + 1 + 1, 0, none⟩) (show w.heap.size ≤ g + 1 + 1 by omega) (.int .i64 ((j : Int) + 1))))))))
          have hwj : wrap64 ((j : Int) + 1) = (j : Int) + 1 := by unfold wrap64; omega
          have hK2 : K ++ [more[j]] = l ++ more.take (j + 1) := by rw [HKK.out, take_snoc more j hlt, List.append_assoc]
          have HK2 := Lib.hid hK2
          have HLt := Lib.hid hlt
          clear b1 b2 b3 b4 q5 hB5 b1' b2' b4' hB6 b2'' hw6 ho6 hx6 hg6 HNx HB hK2 hKl
          go_wp2_with fail
          go_roundw
          case rel =>
            obtain ⟨r1, r2, r3, r4, r5, r6⟩ := HRe.out
            refine ⟨j + 1, K ++ [more[j]], A6, c6, HLt.out, HK2.out, by rw [List.length_append]; simp; omega, ?_, r2, r3, ?_, ?_, r6, by simpa using hz6⟩
            · have e : (((j + 1 : Nat) : Int)) = (j : Int) + 1 := by omega
              rw [e]; exact r1
            · rw [List.length_append]; exact r4
            · rw [List.length_append]; exact .inr r5
          case measure =>
            obtain ⟨r1, _⟩ := HRe.out
            rw [HMe.out, r1.cell 0]
            exact meas_step more.length j HLt.out
    · have hEr : E ≠ 0 := by rw [hE]; exact hr
      rw [if_neg hEr] at hR
      subst hR
      have hrb : (r != 0) = true := bne_iff_ne.2 hr
      subst hE
      go_wp2_with fail
      refine HR1.out.mono ?_
      rintro e w2 ⟨rfl, hb2⟩
      have HB2 := Lib.hid (below_on HB1.out.2 hb2 (Nat.le_refl _))
      clear hb2
      go_wp2_with fail
      go_ret3
      exact ⟨⟨none, 0, rfl, Sl.nil _ _ _⟩, HB2.out⟩
  · rw [if_neg hc] at hE
    rw [hE, if_neg hc] at hR
    subst hR
    clear hE hok
    have hcb : (c != 0) = true := bne_iff_ne.2 hc
    have hcb2 : (c == 0) = false := by simpa using hc
    clear hc
    go_enter Try.func12, Try.ntmps12
    go_wp2_with fail
    obtain ⟨bM, hB0⟩ := HH.out
    have HC1 := Lib.hid (HC.out _ (HS.out.1.below hB0 hD) (Nat.le_trans hD hB0.size))
    refine HC1.out.mono ?_
    rintro e w1 ⟨rfl, hb1⟩
    have hB1 := below_on hB0 hb1 (Nat.le_refl _)
    have HB1 := Lib.hid hB1
    clear bM hB0 hb1 hB1 HH
    go_wp2_with fail
    go_ret3
    exact ⟨⟨none, 0, rfl, Sl.nil _ _ _⟩, HB1.out⟩
end Go.Proofs.Ytogldckkmjbohaa
