/- The walk of RecordReads, whole. -/
import Derived.Test.YtdndomjmnlpjgaaP10
namespace Go.Proofs.Ytdndomjmnlpjgaa
open Go.RowKit
set_option maxRecDepth 100000 in
set_option maxHeartbeats 6400000 in
theorem RecordReads_any (l : List UInt8) (n a : Int) (w : World) (hm : l.length ≤ maxLen) :
    Calls Try.prog 5 #[.string ⟨l.toArray⟩, .int .i64 n, .int .i64 a] w fun e w' => e = .returned (.bool true) ∧ Below w.heap.size w w' := by
  unfold maxLen at hm
  have HA := Lib.hid (fun W => awake23_any W)
  by_cases hskip : (120 < l.length ∧ l.length ≤ 20000) ∨ 20003 < l.length
  · rcases hskip with ⟨h1, h2⟩ | h1
    · have h1z : (120 : Int) < l.length := by omega
      have h2z : (l.length : Int) ≤ 20000 := by omega
      go_enter Try.func5, Try.ntmps5
      go_wp2_with fail
      refine (HA.out _).mono ?_
      rintro e w1 ⟨rfl, hb⟩
      go_wp2_with fail
      go_ret
      exact ⟨rfl, hb⟩
    · have h1z : (20003 : Int) < l.length := by omega
      have h2z : (120 : Int) < l.length := by omega
      have h3z : ¬ (l.length : Int) ≤ 20000 := by omega
      have h2 : 120 < l.length := by omega
      have h3 : ¬ l.length ≤ 20000 := by omega
      go_enter Try.func5, Try.ntmps5
      go_wp2_with fail
      refine (HA.out _).mono ?_
      rintro e w1 ⟨rfl, hb⟩
      go_wp2_with fail
      go_ret
      exact ⟨rfl, hb⟩
  · have hl : l.length ≤ 30000 := by omega
    have HF := Lib.hid (fun W => FramesA_any l n a W hl)
    have HG := Lib.hid (fun W => rFramesA_any l n a W hl)
    have HO := Lib.hid (fun W => Of_any l n a W hl)
    have HP := Lib.hid (fun W => rOf_any l n a W hl)
    have hfl := (framesA_len l n a).1
    have hol := ofA_len l n a
    generalize ofA l n a = O at *
    generalize framesA l n a = F at *
    obtain ⟨T, u, ⟨fe, fa⟩⟩ := F
    obtain ⟨R, ⟨ge, ga⟩⟩ := O
    unfold Fault.v at HF HG HO HP
    simp only at HF HG HO HP hfl hol
    have HSm := Lib.hid (fun A1 A2 cap1 cap2 D W h1 h2 => SameTokens_any A1 A2 cap1 cap2 D T T W h1 h2 (by omega) (by omega))
    rw [decide_eq_true rfl] at HSm
    have HSr := Lib.hid (fun (L K : List RcM) A1 A2 cap1 cap2 W h1 h2 h3 h4 (e1 : L.map (·.r) = R) (e2 : K.map (·.r) = R) => SameRecs_any A1 A2 cap1 cap2 L K W h1 h2 h3 h4
      (by rw [← List.length_map (f := (·.r)), e1]; omega)
      (fun x hx => by have := hol.2 x.r (by rw [← e1]; exact List.mem_map_of_mem hx); omega)
      (fun x hx => by have := hol.2 x.r (by rw [← e2]; exact List.mem_map_of_mem hx); omega))
    clear hfl hol
    by_cases hs : l.length ≤ 120
    · have h1z : ¬ (120 : Int) < l.length := by omega
      have h1 : ¬ 120 < l.length := by omega
      have h2z : ¬ (20003 : Int) < l.length := by omega
      have h2 : ¬ 20003 < l.length := by omega
      clear hskip hm hl hs
      go_enter Try.func5, Try.ntmps5
      go_wp2_with fail
      refine (HF.out _).mono ?_
      rintro e w1 ⟨⟨A1, cap1, rfl, hS1⟩, hb1⟩
      have hw10 := hb1.size
      have hB2 := hb1.alloc hb1.size (.cells #[.int .i64 fe, .int .i64 fa] 27)
      have b2 := Blk.new w1 27 #[.int .i64 fe, .int .i64 fa]
      have hS2 := hS1.alloc (Nat.le_refl _) (.cells #[.int .i64 fe, .int .i64 fa] 27)
      have hz2 : (w1.alloc (.cells #[.int .i64 fe, .int .i64 fa] 27)).heap.size = w1.heap.size + 1 := by simp
      have H1 := Lib.hid (And.intro hB2 (And.intro b2 (And.intro hS2 hz2)))
      clear hB2 b2 hS2 hS1 hb1 HF
      go_wp2_with fail
      obtain ⟨hB2, b2, hS2, hz2⟩ := H1.out
      clear H1
      generalize w1.alloc (.cells #[.int .i64 fe, .int .i64 fa] 27) = W2 at *
      refine (HG.out _).mono ?_
      rintro e w3 ⟨⟨A3, cap3, rfl, hS3⟩, hb3⟩
      have hs3 := hb3.size
      have hB4 := (below_on hB2 hb3 (Nat.le_refl _)).alloc (Nat.le_trans hB2.size hs3) (.cells #[.int .i64 fe, .int .i64 fa] 27)
      have b4 := (Blk.on b2 hb3).alloc (.cells #[.int .i64 fe, .int .i64 fa] 27)
      have b5 := Blk.new w3 27 #[.int .i64 fe, .int .i64 fa]
      have hS4 := ((hS2.below hb3 (by omega)).more (by omega : w1.heap.size ≤ w3.heap.size)).alloc (Nat.le_refl _) (.cells #[.int .i64 fe, .int .i64 fa] 27)
      have hS5 := hS3.alloc (Nat.le_refl _) (.cells #[.int .i64 fe, .int .i64 fa] 27)
      have hz4 : (w3.alloc (.cells #[.int .i64 fe, .int .i64 fa] 27)).heap.size = w3.heap.size + 1 := by simp
      have H2 := Lib.hid (And.intro hB4 (And.intro b4 (And.intro b5 (And.intro hS4 (And.intro hS5 hz4)))))
      clear hB2 b2 hS2 hB4 b4 b5 hS4 hS5 hz4 hS3 hb3 HG
      go_wp2_with fail
      obtain ⟨hB4, b4, b5, hS4, hS5, hz4⟩ := H2.out
      clear H2
      have hne : w1.heap.size ≠ w3.heap.size := by omega
      have hw1 : w.heap.size ≤ w1.heap.size := hw10
      have hw3 : w.heap.size ≤ w3.heap.size := by omega
      generalize w3.alloc (.cells #[.int .i64 fe, .int .i64 fa] 27) = W4 at *
      refine (HSm.out _ _ _ _ _ _ (hS4.more (by omega : w3.heap.size ≤ W4.heap.size)) (hS5.more (by omega : w3.heap.size ≤ W4.heap.size))).mono ?_
      rintro e w5 ⟨rfl, hb5⟩
      have b6 := Blk.on b4 hb5
      have b7 := Blk.on b5 hb5
      obtain ⟨p0, p1, r0, r1⟩ := cells2 b6
      obtain ⟨s0, s1, t0, t1⟩ := cells2 b7
      have hB5 := below_on hB4 hb5 (Nat.le_refl _)
      have H3 := Lib.hid (And.intro hB5 (And.intro b6 b7))
      clear hB4 b4 b5 hS4 hS5 hz4 hb5 hB5 b6 b7 HSm
      go_wp2_with fail
      refine (HO.out _).mono ?_
      rintro e w7 ⟨⟨L, A7, cap7, hL, rfl, hO7, hR7⟩, hb7⟩
      obtain ⟨hB5, b6, b7⟩ := H3.out
      clear H3 p0 p1 r0 r1 s0 s1 t0 t1 HO
      have b8 := Blk.on b6 hb7
      have b9 := Blk.on b7 hb7
      have hB7 := below_on hB5 hb7 (Nat.le_refl _)
      obtain ⟨p0, p1, r0, r1⟩ := cells2 b8
      have b11 : Blk ((w7.setCell ⟨w1.heap.size, 0, none⟩ (.int .i64 ge)).setCell ⟨w1.heap.size, 1, none⟩ (.int .i64 ga)) w1.heap.size 27 #[.int .i64 ge, .int .i64 ga] := (b8.set 0 (.int .i64 ge)).set 1 (.int .i64 ga)
      have b10 := (b9.far (p := ⟨w1.heap.size, 0, none⟩) (Ne.symm hne) (.int .i64 ge)).far (p := ⟨w1.heap.size, 1, none⟩) (Ne.symm hne) (.int .i64 ga)
      have hO8 := (hO7.grown (setG w7 w1.heap.size 0 (.int .i64 ge)) (hO7.ne_blk (by decide) b8)).grown (setG _ w1.heap.size 1 (.int .i64 ga)) (Own.ne_blk (by decide) (hO7.grown (setG w7 w1.heap.size 0 (.int .i64 ge)) (hO7.ne_blk (by decide) b8)) (b8.set 0 _))
      have hR8 := ((hR7.grownG (by decide) b8 (setG w7 w1.heap.size 0 (.int .i64 ge))).grownG (by decide) (b8.set 0 _) (setG _ w1.heap.size 1 (.int .i64 ga)))
      have hB8 := (hB7.setCell (p := ⟨w1.heap.size, 0, none⟩) hw1 (.int .i64 ge)).setCell (p := ⟨w1.heap.size, 1, none⟩) hw1 (.int .i64 ga)
      have hz8 : ((w7.setCell ⟨w1.heap.size, 0, none⟩ (.int .i64 ge)).setCell ⟨w1.heap.size, 1, none⟩ (.int .i64 ga)).heap.size = w7.heap.size := by simp
      have H4 := Lib.hid (And.intro b11 (And.intro b10 (And.intro hO8 (And.intro hR8 (And.intro hB8 hz8)))))
      clear b8 b9 hB7 b10 b11 hO8 hR8 hB8 hO7 hR7 hb7 hB5 b6 b7 hz8
      go_wp2_with fail
      obtain ⟨b11, b10, hO8, hR8, hB8, hz8⟩ := H4.out
      clear H4 p0 p1 r0 r1
      generalize (w7.setCell ⟨w1.heap.size, 0, none⟩ (.int .i64 ge)).setCell ⟨w1.heap.size, 1, none⟩ (.int .i64 ga) = W8 at *
      refine (HP.out _).mono ?_
      rintro e w9 ⟨⟨K, A9, cap9, hK, rfl, hO9, hR9⟩, hb9⟩
      have c8 := Blk.on b11 hb9
      have c9 := Blk.on b10 hb9
      have hB9 := below_on hB8 hb9 (Nat.le_refl _)
      have hs9 := hb9.size
      obtain ⟨s0, s1, t0, t1⟩ := cells2 c9
      have hO8b := hO8.below hb9 (Nat.le_refl _)
      have hR8b := hR8.below hb9 (Nat.le_refl _)
      have d11 : Blk ((w9.setCell ⟨w3.heap.size, 0, none⟩ (.int .i64 ge)).setCell ⟨w3.heap.size, 1, none⟩ (.int .i64 ga)) w3.heap.size 27 #[.int .i64 ge, .int .i64 ga] := (c9.set 0 (.int .i64 ge)).set 1 (.int .i64 ga)
      have d10 := (c8.far (p := ⟨w3.heap.size, 0, none⟩) hne (.int .i64 ge)).far (p := ⟨w3.heap.size, 1, none⟩) hne (.int .i64 ga)
      have hO10 := ((hO8b.grown (setG w9 w3.heap.size 0 (.int .i64 ge)) (hO8b.ne_blk (by decide) c9)).grown (setG _ w3.heap.size 1 (.int .i64 ga)) (Own.ne_blk (by decide) (hO8b.grown (setG w9 w3.heap.size 0 (.int .i64 ge)) (hO8b.ne_blk (by decide) c9)) (c9.set 0 _))).sl
      have hR10 := ((hR8b.grownG (by decide) c9 (setG w9 w3.heap.size 0 (.int .i64 ge))).grownG (by decide) (c9.set 0 _) (setG _ w3.heap.size 1 (.int .i64 ga))).sl
      have hO11 := ((hO9.grown (setG w9 w3.heap.size 0 (.int .i64 ge)) (hO9.ne_blk (by decide) c9)).grown (setG _ w3.heap.size 1 (.int .i64 ga)) (Own.ne_blk (by decide) (hO9.grown (setG w9 w3.heap.size 0 (.int .i64 ge)) (hO9.ne_blk (by decide) c9)) (c9.set 0 _))).sl
      have hR11 := ((hR9.grownG (by decide) c9 (setG w9 w3.heap.size 0 (.int .i64 ge))).grownG (by decide) (c9.set 0 _) (setG _ w3.heap.size 1 (.int .i64 ga))).sl
      have hB10 := (hB9.setCell (p := ⟨w3.heap.size, 0, none⟩) hw3 (.int .i64 ge)).setCell (p := ⟨w3.heap.size, 1, none⟩) hw3 (.int .i64 ga)
      have hSR := HSr.out L K A7 A9 cap7 cap9 _ hO10 hO11 hR10 hR11 hL hK
      rw [hL, hK, decide_eq_true rfl] at hSR
      have H5 := Lib.hid (And.intro d11 (And.intro d10 (And.intro hB10 hSR)))
      clear c8 c9 hB9 hO8b hR8b d11 d10 hO10 hR10 hO11 hR11 hB10 hO8 hR8 hO9 hR9 hb9 hB8 b11 b10 hs9 hSR HSr
      go_wp2_with fail
      obtain ⟨d11, d10, hB10, hSR⟩ := H5.out
      clear H5 s0 s1 t0 t1
      generalize (w9.setCell ⟨w3.heap.size, 0, none⟩ (.int .i64 ge)).setCell ⟨w3.heap.size, 1, none⟩ (.int .i64 ga) = W10 at *
      refine hSR.mono ?_
      rintro e w11 ⟨rfl, hb11⟩
      have f8 := Blk.on d10 hb11
      have f9 := Blk.on d11 hb11
      obtain ⟨p0, p1, r0, r1⟩ := cells2 f8
      obtain ⟨s0, s1, t0, t1⟩ := cells2 f9
      have H6 := Lib.hid (below_on hB10 hb11 (Nat.le_refl _))
      clear f8 f9 d11 d10 hB10 hSR hb11
      go_wp2_with fail
      refine (HA.out _).mono ?_
      rintro e w12 ⟨rfl, hb12⟩
      have H7 := Lib.hid (below_on H6.out hb12 (Nat.le_refl _))
      clear hb12
      go_wp2_with fail
      go_ret
      exact ⟨rfl, H7.out⟩
    · have h1z : (120 : Int) < l.length := by omega
      have h1 : 120 < l.length := by omega
      have h2z : ¬ (20003 : Int) < l.length := by omega
      have h2 : ¬ 20003 < l.length := by omega
      have h3z : ¬ (l.length : Int) ≤ 20000 := by omega
      have h3 : ¬ l.length ≤ 20000 := by omega
      clear hskip hm hl hs
      go_enter Try.func5, Try.ntmps5
      go_wp2_with fail
      refine (HF.out _).mono ?_
      rintro e w1 ⟨⟨A1, cap1, rfl, hS1⟩, hb1⟩
      have hw10 := hb1.size
      have hB2 := hb1.alloc hb1.size (.cells #[.int .i64 fe, .int .i64 fa] 27)
      have b2 := Blk.new w1 27 #[.int .i64 fe, .int .i64 fa]
      have hS2 := hS1.alloc (Nat.le_refl _) (.cells #[.int .i64 fe, .int .i64 fa] 27)
      have hz2 : (w1.alloc (.cells #[.int .i64 fe, .int .i64 fa] 27)).heap.size = w1.heap.size + 1 := by simp
      have H1 := Lib.hid (And.intro hB2 (And.intro b2 (And.intro hS2 hz2)))
      clear hB2 b2 hS2 hS1 hb1 HF
      go_wp2_with fail
      obtain ⟨hB2, b2, hS2, hz2⟩ := H1.out
      clear H1
      generalize w1.alloc (.cells #[.int .i64 fe, .int .i64 fa] 27) = W2 at *
      refine (HG.out _).mono ?_
      rintro e w3 ⟨⟨A3, cap3, rfl, hS3⟩, hb3⟩
      have hs3 := hb3.size
      have hB4 := (below_on hB2 hb3 (Nat.le_refl _)).alloc (Nat.le_trans hB2.size hs3) (.cells #[.int .i64 fe, .int .i64 fa] 27)
      have b4 := (Blk.on b2 hb3).alloc (.cells #[.int .i64 fe, .int .i64 fa] 27)
      have b5 := Blk.new w3 27 #[.int .i64 fe, .int .i64 fa]
      have hS4 := ((hS2.below hb3 (by omega)).more (by omega : w1.heap.size ≤ w3.heap.size)).alloc (Nat.le_refl _) (.cells #[.int .i64 fe, .int .i64 fa] 27)
      have hS5 := hS3.alloc (Nat.le_refl _) (.cells #[.int .i64 fe, .int .i64 fa] 27)
      have hz4 : (w3.alloc (.cells #[.int .i64 fe, .int .i64 fa] 27)).heap.size = w3.heap.size + 1 := by simp
      have H2 := Lib.hid (And.intro hB4 (And.intro b4 (And.intro b5 (And.intro hS4 (And.intro hS5 hz4)))))
      clear hB2 b2 hS2 hB4 b4 b5 hS4 hS5 hz4 hS3 hb3 HG
      go_wp2_with fail
      obtain ⟨hB4, b4, b5, hS4, hS5, hz4⟩ := H2.out
      clear H2
      have hne : w1.heap.size ≠ w3.heap.size := by omega
      have hw1 : w.heap.size ≤ w1.heap.size := hw10
      have hw3 : w.heap.size ≤ w3.heap.size := by omega
      generalize w3.alloc (.cells #[.int .i64 fe, .int .i64 fa] 27) = W4 at *
      refine (HSm.out _ _ _ _ _ _ (hS4.more (by omega : w3.heap.size ≤ W4.heap.size)) (hS5.more (by omega : w3.heap.size ≤ W4.heap.size))).mono ?_
      rintro e w5 ⟨rfl, hb5⟩
      have b6 := Blk.on b4 hb5
      have b7 := Blk.on b5 hb5
      obtain ⟨p0, p1, r0, r1⟩ := cells2 b6
      obtain ⟨s0, s1, t0, t1⟩ := cells2 b7
      have hB5 := below_on hB4 hb5 (Nat.le_refl _)
      have H3 := Lib.hid (And.intro hB5 (And.intro b6 b7))
      clear hB4 b4 b5 hS4 hS5 hz4 hb5 hB5 b6 b7 HSm
      go_wp2_with fail
      refine (HO.out _).mono ?_
      rintro e w7 ⟨⟨L, A7, cap7, hL, rfl, hO7, hR7⟩, hb7⟩
      obtain ⟨hB5, b6, b7⟩ := H3.out
      clear H3 p0 p1 r0 r1 s0 s1 t0 t1 HO
      have b8 := Blk.on b6 hb7
      have b9 := Blk.on b7 hb7
      have hB7 := below_on hB5 hb7 (Nat.le_refl _)
      obtain ⟨p0, p1, r0, r1⟩ := cells2 b8
      have b11 : Blk ((w7.setCell ⟨w1.heap.size, 0, none⟩ (.int .i64 ge)).setCell ⟨w1.heap.size, 1, none⟩ (.int .i64 ga)) w1.heap.size 27 #[.int .i64 ge, .int .i64 ga] := (b8.set 0 (.int .i64 ge)).set 1 (.int .i64 ga)
      have b10 := (b9.far (p := ⟨w1.heap.size, 0, none⟩) (Ne.symm hne) (.int .i64 ge)).far (p := ⟨w1.heap.size, 1, none⟩) (Ne.symm hne) (.int .i64 ga)
      have hO8 := (hO7.grown (setG w7 w1.heap.size 0 (.int .i64 ge)) (hO7.ne_blk (by decide) b8)).grown (setG _ w1.heap.size 1 (.int .i64 ga)) (Own.ne_blk (by decide) (hO7.grown (setG w7 w1.heap.size 0 (.int .i64 ge)) (hO7.ne_blk (by decide) b8)) (b8.set 0 _))
      have hR8 := ((hR7.grownG (by decide) b8 (setG w7 w1.heap.size 0 (.int .i64 ge))).grownG (by decide) (b8.set 0 _) (setG _ w1.heap.size 1 (.int .i64 ga)))
      have hB8 := (hB7.setCell (p := ⟨w1.heap.size, 0, none⟩) hw1 (.int .i64 ge)).setCell (p := ⟨w1.heap.size, 1, none⟩) hw1 (.int .i64 ga)
      have hz8 : ((w7.setCell ⟨w1.heap.size, 0, none⟩ (.int .i64 ge)).setCell ⟨w1.heap.size, 1, none⟩ (.int .i64 ga)).heap.size = w7.heap.size := by simp
      have H4 := Lib.hid (And.intro b11 (And.intro b10 (And.intro hO8 (And.intro hR8 (And.intro hB8 hz8)))))
      clear b8 b9 hB7 b10 b11 hO8 hR8 hB8 hO7 hR7 hb7 hB5 b6 b7 hz8
      go_wp2_with fail
      obtain ⟨b11, b10, hO8, hR8, hB8, hz8⟩ := H4.out
      clear H4 p0 p1 r0 r1
      generalize (w7.setCell ⟨w1.heap.size, 0, none⟩ (.int .i64 ge)).setCell ⟨w1.heap.size, 1, none⟩ (.int .i64 ga) = W8 at *
      refine (HP.out _).mono ?_
      rintro e w9 ⟨⟨K, A9, cap9, hK, rfl, hO9, hR9⟩, hb9⟩
      have c8 := Blk.on b11 hb9
      have c9 := Blk.on b10 hb9
      have hB9 := below_on hB8 hb9 (Nat.le_refl _)
      have hs9 := hb9.size
      obtain ⟨s0, s1, t0, t1⟩ := cells2 c9
      have hO8b := hO8.below hb9 (Nat.le_refl _)
      have hR8b := hR8.below hb9 (Nat.le_refl _)
      have d11 : Blk ((w9.setCell ⟨w3.heap.size, 0, none⟩ (.int .i64 ge)).setCell ⟨w3.heap.size, 1, none⟩ (.int .i64 ga)) w3.heap.size 27 #[.int .i64 ge, .int .i64 ga] := (c9.set 0 (.int .i64 ge)).set 1 (.int .i64 ga)
      have d10 := (c8.far (p := ⟨w3.heap.size, 0, none⟩) hne (.int .i64 ge)).far (p := ⟨w3.heap.size, 1, none⟩) hne (.int .i64 ga)
      have hO10 := ((hO8b.grown (setG w9 w3.heap.size 0 (.int .i64 ge)) (hO8b.ne_blk (by decide) c9)).grown (setG _ w3.heap.size 1 (.int .i64 ga)) (Own.ne_blk (by decide) (hO8b.grown (setG w9 w3.heap.size 0 (.int .i64 ge)) (hO8b.ne_blk (by decide) c9)) (c9.set 0 _))).sl
      have hR10 := ((hR8b.grownG (by decide) c9 (setG w9 w3.heap.size 0 (.int .i64 ge))).grownG (by decide) (c9.set 0 _) (setG _ w3.heap.size 1 (.int .i64 ga))).sl
      have hO11 := ((hO9.grown (setG w9 w3.heap.size 0 (.int .i64 ge)) (hO9.ne_blk (by decide) c9)).grown (setG _ w3.heap.size 1 (.int .i64 ga)) (Own.ne_blk (by decide) (hO9.grown (setG w9 w3.heap.size 0 (.int .i64 ge)) (hO9.ne_blk (by decide) c9)) (c9.set 0 _))).sl
      have hR11 := ((hR9.grownG (by decide) c9 (setG w9 w3.heap.size 0 (.int .i64 ge))).grownG (by decide) (c9.set 0 _) (setG _ w3.heap.size 1 (.int .i64 ga))).sl
      have hB10 := (hB9.setCell (p := ⟨w3.heap.size, 0, none⟩) hw3 (.int .i64 ge)).setCell (p := ⟨w3.heap.size, 1, none⟩) hw3 (.int .i64 ga)
      have hSR := HSr.out L K A7 A9 cap7 cap9 _ hO10 hO11 hR10 hR11 hL hK
      rw [hL, hK, decide_eq_true rfl] at hSR
      have H5 := Lib.hid (And.intro d11 (And.intro d10 (And.intro hB10 hSR)))
      clear c8 c9 hB9 hO8b hR8b d11 d10 hO10 hR10 hO11 hR11 hB10 hO8 hR8 hO9 hR9 hb9 hB8 b11 b10 hs9 hSR HSr
      go_wp2_with fail
      obtain ⟨d11, d10, hB10, hSR⟩ := H5.out
      clear H5 s0 s1 t0 t1
      generalize (w9.setCell ⟨w3.heap.size, 0, none⟩ (.int .i64 ge)).setCell ⟨w3.heap.size, 1, none⟩ (.int .i64 ga) = W10 at *
      refine hSR.mono ?_
      rintro e w11 ⟨rfl, hb11⟩
      have f8 := Blk.on d10 hb11
      have f9 := Blk.on d11 hb11
      obtain ⟨p0, p1, r0, r1⟩ := cells2 f8
      obtain ⟨s0, s1, t0, t1⟩ := cells2 f9
      have H6 := Lib.hid (below_on hB10 hb11 (Nat.le_refl _))
      clear f8 f9 d11 d10 hB10 hSR hb11
      go_wp2_with fail
      refine (HA.out _).mono ?_
      rintro e w12 ⟨rfl, hb12⟩
      have H7 := Lib.hid (below_on H6.out hb12 (Nat.le_refl _))
      clear hb12
      go_wp2_with fail
      go_ret
      exact ⟨rfl, H7.out⟩
end Go.Proofs.Ytdndomjmnlpjgaa
