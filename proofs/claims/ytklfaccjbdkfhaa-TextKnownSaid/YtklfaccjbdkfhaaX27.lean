/- TextKnown. No condition. -/
import Derived.Test.YtklfaccjbdkfhaaX25
namespace Go.Proofs.Ytklfaccjbdkfhaa
open Go.RowKit
set_option maxRecDepth 100000 in
set_option maxHeartbeats 3200000 in
theorem faulty04_any (s : List UInt8) (a e f : Int) (w : World) (hl : s.length ≤ 30000) (h : nextV s a = .tuple #[.agg #[.int .i64 0, .string ⟨#[]⟩, .int .i64 0], .int .i64 0, .agg #[.int .i64 e, .int .i64 f]]) :
    Calls Try.prog 23 #[.string ⟨s.toArray⟩, .int .i64 a, .int .i64 e, .int .i64 f] w fun e w' => e = .returned (.bool true) ∧ Below w.heap.size w w' := by
  have HN := Lib.hid (fun W => Next_at s a W hl)
  rw [h] at HN
  clear h
  go_enter Try.func23, Try.ntmps23
  go_wp2_with fail
  refine (HN.out _).mono ?_
  rintro e1 w3 ⟨rfl, hb3⟩
  have hs3 := hb3.size
  have c2 := (Blk.new w3 31 #[.int .i64 0, .string ⟨#[]⟩, .int .i64 0]).alloc (.cells #[.int .i64 e, .int .i64 f] 26)
  have c3 := Blk.newAt (w3.alloc (.cells #[.int .i64 0, .string ⟨#[]⟩, .int .i64 0] 31)) 26 #[.int .i64 e, .int .i64 f] (g := w3.heap.size + 1) (by simp)
  have hB5 := Lib.hid ((hb3.alloc hb3.size (.cells #[.int .i64 0, .string ⟨#[]⟩, .int .i64 0] 31)).alloc (by simp; omega) (.cells #[.int .i64 e, .int .i64 f] 26))
  obtain ⟨x3, x4, x5, _, _, _⟩ := cells3 c2
  obtain ⟨p0, p1, _, _⟩ := cells2 c3
  clear c2 c3 hb3 HN
  go_wp2_with fail
  go_ret
  exact ⟨rfl, hB5.out⟩
set_option maxRecDepth 100000 in
set_option maxHeartbeats 6400000 in
theorem TextKnown_any (w : World) : Calls Try.prog 7 #[] w fun e w' => e = .returned (.bool true) ∧ Below w.heap.size w w' := by
  have HA := Lib.hid awake04_any
  have HX := Lib.hid lexeme_any
  have HL1 := Lib.hid (fun W => Lexemes_at [] [] 0 0 W (by decide) (by decide +kernel))
  have HL2 := Lib.hid (fun W => Lexemes_at [35, 32, 111, 110, 108, 121] [] 0 0 W (by decide) (by decide +kernel))
  have K0 := Lib.hid (fun W => next04_any [97, 32, 98] 1 ⟨1, [98], 2⟩ 3 W (by decide) (by kernel_rfl))
  have K1 := Lib.hid (fun W => faulty04_any [97, 32, 98] 3 5 3 W (by decide) (by kernel_rfl))
  have K2 := Lib.hid (fun W => faulty04_any [97] 2 2 0 W (by decide) (by kernel_rfl))
  have K3 := Lib.hid (fun W => faulty04_any [48, 48, 55] 0 3 0 W (by decide) (by kernel_rfl))
  have K4 := Lib.hid (fun W => faulty04_any [55, 97] 0 3 0 W (by decide) (by kernel_rfl))
  have K5 := Lib.hid (fun W => next04_any [55, 32, 97] 0 ⟨2, [55], 0⟩ 1 W (by decide) (by kernel_rfl))
  have K6 := Lib.hid (fun W => faulty04_any [95, 97] 0 3 0 W (by decide) (by kernel_rfl))
  have K7 := Lib.hid (fun W => faulty04_any [45, 49] 0 3 0 W (by decide) (by kernel_rfl))
  have N0 := Lib.hid (fun W => Number_any ⟨2, [50], 0⟩ 1 4 W (by decide))
  rw [show numL ⟨2, [50], 0⟩ 1 4 = (2, 0) by decide +kernel] at N0
  have N1 := Lib.hid (fun W => Number_any ⟨2, [53], 0⟩ 1 4 W (by decide))
  rw [show numL ⟨2, [53], 0⟩ 1 4 = (0, 2) by decide +kernel] at N1
  have N2 := Lib.hid (fun W => Number_any ⟨1, [97], 0⟩ 1 4 W (by decide))
  rw [show numL ⟨1, [97], 0⟩ 1 4 = (0, 11) by decide +kernel] at N2
  have HT := Lib.hid (fun (W : World) h => Text_any (some ⟨W.heap.size, 0, none⟩) 3 (W.heap.size + 1) [⟨1, [83], 9⟩, ⟨3, [61], 0⟩, ⟨1, [97], 0⟩] (W.alloc (.cells #[.int .i64 1, .string ⟨#[83]⟩, .int .i64 9, .int .i64 3, .string ⟨#[61]⟩, .int .i64 0, .int .i64 1, .string ⟨#[97]⟩, .int .i64 0] 31)) h (by simp) (by decide) (by decide))
  rw [show textT [⟨1, [83], 9⟩, ⟨3, [61], 0⟩, ⟨1, [97], 0⟩] = [83, 32, 61, 32, 97] by decide +kernel, show textE [⟨1, [83], 9⟩, ⟨3, [61], 0⟩, ⟨1, [97], 0⟩] = 0 by decide +kernel] at HT
  unfold Lx.v at K0 K5 N0 N1 N2
  simp only at K0 K5 N0 N1 N2
  go_enter Try.func7, Try.ntmps7
  go_wp2_with fail
  refine (HL1.out _).mono ?_
  rintro e w1 ⟨⟨A1, cap1, rfl, hS1⟩, hb1⟩
  have F1 := Blk.new w1 26 #[.int .i64 0, .int .i64 0]
  have G1 := (Below.refl w1.heap.size w1).alloc (Nat.le_refl _) (.cells #[.int .i64 0, .int .i64 0] 26)
  have hB1 := below_on hb1 G1 (Nat.le_refl _)
  clear hS1 hb1 HL1 G1
  go_wp2_with fail
  generalize w1.alloc (.cells #[.int .i64 0, .int .i64 0] 26) = v1 at *
  refine (HL2.out _).mono ?_
  rintro e w2 ⟨⟨A2, cap2, rfl, hS2⟩, hb2⟩
  have G2 := (Below.refl w2.heap.size w2).alloc (Nat.le_refl _) (.cells #[.int .i64 0, .int .i64 0] 26)
  have D1 := Blk.on (Blk.on F1 hb2) G2
  have D2 := Blk.new w2 26 #[.int .i64 0, .int .i64 0]
  have hB2 := Lib.hid (below_on (below_on hB1 hb2 (Nat.le_refl _)) G2 (Nat.le_refl _))
  obtain ⟨p0, p1, r0, r1⟩ := cells2 D1
  obtain ⟨p2, p3, r2, r3⟩ := cells2 D2
  clear hS2 hb2 HL2 G2 F1 D1 D2 hB1
  go_wp2_with fail
  have hB := hB2.out
  clear p0 p1 r0 r1 p2 p3 r2 r3 hB2
  generalize w2.alloc (.cells #[.int .i64 0, .int .i64 0] 26) = v2 at *
  refine (HX.out _ _ _ _).mono ?_
  rintro e u1 ⟨rfl, hb⟩
  have hB := below_on hB hb (Nat.le_refl _)
  clear hb
  go_wp2_with fail
  refine (K0.out _).mono ?_
  rintro e u2 ⟨rfl, hb⟩
  have hB := below_on hB hb (Nat.le_refl _)
  clear hb
  go_wp2_with fail
  refine (K1.out _).mono ?_
  rintro e u3 ⟨rfl, hb⟩
  have hB := below_on hB hb (Nat.le_refl _)
  clear hb
  go_wp2_with fail
  refine (K2.out _).mono ?_
  rintro e u4 ⟨rfl, hb⟩
  have hB := below_on hB hb (Nat.le_refl _)
  clear hb
  go_wp2_with fail
  refine (K3.out _).mono ?_
  rintro e u5 ⟨rfl, hb⟩
  have hB := below_on hB hb (Nat.le_refl _)
  clear hb
  go_wp2_with fail
  refine (K4.out _).mono ?_
  rintro e u6 ⟨rfl, hb⟩
  have hB := below_on hB hb (Nat.le_refl _)
  clear hb
  go_wp2_with fail
  refine (HX.out _ _ _ _).mono ?_
  rintro e u7 ⟨rfl, hb⟩
  have hB := below_on hB hb (Nat.le_refl _)
  clear hb
  go_wp2_with fail
  refine (K5.out _).mono ?_
  rintro e u8 ⟨rfl, hb⟩
  have hB := below_on hB hb (Nat.le_refl _)
  clear hb
  go_wp2_with fail
  refine (K6.out _).mono ?_
  rintro e u9 ⟨rfl, hb⟩
  have hB := below_on hB hb (Nat.le_refl _)
  clear hb
  go_wp2_with fail
  refine (K7.out _).mono ?_
  rintro e u10 ⟨rfl, hb⟩
  have hB := below_on hB hb (Nat.le_refl _)
  clear hb
  go_wp2_with fail
  refine (HX.out _ _ _ _).mono ?_
  rintro e u11 ⟨rfl, hb⟩
  have hB := below_on hB hb (Nat.le_refl _)
  clear hb
  go_wp2_with fail
  refine (N0.out _).mono ?_
  rintro e u12 ⟨rfl, hb⟩
  have hB := below_on hB hb (Nat.le_refl _)
  clear hb
  go_wp2_with fail
  refine (HX.out _ _ _ _).mono ?_
  rintro e u13 ⟨rfl, hb⟩
  have hB := below_on hB hb (Nat.le_refl _)
  clear hb
  go_wp2_with fail
  refine (N1.out _).mono ?_
  rintro e u14 ⟨rfl, hb⟩
  have hB := below_on hB hb (Nat.le_refl _)
  clear hb
  go_wp2_with fail
  refine (HX.out _ _ _ _).mono ?_
  rintro e u15 ⟨rfl, hb⟩
  have hB := below_on hB hb (Nat.le_refl _)
  clear hb
  go_wp2_with fail
  refine (N2.out _).mono ?_
  rintro e u16 ⟨rfl, hb⟩
  have hB := below_on hB hb (Nat.le_refl _)
  clear hb
  go_wp2_with fail
  refine (HX.out _ _ _ _).mono ?_
  rintro e u17 ⟨rfl, hb⟩
  have hB := below_on hB hb (Nat.le_refl _)
  clear hb
  go_wp2_with fail
  refine (HX.out _ _ _ _).mono ?_
  rintro e u18 ⟨rfl, hb⟩
  have hB := below_on hB hb (Nat.le_refl _)
  clear hb
  go_wp2_with fail
  refine (HX.out _ _ _ _).mono ?_
  rintro e u19 ⟨rfl, hb⟩
  have hB := below_on hB hb (Nat.le_refl _)
  clear hb
  have hB := hB.alloc hB.size (.cells #[.int .i64 1, .string ⟨#[83]⟩, .int .i64 9, .int .i64 3, .string ⟨#[61]⟩, .int .i64 0, .int .i64 1, .string ⟨#[97]⟩, .int .i64 0] 31)
  have K := Lib.hid (HT.out u19 (sl_newL u19 [⟨1, [83], 9⟩, ⟨3, [61], 0⟩, ⟨1, [97], 0⟩] #[.int .i64 1, .string ⟨#[83]⟩, .int .i64 9, .int .i64 3, .string ⟨#[61]⟩, .int .i64 0, .int .i64 1, .string ⟨#[97]⟩, .int .i64 0] rfl (by decide)))
  go_wp2_with fail
  refine K.out.mono ?_
  rintro e u20 ⟨rfl, hb⟩
  have hB := below_on hB hb (Nat.le_refl _)
  clear hb K
  go_wp2_with fail
  refine (HA.out _).mono ?_
  rintro e u ⟨rfl, hb⟩
  have hB := below_on hB hb (Nat.le_refl _)
  clear hb
  go_wp2_with fail
  go_ret
  exact ⟨rfl, hB⟩
end Go.Proofs.Ytklfaccjbdkfhaa
