/- The walk of FrameKnown. -/
import Derived.Test.YtfcbbolokhcknaaFa15
namespace Go.Proofs.Ytfcbbolokhcknaa
open Go.RowKit
theorem fSize_any (t : Tok) (w : World) (h : t.text.length ≤ 100000) : Calls Try.prog 20 #[t.v] w fun e w' => e = .returned (.int .i64 (2 + t.text.length)) ∧ Below w.heap.size w w' := by
  obtain ⟨s, x, a⟩ := t
  unfold Tok.v
  simp only at *
  have hz : (x.length : Int) ≤ 100000 := by omega
  go_enter Try.func20, Try.ntmps20
  go_wp2
  go_ret
  exact ⟨rfl, (Below.refl w.heap.size w).alloc (Nat.le_refl _) _⟩
set_option maxRecDepth 100000 in
set_option maxHeartbeats 6400000 in
theorem FrameKnown_any (w : World) : Calls Try.prog 4 #[] w fun e w' => e = .returned (.bool true) ∧ Below w.heap.size w w' := by
  have H1 := Lib.hid (fun W => Take_at 2 [1] 0 [] ⟨1, [], 0⟩ true 0 W (by decide) (by decide) (by decide))
  have C1 := Lib.hid (fun W => Chunk_at 2 [] [0, 0, 1, 1, 97, 2] [2] [⟨0, [], 0⟩, ⟨1, [97], 2⟩] 5 6 0 W (by decide) (by decide) (by decide))
  have C2 := Lib.hid (fun W => Chunk_at 2 [0] [1, 97, 5] [] [⟨0, [97], 0⟩] 2 2 14 W (by decide) (by decide) (by decide))
  have G1 := Lib.hid (fun W => lawgood_any [2, 1] true 0 (by decide) (by decide) W (by decide))
  have G2 := Lib.hid (fun W => lawgood_any [0, 1, 97] false 3 (by decide) (by decide) W (by decide))
  have G3 := Lib.hid (fun W => lawgood_any [0, 25] false 3 (by decide) (by decide) W (by decide))
  have T1 := Lib.hid (fun W => lawtakes_any [0] 25 4 (by decide) (by decide) W (by decide) (by decide))
  have T2 := Lib.hid (fun W => lawtakes_any [0] 128 26 (by decide) (by decide) W (by decide) (by decide))
  have T3 := Lib.hid (fun W => lawtakes_any [3] 0 3 (by decide) (by decide) W (by decide) (by decide))
  have HA := Lib.hid (fun W => awake29_any W)
  have N1 := Lib.hid (fun W => lawneeds_any [] 2 (by decide) (by decide) W (by decide))
  have N2 := Lib.hid (fun W => lawneeds_any [1] 1 (by decide) (by decide) W (by decide))
  have HZ := Lib.hid (fun W => fSize_any ⟨1, [97], 0⟩ W (by decide))
  have HS := Lib.hid (fun A B c1 c2 D l k W => SameTokens_any A B c1 c2 D l k W)
  go_enter Try.func4, Try.ntmps4
  go_wp2_with fail
  refine (H1.out _).mono ?_
  rintro e w1 ⟨rfl, hb1⟩
  have t1 := Blk.new w1 29 #[.int .i64 1, .string ⟨#[]⟩, .int .i64 0]
  have B1 := hb1.alloc hb1.size (.cells #[.int .i64 1, .string ⟨#[]⟩, .int .i64 0] 29)
  clear hb1 H1
  go_wp2_with fail
  refine (C1.out _).mono ?_
  rintro e w2 ⟨⟨A1, cap1, rfl, hS1⟩, hb2⟩
  have t2 := Blk.on t1 hb2
  have B2 := below_on B1 hb2 (Nat.le_refl _)
  clear hb2 C1 t1 B1
  go_wp2_with fail
  refine (C2.out _).mono ?_
  rintro e w3 ⟨⟨A2, cap2, rfl, hS2⟩, hb3⟩
  have t3 := Blk.on t2 hb3
  have B3 := below_on B2 hb3 (Nat.le_refl _)
  have hS3 := hS1.below hb3 (Nat.le_refl _)
  have hb3s := hb3.size
  clear hb3 C2 t2 B2 hS1
  go_wp2_with fail
  have R3 := hS3
  have U3 := hS2
  have RL3 := hb3s
  have UL3 := Nat.le_refl w3.heap.size
  clear hS3 hS2
  refine (G1.out _).mono ?_
  rintro e w4 ⟨rfl, hb4⟩
  have B4 := below_on B3 hb4 (Nat.le_refl _)
  have t4 := Blk.on t3 hb4
  have R4 := R3.below hb4 RL3
  have U4 := U3.below hb4 UL3
  have RL4 := Nat.le_trans RL3 hb4.size
  have UL4 := Nat.le_trans UL3 hb4.size
  clear hb4 G1 B3 t3 R3 U3
  go_wp2_with fail
  refine (G2.out _).mono ?_
  rintro e w5 ⟨rfl, hb5⟩
  have B5 := below_on B4 hb5 (Nat.le_refl _)
  have t5 := Blk.on t4 hb5
  have R5 := R4.below hb5 RL4
  have U5 := U4.below hb5 UL4
  have RL5 := Nat.le_trans RL4 hb5.size
  have UL5 := Nat.le_trans UL4 hb5.size
  clear hb5 G2 B4 t4 R4 U4
  go_wp2_with fail
  refine (G3.out _).mono ?_
  rintro e w6 ⟨rfl, hb6⟩
  have B6 := below_on B5 hb6 (Nat.le_refl _)
  have t6 := Blk.on t5 hb6
  have R6 := R5.below hb6 RL5
  have U6 := U5.below hb6 UL5
  have RL6 := Nat.le_trans RL5 hb6.size
  have UL6 := Nat.le_trans UL5 hb6.size
  clear hb6 G3 B5 t5 R5 U5
  obtain ⟨c0, c1, c2, _, _, _⟩ := cells3 t6
  go_wp2_with fail
  refine (T1.out _).mono ?_
  rintro e w7 ⟨rfl, hb7⟩
  have B7 := below_on B6 hb7 (Nat.le_refl _)
  have R7 := R6.below hb7 RL6
  have U7 := U6.below hb7 UL6
  have RL7 := Nat.le_trans RL6 hb7.size
  have UL7 := Nat.le_trans UL6 hb7.size
  clear hb7 T1 B6 R6 U6
  go_wp2_with fail
  refine (T2.out _).mono ?_
  rintro e w8 ⟨rfl, hb8⟩
  have B8 := below_on B7 hb8 (Nat.le_refl _)
  have R8 := R7.below hb8 RL7
  have U8 := U7.below hb8 UL7
  have RL8 := Nat.le_trans RL7 hb8.size
  have UL8 := Nat.le_trans UL7 hb8.size
  clear hb8 T2 B7 R7 U7
  go_wp2_with fail
  refine (T3.out _).mono ?_
  rintro e w9 ⟨rfl, hb9⟩
  have B9 := below_on B8 hb9 (Nat.le_refl _)
  have R9 := R8.below hb9 RL8
  have U9 := U8.below hb9 UL8
  have RL9 := Nat.le_trans RL8 hb9.size
  have UL9 := Nat.le_trans UL8 hb9.size
  clear hb9 T3 B8 R8 U8
  go_wp2_with fail
  have hbx := (Below.refl w9.heap.size w9).alloc (Nat.le_refl _) (.cells #[.int .i64 0, .string ⟨#[]⟩, .int .i64 0, .int .i64 1, .string ⟨#[97]⟩, .int .i64 2] 29)
  have L1 := sl_newT w9 [⟨0, [], 0⟩, ⟨1, [97], 2⟩] #[.int .i64 0, .string ⟨#[]⟩, .int .i64 0, .int .i64 1, .string ⟨#[97]⟩, .int .i64 2] rfl (by decide)
  have HK := HS.out A1 (some ⟨w9.heap.size, 0, none⟩) cap1 2 (w9.heap.size + 1) [⟨0, [], 0⟩, ⟨1, [97], 2⟩] [⟨0, [], 0⟩, ⟨1, [97], 2⟩] _ ((R9.below hbx RL9).more (by omega)) L1 (by decide) (by decide)
  rw [decide_eq_true rfl] at HK
  refine Calls.mono HK ?_
  rintro e w10 ⟨rfl, hb10⟩
  have hby := below_on hbx hb10 (Nat.le_refl _)
  have B10 := below_on B9 hby (Nat.le_refl _)
  have U10 := U9.below hby UL9
  have UL10 := Nat.le_trans UL9 hby.size
  clear HK L1 hbx hb10 R9 B9 U9 UL9 RL9 hby
  go_wp2_with fail
  have hbx := (Below.refl w10.heap.size w10).alloc (Nat.le_refl _) (.cells #[.int .i64 0, .string ⟨#[97]⟩, .int .i64 0] 29)
  have L1 := sl_newT w10 [⟨0, [97], 0⟩] #[.int .i64 0, .string ⟨#[97]⟩, .int .i64 0] rfl (by decide)
  have HK := HS.out A2 (some ⟨w10.heap.size, 0, none⟩) cap2 1 (w10.heap.size + 1) [⟨0, [97], 0⟩] [⟨0, [97], 0⟩] _ ((U10.below hbx UL10).more (by omega)) L1 (by decide) (by decide)
  rw [decide_eq_true rfl] at HK
  refine Calls.mono HK ?_
  rintro e w11 ⟨rfl, hb11⟩
  have B11 := below_on B10 (below_on hbx hb11 (Nat.le_refl _)) (Nat.le_refl _)
  clear HK L1 hbx hb11 U10 B10 UL10
  go_wp2_with fail
  refine (HA.out _).mono ?_
  rintro e w12 ⟨rfl, hb12⟩
  have B12 := below_on B11 hb12 (Nat.le_refl _)
  clear hb12 HA B11
  go_wp2_with fail
  refine (N1.out _).mono ?_
  rintro e w13 ⟨rfl, hb13⟩
  have B13 := below_on B12 hb13 (Nat.le_refl _)
  clear hb13 N1 B12
  go_wp2_with fail
  refine (N2.out _).mono ?_
  rintro e w14 ⟨rfl, hb14⟩
  have B14 := below_on B13 hb14 (Nat.le_refl _)
  clear hb14 N2 B13
  go_wp2_with fail
  refine (HZ.out _).mono ?_
  rintro e w15 ⟨rfl, hb15⟩
  have B15 := below_on B14 hb15 (Nat.le_refl _)
  clear hb15 HZ B14
  go_wp2_with fail
  go_ret
  exact ⟨rfl, B15⟩
end Go.Proofs.Ytfcbbolokhcknaa
