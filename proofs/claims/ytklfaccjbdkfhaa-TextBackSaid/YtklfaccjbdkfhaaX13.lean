/- The chapter's example (awake). No condition. -/
import Derived.Test.YtklfaccjbdkfhaaX12
namespace Go.Proofs.Ytklfaccjbdkfhaa
open Go.RowKit
theorem lexeme_any (k a : Int) (s : List UInt8) (w : World) : Calls Try.prog 22 #[.int .i64 k, .string ⟨s.toArray⟩, .int .i64 a] w fun e w' => e = .returned (.agg #[.int .i64 k, .string ⟨s.toArray⟩, .int .i64 a]) ∧ Below w.heap.size w w' := by
  go_enter Try.func22, Try.ntmps22
  go_wp2_with fail
  refine bodyPost_ret (results_cell_blk rfl _ _ _ _ _ _ rfl (Blk.new w 31 #[.int .i64 k, .string ⟨s.toArray⟩, .int .i64 a]) Try.underlying31 rfl (by kernel_rfl)) rfl ?_
  exact ⟨rfl, (Below.refl w.heap.size w).alloc (Nat.le_refl _) _⟩
theorem lexS_ex : lexS [108, 111, 111, 107, 97, 104, 101, 97, 100, 32, 50, 59, 32, 35, 32, 107, 10, 83, 32, 61, 32, 97, 32, 124, 32, 59] =
    ([⟨1, [108, 111, 111, 107, 97, 104, 101, 97, 100], 0⟩, ⟨2, [50], 10⟩, ⟨3, [59], 11⟩, ⟨1, [83], 17⟩, ⟨3, [61], 19⟩, ⟨1, [97], 21⟩, ⟨3, [124], 23⟩, ⟨3, [59], 25⟩], 0, 0) := by decide +kernel
set_option maxRecDepth 100000 in
set_option maxHeartbeats 6400000 in
theorem awake04_any (w : World) : Calls Try.prog 9 #[] w fun e w' => e = .returned (.bool true) ∧ Below w.heap.size w w' := by
  have HL := Lib.hid (fun W => Lexemes_at _ _ _ _ W (by decide) lexS_ex)
  have HX := Lib.hid lexeme_any
  have HS := Lib.hid (fun A cap (W : World) => sameList_any A (some ⟨W.heap.size, 0, none⟩) cap 8 (W.heap.size + 1) [⟨1, [108, 111, 111, 107, 97, 104, 101, 97, 100], 0⟩, ⟨2, [50], 10⟩, ⟨3, [59], 11⟩, ⟨1, [83], 17⟩, ⟨3, [61], 19⟩, ⟨1, [97], 21⟩, ⟨3, [124], 23⟩, ⟨3, [59], 25⟩] [⟨1, [108, 111, 111, 107, 97, 104, 101, 97, 100], 0⟩, ⟨2, [50], 10⟩, ⟨3, [59], 11⟩, ⟨1, [83], 17⟩, ⟨3, [61], 19⟩, ⟨1, [97], 21⟩, ⟨3, [124], 23⟩, ⟨3, [59], 25⟩])
  go_enter Try.func9, Try.ntmps9
  go_wp2_with fail
  refine (HL.out _).mono ?_
  rintro e w1 ⟨⟨A, cap, rfl, hS⟩, hB⟩
  have bF := Blk.new w1 26 #[.int .i64 0, .int .i64 0]
  have hb1 := (Below.refl w1.heap.size w1).alloc (Nat.le_refl _) (.cells #[.int .i64 0, .int .i64 0] 26)
  clear HL
  go_wp2_with fail
  generalize w1.alloc (.cells #[.int .i64 0, .int .i64 0] 26) = v0 at *
  have bF0 := bF
  have hB0 := below_on hB hb1 (Nat.le_refl _)
  have hS0 := hS.below hb1 (Nat.le_refl _)
  have hsz0 := hb1.size
  have hlt0 := bF.lt
  clear bF hb1 hB hS
  refine (HX.out _ _ _ _).mono ?_
  rintro e v1 ⟨rfl, q1⟩
  have hB1 := below_on hB0 q1 (Nat.le_refl _)
  have hS1 := hS0.below q1 (by omega)
  have bF1 := Blk.on bF0 q1
  have hsz1 := Nat.le_trans hsz0 q1.size
  clear hB0 hS0 bF0 hsz0 q1
  go_wp2_with fail
  refine (HX.out _ _ _ _).mono ?_
  rintro e v2 ⟨rfl, q2⟩
  have hB2 := below_on hB1 q2 (Nat.le_refl _)
  have hS2 := hS1.below q2 (by omega)
  have bF2 := Blk.on bF1 q2
  have hsz2 := Nat.le_trans hsz1 q2.size
  clear hB1 hS1 bF1 hsz1 q2
  go_wp2_with fail
  refine (HX.out _ _ _ _).mono ?_
  rintro e v3 ⟨rfl, q3⟩
  have hB3 := below_on hB2 q3 (Nat.le_refl _)
  have hS3 := hS2.below q3 (by omega)
  have bF3 := Blk.on bF2 q3
  have hsz3 := Nat.le_trans hsz2 q3.size
  clear hB2 hS2 bF2 hsz2 q3
  go_wp2_with fail
  refine (HX.out _ _ _ _).mono ?_
  rintro e v4 ⟨rfl, q4⟩
  have hB4 := below_on hB3 q4 (Nat.le_refl _)
  have hS4 := hS3.below q4 (by omega)
  have bF4 := Blk.on bF3 q4
  have hsz4 := Nat.le_trans hsz3 q4.size
  clear hB3 hS3 bF3 hsz3 q4
  go_wp2_with fail
  refine (HX.out _ _ _ _).mono ?_
  rintro e v5 ⟨rfl, q5⟩
  have hB5 := below_on hB4 q5 (Nat.le_refl _)
  have hS5 := hS4.below q5 (by omega)
  have bF5 := Blk.on bF4 q5
  have hsz5 := Nat.le_trans hsz4 q5.size
  clear hB4 hS4 bF4 hsz4 q5
  go_wp2_with fail
  refine (HX.out _ _ _ _).mono ?_
  rintro e v6 ⟨rfl, q6⟩
  have hB6 := below_on hB5 q6 (Nat.le_refl _)
  have hS6 := hS5.below q6 (by omega)
  have bF6 := Blk.on bF5 q6
  have hsz6 := Nat.le_trans hsz5 q6.size
  clear hB5 hS5 bF5 hsz5 q6
  go_wp2_with fail
  refine (HX.out _ _ _ _).mono ?_
  rintro e v7 ⟨rfl, q7⟩
  have hB7 := below_on hB6 q7 (Nat.le_refl _)
  have hS7 := hS6.below q7 (by omega)
  have bF7 := Blk.on bF6 q7
  have hsz7 := Nat.le_trans hsz6 q7.size
  clear hB6 hS6 bF6 hsz6 q7
  go_wp2_with fail
  refine (HX.out _ _ _ _).mono ?_
  rintro e v8 ⟨rfl, q8⟩
  have hB8 := below_on hB7 q8 (Nat.le_refl _)
  have hS8 := hS7.below q8 (by omega)
  have bF8 := Blk.on bF7 q8
  have hsz8 := Nat.le_trans hsz7 q8.size
  clear hB7 hS7 bF7 hsz7 q8
  obtain ⟨p0, p1, r0, r1⟩ := cells2 (bF8.alloc (.cells #[.int .i64 1, .string ⟨#[108, 111, 111, 107, 97, 104, 101, 97, 100]⟩, .int .i64 0, .int .i64 2, .string ⟨#[50]⟩, .int .i64 10, .int .i64 3, .string ⟨#[59]⟩, .int .i64 11, .int .i64 1, .string ⟨#[83]⟩, .int .i64 17, .int .i64 3, .string ⟨#[61]⟩, .int .i64 19, .int .i64 1, .string ⟨#[97]⟩, .int .i64 21, .int .i64 3, .string ⟨#[124]⟩, .int .i64 23, .int .i64 3, .string ⟨#[59]⟩, .int .i64 25] 31))
  have hb9 := (Below.refl v8.heap.size v8).alloc (Nat.le_refl _) (.cells #[.int .i64 1, .string ⟨#[108, 111, 111, 107, 97, 104, 101, 97, 100]⟩, .int .i64 0, .int .i64 2, .string ⟨#[50]⟩, .int .i64 10, .int .i64 3, .string ⟨#[59]⟩, .int .i64 11, .int .i64 1, .string ⟨#[83]⟩, .int .i64 17, .int .i64 3, .string ⟨#[61]⟩, .int .i64 19, .int .i64 1, .string ⟨#[97]⟩, .int .i64 21, .int .i64 3, .string ⟨#[124]⟩, .int .i64 23, .int .i64 3, .string ⟨#[59]⟩, .int .i64 25] 31)
  have hK := Lib.hid (HS.out A cap v8 _ ((hS8.below hb9 (by omega)).more (by omega)) (sl_newL _ _ #[.int .i64 1, .string ⟨#[108, 111, 111, 107, 97, 104, 101, 97, 100]⟩, .int .i64 0, .int .i64 2, .string ⟨#[50]⟩, .int .i64 10, .int .i64 3, .string ⟨#[59]⟩, .int .i64 11, .int .i64 1, .string ⟨#[83]⟩, .int .i64 17, .int .i64 3, .string ⟨#[61]⟩, .int .i64 19, .int .i64 1, .string ⟨#[97]⟩, .int .i64 21, .int .i64 3, .string ⟨#[124]⟩, .int .i64 23, .int .i64 3, .string ⟨#[59]⟩, .int .i64 25] rfl (by decide)) (by decide) (by decide))
  have bF9 := Blk.on bF8 hb9
  have hB9 := Lib.hid (below_on hB8 hb9 (Nat.le_refl _))
  have bF9' := Lib.hid bF9
  clear bF8 hS8 hb9 bF9 hB8
  go_wp2_with fail
  refine hK.out.mono ?_
  rintro e v10 ⟨rfl, q10⟩
  have bF10 := Blk.on bF9'.out q10
  obtain ⟨p0, p1, r0, r1⟩ := cells2 bF10
  have hB10 := below_on hB9.out q10 (Nat.le_refl _)
  clear hK q10 bF10 hB9 bF9'
  go_wp2_with fail
  go_ret
  exact ⟨rfl, hB10⟩
end Go.Proofs.Ytklfaccjbdkfhaa
