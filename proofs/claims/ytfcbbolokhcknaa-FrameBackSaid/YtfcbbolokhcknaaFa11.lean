/- The laws' helpers: good, takes, needs, awake. -/
import Derived.Test.YtfcbbolokhcknaaFa10
namespace Go.Proofs.Ytfcbbolokhcknaa
open Go.RowKit
set_option maxRecDepth 100000 in
set_option maxHeartbeats 3200000 in
theorem lawgood_any (l : List UInt8) (b : Bool) (pe : Int) (h : partE 2 l = pe) (hp : pe = 0 ∧ b = true ∨ pe = 3 ∧ b = false) (w : World) (hl : l.length ≤ 1000) :
    Calls Try.prog 16 #[.string ⟨l.toArray⟩, .bool b] w fun e w' => e = .returned (.bool true) ∧ Below w.heap.size w w' := by
  have HR := Lib.hid (fun W => Good_any 2 l W hl)
  rw [h] at HR
  clear h
  rcases hp with ⟨rfl, rfl⟩ | ⟨rfl, rfl⟩
  all_goals
    go_enter Try.func16, Try.ntmps16
    go_wp2_with (go_at_call 9; refine (HR.out _).mono ?_; rintro e w1 ⟨rfl, hb1⟩)
    go_ret
    exact ⟨rfl, hb1⟩
set_option maxRecDepth 100000 in
set_option maxHeartbeats 3200000 in
theorem lawtakes_any (l : List UInt8) (b : Nat) (te : Int) (h : takeE 2 l b = te) (hp : te ≠ 0) (w : World) (hl : l.length ≤ 1000) (hb8 : b < 256) :
    Calls Try.prog 17 #[.string ⟨l.toArray⟩, .int .u8 b, .int .i64 te] w fun e w' => e = .returned (.bool true) ∧ Below w.heap.size w w' := by
  have HR := Lib.hid (fun W => Take_any 2 l b W hl hb8)
  have e1 : takeS 2 l b = [] := if_neg (fun h' => hp (h ▸ h'.1))
  have e2 : takeT 2 l b = tok0 := if_neg (fun h' => hp (h ▸ h'.1))
  have e3 : takeW 2 l b = false := by unfold takeW; rw [decide_eq_false (fun h' => hp (h ▸ h')), Bool.false_and]
  rw [e1, e2, e3, h] at HR
  unfold tok0 Tok.v at HR
  clear e1 e2 e3 h hp
  go_enter Try.func17, Try.ntmps17
  go_wp2_with (go_at_call 13; refine (HR.out _).mono ?_; rintro e w1 ⟨rfl, hb1⟩)
  go_ret
  exact ⟨rfl, hb1.alloc hb1.size _⟩
set_option maxRecDepth 100000 in
set_option maxHeartbeats 3200000 in
theorem lawneeds_any (l : List UInt8) (k : Int) (h : partE 2 l = 0) (hn : needN 2 l = k) (w : World) (hl : l.length ≤ 1000) :
    Calls Try.prog 19 #[.string ⟨l.toArray⟩, .int .i64 k] w fun e w' => e = .returned (.bool true) ∧ Below w.heap.size w w' := by
  have HR := Lib.hid (fun W => Needs_any 2 l W hl)
  rw [h, hn] at HR
  clear h hn
  go_enter Try.func19, Try.ntmps19
  go_wp2_with (go_at_call 11; refine (HR.out _).mono ?_; rintro e w1 ⟨rfl, hb1⟩)
  go_ret
  exact ⟨rfl, hb1⟩
theorem Take_at (n : Int) (l : List UInt8) (b : Nat) (s : List UInt8) (t : Tok) (wh : Bool) (te : Int) (w : World) (hl : l.length ≤ 1000) (hb8 : b < 256) (h : takeS n l b = s ∧ takeT n l b = t ∧ takeW n l b = wh ∧ takeE n l b = te) :
    Calls Try.prog 13 #[.int .i64 n, .string ⟨l.toArray⟩, .int .u8 b] w fun e w' => e = .returned (.tuple #[.string ⟨s.toArray⟩, .agg #[.int .i64 t.sym, .string ⟨t.text.toArray⟩, .int .i64 t.at_], .bool wh, .int .i64 te]) ∧ Below w.heap.size w w' := by
  obtain ⟨rfl, rfl, rfl, rfl⟩ := h
  exact Take_any n l b w hl hb8
set_option maxRecDepth 100000 in
set_option maxHeartbeats 3200000 in
theorem awake29_any (w : World) : Calls Try.prog 8 #[] w fun e w' => e = .returned (.bool true) ∧ Below w.heap.size w w' := by
  have H1 := Lib.hid (fun W => Take_at 2 [1, 1] 97 [] ⟨1, [97], 0⟩ true 0 W (by decide) (by decide) (by decide))
  have H2 := Lib.hid (fun W => Take_at 2 [] 1 [1] ⟨0, [], 0⟩ false 0 W (by decide) (by decide) (by decide))
  have G1 := Lib.hid (fun W => lawgood_any [] true 0 (by decide) (by decide) W (by decide))
  have G2 := Lib.hid (fun W => lawgood_any [3] false 3 (by decide) (by decide) W (by decide))
  have T1 := Lib.hid (fun W => lawtakes_any [] 3 14 (by decide) (by decide) W (by decide) (by decide))
  have T2 := Lib.hid (fun W => lawtakes_any [] 128 26 (by decide) (by decide) W (by decide) (by decide))
  have N1 := Lib.hid (fun W => lawneeds_any [1, 2, 97] 1 (by decide) (by decide) W (by decide))
  go_enter Try.func8, Try.ntmps8
  go_wp2_with fail
  refine (H1.out _).mono ?_
  rintro e w1 ⟨rfl, hb1⟩
  have t1 := Blk.new w1 29 #[.int .i64 1, .string ⟨#[97]⟩, .int .i64 0]
  have B1 := hb1.alloc hb1.size (.cells #[.int .i64 1, .string ⟨#[97]⟩, .int .i64 0] 29)
  clear H1 hb1
  go_wp2_with fail
  refine (H2.out _).mono ?_
  rintro e w2 ⟨rfl, hb2⟩
  have t2 := (Blk.on t1 hb2).alloc (.cells #[.int .i64 0, .string ⟨#[]⟩, .int .i64 0] 29)
  have B2 := (below_on B1 hb2 (Nat.le_refl _)).alloc (Nat.le_trans B1.size hb2.size) (.cells #[.int .i64 0, .string ⟨#[]⟩, .int .i64 0] 29)
  clear t1 B1 hb2 H2
  go_wp2_with fail
  refine (G1.out _).mono ?_
  rintro e w3 ⟨rfl, hb3⟩
  have t3 := Blk.on t2 hb3
  have B3 := below_on B2 hb3 (Nat.le_refl _)
  clear hb3 G1 B2 t2
  go_wp2_with fail
  refine (G2.out _).mono ?_
  rintro e w4 ⟨rfl, hb4⟩
  have t4 := Blk.on t3 hb4
  have B4 := below_on B3 hb4 (Nat.le_refl _)
  clear hb4 G2 B3 t3
  obtain ⟨c0, c1, c2, _, _, _⟩ := cells3 t4
  go_wp2_with fail
  refine (T1.out _).mono ?_
  rintro e w5 ⟨rfl, hb5⟩
  have B5 := below_on B4 hb5 (Nat.le_refl _)
  clear hb5 T1 B4
  go_wp2_with fail
  refine (T2.out _).mono ?_
  rintro e w6 ⟨rfl, hb6⟩
  have B6 := below_on B5 hb6 (Nat.le_refl _)
  clear hb6 T2 B5
  go_wp2_with fail
  refine (N1.out _).mono ?_
  rintro e w7 ⟨rfl, hb7⟩
  have B7 := below_on B6 hb7 (Nat.le_refl _)
  clear hb7 N1 B6
  go_wp2_with fail
  go_ret
  exact ⟨rfl, B7⟩
end Go.Proofs.Ytfcbbolokhcknaa
