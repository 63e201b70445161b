/- The walk of FrameTakes. -/
import Derived.Test.YtfcbbolokhcknaaFa11
namespace Go.Proofs.Ytfcbbolokhcknaa
open Go.RowKit
set_option maxRecDepth 100000 in
set_option maxHeartbeats 6400000 in
theorem FrameTakes_any (n : Int) (l : List UInt8) (b : Nat) (w : World) (hl : l.length ≤ maxLen) (hb8 : b < 256) :
    Calls Try.prog 3 #[.int .i64 n, .string ⟨l.toArray⟩, .int .u8 b] w fun e w' => e = .returned (.bool true) ∧ Below w.heap.size w w' := by
  unfold maxLen at hl
  have HA := Lib.hid (fun W => awake29_any W)
  by_cases h60 : 60 < l.length
  · go_enter Try.func3, Try.ntmps3
    go_wp2_with (go_at_call 8; refine (HA.out _).mono ?_; rintro e w1 ⟨rfl, hb1⟩)
    go_ret
    exact ⟨rfl, hb1⟩
  have HG := Lib.hid (fun W => Good_any n l W (by omega))
  have HGr := Lib.hid (fun W => refGood_any n l W (by omega))
  have HN := Lib.hid (fun W => Needs_any n l W (by omega))
  have HNr := Lib.hid (fun W => refNeeds_any n l W (by omega))
  have HT := fun W => Take_any n l b W (by omega) hb8
  have HTr := fun W => refTake_any n l b W (by omega) hb8
  generalize partE n l = PE at *
  generalize needN n l = NN at *
  generalize takeS n l b = TS at *
  generalize takeT n l b = TT at *
  generalize takeW n l b = TW at *
  generalize takeE n l b = TE at *
  generalize (if PE = 3 then 0 else PE) = GE at *
  generalize decide (PE = 0) = GB at *
  obtain ⟨sy, x, a⟩ := TT
  unfold Tok.v at HT HTr
  simp only at HT HTr
  have HT' := Lib.hid HT
  have HTr' := Lib.hid HTr
  clear HT HTr
  go_enter Try.func3, Try.ntmps3
  go_wp2_with fail
  refine (HG.out _).mono ?_
  rintro e w1 ⟨rfl, hb1⟩
  go_wp2_with (first
    | (go_at_call 10; refine (HGr.out _).mono ?_; rintro e w2 ⟨rfl, rfl⟩))
  refine (HN.out _).mono ?_
  rintro e w3 ⟨rfl, hb3⟩
  have B3 := below_on hb1 hb3 (Nat.le_refl _)
  clear hb1 hb3 HG HGr HN
  go_wp2_with (first
    | (go_at_call 12; refine (HNr.out _).mono ?_; rintro e w2 ⟨rfl, rfl⟩))
  refine (HT'.out _).mono ?_
  rintro e w4 ⟨rfl, hb4⟩
  have B4 := below_on B3 hb4 (Nat.le_refl _)
  have t4 := Blk.new w4 29 #[.int .i64 sy, .string ⟨x.toArray⟩, .int .i64 a]
  have B5 := B4.alloc B4.size (.cells #[.int .i64 sy, .string ⟨x.toArray⟩, .int .i64 a] 29)
  clear hb4 B3 B4 HT' HNr
  go_wp2_with fail
  refine (HTr'.out _).mono ?_
  rintro e w5 ⟨rfl, hb5⟩
  have t5 := (Blk.on t4 hb5).alloc (.cells #[.int .i64 sy, .string ⟨x.toArray⟩, .int .i64 a] 29)
  have u5 := Blk.new w5 29 #[.int .i64 sy, .string ⟨x.toArray⟩, .int .i64 a]
  have B6 := (below_on B5 hb5 (Nat.le_refl _)).alloc (Nat.le_trans B5.size hb5.size) (.cells #[.int .i64 sy, .string ⟨x.toArray⟩, .int .i64 a] 29)
  obtain ⟨c0, c1, c2, _, _, _⟩ := cells3 t5
  obtain ⟨d0, d1, d2, _, _, _⟩ := cells3 u5
  clear t4 hb5 B5 HTr' t5 u5
  go_wp2_with (go_at_call 8; refine (HA.out _).mono ?_; rintro e w6 ⟨rfl, hb6⟩)
  go_ret
  exact ⟨rfl, below_on B6 hb6 (Nat.le_refl _)⟩
end Go.Proofs.Ytfcbbolokhcknaa
