/- FrameBack: made. -/
import Derived.Test.YtfcbbolokhcknaaFa25
namespace Go.Proofs.Ytfcbbolokhcknaa
open Go.RowKit
theorem results_c {P : Program} {fn : Func} {p : Tmp} {tp : TypeId} (h : fn.results = #[.cell p tp]) (tmps : Array Value) (w : World) (g : Nat) (t : TypeId) (cs : Array Value) (d : TypeDesc)
    (hp : tmps.getD p undef = .pointer (some ⟨g, 0, none⟩)) (hg : Blk w g t cs)
    (hu : P.underlying tp = some d) (hd : (match d with | .struct _ | .array _ _ => true | _ => false) = true) (hi : (P.info? tp).map (·.size) = some cs.size) :
    (results fn tmps).run P w = .ok (.agg cs) w := by
  obtain ⟨fr, hg, _⟩ := hg
  have hp' : tmps[p]?.getD undef = .pointer (some ⟨g, 0, none⟩) := by simpa using hp
  simp [results, h, hp', asAddr, run_loadVar_row w g t tp cs fr d hg hu hd hi]
set_option maxRecDepth 100000 in
set_option maxHeartbeats 3200000 in
theorem made29_any (k : Int) (w : World) : Calls Try.prog 25 #[.int .i64 k] w fun e w' => (∃ (s : Nat) (x : List UInt8), s ≤ 3 ∧ x.length ≤ 4 ∧ e = .returned (.agg #[.int .i64 s, .string ⟨x.toArray⟩, .int .i64 0])) ∧ Below w.heap.size w w' := by
  have HM := fun W => Mod_any k 1073741824 W (by omega) (by omega)
  obtain ⟨r, hr⟩ : ∃ r : Nat, k % 1073741824 = r := ⟨(k % 1073741824).toNat, by omega⟩
  have hr2 : r < 1073741824 := by omega
  rw [hr] at HM
  have HM' := Lib.hid HM; clear HM hr
  have hd1 : (r : Int).tdiv 4 = ((r / 4 : Nat) : Int) := rfl
  have hd2 : ((r / 4 : Nat) : Int).tmod 5 = ((r / 4 % 5 : Nat) : Int) := rfl
  have hf : r / 4 % 5 < 5 := Nat.mod_lt _ (by decide)
  have hd3 : (r : Int).tmod 4 = ((r % 4 : Nat) : Int) := rfl
  have hs : r % 4 < 4 := Nat.mod_lt _ (by decide)
  have hq : ((r / 4 : Nat) : Int) ≤ 1073741824 := by omega
  generalize r / 4 % 5 = q at *
  generalize r / 4 = r4 at *
  generalize r % 4 = s at *
  have hT := Blk.new w 29 #[.int .i64 0, .string ⟨#[]⟩, .int .i64 0]
  have hB := (Below.refl w.heap.size w).alloc (Nat.le_refl _) (.cells #[.int .i64 0, .string ⟨#[]⟩, .int .i64 0] 29)
  go_enter Try.func25, Try.ntmps25
  go_wp2_with (go_at_call 27; refine (HM'.out _).mono ?_; rintro e w1 ⟨rfl, rfl⟩)
  go_loopw [4, 5] (fun o i W => ∃ (j : Nat) (x : List UInt8), j ≤ q ∧ x.length = j ∧ i = .int .i64 j ∧ o = .string ⟨x.toArray⟩ ∧ Blk W w.heap.size 29 #[.int .i64 0, .string ⟨#[]⟩, .int .i64 0] ∧ Below w.heap.size w W) (fun _ i _ => q - (intOf i).toNat)
  case atStart => exact ⟨0, [], Nat.zero_le _, rfl, rfl, rfl, hT, hB⟩
  case round =>
    obtain ⟨j, x, hj, hx, rfl, rfl, hT', hB'⟩ := hrel
    by_cases hlt : j < q
    · have hj4 : (j : Int) ≤ 4 := by omega
      obtain ⟨bt, hbt⟩ : ∃ bt : Nat, (r : Int) / 2 ^ (5 + 3 * j) % 256 = bt := ⟨((r : Int) / 2 ^ (5 + 3 * j) % 256).toNat, by rw [Int.toNat_of_nonneg (Int.emod_nonneg _ (by decide))]⟩
      have hb8 : bt < 256 := by have := Int.emod_lt_of_pos ((r : Int) / 2 ^ (5 + 3 * j)) (show (0 : Int) < 256 by decide); omega
      have hcv := run_byte_str wr bt hb8
      rw [← hbt] at hcv
      have hx4 : x.length ≤ 4 := by omega
      have HX := Lib.hid hx
      clear hx hbt
      go_wp2_with fail
      go_roundw
      case rel => exact ⟨j + 1, x ++ [UInt8.ofNat bt], by omega, by rw [List.length_append, HX.out]; rfl, by go_num, by first | rfl | simp, hT'.below ((Below.refl _ wr).alloc (Nat.le_refl _) _) hT'.lt, hB'.alloc hB'.size _⟩
      case measure => simp [intOf]; omega
    · obtain rfl : j = q := by omega
      obtain ⟨c0, c1, c2, f0, f1, f2⟩ := cells3 hT'
      go_wp2_with fail
      (refine bodyPost_ret (results_c rfl _ _ _ _ _ _ rfl (((hT'.set 0 (.int .i64 s)).set 1 (.string ⟨x.toArray⟩)).set 2 (.int .i64 0)) Try.underlying29 rfl (by kernel_rfl)) rfl ?_)
      exact ⟨⟨s, x, by omega, by omega, rfl⟩, ((hB'.setCell (p := ⟨w.heap.size, 0, none⟩) (Nat.le_refl _) _).setCell (p := ⟨w.heap.size, 1, none⟩) (Nat.le_refl _) _).setCell (p := ⟨w.heap.size, 2, none⟩) (Nat.le_refl _) _⟩
end Go.Proofs.Ytfcbbolokhcknaa
