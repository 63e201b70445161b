/- Walks of tokens: hi, and the statements' own examples. -/
import Derived.Test.YtdndomjmnlpjgaaT12
namespace Go.Proofs.Ytdndomjmnlpjgaa
open Go.RowKit
theorem results_c {P : Program} {fn : Func} {p : Tmp} {tp : TypeId} (h : fn.results = #[.cell p tp]) (tmps : Array Value) (w : World) (g : Nat) (t : TypeId) (cs : Array Value) (d : TypeDesc)
    (hp : tmps.getD p undef = .pointer (some ⟨g, 0, none⟩)) (hg : Blk w g t cs)
    (hu : P.underlying tp = some d) (hd : (match d with | .struct _ | .array _ _ => true | _ => false) = true) (hi : (P.info? tp).map (·.size) = some cs.size) :
    (results fn tmps).run P w = .ok (.agg cs) w := by
  obtain ⟨fr, hg, _⟩ := hg
  have hp' : tmps[p]?.getD undef = .pointer (some ⟨g, 0, none⟩) := by simpa using hp
  simp [results, h, hp', asAddr, run_loadVar_row w g t tp cs fr d hg hu hd hi]
def hiT : Tok := ⟨0, [104, 105], 7⟩
set_option maxRecDepth 100000 in
theorem hi_any (w : World) : Calls Try.prog 51 #[] w fun e w' => e = .returned hiT.v ∧ Below w.heap.size w w' := by
  have hb := Blk.new w 41 #[.int .i64 0, .string ⟨#[104, 105]⟩, .int .i64 7]
  have hB := (Below.refl w.heap.size w).alloc (Nat.le_refl _) (.cells #[.int .i64 0, .string ⟨#[104, 105]⟩, .int .i64 7] 41)
  go_enter Try.func51, Try.ntmps51
  go_wp2
  refine bodyPost_ret (results_c rfl _ _ _ _ _ _ rfl hb Try.underlying41 rfl (by kernel_rfl)) rfl ?_
  exact ⟨rfl, hB⟩
theorem hi_bytes : bytesL hiT 2 = [0, 2, 104, 105] := by decide
theorem hi_read : readT [0, 2, 104, 105, 0] 2 7 = hiT ∧ readU [0, 2, 104, 105, 0] 2 7 = 4 ∧ readF [0, 2, 104, 105, 0] 2 7 = ⟨0, 0⟩ := by decide
set_option maxRecDepth 100000 in
set_option maxHeartbeats 3200000 in
theorem awake07_any (w : World) : Calls Try.prog 30 #[] w fun e w' => e = .returned (.bool true) ∧ Below w.heap.size w w' := by
  have H1 := Lib.hid (fun W => hi_any W)
  have H2 := fun W => Bytes_any hiT 2 W (by decide)
  have H3 := fun W => Read_any [0, 2, 104, 105, 0] 2 7 W (by decide)
  rw [hi_bytes, show checkE hiT 2 = 0 by decide] at H2
  rw [hi_read.1, hi_read.2.1, hi_read.2.2] at H3
  have H2' := Lib.hid H2; clear H2
  have H3' := Lib.hid H3; clear H3
  unfold hiT Tok.v Fault.v at *
  go_enter Try.func30, Try.ntmps30
  go_wp2_with (first
    | (go_at_call 51; refine (H1.out _).mono ?_; rintro e w1 ⟨rfl, hb1⟩)
    | (go_at_call 32; refine (H2'.out _).mono ?_; rintro e w2 ⟨rfl, hb2⟩)
    | (go_at_call 33; refine (H3'.out _).mono ?_; rintro e w3 ⟨rfl, hb3⟩))
  have hB3 := (hb1.trans (hb2.mono hb1.size)).trans (hb3.mono (Nat.le_trans hb1.size hb2.size))
  have hT := ((Blk.new w3 41 #[.int .i64 0, .string ⟨#[104, 105]⟩, .int .i64 7]).alloc (.cells #[.int .i64 0, .int .i64 0] 27)).drew
  have hF := (Blk.newAt (w3.alloc (.cells #[.int .i64 0, .string ⟨#[104, 105]⟩, .int .i64 7] 41)) 27 #[.int .i64 0, .int .i64 0] (g := w3.heap.size + 1) (by simp)).drew
  have hB := ((hB3.alloc hB3.size (.cells #[.int .i64 0, .string ⟨#[104, 105]⟩, .int .i64 7] 41)).alloc (by have := hB3.size; simp; omega) (.cells #[.int .i64 0, .int .i64 0] 27)).drew
  clear hb1 hb2 hb3
  go_region_with (go_at_call 51; refine (H1.out _).mono ?_; rintro e w4 ⟨rfl, hb4⟩; obtain ⟨c0, c1, c2, f0, f1, f2⟩ := cells3 (hT.below hb4 hT.lt); obtain ⟨d0, d1, k0, k1⟩ := cells2 (hF.below hb4 hF.lt))
  all_goals go_wp2
  all_goals go_ret
  all_goals exact ⟨rfl, hB.trans (hb4.mono hB.size)⟩
end Go.Proofs.Ytdndomjmnlpjgaa
