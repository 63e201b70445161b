/- The walk of TokenReads. -/
import Derived.Test.YtdndomjmnlpjgaaT13
namespace Go.Proofs.Ytdndomjmnlpjgaa
open Go.RowKit
set_option maxRecDepth 100000 in
set_option maxHeartbeats 3200000 in
theorem TokenReads_any (l : List UInt8) (n at_ : Int) (w : World) (hm : l.length ≤ maxLen) :
    Calls Try.prog 10 #[.string ⟨l.toArray⟩, .int .i64 n, .int .i64 at_] w fun e w' => e = .returned (.bool true) ∧ Below w.heap.size w w' := by
  have HA := Lib.hid (fun W => awake07_any W)
  unfold maxLen at hm
  by_cases hl : l.length ≤ 100
  · have H1 := Lib.hid (fun W => Read_any l n at_ W (by omega))
    have H2 := Lib.hid (fun W => refRead_any l n at_ W (by omega))
    have H3 := Lib.hid (fun W => begins_any l n W (by omega))
    have H4 := Lib.hid (fun W => refBegins_any l n W (by omega))
    generalize readT l n at_ = t at *
    generalize readU l n at_ = u at *
    generalize readF l n at_ = f at *
    generalize begB l n = b at *
    generalize begE l n = e at *
    obtain ⟨sy, x, a⟩ := t
    obtain ⟨fe, fa⟩ := f
    unfold Tok.v Fault.v at *
    simp only at *
    go_enter Try.func10, Try.ntmps10
    go_wp2_with (first
      | (go_at_call 30; refine (HA.out _).mono ?_; rintro e w5 ⟨rfl, hb5⟩)
      | (go_at_call 33; refine (H1.out _).mono ?_; rintro e w1 ⟨rfl, hb1⟩)
      | (go_at_call 41; refine (H2.out _).mono ?_; rintro e w2 ⟨rfl, hb2⟩))
    refine (H3.out _).mono ?_
    rintro e3 w3 ⟨rfl, hb3⟩
    obtain ⟨r1, r2, r3⟩ := put_new w1 (.int .i64 sy) (.string ⟨x.toArray⟩) (.int .i64 a) (.int .i64 fe) (.int .i64 fa) 41 27
    obtain ⟨s1, s2, s3⟩ := put_new w2 (.int .i64 sy) (.string ⟨x.toArray⟩) (.int .i64 a) (.int .i64 fe) (.int .i64 fa) 41 27
    have hz2 := hb2.size
    have hz3 := hb3.size
    have z1 := hb1.size
    have z3 := s3.size
    simp only [World.size_alloc] at hz2 hz3 z3
    obtain ⟨c0, c1, c2, f0, f1, f2⟩ := cells3 ((((r1.below hb2 r1.lt).alloc _).alloc _).below hb3 (by simp only [World.size_alloc]; omega))
    obtain ⟨c3, c4, f3, f4⟩ := cells2 ((((r2.below hb2 r2.lt).alloc _).alloc _).below hb3 (by simp only [World.size_alloc]; omega))
    obtain ⟨d0, d1, d2, k0, k1, k2⟩ := cells3 (s1.below hb3 s1.lt)
    obtain ⟨d3, d4, k3, k4⟩ := cells2 (s2.below hb3 s2.lt)
    have hB := ((((hb1.trans (r3.mono z1)).trans (hb2.mono (by simp only [World.size_alloc]; omega))).trans (s3.mono (by omega))).trans (hb3.mono (by simp only [World.size_alloc]; omega)))
    have HB := Lib.hid hB
    clear hB r1 r2 r3 s1 s2 s3 hz2 hz3 z1 z3 hb1 hb2 hb3
    go_wp2_with (first
      | (go_at_call 30; refine (HA.out _).mono ?_; rintro e w5 ⟨rfl, hb5⟩)
      | (go_at_call 43; refine (H4.out _).mono ?_; rintro e w4 ⟨rfl, rfl⟩))
    go_ret
    exact ⟨rfl, HB.out.trans (hb5.mono HB.out.size)⟩
  · go_enter Try.func10, Try.ntmps10
    go_wp2_with (go_at_call 30; refine (HA.out _).mono ?_; rintro e w1 ⟨rfl, hb1⟩)
    go_ret
    exact ⟨rfl, hb1⟩
end Go.Proofs.Ytdndomjmnlpjgaa
