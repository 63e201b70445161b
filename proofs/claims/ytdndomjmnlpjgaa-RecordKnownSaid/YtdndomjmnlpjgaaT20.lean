/- The walk of TokenFrames. -/
import Derived.Test.YtdndomjmnlpjgaaT19
namespace Go.Proofs.Ytdndomjmnlpjgaa
open Go.RowKit
set_option maxRecDepth 100000 in
set_option maxHeartbeats 6400000 in
theorem TokenFrames_any (t : Tok) (n : Int) (w : World) (hm : t.text.length ≤ maxLen) :
    Calls Try.prog 9 #[t.v, .int .i64 n] w fun e w' => e = .returned (.bool true) ∧ Below w.heap.size w w' := by
  have HA := Lib.hid (fun W => awake07_any W)
  unfold maxLen at hm
  have hT := Blk.new w 41 #[.int .i64 t.sym, .string ⟨t.text.toArray⟩, .int .i64 t.at_]
  have hB := (Below.refl w.heap.size w).alloc (Nat.le_refl _) (.cells #[.int .i64 t.sym, .string ⟨t.text.toArray⟩, .int .i64 t.at_] 41)
  by_cases hl : t.text.length ≤ 60
  · have H1 := Lib.hid (fun W => Bytes_any t n W (by omega))
    have H2 := Lib.hid (fun W => refBytes_any t n W (by omega))
    have H3 : ∀ W0 W, Below (World.heap W0).size W0 W → Calls Try.prog 36 #[t.v, .int .i64 n] W fun e W' => e = .returned (.int .i64 (checkE t n)) ∧ Below W0.heap.size W0 W' :=
      fun W0 W hW => (check_any t n W (by unfold maxLen; omega)).mono fun e W' ⟨he, hb⟩ => ⟨he, hW.trans (hb.mono hW.size)⟩
    have H4 : ∀ W0 W, Below (World.heap W0).size W0 W → Calls Try.prog 37 #[t.v, .int .i64 n] W fun e W' => e = .returned (.int .i64 (checkE t n)) ∧ Below W0.heap.size W0 W' :=
      fun W0 W hW => (refCheck_any t n W (by unfold maxLen; omega)).mono fun e W' ⟨he, hb⟩ => ⟨he, hW.trans (hb.mono hW.size)⟩
    have H5 : ∀ W0 W, Below (World.heap W0).size W0 W → Calls Try.prog 34 #[t.v] W fun e W' => e = .returned (.int .i64 (2 + t.text.length)) ∧ Below W0.heap.size W0 W' :=
      fun W0 W hW => (size_any t W (by omega)).mono fun e W' ⟨he, hb⟩ => ⟨he, hW.trans (hb.mono hW.size)⟩
    have H6 : ∀ W0 W, Below (World.heap W0).size W0 W → Calls Try.prog 38 #[t.v] W fun e W' => e = .returned (.int .i64 (2 + t.text.length)) ∧ Below W0.heap.size W0 W' :=
      fun W0 W hW => (refSize_any t W (by omega)).mono fun e W' ⟨he, hb⟩ => ⟨he, hW.trans (hb.mono hW.size)⟩
    have H7 : ∀ W0 W, Below (World.heap W0).size W0 W → Calls Try.prog 39 #[t.v, .int .i64 n] W fun e W' => e = .returned (.bool (sepB t n)) ∧ Below W0.heap.size W0 W' :=
      fun W0 W hW => (separates_any t n W (by unfold maxLen; omega)).mono fun e W' ⟨he, hb⟩ => ⟨he, hW.trans (hb.mono hW.size)⟩
    have H8 : ∀ W0 W, Below (World.heap W0).size W0 W → Calls Try.prog 40 #[t.v, .int .i64 n] W fun e W' => e = .returned (.bool (sepB t n)) ∧ Below W0.heap.size W0 W' :=
      fun W0 W hW => (refSeparates_any t n W (by unfold maxLen; omega)).mono fun e W' ⟨he, hb⟩ => ⟨he, hW.trans (hb.mono hW.size)⟩
    have H9 : ∀ W0 W, Below (World.heap W0).size W0 W → Calls Try.prog 30 #[] W fun e W' => e = .returned (.bool true) ∧ Below W0.heap.size W0 W' :=
      fun W0 W hW => (awake07_any W).mono fun e W' ⟨he, hb⟩ => ⟨he, hW.trans (hb.mono hW.size)⟩
    generalize bytesL t n = L at *
    generalize checkE t n = ce at *
    generalize sepB t n = sb at *
    have hz : (t.text.length : Int) ≤ 60 := by omega
    obtain ⟨sy, x, a⟩ := t
    unfold Tok.v at *
    simp only at *
    have H3' := Lib.hid H3; clear H3
    have H4' := Lib.hid H4; clear H4
    have H5' := Lib.hid H5; clear H5
    have H6' := Lib.hid H6; clear H6
    have H7' := Lib.hid H7; clear H7
    have H8' := Lib.hid H8; clear H8
    have H9' := Lib.hid H9; clear H9
    go_enter Try.func9, Try.ntmps9
    go_wp2_with fail
    refine (H1.out _).mono ?_
    rintro e w1 ⟨rfl, hb1⟩
    have hT1 := Blk.on hT hb1
    have hB1 := below_on hB hb1 (Nat.le_refl _)
    obtain ⟨c0, c1, c2, f0, f1, f2⟩ := cells3 hT1
    clear hT hB hb1 H1
    go_wp2_with fail
    refine (H2.out _).mono ?_
    rintro e w2 ⟨rfl, hb2⟩
    have hT2 := Blk.on hT1 hb2
    have hB2 := below_on hB1 hb2 (Nat.le_refl _)
    clear c0 c1 c2 f0 f1 f2 hT1 hB1 hb2 H2
    obtain ⟨c0, c1, c2, f0, f1, f2⟩ := cells3 hT2
    have hlt := hT2.lt
    have HT2 := Lib.hid hT2; clear hT2
    have HB2 := Lib.hid hB2; clear hB2
    have HA' := HA; clear HA
    have K3 := Lib.hid (H3'.out w2)
    have K4 := Lib.hid (H4'.out w2)
    have K5 := Lib.hid (H5'.out w2)
    have K6 := Lib.hid (H6'.out w2)
    have K7 := Lib.hid (H7'.out w2)
    have K8 := Lib.hid (H8'.out w2)
    have K9 := Lib.hid (H9'.out w2)
    clear H3' H4' H5' H6' H7' H8' H9'
    have hbd := (Below.refl w2.heap.size w2).drew
    go_wp2_with fail
    go_region_held3 (fun W => Below w2.heap.size w2 W ∧ W.cell? ⟨w.heap.size, 0, none⟩ = some (.int .i64 sy) ∧ W.cell? ⟨w.heap.size, 1, none⟩ = some (.string ⟨x.toArray⟩) ∧ W.cell? ⟨w.heap.size, 2, none⟩ = some (.int .i64 a))
      (exact ⟨by assumption, ((by assumption : Below w2.heap.size w2 _).cell (p := ⟨w.heap.size, 0, none⟩) hlt).trans c0, ((by assumption : Below w2.heap.size w2 _).cell (p := ⟨w.heap.size, 1, none⟩) hlt).trans c1, ((by assumption : Below w2.heap.size w2 _).cell (p := ⟨w.heap.size, 2, none⟩) hlt).trans c2⟩)
      (first
        | (go_at_call 36; refine (K3.out _ ?_).mono ?_; (exact (by assumption : _ ∧ _).1); rintro e w3 ⟨rfl, hb3⟩)
        | (go_at_call 37; refine (K4.out _ ?_).mono ?_; (exact (by assumption : _ ∧ _).1); rintro e w3 ⟨rfl, hb3⟩)
        | (go_at_call 34; refine (K5.out _ ?_).mono ?_; (exact (by assumption : _ ∧ _).1); rintro e w3 ⟨rfl, hb3⟩)
        | (go_at_call 38; refine (K6.out _ ?_).mono ?_; (exact (by assumption : _ ∧ _).1); rintro e w3 ⟨rfl, hb3⟩)
        | (go_at_call 39; refine (K7.out _ ?_).mono ?_; (exact (by assumption : _ ∧ _).1); rintro e w3 ⟨rfl, hb3⟩)
        | (go_at_call 40; refine (K8.out _ ?_).mono ?_; (exact (by assumption : _ ∧ _).1); rintro e w3 ⟨rfl, hb3⟩)
        | (go_at_call 30; refine (K9.out _ ?_).mono ?_; (exact (by assumption : _ ∧ _).1); rintro e w3 ⟨rfl, hb3⟩))
    go_wp2
    go_ret
    exact ⟨rfl, below_on HB2.out (by assumption) (Nat.le_refl _)⟩
  · obtain ⟨sy, x, a⟩ := t
    unfold Tok.v at *
    simp only at *
    have hB' := Lib.hid hB; clear hB hT
    go_enter Try.func9, Try.ntmps9
    go_wp2_with (go_at_call 30; refine (HA.out _).mono ?_; rintro e w1 ⟨rfl, hb1⟩)
    go_ret
    exact ⟨rfl, below_on hB'.out hb1 (Nat.le_refl _)⟩
end Go.Proofs.Ytdndomjmnlpjgaa
