/- Walks of tokens: Read. -/
import Derived.Test.YtdndomjmnlpjgaaT4
namespace Go.Proofs.Ytdndomjmnlpjgaa
open Go.RowKit
theorem results_ctc {P : Program} {fn : Func} {p u q : Tmp} {tp tq : TypeId} (h : fn.results = #[.cell p tp, .tmp u, .cell q tq]) (tmps : Array Value) (w : World) (g : Nat) (t : TypeId) (cs : Array Value) (d : TypeDesc) (g2 : Nat) (t2 : TypeId) (ds : Array Value) (d2 : TypeDesc)
    (hp : tmps.getD p undef = .pointer (some ⟨g, 0, none⟩)) (hg : Blk w g t cs)
    (hu : P.underlying tp = some d) (hd : (match d with | .struct _ | .array _ _ => true | _ => false) = true) (hi : (P.info? tp).map (·.size) = some cs.size)
    (hp2 : tmps.getD q undef = .pointer (some ⟨g2, 0, none⟩)) (hg2 : Blk w g2 t2 ds)
    (hu2 : P.underlying tq = some d2) (hd2 : (match d2 with | .struct _ | .array _ _ => true | _ => false) = true) (hi2 : (P.info? tq).map (·.size) = some ds.size) :
    (results fn tmps).run P w = .ok (.tuple #[.agg cs, tmps.getD u undef, .agg ds]) w := by
  obtain ⟨fr, hg, _⟩ := hg
  obtain ⟨fr2, hg2, _⟩ := hg2
  have hp' : tmps[p]?.getD undef = .pointer (some ⟨g, 0, none⟩) := by simpa using hp
  have hq' : tmps[q]?.getD undef = .pointer (some ⟨g2, 0, none⟩) := by simpa using hp2
  simp [results, h, hp', hq', asAddr, run_loadVar_row w g t tp cs fr d hg hu hd hi, run_loadVar_row w g2 t2 tq ds fr2 d2 hg2 hu2 hd2 hi2]
theorem cells2 {w : World} {g : Nat} {T : TypeId} {a b : Value} (h : Blk w g T #[a, b]) : w.cell? ⟨g, 0, none⟩ = some a ∧ w.cell? ⟨g, 1, none⟩ = some b ∧ w.frozen? ⟨g, 0, none⟩ = false ∧ w.frozen? ⟨g, 1, none⟩ = false :=
  ⟨h.cell 0, h.cell 1, h.frozen (by simp), h.frozen (by simp)⟩
theorem cells3 {w : World} {g : Nat} {T : TypeId} {a b c : Value} (h : Blk w g T #[a, b, c]) : w.cell? ⟨g, 0, none⟩ = some a ∧ w.cell? ⟨g, 1, none⟩ = some b ∧ w.cell? ⟨g, 2, none⟩ = some c ∧ w.frozen? ⟨g, 0, none⟩ = false ∧ w.frozen? ⟨g, 1, none⟩ = false ∧ w.frozen? ⟨g, 2, none⟩ = false :=
  ⟨h.cell 0, h.cell 1, h.cell 2, h.frozen (by simp), h.frozen (by simp), h.frozen (by simp)⟩
theorem put5 {w0 w : World} {B g h : Nat} {T U : TypeId} {a b c d e : Value} (h1 : Blk w g T #[a, b, c]) (h2 : Blk w h U #[d, e]) (hne : g ≠ h) (hg : B ≤ g) (hh : B ≤ h) (hB : Below B w0 w) (x y z p q : Value) :
    Blk (((((w.setCell ⟨g, 0, none⟩ x).setCell ⟨g, 1, none⟩ y).setCell ⟨g, 2, none⟩ z).setCell ⟨h, 0, none⟩ p).setCell ⟨h, 1, none⟩ q) g T #[x, y, z] ∧
    Blk (((((w.setCell ⟨g, 0, none⟩ x).setCell ⟨g, 1, none⟩ y).setCell ⟨g, 2, none⟩ z).setCell ⟨h, 0, none⟩ p).setCell ⟨h, 1, none⟩ q) h U #[p, q] ∧
    Below B w0 (((((w.setCell ⟨g, 0, none⟩ x).setCell ⟨g, 1, none⟩ y).setCell ⟨g, 2, none⟩ z).setCell ⟨h, 0, none⟩ p).setCell ⟨h, 1, none⟩ q) :=
  ⟨((((h1.set 0 x).set 1 y).set 2 z).far (p := ⟨h, 0, none⟩) hne p).far (p := ⟨h, 1, none⟩) hne q,
    ((((h2.far (p := ⟨g, 0, none⟩) hne.symm x).far (p := ⟨g, 1, none⟩) hne.symm y).far (p := ⟨g, 2, none⟩) hne.symm z).set 0 p).set 1 q,
    ((((hB.setCell (p := ⟨g, 0, none⟩) hg x).setCell (p := ⟨g, 1, none⟩) hg y).setCell (p := ⟨g, 2, none⟩) hg z).setCell (p := ⟨h, 0, none⟩) hh p).setCell (p := ⟨h, 1, none⟩) hh q⟩
structure Fault where
  err : Int
  at_ : Int
deriving DecidableEq
def Fault.v (f : Fault) : Value := .agg #[.int .i64 f.err, .int .i64 f.at_]
def tok0 : Tok := ⟨0, [], 0⟩
/-- The token with which some bytes begin, how many bytes its frame has, the fault. -/
def readF (l : List UInt8) (n at_ : Int) : Fault :=
  if rangedB n = false ∨ countsB at_ = false then ⟨2, 0⟩ else if badE l n.toNat ≠ 0 then ⟨badE l n.toNat, at_⟩ else if wholeB l = true then ⟨0, 0⟩ else ⟨5, at_⟩
def readOk (l : List UInt8) (n at_ : Int) : Bool := rangedB n && countsB at_ && decide (badE l n.toNat = 0) && wholeB l
def readT (l : List UInt8) (n at_ : Int) : Tok := if readOk l n at_ then ⟨b0 l, (l.take (2 + b1 l)).drop 2, at_⟩ else tok0
def readU (l : List UInt8) (n at_ : Int) : Nat := if readOk l n at_ then 2 + b1 l else 0
set_option maxRecDepth 100000 in
set_option maxHeartbeats 3200000 in
theorem Read_any (l : List UInt8) (n at_ : Int) (w : World) (hl : l.length ≤ 30000) :
    Calls Try.prog 33 #[.string ⟨l.toArray⟩, .int .i64 n, .int .i64 at_] w fun e w' => e = .returned (.tuple #[(readT l n at_).v, .int .i64 (readU l n at_), (readF l n at_).v]) ∧ Below w.heap.size w w' := by
  have H1 := Lib.hid (fun W => ranged_any n W)
  have H2 := Lib.hid (fun W => counts_any at_ W)
  by_cases hr : rangedB n = false
  · have hF : readF l n at_ = ⟨2, 0⟩ := if_pos (.inl hr)
    have hO : readOk l n at_ = false := by unfold readOk; rw [hr]; rfl
    have hT : readT l n at_ = tok0 := if_neg (by rw [hO]; decide)
    have hU : readU l n at_ = 0 := if_neg (by rw [hO]; decide)
    rw [hF, hT, hU]
    rw [hr] at H1
    clear hr hF hO hT hU
    go_enter Try.func33, Try.ntmps33
    go_wp2_with (go_at_call 68; refine (H1.out _).mono ?_; rintro e w1 ⟨rfl, rfl⟩)
    have hb1 := (Blk.new w 41 #[.int .i64 0, .string ⟨#[]⟩, .int .i64 0]).alloc (.cells #[.int .i64 2, .int .i64 0] 27)
    have hb2 := Blk.newAt (w.alloc (.cells #[.int .i64 0, .string ⟨#[]⟩, .int .i64 0] 41)) 27 #[.int .i64 2, .int .i64 0] (g := w.heap.size + 1) (by simp)
    have hB := ((Below.refl w.heap.size w).alloc (Nat.le_refl _) (.cells #[.int .i64 0, .string ⟨#[]⟩, .int .i64 0] 41)).alloc (by simp) (.cells #[.int .i64 2, .int .i64 0] 27)
    refine bodyPost_ret (results_ctc rfl _ _ _ _ _ _ _ _ _ _ rfl hb1 Try.underlying41 rfl (by kernel_rfl) rfl hb2 Try.underlying27 rfl (by kernel_rfl)) rfl ?_
    exact ⟨rfl, hB⟩
  have hr1 : rangedB n = true := by simpa using hr
  rw [hr1] at H1
  clear hr
  by_cases hc : countsB at_ = false
  · have hF : readF l n at_ = ⟨2, 0⟩ := if_pos (.inr hc)
    have hO : readOk l n at_ = false := by unfold readOk; rw [hc]; simp
    have hT : readT l n at_ = tok0 := if_neg (by rw [hO]; decide)
    have hU : readU l n at_ = 0 := if_neg (by rw [hO]; decide)
    rw [hF, hT, hU]
    rw [hc] at H2
    clear hr1 hc hF hO hT hU
    go_enter Try.func33, Try.ntmps33
    go_wp2_with (first | (go_at_call 68; refine (H1.out _).mono ?_; rintro e w1 ⟨rfl, rfl⟩) | (go_at_call 69; refine (H2.out _).mono ?_; rintro e w1 ⟨rfl, rfl⟩))
    have hb1 := (Blk.new w 41 #[.int .i64 0, .string ⟨#[]⟩, .int .i64 0]).alloc (.cells #[.int .i64 2, .int .i64 0] 27)
    have hb2 := Blk.newAt (w.alloc (.cells #[.int .i64 0, .string ⟨#[]⟩, .int .i64 0] 41)) 27 #[.int .i64 2, .int .i64 0] (g := w.heap.size + 1) (by simp)
    have hB := ((Below.refl w.heap.size w).alloc (Nat.le_refl _) (.cells #[.int .i64 0, .string ⟨#[]⟩, .int .i64 0] 41)).alloc (by simp) (.cells #[.int .i64 2, .int .i64 0] 27)
    refine bodyPost_ret (results_ctc rfl _ _ _ _ _ _ _ _ _ _ rfl hb1 Try.underlying41 rfl (by kernel_rfl) rfl hb2 Try.underlying27 rfl (by kernel_rfl)) rfl ?_
    exact ⟨rfl, hB⟩
  have hc1 : countsB at_ = true := by simpa using hc
  rw [hc1] at H2
  clear hc
  obtain ⟨m, rfl, hm1, hm8⟩ : ∃ m : Nat, n = m ∧ 1 ≤ m ∧ m ≤ 8 := by
    unfold rangedB at hr1
    simp at hr1
    exact ⟨n.toNat, by omega, by omega, by omega⟩
  have hb1 := (Blk.new w 41 #[.int .i64 0, .string ⟨#[]⟩, .int .i64 0]).alloc (.cells #[.int .i64 0, .int .i64 0] 27)
  have hb2 := Blk.newAt (w.alloc (.cells #[.int .i64 0, .string ⟨#[]⟩, .int .i64 0] 41)) 27 #[.int .i64 0, .int .i64 0] (g := w.heap.size + 1) (by simp)
  have hB := ((Below.refl w.heap.size w).alloc (Nat.le_refl _) (.cells #[.int .i64 0, .string ⟨#[]⟩, .int .i64 0] 41)).alloc (by simp) (.cells #[.int .i64 0, .int .i64 0] 27)
  have hsz : ((w.alloc (.cells #[.int .i64 0, .string ⟨#[]⟩, .int .i64 0] 41)).alloc (.cells #[.int .i64 0, .int .i64 0] 27)).heap.size = w.heap.size + 2 := by simp
  have HR := Lib.hid (fun W => read_any l m W hl)
  have hF : readF l m at_ = if badE l m ≠ 0 then ⟨badE l m, at_⟩ else if wholeB l = true then ⟨0, 0⟩ else ⟨5, at_⟩ := by
    unfold readF
    rw [if_neg (by rw [hr1, hc1]; decide), Int.toNat_natCast]
  have hO : readOk l m at_ = (decide (badE l m = 0) && wholeB l) := by unfold readOk; rw [hr1, hc1, Int.toNat_natCast]; rfl
  unfold readPost at HR
  by_cases hE : badE l m = 0
  · rw [hE] at HR
    cases hw : wholeB l
    · have hF2 : readF l m at_ = ⟨5, at_⟩ := by rw [hF, if_neg (fun h => h hE), if_neg (by rw [hw]; decide)]
      have hO2 : readOk l m at_ = false := by rw [hO, hw, Bool.and_false]
      have hT : readT l m at_ = tok0 := if_neg (by rw [hO2]; decide)
      have hU : readU l m at_ = 0 := if_neg (by rw [hO2]; decide)
      rw [hF2, hT, hU]
      clear hF hF2 hO hO2 hT hU hr1 hc1 hE
      have HW := Lib.hid hw; clear hw
      go_enter Try.func33, Try.ntmps33
      go_wp2_with (first | (go_at_call 68; refine (H1.out _).mono ?_; rintro e w1 ⟨rfl, rfl⟩) | (go_at_call 69; refine (H2.out _).mono ?_; rintro e w1 ⟨rfl, rfl⟩))
      generalize (w.alloc (.cells #[.int .i64 0, .string ⟨#[]⟩, .int .i64 0] 41)).alloc (.cells #[.int .i64 0, .int .i64 0] 27) = w2 at *
      refine (HR.out _).mono ?_
      rintro e w3 ⟨idx, rfl, hb3, hrd⟩
      obtain ⟨st, left, sy, tx, hb5, hw1, hw2⟩ := hrd (by first | trivial | rfl)
      have hb1' := hb1.below hb3 (by omega)
      have hb2' := hb2.below hb3 (by omega)
      have hB3 := hB.trans (hb3.mono (by omega))
      obtain ⟨c0, c1, c2, f0, f1, f2⟩ := cells3 hb1'
      obtain ⟨d0, d1, k0, k1⟩ := cells2 hb2'
      rw [hsz] at hb5
      obtain ⟨q0, q1, q2, q3, q4, _, _, _, _, j4⟩ := rd_cells hb5
      have HB1 := Lib.hid hb1'; clear hb1'
      have HB2 := Lib.hid hb2'; clear hb2'
      have HB5 := Lib.hid hb5; clear hb5
      clear hb1 hb2 hB hrd
      rcases hw2 HW.out with rfl | rfl | rfl
      all_goals
        clear hw1 hw2
        go_wp2_with fail
        obtain ⟨r1, r2, r3⟩ := put5 HB1.out HB2.out (by omega) (Nat.le_refl _) (by omega) hB3 (.int .i64 0) (.string ⟨#[]⟩) (.int .i64 0) (.int .i64 5) (.int .i64 at_)
        refine bodyPost_ret (results_ctc rfl _ _ _ _ _ _ _ _ _ _ rfl r1 Try.underlying41 rfl (by kernel_rfl) rfl r2 Try.underlying27 rfl (by kernel_rfl)) rfl ?_
        exact ⟨rfl, r3⟩
    · have hF2 : readF l m at_ = ⟨0, 0⟩ := by rw [hF, if_neg (fun h => h hE), if_pos hw]
      have hO2 : readOk l m at_ = true := by rw [hO, hw, decide_eq_true hE]; rfl
      have hT : readT l m at_ = ⟨b0 l, (l.take (2 + b1 l)).drop 2, at_⟩ := if_pos hO2
      have hU : readU l m at_ = 2 + b1 l := if_pos hO2
      rw [hF2, hT, hU]
      clear hF hF2 hO hO2 hT hU hr1 hc1 hE
      have HW := Lib.hid hw; clear hw
      go_enter Try.func33, Try.ntmps33
      go_wp2_with (first | (go_at_call 68; refine (H1.out _).mono ?_; rintro e w1 ⟨rfl, rfl⟩) | (go_at_call 69; refine (H2.out _).mono ?_; rintro e w1 ⟨rfl, rfl⟩))
      generalize (w.alloc (.cells #[.int .i64 0, .string ⟨#[]⟩, .int .i64 0] 41)).alloc (.cells #[.int .i64 0, .int .i64 0] 27) = w2 at *
      refine (HR.out _).mono ?_
      rintro e w3 ⟨idx, rfl, hb3, hrd⟩
      obtain ⟨st, left, sy, tx, hb5, hw1, hw2⟩ := hrd (by first | trivial | rfl)
      have hb1' := hb1.below hb3 (by omega)
      have hb2' := hb2.below hb3 (by omega)
      have hB3 := hB.trans (hb3.mono (by omega))
      obtain ⟨c0, c1, c2, f0, f1, f2⟩ := cells3 hb1'
      obtain ⟨d0, d1, k0, k1⟩ := cells2 hb2'
      rw [hsz] at hb5
      obtain ⟨q0, q1, q2, q3, q4, _, _, _, _, j4⟩ := rd_cells hb5
      have HB1 := Lib.hid hb1'; clear hb1'
      have HB2 := Lib.hid hb2'; clear hb2'
      have HB5 := Lib.hid hb5; clear hb5
      clear hb1 hb2 hB hrd
      obtain ⟨rfl, rfl, rfl, rfl⟩ := hw1 HW.out
      clear hw1 hw2
      generalize hy : (l.take (2 + b1 l)).drop 2 = ty at *
      have HY := Lib.hid hy; clear hy
      go_wp2_with fail
      obtain ⟨r1, r2, r3⟩ := put5 (HB1.out.far (p := ⟨w.heap.size + 2, 4, none⟩) (by simp) (.int .i64 at_)) (HB2.out.far (p := ⟨w.heap.size + 2, 4, none⟩) (by simp) (.int .i64 at_)) (by omega) (Nat.le_refl _) (by omega) (hB3.setCell (p := ⟨w.heap.size + 2, 4, none⟩) (by simp) (.int .i64 at_)) (.int .i64 (b0 l)) (.string ⟨ty.toArray⟩) (.int .i64 at_) (.int .i64 0) (.int .i64 0)
      refine bodyPost_ret (results_ctc rfl _ _ _ _ _ _ _ _ _ _ rfl r1 Try.underlying41 rfl (by kernel_rfl) rfl r2 Try.underlying27 rfl (by kernel_rfl)) rfl ?_
      exact ⟨by rw [HY.out]; rfl, r3⟩
  · have hF2 : readF l m at_ = ⟨badE l m, at_⟩ := by rw [hF, if_pos hE]
    have hO2 : readOk l m at_ = false := by rw [hO, decide_eq_false hE]; rfl
    have hT : readT l m at_ = tok0 := if_neg (by rw [hO2]; decide)
    have hU : readU l m at_ = 0 := if_neg (by rw [hO2]; decide)
    rw [hF2, hT, hU]
    clear hF hF2 hO hO2 hT hU hr1 hc1
    generalize badE l m = be at *
    go_enter Try.func33, Try.ntmps33
    go_wp2_with (first | (go_at_call 68; refine (H1.out _).mono ?_; rintro e w1 ⟨rfl, rfl⟩) | (go_at_call 69; refine (H2.out _).mono ?_; rintro e w1 ⟨rfl, rfl⟩))
    generalize (w.alloc (.cells #[.int .i64 0, .string ⟨#[]⟩, .int .i64 0] 41)).alloc (.cells #[.int .i64 0, .int .i64 0] 27) = w2 at *
    refine (HR.out _).mono ?_
    rintro e w3 ⟨idx, rfl, hb3, _⟩
    have hb1' := hb1.below hb3 (by omega)
    have hb2' := hb2.below hb3 (by omega)
    have hB3 := hB.trans (hb3.mono (by omega))
    obtain ⟨c0, c1, c2, f0, f1, f2⟩ := cells3 hb1'
    obtain ⟨d0, d1, k0, k1⟩ := cells2 hb2'
    have HB1 := Lib.hid hb1'; clear hb1'
    have HB2 := Lib.hid hb2'; clear hb2'
    clear hb1 hb2 hB
    go_wp2_with fail
    obtain ⟨r1, r2, r3⟩ := put5 HB1.out HB2.out (by omega) (Nat.le_refl _) (by omega) hB3 (.int .i64 0) (.string ⟨#[]⟩) (.int .i64 0) (.int .i64 be) (.int .i64 at_)
    refine bodyPost_ret (results_ctc rfl _ _ _ _ _ _ _ _ _ _ rfl r1 Try.underlying41 rfl (by kernel_rfl) rfl r2 Try.underlying27 rfl (by kernel_rfl)) rfl ?_
    exact ⟨rfl, r3⟩
end Go.Proofs.Ytdndomjmnlpjgaa
