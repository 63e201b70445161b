/- Walks of tokens: the reference's Read. -/
import Derived.Test.YtdndomjmnlpjgaaT8
namespace Go.Proofs.Ytdndomjmnlpjgaa
open Go.RowKit
theorem put_new (w : World) (a b c d e : Value) (T U : TypeId) :
    Blk ((w.alloc (.cells #[a, b, c] T)).alloc (.cells #[d, e] U)) w.heap.size T #[a, b, c] ∧ Blk ((w.alloc (.cells #[a, b, c] T)).alloc (.cells #[d, e] U)) (w.heap.size + 1) U #[d, e] ∧
    Below w.heap.size w ((w.alloc (.cells #[a, b, c] T)).alloc (.cells #[d, e] U)) :=
  ⟨(Blk.new w T #[a, b, c]).alloc _, Blk.newAt (w.alloc (.cells #[a, b, c] T)) U #[d, e] (by simp), ((Below.refl w.heap.size w).alloc (Nat.le_refl _) _).alloc (by simp) _⟩
set_option maxRecDepth 100000 in
set_option maxHeartbeats 3200000 in
theorem refRead_any (l : List UInt8) (n at_ : Int) (w : World) (hl : l.length ≤ 30000) :
    Calls Try.prog 41 #[.string ⟨l.toArray⟩, .int .i64 n, .int .i64 at_] w fun e w' => e = .returned (.tuple #[(readT l n at_).v, .int .i64 (readU l n at_), (readF l n at_).v]) ∧ Below w.heap.size w w' := by
  have H1 := Lib.hid (fun W => terminals_any n W)
  by_cases hbad : rangedB n = false ∨ countsB at_ = false
  · have hF : readF l n at_ = ⟨2, 0⟩ := if_pos hbad
    have hO : readOk l n at_ = false := by unfold readOk; rcases hbad with h | h <;> rw [h] <;> simp
    have hT : readT l n at_ = tok0 := if_neg (by rw [hO]; decide)
    have hU : readU l n at_ = 0 := if_neg (by rw [hO]; decide)
    rw [hF, hT, hU]
    clear hF hO hT hU
    have hcs : rangedB n = false ∨ rangedB n = true ∧ at_ < 0 ∨ rangedB n = true ∧ ¬ at_ < 0 ∧ 1099511627776 < at_ := by
      cases hr : rangedB n
      · exact .inl rfl
      · rw [hr] at hbad
        unfold countsB at hbad
        simp at hbad
        by_cases h : at_ < 0
        · exact .inr (.inl ⟨rfl, h⟩)
        · exact .inr (.inr ⟨rfl, h, by omega⟩)
    clear hbad
    rcases hcs with h | ⟨h, h1⟩ | ⟨h, h1, h2⟩
    all_goals
      rw [h] at H1
      clear h
      go_enter Try.func41, Try.ntmps41
      go_wp2_with (go_at_call 71; refine (H1.out _).mono ?_; rintro e w1 ⟨rfl, rfl⟩)
      obtain ⟨r1, r2, r3⟩ := put_new w (.int .i64 0) (.string ⟨#[]⟩) (.int .i64 0) (.int .i64 2) (.int .i64 0) 41 27
      refine bodyPost_ret (results_ctc rfl _ _ _ _ _ _ _ _ _ _ rfl r1 Try.underlying41 rfl (by kernel_rfl) rfl r2 Try.underlying27 rfl (by kernel_rfl)) rfl ?_
      exact ⟨rfl, r3⟩
  · have hr1 : rangedB n = true := by revert hbad; cases rangedB n <;> simp
    have hc1 : countsB at_ = true := by revert hbad; cases countsB at_ <;> simp
    clear hbad
    rw [hr1] at H1
    obtain ⟨m, rfl, hm1, hm8⟩ : ∃ m : Nat, n = m ∧ 1 ≤ m ∧ m ≤ 8 := by
      unfold rangedB at hr1
      simp at hr1
      exact ⟨n.toNat, by omega, by omega, by omega⟩
    have hF : readF l m at_ = if badE l m ≠ 0 then ⟨badE l m, at_⟩ else if wholeB l = true then ⟨0, 0⟩ else ⟨5, at_⟩ := by
      unfold readF
      rw [if_neg (by rw [hr1, hc1]; decide), Int.toNat_natCast]
    have hO : readOk l m at_ = (decide (badE l m = 0) && wholeB l) := by unfold readOk; rw [hr1, hc1, Int.toNat_natCast]; rfl
    have H2 := Lib.hid (fun W => bad_any l m W hl)
    have H3 := Lib.hid (fun W => whole_any l W hl)
    have ha0 : ¬ at_ < 0 := by unfold countsB at hc1; simp at hc1; omega
    have ha1 : ¬ 1099511627776 < at_ := by unfold countsB at hc1; simp at hc1; omega
    clear hc1 hr1
    by_cases hE : badE l m = 0
    · rw [hE] at H2
      cases hw : wholeB l
      · have hF2 : readF l m at_ = ⟨5, at_⟩ := by rw [hF, if_neg (fun h => h hE), if_neg (by rw [hw]; decide)]
        have hO2 : readOk l m at_ = false := by rw [hO, hw, Bool.and_false]
        have hT : readT l m at_ = tok0 := if_neg (by rw [hO2]; decide)
        have hU : readU l m at_ = 0 := if_neg (by rw [hO2]; decide)
        rw [hF2, hT, hU]
        rw [hw] at H3
        clear hF hF2 hO hO2 hT hU hE hw
        go_enter Try.func41, Try.ntmps41
        go_wp2_with (first
          | (go_at_call 71; refine (H1.out _).mono ?_; rintro e w1 ⟨rfl, rfl⟩)
          | (go_at_call 72; refine (H2.out _).mono ?_; rintro e w1 ⟨rfl, rfl⟩)
          | (go_at_call 73; refine (H3.out _).mono ?_; rintro e w1 ⟨rfl, rfl⟩))
        obtain ⟨r1, r2, r3⟩ := put_new w (.int .i64 0) (.string ⟨#[]⟩) (.int .i64 0) (.int .i64 5) (.int .i64 at_) 41 27
        refine bodyPost_ret (results_ctc rfl _ _ _ _ _ _ _ _ _ _ rfl r1 Try.underlying41 rfl (by kernel_rfl) rfl r2 Try.underlying27 rfl (by kernel_rfl)) rfl ?_
        exact ⟨rfl, r3⟩
      · have hF2 : readF l m at_ = ⟨0, 0⟩ := by rw [hF, if_neg (fun h => h hE), if_pos hw]
        have hO2 : readOk l m at_ = true := by rw [hO, hw, decide_eq_true hE]; rfl
        have hT : readT l m at_ = ⟨b0 l, (l.take (2 + b1 l)).drop 2, at_⟩ := if_pos hO2
        have hU : readU l m at_ = 2 + b1 l := if_pos hO2
        rw [hF2, hT, hU]
        rw [hw] at H3
        have hw' := hw
        unfold wholeB at hw'
        simp at hw'
        obtain ⟨hw1, hw2⟩ := hw'
        have h01 : 0 < l.length := by omega
        have h11 : 1 < l.length := by omega
        have hx0 := b0_get l h01
        have hx1 := b1_get l h11
        have hl1 := b1_lt l
        have hl0 := b0_lt l
        clear hF hF2 hO hO2 hT hU hE hw
        generalize b0 l = x at *
        generalize b1 l = y at *
        go_enter Try.func41, Try.ntmps41
        go_wp2_with (first
          | (go_at_call 71; refine (H1.out _).mono ?_; rintro e w1 ⟨rfl, rfl⟩)
          | (go_at_call 72; refine (H2.out _).mono ?_; rintro e w1 ⟨rfl, rfl⟩)
          | (go_at_call 73; refine (H3.out _).mono ?_; rintro e w1 ⟨rfl, rfl⟩))
        clear H1 H2 H3 ha0 ha1 hm1 hm8
        go_region
        go_wp2
        obtain ⟨r1, r2, r3⟩ := put_new w (.int .i64 x) (.string ⟨((l.take (2 + y)).drop 2).toArray⟩) (.int .i64 at_) (.int .i64 0) (.int .i64 0) 41 27
        refine bodyPost_ret (results_ctc rfl _ _ _ _ _ _ _ _ _ _ rfl r1.drew Try.underlying41 rfl (by kernel_rfl) rfl r2.drew Try.underlying27 rfl (by kernel_rfl)) rfl ?_
        exact ⟨rfl, r3.drew⟩
    · have hF2 : readF l m at_ = ⟨badE l m, at_⟩ := by rw [hF, if_pos hE]
      have hO2 : readOk l m at_ = false := by rw [hO, decide_eq_false hE]; rfl
      have hT : readT l m at_ = tok0 := if_neg (by rw [hO2]; decide)
      have hU : readU l m at_ = 0 := if_neg (by rw [hO2]; decide)
      rw [hF2, hT, hU]
      clear hF hF2 hO hO2 hT hU
      generalize badE l m = be at *
      go_enter Try.func41, Try.ntmps41
      go_wp2_with (first
          | (go_at_call 71; refine (H1.out _).mono ?_; rintro e w1 ⟨rfl, rfl⟩)
          | (go_at_call 72; refine (H2.out _).mono ?_; rintro e w1 ⟨rfl, rfl⟩))
      obtain ⟨r1, r2, r3⟩ := put_new w (.int .i64 0) (.string ⟨#[]⟩) (.int .i64 0) (.int .i64 be) (.int .i64 at_) 41 27
      refine bodyPost_ret (results_ctc rfl _ _ _ _ _ _ _ _ _ _ rfl r1 Try.underlying41 rfl (by kernel_rfl) rfl r2 Try.underlying27 rfl (by kernel_rfl)) rfl ?_
      exact ⟨rfl, r3⟩
end Go.Proofs.Ytdndomjmnlpjgaa
