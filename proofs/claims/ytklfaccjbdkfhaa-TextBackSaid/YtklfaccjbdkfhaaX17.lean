/- The reference's Next. No condition. -/
import Derived.Test.YtklfaccjbdkfhaaX16
namespace Go.Proofs.Ytklfaccjbdkfhaa
open Go.RowKit
set_option maxRecDepth 100000 in
set_option maxHeartbeats 3200000 in
theorem rNext_at (s : List UInt8) (a : Int) (w : World) (hl : s.length ≤ 30000) : Calls Try.prog 14 #[.string ⟨s.toArray⟩, .int .i64 a] w fun e w' => e = .returned (nextV s a) ∧ Below w.heap.size w w' := by
  have b0 := (Blk.new w 31 #[.int .i64 0, .string ⟨#[]⟩, .int .i64 0]).alloc (.cells #[.int .i64 0, .int .i64 0] 26)
  have b1 := (Blk.newAt (w.alloc (.cells #[.int .i64 0, .string ⟨#[]⟩, .int .i64 0] 31)) 26 #[.int .i64 0, .int .i64 0] (g := w.heap.size + 1) (by simp))
  have hB := ((Below.refl w.heap.size w).alloc (Nat.le_refl _) (.cells #[.int .i64 0, .string ⟨#[]⟩, .int .i64 0] 31)).alloc (by simp) (.cells #[.int .i64 0, .int .i64 0] 26)
  have hz : ((w.alloc (.cells #[.int .i64 0, .string ⟨#[]⟩, .int .i64 0] 31)).alloc (.cells #[.int .i64 0, .int .i64 0] 26)).heap.size = w.heap.size + 2 := by simp
  by_cases ha : a < 0 ∨ (s.length : Int) < a
  · have e : nextV s a = .tuple #[.agg #[.int .i64 0, .string ⟨#[]⟩, .int .i64 0], .int .i64 0, .agg #[.int .i64 2, .int .i64 0]] := if_pos ha
    rw [e]
    clear e
    have hcs : a < 0 ∨ 0 ≤ a ∧ (s.length : Int) < a := by omega
    have HH := Lib.hid (And.intro b0 (And.intro b1 hB))
    clear b0 b1 hB hz ha
    rcases hcs with h | ⟨h, h'⟩
    all_goals
      go_enter Try.func14, Try.ntmps14
      go_wp2_with fail
      refine bodyPost_ret (results_ctc rfl _ _ _ _ _ _ _ _ _ _ rfl ((Blk.new w 31 #[.int .i64 0, .string ⟨#[]⟩, .int .i64 0]).alloc (.cells #[.int .i64 2, .int .i64 0] 26)) Try.underlying31 rfl (by kernel_rfl) rfl (Blk.newAt (w.alloc (.cells #[.int .i64 0, .string ⟨#[]⟩, .int .i64 0] 31)) 26 #[.int .i64 2, .int .i64 0] (g := w.heap.size + 1) (by simp)) Try.underlying26 rfl (by kernel_rfl)) rfl ?_
      exact ⟨rfl, ((Below.refl w.heap.size w).alloc (Nat.le_refl _) _).alloc (by simp) _⟩
  · obtain ⟨k, rfl⟩ := Int.eq_ofNat_of_zero_le (show 0 ≤ a by omega)
    have hk : k ≤ s.length := by omega
    have e : nextV s k = .tuple #[nxX (nextL s k) s, .int .i64 (nxU (nextL s k)), nxF (nextL s k)] := if_neg ha
    rw [e]
    clear e ha
    have HP := Lib.hid (fun W => rpass_any s k W hk hl)
    obtain ⟨N, hN⟩ : ∃ N, k + skipF false (s.drop k) = N := ⟨_, rfl⟩
    rw [hN] at HP
    have hNl : N ≤ s.length := by
      have := skipF_le false (s.drop k)
      rw [List.length_drop] at this
      omega
    have hkz : (k : Int) ≤ s.length := by omega
    by_cases hend : N = s.length
    · have e : nextL s k = .fault 5 s.length := next_fin (by rw [hN]; exact hend)
      rw [e]
      unfold nxX nxF nxU
      clear e
      subst hend
      have HH := Lib.hid (And.intro b0 (And.intro b1 hB))
      have HQ := Lib.hid (put5b b0 b1 (by omega) (Nat.le_refl _) (by omega) hB (.int .i64 0) (.string ⟨#[]⟩) (.int .i64 0) (.int .i64 5) (.int .i64 s.length))
      clear b0 b1 hB hz hN hk hl
      go_enter Try.func14, Try.ntmps14
      go_wp2_with fail
      refine (HP.out _).mono ?_
      rintro e w1 ⟨rfl, rfl⟩
      obtain ⟨b0, b1, hB⟩ := HH.out
      clear HH
      generalize ((w.alloc (.cells #[.int .i64 0, .string ⟨#[]⟩, .int .i64 0] 31)).alloc (.cells #[.int .i64 0, .int .i64 0] 26)) = W1 at *
      obtain ⟨x0, x1, x2, y0, y1, y2⟩ := cells3 b0
      obtain ⟨p0, p1, r0, r1⟩ := cells2 b1
      clear b0 b1 hB
      go_wp2_with fail
      refine bodyPost_ret (results_ctc rfl _ _ _ _ _ _ _ _ _ _ rfl HQ.out.1 Try.underlying31 rfl (by kernel_rfl) rfl HQ.out.2.1 Try.underlying26 rfl (by kernel_rfl)) rfl ?_
      exact ⟨rfl, HQ.out.2.2⟩
    · have hlt : N < s.length := by omega
      have HG := Lib.hid (fun W => rbegins_any (s.drop N) W (by rw [List.length_drop]; omega) (by rw [List.length_drop]; omega))
      have hNz : (N : Int) < s.length := by omega
      have hne : ((N : Int) == s.length) = false := by rw [beq_eq_false_iff_ne]; omega
      by_cases hb : (lexB (s.drop N)).1 = 0
      · have e : nextL s k = .fault 3 N := next_bad hN hend hb
        rw [e]
        unfold nxX nxF nxU
        clear e
        rw [hb] at HG
        obtain ⟨tx, htx⟩ : ∃ tx, (s.drop N).take (lexB (s.drop N)).2 = tx := ⟨_, rfl⟩
        rw [htx] at HG
        have HH := Lib.hid (And.intro b0 (And.intro b1 hB))
        clear b0 b1 hB hz hN hk hl hb htx
        go_enter Try.func14, Try.ntmps14
        go_wp2_with fail
        refine (HP.out _).mono ?_
        rintro e w1 ⟨rfl, rfl⟩
        obtain ⟨b0, b1, hB⟩ := HH.out
        clear HH
        generalize ((w.alloc (.cells #[.int .i64 0, .string ⟨#[]⟩, .int .i64 0] 31)).alloc (.cells #[.int .i64 0, .int .i64 0] 26)) = W1 at *
        go_wp2_with fail
        refine (HG.out _).mono ?_
        rintro e w2 ⟨rfl, hb2⟩
        have c0 := (Blk.on b0 hb2).alloc (.cells #[.int .i64 0, .string ⟨tx.toArray⟩, .int .i64 0] 31)
        have c1 := (Blk.on b1 hb2).alloc (.cells #[.int .i64 0, .string ⟨tx.toArray⟩, .int .i64 0] 31)
        have hB2 := below_on hB hb2 (Nat.le_refl _)
        have hB3 := hB2.alloc hB2.size (.cells #[.int .i64 0, .string ⟨tx.toArray⟩, .int .i64 0] 31)
        have HQ := Lib.hid (put5b c0 c1 (by omega) (Nat.le_refl _) (by omega) hB3 (.int .i64 0) (.string ⟨#[]⟩) (.int .i64 0) (.int .i64 3) (.int .i64 N))
        obtain ⟨x0, x1, x2, y0, y1, y2⟩ := cells3 c0
        obtain ⟨p0, p1, r0, r1⟩ := cells2 c1
        clear c0 c1 hB hb2 hB2 hB3 b0 b1
        go_wp2_with fail
        refine bodyPost_ret (results_ctc rfl _ _ _ _ _ _ _ _ _ _ rfl HQ.out.1 Try.underlying31 rfl (by kernel_rfl) rfl HQ.out.2.1 Try.underlying26 rfl (by kernel_rfl)) rfl ?_
        exact ⟨rfl, HQ.out.2.2⟩
      · obtain ⟨kd, n, hkn⟩ : ∃ kd n, lexB (s.drop N) = (kd, n) := ⟨_, _, rfl⟩
        have hkd : kd ≠ 0 := by rw [hkn] at hb; exact hb
        have e : nextL s k = .lex kd n N := next_lex hN hend hkn hkd
        have hp := lexB_pos _ hb
        rw [hkn, List.length_drop] at hp
        simp only at hp
        rw [e]
        show Calls Try.prog 14 #[.string ⟨s.toArray⟩, .int .i64 k] w fun e w' => e = .returned (.tuple #[.agg #[.int .i64 kd, .string ⟨((s.drop N).take n).toArray⟩, .int .i64 N], .int .i64 ((N + n : Nat) : Int), .agg #[.int .i64 0, .int .i64 0]]) ∧ Below w.heap.size w w'
        rw [hkn] at HG
        simp only at HG
        have htl : ((s.drop N).take n).length = n := by rw [List.length_take, List.length_drop]; omega
        generalize (s.drop N).take n = tx at *
        have hkz0 : ((kd : Int) == 0) = false := by rw [beq_eq_false_iff_ne]; omega
        have hsum : (N : Int) + tx.length = ((N + n : Nat) : Int) := by omega
        have hbnd : ((N + n : Nat) : Int) ≤ 30000 := by omega
        generalize N + n = m at *
        have HH := Lib.hid (And.intro b0 (And.intro b1 (And.intro hB hz)))
        clear b0 b1 hB hz hN hk hl hb e hkn htl hp
        go_enter Try.func14, Try.ntmps14
        go_wp2_with fail
        refine (HP.out _).mono ?_
        rintro e w1 ⟨rfl, rfl⟩
        obtain ⟨b0, b1, hB, hz⟩ := HH.out
        clear HH
        generalize ((w.alloc (.cells #[.int .i64 0, .string ⟨#[]⟩, .int .i64 0] 31)).alloc (.cells #[.int .i64 0, .int .i64 0] 26)) = W1 at *
        go_wp2_with fail
        refine (HG.out _).mono ?_
        rintro e w2 ⟨rfl, hb2⟩
        have c0 := (Blk.on b0 hb2).alloc (.cells #[.int .i64 kd, .string ⟨tx.toArray⟩, .int .i64 N] 31)
        have c1 := (Blk.on b1 hb2).alloc (.cells #[.int .i64 kd, .string ⟨tx.toArray⟩, .int .i64 N] 31)
        have hs2 := hb2.size
        have hn0 : w2.heap.size ≠ w.heap.size := by omega
        have hn1 : w2.heap.size ≠ w.heap.size + 1 := by omega
        have hB2 := below_on hB hb2 (Nat.le_refl _)
        have hB3 := hB2.alloc hB2.size (.cells #[.int .i64 kd, .string ⟨tx.toArray⟩, .int .i64 N] 31)
        have HQ := Lib.hid (put5b c0 c1 (by omega) (Nat.le_refl _) (by omega) hB3 (.int .i64 kd) (.string ⟨tx.toArray⟩) (.int .i64 N) (.int .i64 0) (.int .i64 0))
        obtain ⟨x0, x1, x2, y0, y1, y2⟩ := cells3 c0
        obtain ⟨p0, p1, r0, r1⟩ := cells2 c1
        clear c0 c1 hB hb2 hB2 hB3 b0 b1 hs2 hz
        go_wp2_with fail
        have c7 := Blk.new w2 31 #[.int .i64 kd, .string ⟨tx.toArray⟩, .int .i64 N]
        obtain ⟨u0, u1, u2, v0, v1, v2⟩ := cells3 c7
        clear c7 HP HG
        generalize w2.alloc (.cells #[.int .i64 kd, .string ⟨tx.toArray⟩, .int .i64 N] 31) = W3 at *
        go_region
        go_wp2_with fail
        refine bodyPost_ret (results_ctc rfl _ _ _ _ _ _ _ _ _ _ rfl HQ.out.1.drew Try.underlying31 rfl (by kernel_rfl) rfl HQ.out.2.1.drew Try.underlying26 rfl (by kernel_rfl)) rfl ?_
        exact ⟨rfl, HQ.out.2.2.drew⟩
end Go.Proofs.Ytklfaccjbdkfhaa
