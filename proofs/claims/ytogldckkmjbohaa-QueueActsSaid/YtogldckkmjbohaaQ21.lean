/- The reference's Check of an event. No condition. -/
import Derived.Test.YtogldckkmjbohaaQ20
namespace Go.Proofs.Ytogldckkmjbohaa
open Go.RowKit
theorem hasK (k f : Int) (b : Bool) (w : World) (h : 1 ≤ k ∧ k ≤ 7) (hb : (rflds k).contains f = b) : Calls Try.prog 43 #[.int .i64 k, .int .i64 f] w fun e w' => e = .returned (.bool b) ∧ Below w.heap.size w w' := by
  have := has_any k f w h
  rw [hb] at this
  exact this
set_option maxRecDepth 100000 in
set_option maxHeartbeats 6400000 in
theorem rchk1 (sy pr rc a : Int) (x : List UInt8) (er : Int) (w : World) (_ : x.length ≤ maxLen) : Calls Try.prog 36 #[.agg #[.int .i64 1, .int .i64 sy, .int .i64 pr, .int .i64 rc, .int .i64 a, .string ⟨x.toArray⟩, .int .i64 er]] w fun r w' => r = .returned (.int .i64 (evE ⟨1, sy, pr, rc, a, x, er⟩)) ∧ Below w.heap.size w w' := by
  obtain ⟨g, hg⟩ : ∃ g : Int → Bool, (fun f => (rflds 1).contains f) = g := ⟨_, rfl⟩
  have HH := Lib.hid (fun (f : Int) W => hasK 1 f (g f) W (by decide) (by rw [← hg]))
  have g1 : g 1 = true := by rw [← hg]; decide
  have g2 : g 2 = true := by rw [← hg]; decide
  have g3 : g 3 = false := by rw [← hg]; decide
  have g4 : g 4 = false := by rw [← hg]; decide
  have g5 : g 5 = false := by rw [← hg]; decide
  have g6 : g 6 = false := by rw [← hg]; decide
  clear hg
  have HB := Lib.hid (And.intro (Blk.new w 34 #[.int .i64 1, .int .i64 sy, .int .i64 pr, .int .i64 rc, .int .i64 a, .string ⟨x.toArray⟩, .int .i64 er]) ((Below.refl w.heap.size w).alloc (Nat.le_refl _) (.cells #[.int .i64 1, .int .i64 sy, .int .i64 pr, .int .i64 rc, .int .i64 a, .string ⟨x.toArray⟩, .int .i64 er] 34)))
  obtain ⟨R, hR⟩ : ∃ R, evE ⟨1, sy, pr, rc, a, x, er⟩ = R := ⟨_, rfl⟩
  rw [hR]
  have HR := Lib.hid hR
  clear hR
  go_enter Try.func36, Try.ntmps36
  go_wp2_with (go_at_call 43; refine (HH.out _ _).mono ?_; rintro r w1 ⟨rfl, hb1⟩; have bT := Blk.on HB.out.1 hb1; have hB := below_on HB.out.2 hb1 (Nat.le_refl _); clear HB hb1; have HB := Lib.hid (And.intro bT hB); obtain ⟨⟨c0, c1, c2, c3, c4, c5, c6⟩, _⟩ := cells7 bT; clear bT hB)
  refine (rcounted_any rc _).mono ?_
  rintro r w1 ⟨rfl, rfl⟩
  cases hrec : countsB rc
  · have hev : R = 2 := by rw [← HR.out]; simp [evE, runE, hasF, flds, fieldE, hrec]
    subst hev
    go_wp2_with (go_at_call 43; refine (HH.out _ _).mono ?_; rintro r w1 ⟨rfl, hb1⟩; have bT := Blk.on HB.out.1 hb1; have hB := below_on HB.out.2 hb1 (Nat.le_refl _); clear HB hb1; have HB := Lib.hid (And.intro bT hB); obtain ⟨⟨c0, c1, c2, c3, c4, c5, c6⟩, _⟩ := cells7 bT; clear bT hB)
    go_ret
    exact ⟨rfl, HB.out.2⟩
  · skip
    go_wp2_with (go_at_call 43; refine (HH.out _ _).mono ?_; rintro r w1 ⟨rfl, hb1⟩; have bT := Blk.on HB.out.1 hb1; have hB := below_on HB.out.2 hb1 (Nat.le_refl _); clear HB hb1; have HB := Lib.hid (And.intro bT hB); obtain ⟨⟨c0, c1, c2, c3, c4, c5, c6⟩, _⟩ := cells7 bT; clear bT hB)
    refine (rcounted_any a _).mono ?_
    rintro r w1 ⟨rfl, rfl⟩
    cases hat : countsB a
    · have hev : R = 2 := by rw [← HR.out]; simp [evE, runE, hasF, flds, fieldE, hrec, hat]
      subst hev
      go_wp2_with (go_at_call 43; refine (HH.out _ _).mono ?_; rintro r w1 ⟨rfl, hb1⟩; have bT := Blk.on HB.out.1 hb1; have hB := below_on HB.out.2 hb1 (Nat.le_refl _); clear HB hb1; have HB := Lib.hid (And.intro bT hB); obtain ⟨⟨c0, c1, c2, c3, c4, c5, c6⟩, _⟩ := cells7 bT; clear bT hB)
      go_ret
      exact ⟨rfl, HB.out.2⟩
    · skip
      by_cases zsym : sy = 0
      case neg =>
        have hzb : (sy != 0) = true := bne_iff_ne.2 zsym
        have hzc : ¬ 0 = sy := fun h => zsym h.symm
        have hev : R = 3 := by rw [← HR.out]; simp [evE, runE, hasF, flds, fieldE, put1, hrec, hat, hzc, Ev.mk.injEq]
        subst hev
        go_wp2_with (go_at_call 43; refine (HH.out _ _).mono ?_; rintro r w1 ⟨rfl, hb1⟩; have bT := Blk.on HB.out.1 hb1; have hB := below_on HB.out.2 hb1 (Nat.le_refl _); clear HB hb1; have HB := Lib.hid (And.intro bT hB); obtain ⟨⟨c0, c1, c2, c3, c4, c5, c6⟩, _⟩ := cells7 bT; clear bT hB)
        go_ret
        exact ⟨rfl, HB.out.2⟩
      subst zsym
      by_cases zprod : pr = 0
      case neg =>
        have hzb : (pr != 0) = true := bne_iff_ne.2 zprod
        have hzc : ¬ 0 = pr := fun h => zprod h.symm
        have hev : R = 3 := by rw [← HR.out]; simp [evE, runE, hasF, flds, fieldE, put1, hrec, hat, hzc, Ev.mk.injEq]
        subst hev
        go_wp2_with (go_at_call 43; refine (HH.out _ _).mono ?_; rintro r w1 ⟨rfl, hb1⟩; have bT := Blk.on HB.out.1 hb1; have hB := below_on HB.out.2 hb1 (Nat.le_refl _); clear HB hb1; have HB := Lib.hid (And.intro bT hB); obtain ⟨⟨c0, c1, c2, c3, c4, c5, c6⟩, _⟩ := cells7 bT; clear bT hB)
        go_ret
        exact ⟨rfl, HB.out.2⟩
      subst zprod
      by_cases ztext : x = []
      case neg =>
        have hzb : (x == []) = false := by simpa using ztext
        have hzc : ¬ [] = x := fun h => ztext h.symm
        have hev : R = 3 := by rw [← HR.out]; simp [evE, runE, hasF, flds, fieldE, put1, hrec, hat, hzc, Ev.mk.injEq]
        subst hev
        go_wp2_with (go_at_call 43; refine (HH.out _ _).mono ?_; rintro r w1 ⟨rfl, hb1⟩; have bT := Blk.on HB.out.1 hb1; have hB := below_on HB.out.2 hb1 (Nat.le_refl _); clear HB hb1; have HB := Lib.hid (And.intro bT hB); obtain ⟨⟨c0, c1, c2, c3, c4, c5, c6⟩, _⟩ := cells7 bT; clear bT hB)
        go_ret
        exact ⟨rfl, HB.out.2⟩
      subst ztext
      by_cases zerr : er = 0
      case neg =>
        have hzb : (er != 0) = true := bne_iff_ne.2 zerr
        have hzc : ¬ 0 = er := fun h => zerr h.symm
        have hev : R = 3 := by rw [← HR.out]; simp [evE, runE, hasF, flds, fieldE, put1, hrec, hat, hzc, Ev.mk.injEq]
        subst hev
        go_wp2_with (go_at_call 43; refine (HH.out _ _).mono ?_; rintro r w1 ⟨rfl, hb1⟩; have bT := Blk.on HB.out.1 hb1; have hB := below_on HB.out.2 hb1 (Nat.le_refl _); clear HB hb1; have HB := Lib.hid (And.intro bT hB); obtain ⟨⟨c0, c1, c2, c3, c4, c5, c6⟩, _⟩ := cells7 bT; clear bT hB)
        go_ret
        exact ⟨rfl, HB.out.2⟩
      subst zerr
      have hev : R = 0 := by rw [← HR.out]; simp [evE, runE, hasF, flds, fieldE, put1, hrec, hat]
      subst hev
      go_wp2_with (go_at_call 43; refine (HH.out _ _).mono ?_; rintro r w1 ⟨rfl, hb1⟩; have bT := Blk.on HB.out.1 hb1; have hB := below_on HB.out.2 hb1 (Nat.le_refl _); clear HB hb1; have HB := Lib.hid (And.intro bT hB); obtain ⟨⟨c0, c1, c2, c3, c4, c5, c6⟩, _⟩ := cells7 bT; clear bT hB)
      go_ret
      exact ⟨rfl, HB.out.2⟩
set_option maxRecDepth 100000 in
set_option maxHeartbeats 6400000 in
theorem rchk2 (sy pr rc a : Int) (x : List UInt8) (er : Int) (w : World) (_ : x.length ≤ maxLen) : Calls Try.prog 36 #[.agg #[.int .i64 2, .int .i64 sy, .int .i64 pr, .int .i64 rc, .int .i64 a, .string ⟨x.toArray⟩, .int .i64 er]] w fun r w' => r = .returned (.int .i64 (evE ⟨2, sy, pr, rc, a, x, er⟩)) ∧ Below w.heap.size w w' := by
  obtain ⟨g, hg⟩ : ∃ g : Int → Bool, (fun f => (rflds 2).contains f) = g := ⟨_, rfl⟩
  have HH := Lib.hid (fun (f : Int) W => hasK 2 f (g f) W (by decide) (by rw [← hg]))
  have g1 : g 1 = false := by rw [← hg]; decide
  have g2 : g 2 = true := by rw [← hg]; decide
  have g3 : g 3 = true := by rw [← hg]; decide
  have g4 : g 4 = true := by rw [← hg]; decide
  have g5 : g 5 = false := by rw [← hg]; decide
  have g6 : g 6 = false := by rw [← hg]; decide
  clear hg
  have HB := Lib.hid (And.intro (Blk.new w 34 #[.int .i64 2, .int .i64 sy, .int .i64 pr, .int .i64 rc, .int .i64 a, .string ⟨x.toArray⟩, .int .i64 er]) ((Below.refl w.heap.size w).alloc (Nat.le_refl _) (.cells #[.int .i64 2, .int .i64 sy, .int .i64 pr, .int .i64 rc, .int .i64 a, .string ⟨x.toArray⟩, .int .i64 er] 34)))
  have HSy := Lib.hid (fun W => symbolic_any ⟨2, sy, pr, rc, a, x, er⟩ W)
  unfold Ev.v at HSy
  unfold Ev.cs at HSy
  simp only at HSy
  obtain ⟨R, hR⟩ : ∃ R, evE ⟨2, sy, pr, rc, a, x, er⟩ = R := ⟨_, rfl⟩
  rw [hR]
  have HR := Lib.hid hR
  clear hR
  go_enter Try.func36, Try.ntmps36
  go_wp2_with (go_at_call 43; refine (HH.out _ _).mono ?_; rintro r w1 ⟨rfl, hb1⟩; have bT := Blk.on HB.out.1 hb1; have hB := below_on HB.out.2 hb1 (Nat.le_refl _); clear HB hb1; have HB := Lib.hid (And.intro bT hB); obtain ⟨⟨c0, c1, c2, c3, c4, c5, c6⟩, _⟩ := cells7 bT; clear bT hB)
  refine (rcounted_any a _).mono ?_
  rintro r w1 ⟨rfl, rfl⟩
  cases hat : countsB a
  · have hev : R = 2 := by rw [← HR.out]; simp [evE, runE, hasF, flds, fieldE, hat]
    subst hev
    go_wp2_with (go_at_call 43; refine (HH.out _ _).mono ?_; rintro r w1 ⟨rfl, hb1⟩; have bT := Blk.on HB.out.1 hb1; have hB := below_on HB.out.2 hb1 (Nat.le_refl _); clear HB hb1; have HB := Lib.hid (And.intro bT hB); obtain ⟨⟨c0, c1, c2, c3, c4, c5, c6⟩, _⟩ := cells7 bT; clear bT hB)
    go_ret
    exact ⟨rfl, HB.out.2⟩
  · skip
    go_wp2_with (go_at_call 43; refine (HH.out _ _).mono ?_; rintro r w1 ⟨rfl, hb1⟩; have bT := Blk.on HB.out.1 hb1; have hB := below_on HB.out.2 hb1 (Nat.le_refl _); clear HB hb1; have HB := Lib.hid (And.intro bT hB); obtain ⟨⟨c0, c1, c2, c3, c4, c5, c6⟩, _⟩ := cells7 bT; clear bT hB)
    refine (HSy.out _).mono ?_
    rintro r w1 ⟨rfl, hw1⟩
    have bT := HB.out.1.alloc (.cells #[.int .i64 2, .int .i64 sy, .int .i64 pr, .int .i64 rc, .int .i64 a, .string ⟨x.toArray⟩, .int .i64 er] 34)
    have hB := HB.out.2.alloc HB.out.2.size (.cells #[.int .i64 2, .int .i64 sy, .int .i64 pr, .int .i64 rc, .int .i64 a, .string ⟨x.toArray⟩, .int .i64 er] 34)
    rw [← hw1] at bT hB
    clear HB hw1
    have HB := Lib.hid (And.intro bT hB)
    obtain ⟨⟨c0, c1, c2, c3, c4, c5, c6⟩, _⟩ := cells7 bT
    clear bT hB
    cases hsym : symB ⟨2, sy, pr, rc, a, x, er⟩
    · have hev : R = 14 := by rw [← HR.out]; simp [evE, runE, hasF, flds, fieldE, hat, hsym]
      subst hev
      go_wp2_with (go_at_call 43; refine (HH.out _ _).mono ?_; rintro r w1 ⟨rfl, hb1⟩; have bT := Blk.on HB.out.1 hb1; have hB := below_on HB.out.2 hb1 (Nat.le_refl _); clear HB hb1; have HB := Lib.hid (And.intro bT hB); obtain ⟨⟨c0, c1, c2, c3, c4, c5, c6⟩, _⟩ := cells7 bT; clear bT hB)
      go_ret
      exact ⟨rfl, HB.out.2⟩
    · skip
      by_cases hpa : pr < 0
      · have hev : R = 2 := by rw [← HR.out]; simp [evE, runE, hasF, flds, fieldE, hat, hsym, hpa]
        subst hev
        go_wp2_with (go_at_call 43; refine (HH.out _ _).mono ?_; rintro r w1 ⟨rfl, hb1⟩; have bT := Blk.on HB.out.1 hb1; have hB := below_on HB.out.2 hb1 (Nat.le_refl _); clear HB hb1; have HB := Lib.hid (And.intro bT hB); obtain ⟨⟨c0, c1, c2, c3, c4, c5, c6⟩, _⟩ := cells7 bT; clear bT hB)
        go_ret
        exact ⟨rfl, HB.out.2⟩
      by_cases hpb : 24 ≤ pr
      · have hev : R = 2 := by rw [← HR.out]; simp [evE, runE, hasF, flds, fieldE, hat, hsym, hpa, hpb]
        subst hev
        go_wp2_with (go_at_call 43; refine (HH.out _ _).mono ?_; rintro r w1 ⟨rfl, hb1⟩; have bT := Blk.on HB.out.1 hb1; have hB := below_on HB.out.2 hb1 (Nat.le_refl _); clear HB hb1; have HB := Lib.hid (And.intro bT hB); obtain ⟨⟨c0, c1, c2, c3, c4, c5, c6⟩, _⟩ := cells7 bT; clear bT hB)
        go_ret
        exact ⟨rfl, HB.out.2⟩
      by_cases zrec : rc = 0
      case neg =>
        have hzb : (rc != 0) = true := bne_iff_ne.2 zrec
        have hzc : ¬ 0 = rc := fun h => zrec h.symm
        have hev : R = 3 := by rw [← HR.out]; simp [evE, runE, hasF, flds, fieldE, put1, hat, hsym, hpa, hpb, hzc, Ev.mk.injEq]
        subst hev
        go_wp2_with (go_at_call 43; refine (HH.out _ _).mono ?_; rintro r w1 ⟨rfl, hb1⟩; have bT := Blk.on HB.out.1 hb1; have hB := below_on HB.out.2 hb1 (Nat.le_refl _); clear HB hb1; have HB := Lib.hid (And.intro bT hB); obtain ⟨⟨c0, c1, c2, c3, c4, c5, c6⟩, _⟩ := cells7 bT; clear bT hB)
        go_ret
        exact ⟨rfl, HB.out.2⟩
      subst zrec
      by_cases ztext : x = []
      case neg =>
        have hzb : (x == []) = false := by simpa using ztext
        have hzc : ¬ [] = x := fun h => ztext h.symm
        have hev : R = 3 := by rw [← HR.out]; simp [evE, runE, hasF, flds, fieldE, put1, hat, hsym, hpa, hpb, hzc, Ev.mk.injEq]
        subst hev
        go_wp2_with (go_at_call 43; refine (HH.out _ _).mono ?_; rintro r w1 ⟨rfl, hb1⟩; have bT := Blk.on HB.out.1 hb1; have hB := below_on HB.out.2 hb1 (Nat.le_refl _); clear HB hb1; have HB := Lib.hid (And.intro bT hB); obtain ⟨⟨c0, c1, c2, c3, c4, c5, c6⟩, _⟩ := cells7 bT; clear bT hB)
        go_ret
        exact ⟨rfl, HB.out.2⟩
      subst ztext
      by_cases zerr : er = 0
      case neg =>
        have hzb : (er != 0) = true := bne_iff_ne.2 zerr
        have hzc : ¬ 0 = er := fun h => zerr h.symm
        have hev : R = 3 := by rw [← HR.out]; simp [evE, runE, hasF, flds, fieldE, put1, hat, hsym, hpa, hpb, hzc, Ev.mk.injEq]
        subst hev
        go_wp2_with (go_at_call 43; refine (HH.out _ _).mono ?_; rintro r w1 ⟨rfl, hb1⟩; have bT := Blk.on HB.out.1 hb1; have hB := below_on HB.out.2 hb1 (Nat.le_refl _); clear HB hb1; have HB := Lib.hid (And.intro bT hB); obtain ⟨⟨c0, c1, c2, c3, c4, c5, c6⟩, _⟩ := cells7 bT; clear bT hB)
        go_ret
        exact ⟨rfl, HB.out.2⟩
      subst zerr
      have hev : R = 0 := by rw [← HR.out]; simp [evE, runE, hasF, flds, fieldE, put1, hat, hsym, hpa, hpb]
      subst hev
      go_wp2_with (go_at_call 43; refine (HH.out _ _).mono ?_; rintro r w1 ⟨rfl, hb1⟩; have bT := Blk.on HB.out.1 hb1; have hB := below_on HB.out.2 hb1 (Nat.le_refl _); clear HB hb1; have HB := Lib.hid (And.intro bT hB); obtain ⟨⟨c0, c1, c2, c3, c4, c5, c6⟩, _⟩ := cells7 bT; clear bT hB)
      go_ret
      exact ⟨rfl, HB.out.2⟩
set_option maxRecDepth 100000 in
set_option maxHeartbeats 6400000 in
theorem rchk3 (sy pr rc a : Int) (x : List UInt8) (er : Int) (w : World) (_ : x.length ≤ maxLen) : Calls Try.prog 36 #[.agg #[.int .i64 3, .int .i64 sy, .int .i64 pr, .int .i64 rc, .int .i64 a, .string ⟨x.toArray⟩, .int .i64 er]] w fun r w' => r = .returned (.int .i64 (evE ⟨3, sy, pr, rc, a, x, er⟩)) ∧ Below w.heap.size w w' := by
  obtain ⟨g, hg⟩ : ∃ g : Int → Bool, (fun f => (rflds 3).contains f) = g := ⟨_, rfl⟩
  have HH := Lib.hid (fun (f : Int) W => hasK 3 f (g f) W (by decide) (by rw [← hg]))
  have g1 : g 1 = false := by rw [← hg]; decide
  have g2 : g 2 = true := by rw [← hg]; decide
  have g3 : g 3 = true := by rw [← hg]; decide
  have g4 : g 4 = false := by rw [← hg]; decide
  have g5 : g 5 = true := by rw [← hg]; decide
  have g6 : g 6 = false := by rw [← hg]; decide
  clear hg
  have HB := Lib.hid (And.intro (Blk.new w 34 #[.int .i64 3, .int .i64 sy, .int .i64 pr, .int .i64 rc, .int .i64 a, .string ⟨x.toArray⟩, .int .i64 er]) ((Below.refl w.heap.size w).alloc (Nat.le_refl _) (.cells #[.int .i64 3, .int .i64 sy, .int .i64 pr, .int .i64 rc, .int .i64 a, .string ⟨x.toArray⟩, .int .i64 er] 34)))
  have HSy := Lib.hid (fun W => symbolic_any ⟨3, sy, pr, rc, a, x, er⟩ W)
  unfold Ev.v at HSy
  unfold Ev.cs at HSy
  simp only at HSy
  obtain ⟨R, hR⟩ : ∃ R, evE ⟨3, sy, pr, rc, a, x, er⟩ = R := ⟨_, rfl⟩
  rw [hR]
  have HR := Lib.hid hR
  clear hR
  go_enter Try.func36, Try.ntmps36
  go_wp2_with (go_at_call 43; refine (HH.out _ _).mono ?_; rintro r w1 ⟨rfl, hb1⟩; have bT := Blk.on HB.out.1 hb1; have hB := below_on HB.out.2 hb1 (Nat.le_refl _); clear HB hb1; have HB := Lib.hid (And.intro bT hB); obtain ⟨⟨c0, c1, c2, c3, c4, c5, c6⟩, _⟩ := cells7 bT; clear bT hB)
  refine (rcounted_any a _).mono ?_
  rintro r w1 ⟨rfl, rfl⟩
  cases hat : countsB a
  · have hev : R = 2 := by rw [← HR.out]; simp [evE, runE, hasF, flds, fieldE, hat]
    subst hev
    go_wp2_with (go_at_call 43; refine (HH.out _ _).mono ?_; rintro r w1 ⟨rfl, hb1⟩; have bT := Blk.on HB.out.1 hb1; have hB := below_on HB.out.2 hb1 (Nat.le_refl _); clear HB hb1; have HB := Lib.hid (And.intro bT hB); obtain ⟨⟨c0, c1, c2, c3, c4, c5, c6⟩, _⟩ := cells7 bT; clear bT hB)
    go_ret
    exact ⟨rfl, HB.out.2⟩
  · skip
    go_wp2_with (go_at_call 43; refine (HH.out _ _).mono ?_; rintro r w1 ⟨rfl, hb1⟩; have bT := Blk.on HB.out.1 hb1; have hB := below_on HB.out.2 hb1 (Nat.le_refl _); clear HB hb1; have HB := Lib.hid (And.intro bT hB); obtain ⟨⟨c0, c1, c2, c3, c4, c5, c6⟩, _⟩ := cells7 bT; clear bT hB)
    refine (HSy.out _).mono ?_
    rintro r w1 ⟨rfl, hw1⟩
    have bT := HB.out.1.alloc (.cells #[.int .i64 3, .int .i64 sy, .int .i64 pr, .int .i64 rc, .int .i64 a, .string ⟨x.toArray⟩, .int .i64 er] 34)
    have hB := HB.out.2.alloc HB.out.2.size (.cells #[.int .i64 3, .int .i64 sy, .int .i64 pr, .int .i64 rc, .int .i64 a, .string ⟨x.toArray⟩, .int .i64 er] 34)
    rw [← hw1] at bT hB
    clear HB hw1
    have HB := Lib.hid (And.intro bT hB)
    obtain ⟨⟨c0, c1, c2, c3, c4, c5, c6⟩, _⟩ := cells7 bT
    clear bT hB
    cases hsym : symB ⟨3, sy, pr, rc, a, x, er⟩
    · have hev : R = 14 := by rw [← HR.out]; simp [evE, runE, hasF, flds, fieldE, hat, hsym]
      subst hev
      go_wp2_with (go_at_call 43; refine (HH.out _ _).mono ?_; rintro r w1 ⟨rfl, hb1⟩; have bT := Blk.on HB.out.1 hb1; have hB := below_on HB.out.2 hb1 (Nat.le_refl _); clear HB hb1; have HB := Lib.hid (And.intro bT hB); obtain ⟨⟨c0, c1, c2, c3, c4, c5, c6⟩, _⟩ := cells7 bT; clear bT hB)
      go_ret
      exact ⟨rfl, HB.out.2⟩
    · skip
      by_cases htx : 24 < x.length
      · have htz : (24 : Int) < x.length := by omega
        have hev : R = 4 := by rw [← HR.out]; simp [evE, runE, hasF, flds, fieldE, hat, hsym, htx]
        subst hev
        go_wp2_with (go_at_call 43; refine (HH.out _ _).mono ?_; rintro r w1 ⟨rfl, hb1⟩; have bT := Blk.on HB.out.1 hb1; have hB := below_on HB.out.2 hb1 (Nat.le_refl _); clear HB hb1; have HB := Lib.hid (And.intro bT hB); obtain ⟨⟨c0, c1, c2, c3, c4, c5, c6⟩, _⟩ := cells7 bT; clear bT hB)
        go_ret
        exact ⟨rfl, HB.out.2⟩
      have htz : ¬ (24 : Int) < x.length := by omega
      by_cases zrec : rc = 0
      case neg =>
        have hzb : (rc != 0) = true := bne_iff_ne.2 zrec
        have hzc : ¬ 0 = rc := fun h => zrec h.symm
        have hev : R = 3 := by rw [← HR.out]; simp [evE, runE, hasF, flds, fieldE, put1, hat, hsym, htx, hzc, Ev.mk.injEq]
        subst hev
        go_wp2_with (go_at_call 43; refine (HH.out _ _).mono ?_; rintro r w1 ⟨rfl, hb1⟩; have bT := Blk.on HB.out.1 hb1; have hB := below_on HB.out.2 hb1 (Nat.le_refl _); clear HB hb1; have HB := Lib.hid (And.intro bT hB); obtain ⟨⟨c0, c1, c2, c3, c4, c5, c6⟩, _⟩ := cells7 bT; clear bT hB)
        go_ret
        exact ⟨rfl, HB.out.2⟩
      subst zrec
      by_cases zprod : pr = 0
      case neg =>
        have hzb : (pr != 0) = true := bne_iff_ne.2 zprod
        have hzc : ¬ 0 = pr := fun h => zprod h.symm
        have hev : R = 3 := by rw [← HR.out]; simp [evE, runE, hasF, flds, fieldE, put1, hat, hsym, htx, hzc, Ev.mk.injEq]
        subst hev
        go_wp2_with (go_at_call 43; refine (HH.out _ _).mono ?_; rintro r w1 ⟨rfl, hb1⟩; have bT := Blk.on HB.out.1 hb1; have hB := below_on HB.out.2 hb1 (Nat.le_refl _); clear HB hb1; have HB := Lib.hid (And.intro bT hB); obtain ⟨⟨c0, c1, c2, c3, c4, c5, c6⟩, _⟩ := cells7 bT; clear bT hB)
        go_ret
        exact ⟨rfl, HB.out.2⟩
      subst zprod
      by_cases zerr : er = 0
      case neg =>
        have hzb : (er != 0) = true := bne_iff_ne.2 zerr
        have hzc : ¬ 0 = er := fun h => zerr h.symm
        have hev : R = 3 := by rw [← HR.out]; simp [evE, runE, hasF, flds, fieldE, put1, hat, hsym, htx, hzc, Ev.mk.injEq]
        subst hev
        go_wp2_with (go_at_call 43; refine (HH.out _ _).mono ?_; rintro r w1 ⟨rfl, hb1⟩; have bT := Blk.on HB.out.1 hb1; have hB := below_on HB.out.2 hb1 (Nat.le_refl _); clear HB hb1; have HB := Lib.hid (And.intro bT hB); obtain ⟨⟨c0, c1, c2, c3, c4, c5, c6⟩, _⟩ := cells7 bT; clear bT hB)
        go_ret
        exact ⟨rfl, HB.out.2⟩
      subst zerr
      have hev : R = 0 := by rw [← HR.out]; simp [evE, runE, hasF, flds, fieldE, put1, hat, hsym, htx]
      subst hev
      go_wp2_with (go_at_call 43; refine (HH.out _ _).mono ?_; rintro r w1 ⟨rfl, hb1⟩; have bT := Blk.on HB.out.1 hb1; have hB := below_on HB.out.2 hb1 (Nat.le_refl _); clear HB hb1; have HB := Lib.hid (And.intro bT hB); obtain ⟨⟨c0, c1, c2, c3, c4, c5, c6⟩, _⟩ := cells7 bT; clear bT hB)
      go_ret
      exact ⟨rfl, HB.out.2⟩
set_option maxRecDepth 100000 in
set_option maxHeartbeats 6400000 in
theorem rchk4 (sy pr rc a : Int) (x : List UInt8) (er : Int) (w : World) (_ : x.length ≤ maxLen) : Calls Try.prog 36 #[.agg #[.int .i64 4, .int .i64 sy, .int .i64 pr, .int .i64 rc, .int .i64 a, .string ⟨x.toArray⟩, .int .i64 er]] w fun r w' => r = .returned (.int .i64 (evE ⟨4, sy, pr, rc, a, x, er⟩)) ∧ Below w.heap.size w w' := by
  obtain ⟨g, hg⟩ : ∃ g : Int → Bool, (fun f => (rflds 4).contains f) = g := ⟨_, rfl⟩
  have HH := Lib.hid (fun (f : Int) W => hasK 4 f (g f) W (by decide) (by rw [← hg]))
  have g1 : g 1 = false := by rw [← hg]; decide
  have g2 : g 2 = false := by rw [← hg]; decide
  have g3 : g 3 = true := by rw [← hg]; decide
  have g4 : g 4 = true := by rw [← hg]; decide
  have g5 : g 5 = false := by rw [← hg]; decide
  have g6 : g 6 = false := by rw [← hg]; decide
  clear hg
  have HB := Lib.hid (And.intro (Blk.new w 34 #[.int .i64 4, .int .i64 sy, .int .i64 pr, .int .i64 rc, .int .i64 a, .string ⟨x.toArray⟩, .int .i64 er]) ((Below.refl w.heap.size w).alloc (Nat.le_refl _) (.cells #[.int .i64 4, .int .i64 sy, .int .i64 pr, .int .i64 rc, .int .i64 a, .string ⟨x.toArray⟩, .int .i64 er] 34)))
  have HSy := Lib.hid (fun W => symbolic_any ⟨4, sy, pr, rc, a, x, er⟩ W)
  unfold Ev.v at HSy
  unfold Ev.cs at HSy
  simp only at HSy
  obtain ⟨R, hR⟩ : ∃ R, evE ⟨4, sy, pr, rc, a, x, er⟩ = R := ⟨_, rfl⟩
  rw [hR]
  have HR := Lib.hid hR
  clear hR
  go_enter Try.func36, Try.ntmps36
  go_wp2_with (go_at_call 43; refine (HH.out _ _).mono ?_; rintro r w1 ⟨rfl, hb1⟩; have bT := Blk.on HB.out.1 hb1; have hB := below_on HB.out.2 hb1 (Nat.le_refl _); clear HB hb1; have HB := Lib.hid (And.intro bT hB); obtain ⟨⟨c0, c1, c2, c3, c4, c5, c6⟩, _⟩ := cells7 bT; clear bT hB)
  refine (HSy.out _).mono ?_
  rintro r w1 ⟨rfl, hw1⟩
  have bT := HB.out.1.alloc (.cells #[.int .i64 4, .int .i64 sy, .int .i64 pr, .int .i64 rc, .int .i64 a, .string ⟨x.toArray⟩, .int .i64 er] 34)
  have hB := HB.out.2.alloc HB.out.2.size (.cells #[.int .i64 4, .int .i64 sy, .int .i64 pr, .int .i64 rc, .int .i64 a, .string ⟨x.toArray⟩, .int .i64 er] 34)
  rw [← hw1] at bT hB
  clear HB hw1
  have HB := Lib.hid (And.intro bT hB)
  obtain ⟨⟨c0, c1, c2, c3, c4, c5, c6⟩, _⟩ := cells7 bT
  clear bT hB
  cases hsym : symB ⟨4, sy, pr, rc, a, x, er⟩
  · have hev : R = 14 := by rw [← HR.out]; simp [evE, runE, hasF, flds, fieldE, hsym]
    subst hev
    go_wp2_with (go_at_call 43; refine (HH.out _ _).mono ?_; rintro r w1 ⟨rfl, hb1⟩; have bT := Blk.on HB.out.1 hb1; have hB := below_on HB.out.2 hb1 (Nat.le_refl _); clear HB hb1; have HB := Lib.hid (And.intro bT hB); obtain ⟨⟨c0, c1, c2, c3, c4, c5, c6⟩, _⟩ := cells7 bT; clear bT hB)
    go_ret
    exact ⟨rfl, HB.out.2⟩
  · skip
    by_cases hpa : pr < 0
    · have hev : R = 2 := by rw [← HR.out]; simp [evE, runE, hasF, flds, fieldE, hsym, hpa]
      subst hev
      go_wp2_with (go_at_call 43; refine (HH.out _ _).mono ?_; rintro r w1 ⟨rfl, hb1⟩; have bT := Blk.on HB.out.1 hb1; have hB := below_on HB.out.2 hb1 (Nat.le_refl _); clear HB hb1; have HB := Lib.hid (And.intro bT hB); obtain ⟨⟨c0, c1, c2, c3, c4, c5, c6⟩, _⟩ := cells7 bT; clear bT hB)
      go_ret
      exact ⟨rfl, HB.out.2⟩
    by_cases hpb : 24 ≤ pr
    · have hev : R = 2 := by rw [← HR.out]; simp [evE, runE, hasF, flds, fieldE, hsym, hpa, hpb]
      subst hev
      go_wp2_with (go_at_call 43; refine (HH.out _ _).mono ?_; rintro r w1 ⟨rfl, hb1⟩; have bT := Blk.on HB.out.1 hb1; have hB := below_on HB.out.2 hb1 (Nat.le_refl _); clear HB hb1; have HB := Lib.hid (And.intro bT hB); obtain ⟨⟨c0, c1, c2, c3, c4, c5, c6⟩, _⟩ := cells7 bT; clear bT hB)
      go_ret
      exact ⟨rfl, HB.out.2⟩
    by_cases zrec : rc = 0
    case neg =>
      have hzb : (rc != 0) = true := bne_iff_ne.2 zrec
      have hzc : ¬ 0 = rc := fun h => zrec h.symm
      have hev : R = 3 := by rw [← HR.out]; simp [evE, runE, hasF, flds, fieldE, put1, hsym, hpa, hpb, hzc, Ev.mk.injEq]
      subst hev
      go_wp2_with (go_at_call 43; refine (HH.out _ _).mono ?_; rintro r w1 ⟨rfl, hb1⟩; have bT := Blk.on HB.out.1 hb1; have hB := below_on HB.out.2 hb1 (Nat.le_refl _); clear HB hb1; have HB := Lib.hid (And.intro bT hB); obtain ⟨⟨c0, c1, c2, c3, c4, c5, c6⟩, _⟩ := cells7 bT; clear bT hB)
      go_ret
      exact ⟨rfl, HB.out.2⟩
    subst zrec
    by_cases zat : a = 0
    case neg =>
      have hzb : (a != 0) = true := bne_iff_ne.2 zat
      have hzc : ¬ 0 = a := fun h => zat h.symm
      have hev : R = 3 := by rw [← HR.out]; simp [evE, runE, hasF, flds, fieldE, put1, hsym, hpa, hpb, hzc, Ev.mk.injEq]
      subst hev
      go_wp2_with (go_at_call 43; refine (HH.out _ _).mono ?_; rintro r w1 ⟨rfl, hb1⟩; have bT := Blk.on HB.out.1 hb1; have hB := below_on HB.out.2 hb1 (Nat.le_refl _); clear HB hb1; have HB := Lib.hid (And.intro bT hB); obtain ⟨⟨c0, c1, c2, c3, c4, c5, c6⟩, _⟩ := cells7 bT; clear bT hB)
      go_ret
      exact ⟨rfl, HB.out.2⟩
    subst zat
    by_cases ztext : x = []
    case neg =>
      have hzb : (x == []) = false := by simpa using ztext
      have hzc : ¬ [] = x := fun h => ztext h.symm
      have hev : R = 3 := by rw [← HR.out]; simp [evE, runE, hasF, flds, fieldE, put1, hsym, hpa, hpb, hzc, Ev.mk.injEq]
      subst hev
      go_wp2_with (go_at_call 43; refine (HH.out _ _).mono ?_; rintro r w1 ⟨rfl, hb1⟩; have bT := Blk.on HB.out.1 hb1; have hB := below_on HB.out.2 hb1 (Nat.le_refl _); clear HB hb1; have HB := Lib.hid (And.intro bT hB); obtain ⟨⟨c0, c1, c2, c3, c4, c5, c6⟩, _⟩ := cells7 bT; clear bT hB)
      go_ret
      exact ⟨rfl, HB.out.2⟩
    subst ztext
    by_cases zerr : er = 0
    case neg =>
      have hzb : (er != 0) = true := bne_iff_ne.2 zerr
      have hzc : ¬ 0 = er := fun h => zerr h.symm
      have hev : R = 3 := by rw [← HR.out]; simp [evE, runE, hasF, flds, fieldE, put1, hsym, hpa, hpb, hzc, Ev.mk.injEq]
      subst hev
      go_wp2_with (go_at_call 43; refine (HH.out _ _).mono ?_; rintro r w1 ⟨rfl, hb1⟩; have bT := Blk.on HB.out.1 hb1; have hB := below_on HB.out.2 hb1 (Nat.le_refl _); clear HB hb1; have HB := Lib.hid (And.intro bT hB); obtain ⟨⟨c0, c1, c2, c3, c4, c5, c6⟩, _⟩ := cells7 bT; clear bT hB)
      go_ret
      exact ⟨rfl, HB.out.2⟩
    subst zerr
    have hev : R = 0 := by rw [← HR.out]; simp [evE, runE, hasF, flds, fieldE, put1, hsym, hpa, hpb]
    subst hev
    go_wp2_with (go_at_call 43; refine (HH.out _ _).mono ?_; rintro r w1 ⟨rfl, hb1⟩; have bT := Blk.on HB.out.1 hb1; have hB := below_on HB.out.2 hb1 (Nat.le_refl _); clear HB hb1; have HB := Lib.hid (And.intro bT hB); obtain ⟨⟨c0, c1, c2, c3, c4, c5, c6⟩, _⟩ := cells7 bT; clear bT hB)
    go_ret
    exact ⟨rfl, HB.out.2⟩
set_option maxRecDepth 100000 in
set_option maxHeartbeats 6400000 in
theorem rchk5 (sy pr rc a : Int) (x : List UInt8) (er : Int) (w : World) (_ : x.length ≤ maxLen) : Calls Try.prog 36 #[.agg #[.int .i64 5, .int .i64 sy, .int .i64 pr, .int .i64 rc, .int .i64 a, .string ⟨x.toArray⟩, .int .i64 er]] w fun r w' => r = .returned (.int .i64 (evE ⟨5, sy, pr, rc, a, x, er⟩)) ∧ Below w.heap.size w w' := by
  obtain ⟨g, hg⟩ : ∃ g : Int → Bool, (fun f => (rflds 5).contains f) = g := ⟨_, rfl⟩
  have HH := Lib.hid (fun (f : Int) W => hasK 5 f (g f) W (by decide) (by rw [← hg]))
  have g1 : g 1 = false := by rw [← hg]; decide
  have g2 : g 2 = true := by rw [← hg]; decide
  have g3 : g 3 = true := by rw [← hg]; decide
  have g4 : g 4 = false := by rw [← hg]; decide
  have g5 : g 5 = false := by rw [← hg]; decide
  have g6 : g 6 = true := by rw [← hg]; decide
  clear hg
  have HB := Lib.hid (And.intro (Blk.new w 34 #[.int .i64 5, .int .i64 sy, .int .i64 pr, .int .i64 rc, .int .i64 a, .string ⟨x.toArray⟩, .int .i64 er]) ((Below.refl w.heap.size w).alloc (Nat.le_refl _) (.cells #[.int .i64 5, .int .i64 sy, .int .i64 pr, .int .i64 rc, .int .i64 a, .string ⟨x.toArray⟩, .int .i64 er] 34)))
  have HSy := Lib.hid (fun W => symbolic_any ⟨5, sy, pr, rc, a, x, er⟩ W)
  unfold Ev.v at HSy
  unfold Ev.cs at HSy
  simp only at HSy
  have HEr := Lib.hid (fun W => erring_any ⟨5, sy, pr, rc, a, x, er⟩ W)
  unfold Ev.v at HEr
  unfold Ev.cs at HEr
  simp only at HEr
  obtain ⟨R, hR⟩ : ∃ R, evE ⟨5, sy, pr, rc, a, x, er⟩ = R := ⟨_, rfl⟩
  rw [hR]
  have HR := Lib.hid hR
  clear hR
  go_enter Try.func36, Try.ntmps36
  go_wp2_with (go_at_call 43; refine (HH.out _ _).mono ?_; rintro r w1 ⟨rfl, hb1⟩; have bT := Blk.on HB.out.1 hb1; have hB := below_on HB.out.2 hb1 (Nat.le_refl _); clear HB hb1; have HB := Lib.hid (And.intro bT hB); obtain ⟨⟨c0, c1, c2, c3, c4, c5, c6⟩, _⟩ := cells7 bT; clear bT hB)
  refine (rcounted_any a _).mono ?_
  rintro r w1 ⟨rfl, rfl⟩
  cases hat : countsB a
  · have hev : R = 2 := by rw [← HR.out]; simp [evE, runE, hasF, flds, fieldE, hat]
    subst hev
    go_wp2_with (go_at_call 43; refine (HH.out _ _).mono ?_; rintro r w1 ⟨rfl, hb1⟩; have bT := Blk.on HB.out.1 hb1; have hB := below_on HB.out.2 hb1 (Nat.le_refl _); clear HB hb1; have HB := Lib.hid (And.intro bT hB); obtain ⟨⟨c0, c1, c2, c3, c4, c5, c6⟩, _⟩ := cells7 bT; clear bT hB)
    go_ret
    exact ⟨rfl, HB.out.2⟩
  · skip
    go_wp2_with (go_at_call 43; refine (HH.out _ _).mono ?_; rintro r w1 ⟨rfl, hb1⟩; have bT := Blk.on HB.out.1 hb1; have hB := below_on HB.out.2 hb1 (Nat.le_refl _); clear HB hb1; have HB := Lib.hid (And.intro bT hB); obtain ⟨⟨c0, c1, c2, c3, c4, c5, c6⟩, _⟩ := cells7 bT; clear bT hB)
    refine (HSy.out _).mono ?_
    rintro r w1 ⟨rfl, hw1⟩
    have bT := HB.out.1.alloc (.cells #[.int .i64 5, .int .i64 sy, .int .i64 pr, .int .i64 rc, .int .i64 a, .string ⟨x.toArray⟩, .int .i64 er] 34)
    have hB := HB.out.2.alloc HB.out.2.size (.cells #[.int .i64 5, .int .i64 sy, .int .i64 pr, .int .i64 rc, .int .i64 a, .string ⟨x.toArray⟩, .int .i64 er] 34)
    rw [← hw1] at bT hB
    clear HB hw1
    have HB := Lib.hid (And.intro bT hB)
    obtain ⟨⟨c0, c1, c2, c3, c4, c5, c6⟩, _⟩ := cells7 bT
    clear bT hB
    cases hsym : symB ⟨5, sy, pr, rc, a, x, er⟩
    · have hev : R = 14 := by rw [← HR.out]; simp [evE, runE, hasF, flds, fieldE, hat, hsym]
      subst hev
      go_wp2_with (go_at_call 43; refine (HH.out _ _).mono ?_; rintro r w1 ⟨rfl, hb1⟩; have bT := Blk.on HB.out.1 hb1; have hB := below_on HB.out.2 hb1 (Nat.le_refl _); clear HB hb1; have HB := Lib.hid (And.intro bT hB); obtain ⟨⟨c0, c1, c2, c3, c4, c5, c6⟩, _⟩ := cells7 bT; clear bT hB)
      go_ret
      exact ⟨rfl, HB.out.2⟩
    · skip
      go_wp2_with (go_at_call 43; refine (HH.out _ _).mono ?_; rintro r w1 ⟨rfl, hb1⟩; have bT := Blk.on HB.out.1 hb1; have hB := below_on HB.out.2 hb1 (Nat.le_refl _); clear HB hb1; have HB := Lib.hid (And.intro bT hB); obtain ⟨⟨c0, c1, c2, c3, c4, c5, c6⟩, _⟩ := cells7 bT; clear bT hB)
      have heq : erringB ⟨5, sy, pr, rc, a, x, er⟩ = reasonB ⟨5, sy, pr, rc, a, x, er⟩ := erring_eq _ (fun _ => hsym) (by simp)
      rw [heq] at HEr
      refine (HEr.out _).mono ?_
      rintro r w1 ⟨rfl, hw1⟩
      have bT := HB.out.1.alloc (.cells #[.int .i64 5, .int .i64 sy, .int .i64 pr, .int .i64 rc, .int .i64 a, .string ⟨x.toArray⟩, .int .i64 er] 34)
      have hB := HB.out.2.alloc HB.out.2.size (.cells #[.int .i64 5, .int .i64 sy, .int .i64 pr, .int .i64 rc, .int .i64 a, .string ⟨x.toArray⟩, .int .i64 er] 34)
      rw [← hw1] at bT hB
      clear HB hw1 heq
      have HB := Lib.hid (And.intro bT hB)
      obtain ⟨⟨c0, c1, c2, c3, c4, c5, c6⟩, _⟩ := cells7 bT
      clear bT hB
      cases herr : reasonB ⟨5, sy, pr, rc, a, x, er⟩
      · have hev : R = 11 := by rw [← HR.out]; simp [evE, runE, hasF, flds, fieldE, hat, hsym, herr]
        subst hev
        go_wp2_with (go_at_call 43; refine (HH.out _ _).mono ?_; rintro r w1 ⟨rfl, hb1⟩; have bT := Blk.on HB.out.1 hb1; have hB := below_on HB.out.2 hb1 (Nat.le_refl _); clear HB hb1; have HB := Lib.hid (And.intro bT hB); obtain ⟨⟨c0, c1, c2, c3, c4, c5, c6⟩, _⟩ := cells7 bT; clear bT hB)
        go_ret
        exact ⟨rfl, HB.out.2⟩
      · skip
        by_cases zrec : rc = 0
        case neg =>
          have hzb : (rc != 0) = true := bne_iff_ne.2 zrec
          have hzc : ¬ 0 = rc := fun h => zrec h.symm
          have hev : R = 3 := by rw [← HR.out]; simp [evE, runE, hasF, flds, fieldE, put1, hat, hsym, herr, hzc, Ev.mk.injEq]
          subst hev
          go_wp2_with (go_at_call 43; refine (HH.out _ _).mono ?_; rintro r w1 ⟨rfl, hb1⟩; have bT := Blk.on HB.out.1 hb1; have hB := below_on HB.out.2 hb1 (Nat.le_refl _); clear HB hb1; have HB := Lib.hid (And.intro bT hB); obtain ⟨⟨c0, c1, c2, c3, c4, c5, c6⟩, _⟩ := cells7 bT; clear bT hB)
          go_ret
          exact ⟨rfl, HB.out.2⟩
        subst zrec
        by_cases zprod : pr = 0
        case neg =>
          have hzb : (pr != 0) = true := bne_iff_ne.2 zprod
          have hzc : ¬ 0 = pr := fun h => zprod h.symm
          have hev : R = 3 := by rw [← HR.out]; simp [evE, runE, hasF, flds, fieldE, put1, hat, hsym, herr, hzc, Ev.mk.injEq]
          subst hev
          go_wp2_with (go_at_call 43; refine (HH.out _ _).mono ?_; rintro r w1 ⟨rfl, hb1⟩; have bT := Blk.on HB.out.1 hb1; have hB := below_on HB.out.2 hb1 (Nat.le_refl _); clear HB hb1; have HB := Lib.hid (And.intro bT hB); obtain ⟨⟨c0, c1, c2, c3, c4, c5, c6⟩, _⟩ := cells7 bT; clear bT hB)
          go_ret
          exact ⟨rfl, HB.out.2⟩
        subst zprod
        by_cases ztext : x = []
        case neg =>
          have hzb : (x == []) = false := by simpa using ztext
          have hzc : ¬ [] = x := fun h => ztext h.symm
          have hev : R = 3 := by rw [← HR.out]; simp [evE, runE, hasF, flds, fieldE, put1, hat, hsym, herr, hzc, Ev.mk.injEq]
          subst hev
          go_wp2_with (go_at_call 43; refine (HH.out _ _).mono ?_; rintro r w1 ⟨rfl, hb1⟩; have bT := Blk.on HB.out.1 hb1; have hB := below_on HB.out.2 hb1 (Nat.le_refl _); clear HB hb1; have HB := Lib.hid (And.intro bT hB); obtain ⟨⟨c0, c1, c2, c3, c4, c5, c6⟩, _⟩ := cells7 bT; clear bT hB)
          go_ret
          exact ⟨rfl, HB.out.2⟩
        subst ztext
        have hev : R = 0 := by rw [← HR.out]; simp [evE, runE, hasF, flds, fieldE, put1, hat, hsym, herr]
        subst hev
        go_wp2_with (go_at_call 43; refine (HH.out _ _).mono ?_; rintro r w1 ⟨rfl, hb1⟩; have bT := Blk.on HB.out.1 hb1; have hB := below_on HB.out.2 hb1 (Nat.le_refl _); clear HB hb1; have HB := Lib.hid (And.intro bT hB); obtain ⟨⟨c0, c1, c2, c3, c4, c5, c6⟩, _⟩ := cells7 bT; clear bT hB)
        go_ret
        exact ⟨rfl, HB.out.2⟩
set_option maxRecDepth 100000 in
set_option maxHeartbeats 6400000 in
theorem rchk6 (sy pr rc a : Int) (x : List UInt8) (er : Int) (w : World) (_ : x.length ≤ maxLen) : Calls Try.prog 36 #[.agg #[.int .i64 6, .int .i64 sy, .int .i64 pr, .int .i64 rc, .int .i64 a, .string ⟨x.toArray⟩, .int .i64 er]] w fun r w' => r = .returned (.int .i64 (evE ⟨6, sy, pr, rc, a, x, er⟩)) ∧ Below w.heap.size w w' := by
  obtain ⟨g, hg⟩ : ∃ g : Int → Bool, (fun f => (rflds 6).contains f) = g := ⟨_, rfl⟩
  have HH := Lib.hid (fun (f : Int) W => hasK 6 f (g f) W (by decide) (by rw [← hg]))
  have g1 : g 1 = true := by rw [← hg]; decide
  have g2 : g 2 = true := by rw [← hg]; decide
  have g3 : g 3 = false := by rw [← hg]; decide
  have g4 : g 4 = false := by rw [← hg]; decide
  have g5 : g 5 = false := by rw [← hg]; decide
  have g6 : g 6 = true := by rw [← hg]; decide
  clear hg
  have HB := Lib.hid (And.intro (Blk.new w 34 #[.int .i64 6, .int .i64 sy, .int .i64 pr, .int .i64 rc, .int .i64 a, .string ⟨x.toArray⟩, .int .i64 er]) ((Below.refl w.heap.size w).alloc (Nat.le_refl _) (.cells #[.int .i64 6, .int .i64 sy, .int .i64 pr, .int .i64 rc, .int .i64 a, .string ⟨x.toArray⟩, .int .i64 er] 34)))
  have HEr := Lib.hid (fun W => erring_any ⟨6, sy, pr, rc, a, x, er⟩ W)
  unfold Ev.v at HEr
  unfold Ev.cs at HEr
  simp only at HEr
  obtain ⟨R, hR⟩ : ∃ R, evE ⟨6, sy, pr, rc, a, x, er⟩ = R := ⟨_, rfl⟩
  rw [hR]
  have HR := Lib.hid hR
  clear hR
  go_enter Try.func36, Try.ntmps36
  go_wp2_with (go_at_call 43; refine (HH.out _ _).mono ?_; rintro r w1 ⟨rfl, hb1⟩; have bT := Blk.on HB.out.1 hb1; have hB := below_on HB.out.2 hb1 (Nat.le_refl _); clear HB hb1; have HB := Lib.hid (And.intro bT hB); obtain ⟨⟨c0, c1, c2, c3, c4, c5, c6⟩, _⟩ := cells7 bT; clear bT hB)
  refine (rcounted_any rc _).mono ?_
  rintro r w1 ⟨rfl, rfl⟩
  cases hrec : countsB rc
  · have hev : R = 2 := by rw [← HR.out]; simp [evE, runE, hasF, flds, fieldE, hrec]
    subst hev
    go_wp2_with (go_at_call 43; refine (HH.out _ _).mono ?_; rintro r w1 ⟨rfl, hb1⟩; have bT := Blk.on HB.out.1 hb1; have hB := below_on HB.out.2 hb1 (Nat.le_refl _); clear HB hb1; have HB := Lib.hid (And.intro bT hB); obtain ⟨⟨c0, c1, c2, c3, c4, c5, c6⟩, _⟩ := cells7 bT; clear bT hB)
    go_ret
    exact ⟨rfl, HB.out.2⟩
  · skip
    go_wp2_with (go_at_call 43; refine (HH.out _ _).mono ?_; rintro r w1 ⟨rfl, hb1⟩; have bT := Blk.on HB.out.1 hb1; have hB := below_on HB.out.2 hb1 (Nat.le_refl _); clear HB hb1; have HB := Lib.hid (And.intro bT hB); obtain ⟨⟨c0, c1, c2, c3, c4, c5, c6⟩, _⟩ := cells7 bT; clear bT hB)
    refine (rcounted_any a _).mono ?_
    rintro r w1 ⟨rfl, rfl⟩
    cases hat : countsB a
    · have hev : R = 2 := by rw [← HR.out]; simp [evE, runE, hasF, flds, fieldE, hrec, hat]
      subst hev
      go_wp2_with (go_at_call 43; refine (HH.out _ _).mono ?_; rintro r w1 ⟨rfl, hb1⟩; have bT := Blk.on HB.out.1 hb1; have hB := below_on HB.out.2 hb1 (Nat.le_refl _); clear HB hb1; have HB := Lib.hid (And.intro bT hB); obtain ⟨⟨c0, c1, c2, c3, c4, c5, c6⟩, _⟩ := cells7 bT; clear bT hB)
      go_ret
      exact ⟨rfl, HB.out.2⟩
    · skip
      go_wp2_with (go_at_call 43; refine (HH.out _ _).mono ?_; rintro r w1 ⟨rfl, hb1⟩; have bT := Blk.on HB.out.1 hb1; have hB := below_on HB.out.2 hb1 (Nat.le_refl _); clear HB hb1; have HB := Lib.hid (And.intro bT hB); obtain ⟨⟨c0, c1, c2, c3, c4, c5, c6⟩, _⟩ := cells7 bT; clear bT hB)
      have heq : erringB ⟨6, sy, pr, rc, a, x, er⟩ = reasonB ⟨6, sy, pr, rc, a, x, er⟩ := erring_eq _ (fun _ => by simp_all) (by simp)
      rw [heq] at HEr
      refine (HEr.out _).mono ?_
      rintro r w1 ⟨rfl, hw1⟩
      have bT := HB.out.1.alloc (.cells #[.int .i64 6, .int .i64 sy, .int .i64 pr, .int .i64 rc, .int .i64 a, .string ⟨x.toArray⟩, .int .i64 er] 34)
      have hB := HB.out.2.alloc HB.out.2.size (.cells #[.int .i64 6, .int .i64 sy, .int .i64 pr, .int .i64 rc, .int .i64 a, .string ⟨x.toArray⟩, .int .i64 er] 34)
      rw [← hw1] at bT hB
      clear HB hw1 heq
      have HB := Lib.hid (And.intro bT hB)
      obtain ⟨⟨c0, c1, c2, c3, c4, c5, c6⟩, _⟩ := cells7 bT
      clear bT hB
      cases herr : reasonB ⟨6, sy, pr, rc, a, x, er⟩
      · have hev : R = 11 := by rw [← HR.out]; simp [evE, runE, hasF, flds, fieldE, hrec, hat, herr]
        subst hev
        go_wp2_with (go_at_call 43; refine (HH.out _ _).mono ?_; rintro r w1 ⟨rfl, hb1⟩; have bT := Blk.on HB.out.1 hb1; have hB := below_on HB.out.2 hb1 (Nat.le_refl _); clear HB hb1; have HB := Lib.hid (And.intro bT hB); obtain ⟨⟨c0, c1, c2, c3, c4, c5, c6⟩, _⟩ := cells7 bT; clear bT hB)
        go_ret
        exact ⟨rfl, HB.out.2⟩
      · skip
        by_cases zsym : sy = 0
        case neg =>
          have hzb : (sy != 0) = true := bne_iff_ne.2 zsym
          have hzc : ¬ 0 = sy := fun h => zsym h.symm
          have hev : R = 3 := by rw [← HR.out]; simp [evE, runE, hasF, flds, fieldE, put1, hrec, hat, herr, hzc, Ev.mk.injEq]
          subst hev
          go_wp2_with (go_at_call 43; refine (HH.out _ _).mono ?_; rintro r w1 ⟨rfl, hb1⟩; have bT := Blk.on HB.out.1 hb1; have hB := below_on HB.out.2 hb1 (Nat.le_refl _); clear HB hb1; have HB := Lib.hid (And.intro bT hB); obtain ⟨⟨c0, c1, c2, c3, c4, c5, c6⟩, _⟩ := cells7 bT; clear bT hB)
          go_ret
          exact ⟨rfl, HB.out.2⟩
        subst zsym
        by_cases zprod : pr = 0
        case neg =>
          have hzb : (pr != 0) = true := bne_iff_ne.2 zprod
          have hzc : ¬ 0 = pr := fun h => zprod h.symm
          have hev : R = 3 := by rw [← HR.out]; simp [evE, runE, hasF, flds, fieldE, put1, hrec, hat, herr, hzc, Ev.mk.injEq]
          subst hev
          go_wp2_with (go_at_call 43; refine (HH.out _ _).mono ?_; rintro r w1 ⟨rfl, hb1⟩; have bT := Blk.on HB.out.1 hb1; have hB := below_on HB.out.2 hb1 (Nat.le_refl _); clear HB hb1; have HB := Lib.hid (And.intro bT hB); obtain ⟨⟨c0, c1, c2, c3, c4, c5, c6⟩, _⟩ := cells7 bT; clear bT hB)
          go_ret
          exact ⟨rfl, HB.out.2⟩
        subst zprod
        by_cases ztext : x = []
        case neg =>
          have hzb : (x == []) = false := by simpa using ztext
          have hzc : ¬ [] = x := fun h => ztext h.symm
          have hev : R = 3 := by rw [← HR.out]; simp [evE, runE, hasF, flds, fieldE, put1, hrec, hat, herr, hzc, Ev.mk.injEq]
          subst hev
          go_wp2_with (go_at_call 43; refine (HH.out _ _).mono ?_; rintro r w1 ⟨rfl, hb1⟩; have bT := Blk.on HB.out.1 hb1; have hB := below_on HB.out.2 hb1 (Nat.le_refl _); clear HB hb1; have HB := Lib.hid (And.intro bT hB); obtain ⟨⟨c0, c1, c2, c3, c4, c5, c6⟩, _⟩ := cells7 bT; clear bT hB)
          go_ret
          exact ⟨rfl, HB.out.2⟩
        subst ztext
        have hev : R = 0 := by rw [← HR.out]; simp [evE, runE, hasF, flds, fieldE, put1, hrec, hat, herr]
        subst hev
        go_wp2_with (go_at_call 43; refine (HH.out _ _).mono ?_; rintro r w1 ⟨rfl, hb1⟩; have bT := Blk.on HB.out.1 hb1; have hB := below_on HB.out.2 hb1 (Nat.le_refl _); clear HB hb1; have HB := Lib.hid (And.intro bT hB); obtain ⟨⟨c0, c1, c2, c3, c4, c5, c6⟩, _⟩ := cells7 bT; clear bT hB)
        go_ret
        exact ⟨rfl, HB.out.2⟩
set_option maxRecDepth 100000 in
set_option maxHeartbeats 6400000 in
theorem rchk7 (sy pr rc a : Int) (x : List UInt8) (er : Int) (w : World) (_ : x.length ≤ maxLen) : Calls Try.prog 36 #[.agg #[.int .i64 7, .int .i64 sy, .int .i64 pr, .int .i64 rc, .int .i64 a, .string ⟨x.toArray⟩, .int .i64 er]] w fun r w' => r = .returned (.int .i64 (evE ⟨7, sy, pr, rc, a, x, er⟩)) ∧ Below w.heap.size w w' := by
  obtain ⟨g, hg⟩ : ∃ g : Int → Bool, (fun f => (rflds 7).contains f) = g := ⟨_, rfl⟩
  have HH := Lib.hid (fun (f : Int) W => hasK 7 f (g f) W (by decide) (by rw [← hg]))
  have g1 : g 1 = false := by rw [← hg]; decide
  have g2 : g 2 = true := by rw [← hg]; decide
  have g3 : g 3 = false := by rw [← hg]; decide
  have g4 : g 4 = false := by rw [← hg]; decide
  have g5 : g 5 = false := by rw [← hg]; decide
  have g6 : g 6 = true := by rw [← hg]; decide
  clear hg
  have HB := Lib.hid (And.intro (Blk.new w 34 #[.int .i64 7, .int .i64 sy, .int .i64 pr, .int .i64 rc, .int .i64 a, .string ⟨x.toArray⟩, .int .i64 er]) ((Below.refl w.heap.size w).alloc (Nat.le_refl _) (.cells #[.int .i64 7, .int .i64 sy, .int .i64 pr, .int .i64 rc, .int .i64 a, .string ⟨x.toArray⟩, .int .i64 er] 34)))
  have HEr := Lib.hid (fun W => erring_any ⟨7, sy, pr, rc, a, x, er⟩ W)
  unfold Ev.v at HEr
  unfold Ev.cs at HEr
  simp only at HEr
  obtain ⟨R, hR⟩ : ∃ R, evE ⟨7, sy, pr, rc, a, x, er⟩ = R := ⟨_, rfl⟩
  rw [hR]
  have HR := Lib.hid hR
  clear hR
  go_enter Try.func36, Try.ntmps36
  go_wp2_with (go_at_call 43; refine (HH.out _ _).mono ?_; rintro r w1 ⟨rfl, hb1⟩; have bT := Blk.on HB.out.1 hb1; have hB := below_on HB.out.2 hb1 (Nat.le_refl _); clear HB hb1; have HB := Lib.hid (And.intro bT hB); obtain ⟨⟨c0, c1, c2, c3, c4, c5, c6⟩, _⟩ := cells7 bT; clear bT hB)
  refine (rcounted_any a _).mono ?_
  rintro r w1 ⟨rfl, rfl⟩
  cases hat : countsB a
  · have hev : R = 2 := by rw [← HR.out]; simp [evE, runE, hasF, flds, fieldE, hat]
    subst hev
    go_wp2_with (go_at_call 43; refine (HH.out _ _).mono ?_; rintro r w1 ⟨rfl, hb1⟩; have bT := Blk.on HB.out.1 hb1; have hB := below_on HB.out.2 hb1 (Nat.le_refl _); clear HB hb1; have HB := Lib.hid (And.intro bT hB); obtain ⟨⟨c0, c1, c2, c3, c4, c5, c6⟩, _⟩ := cells7 bT; clear bT hB)
    go_ret
    exact ⟨rfl, HB.out.2⟩
  · skip
    go_wp2_with (go_at_call 43; refine (HH.out _ _).mono ?_; rintro r w1 ⟨rfl, hb1⟩; have bT := Blk.on HB.out.1 hb1; have hB := below_on HB.out.2 hb1 (Nat.le_refl _); clear HB hb1; have HB := Lib.hid (And.intro bT hB); obtain ⟨⟨c0, c1, c2, c3, c4, c5, c6⟩, _⟩ := cells7 bT; clear bT hB)
    have heq : erringB ⟨7, sy, pr, rc, a, x, er⟩ = reasonB ⟨7, sy, pr, rc, a, x, er⟩ := erring_eq _ (fun _ => by simp_all) (by simp)
    rw [heq] at HEr
    refine (HEr.out _).mono ?_
    rintro r w1 ⟨rfl, hw1⟩
    have bT := HB.out.1.alloc (.cells #[.int .i64 7, .int .i64 sy, .int .i64 pr, .int .i64 rc, .int .i64 a, .string ⟨x.toArray⟩, .int .i64 er] 34)
    have hB := HB.out.2.alloc HB.out.2.size (.cells #[.int .i64 7, .int .i64 sy, .int .i64 pr, .int .i64 rc, .int .i64 a, .string ⟨x.toArray⟩, .int .i64 er] 34)
    rw [← hw1] at bT hB
    clear HB hw1 heq
    have HB := Lib.hid (And.intro bT hB)
    obtain ⟨⟨c0, c1, c2, c3, c4, c5, c6⟩, _⟩ := cells7 bT
    clear bT hB
    cases herr : reasonB ⟨7, sy, pr, rc, a, x, er⟩
    · have hev : R = 11 := by rw [← HR.out]; simp [evE, runE, hasF, flds, fieldE, hat, herr]
      subst hev
      go_wp2_with (go_at_call 43; refine (HH.out _ _).mono ?_; rintro r w1 ⟨rfl, hb1⟩; have bT := Blk.on HB.out.1 hb1; have hB := below_on HB.out.2 hb1 (Nat.le_refl _); clear HB hb1; have HB := Lib.hid (And.intro bT hB); obtain ⟨⟨c0, c1, c2, c3, c4, c5, c6⟩, _⟩ := cells7 bT; clear bT hB)
      go_ret
      exact ⟨rfl, HB.out.2⟩
    · skip
      by_cases zrec : rc = 0
      case neg =>
        have hzb : (rc != 0) = true := bne_iff_ne.2 zrec
        have hzc : ¬ 0 = rc := fun h => zrec h.symm
        have hev : R = 3 := by rw [← HR.out]; simp [evE, runE, hasF, flds, fieldE, put1, hat, herr, hzc, Ev.mk.injEq]
        subst hev
        go_wp2_with (go_at_call 43; refine (HH.out _ _).mono ?_; rintro r w1 ⟨rfl, hb1⟩; have bT := Blk.on HB.out.1 hb1; have hB := below_on HB.out.2 hb1 (Nat.le_refl _); clear HB hb1; have HB := Lib.hid (And.intro bT hB); obtain ⟨⟨c0, c1, c2, c3, c4, c5, c6⟩, _⟩ := cells7 bT; clear bT hB)
        go_ret
        exact ⟨rfl, HB.out.2⟩
      subst zrec
      by_cases zsym : sy = 0
      case neg =>
        have hzb : (sy != 0) = true := bne_iff_ne.2 zsym
        have hzc : ¬ 0 = sy := fun h => zsym h.symm
        have hev : R = 3 := by rw [← HR.out]; simp [evE, runE, hasF, flds, fieldE, put1, hat, herr, hzc, Ev.mk.injEq]
        subst hev
        go_wp2_with (go_at_call 43; refine (HH.out _ _).mono ?_; rintro r w1 ⟨rfl, hb1⟩; have bT := Blk.on HB.out.1 hb1; have hB := below_on HB.out.2 hb1 (Nat.le_refl _); clear HB hb1; have HB := Lib.hid (And.intro bT hB); obtain ⟨⟨c0, c1, c2, c3, c4, c5, c6⟩, _⟩ := cells7 bT; clear bT hB)
        go_ret
        exact ⟨rfl, HB.out.2⟩
      subst zsym
      by_cases zprod : pr = 0
      case neg =>
        have hzb : (pr != 0) = true := bne_iff_ne.2 zprod
        have hzc : ¬ 0 = pr := fun h => zprod h.symm
        have hev : R = 3 := by rw [← HR.out]; simp [evE, runE, hasF, flds, fieldE, put1, hat, herr, hzc, Ev.mk.injEq]
        subst hev
        go_wp2_with (go_at_call 43; refine (HH.out _ _).mono ?_; rintro r w1 ⟨rfl, hb1⟩; have bT := Blk.on HB.out.1 hb1; have hB := below_on HB.out.2 hb1 (Nat.le_refl _); clear HB hb1; have HB := Lib.hid (And.intro bT hB); obtain ⟨⟨c0, c1, c2, c3, c4, c5, c6⟩, _⟩ := cells7 bT; clear bT hB)
        go_ret
        exact ⟨rfl, HB.out.2⟩
      subst zprod
      by_cases ztext : x = []
      case neg =>
        have hzb : (x == []) = false := by simpa using ztext
        have hzc : ¬ [] = x := fun h => ztext h.symm
        have hev : R = 3 := by rw [← HR.out]; simp [evE, runE, hasF, flds, fieldE, put1, hat, herr, hzc, Ev.mk.injEq]
        subst hev
        go_wp2_with (go_at_call 43; refine (HH.out _ _).mono ?_; rintro r w1 ⟨rfl, hb1⟩; have bT := Blk.on HB.out.1 hb1; have hB := below_on HB.out.2 hb1 (Nat.le_refl _); clear HB hb1; have HB := Lib.hid (And.intro bT hB); obtain ⟨⟨c0, c1, c2, c3, c4, c5, c6⟩, _⟩ := cells7 bT; clear bT hB)
        go_ret
        exact ⟨rfl, HB.out.2⟩
      subst ztext
      have hev : R = 0 := by rw [← HR.out]; simp [evE, runE, hasF, flds, fieldE, put1, hat, herr]
      subst hev
      go_wp2_with (go_at_call 43; refine (HH.out _ _).mono ?_; rintro r w1 ⟨rfl, hb1⟩; have bT := Blk.on HB.out.1 hb1; have hB := below_on HB.out.2 hb1 (Nat.le_refl _); clear HB hb1; have HB := Lib.hid (And.intro bT hB); obtain ⟨⟨c0, c1, c2, c3, c4, c5, c6⟩, _⟩ := cells7 bT; clear bT hB)
      go_ret
      exact ⟨rfl, HB.out.2⟩
set_option maxRecDepth 100000 in
theorem rchk_any (e : Ev) (w : World) (hl : e.text.length ≤ maxLen) : Calls Try.prog 36 #[e.v] w fun r w' => r = .returned (.int .i64 (evE e)) ∧ Below w.heap.size w w' := by
  obtain ⟨k, sy, pr, rc, a, x, er⟩ := e
  simp only at hl
  by_cases hk : k < 1 ∨ 7 < k
  · rw [show evE ⟨k, sy, pr, rc, a, x, er⟩ = 11 from if_pos hk]
    unfold Ev.v
    unfold Ev.cs
    simp only
    rcases (show k < 1 ∨ (¬ k < 1 ∧ 7 < k) by omega) with h | ⟨h, h2⟩
    all_goals
      go_enter Try.func36, Try.ntmps36
      go_wp2_with fail
      go_ret
      exact ⟨rfl, (Below.refl w.heap.size w).alloc (Nat.le_refl _) _⟩
  · rcases kinds k (by omega) with rfl | rfl | rfl | rfl | rfl | rfl | rfl
    · exact rchk1 sy pr rc a x er w hl
    · exact rchk2 sy pr rc a x er w hl
    · exact rchk3 sy pr rc a x er w hl
    · exact rchk4 sy pr rc a x er w hl
    · exact rchk5 sy pr rc a x er w hl
    · exact rchk6 sy pr rc a x er w hl
    · exact rchk7 sy pr rc a x er w hl
end Go.Proofs.Ytogldckkmjbohaa
