/- The lexeme that comes next behind a cursor: the walk. No condition. -/
import Derived.Test.YtklfaccjbdkfhaaX7
namespace Go.Proofs.Ytklfaccjbdkfhaa
open Go.RowKit
set_option maxRecDepth 100000 in
set_option maxHeartbeats 6400000 in
theorem next_any (s : List UInt8) (k g : Nat) (w : World) (hb : Cu w g s k) (hk : k ≤ s.length) (hl : s.length ≤ 30000) :
    Calls Try.prog 33 #[.pointer (some ⟨g, 0, none⟩)] w (NxPost s k g w) := by
  have hlz : (s.length : Int) ≤ 30000 := by omega
  have hNle : k + skipF false (s.drop k) ≤ s.length := by have := skipF_le false (s.drop k); rw [List.length_drop] at this; omega
  have hgl := hb.lt
  have HG := Lib.hid (fun W (h : Cu W g s k) => gap_any s k g W h hk hl)
  have HC := Lib.hid (fun m W (h : Cu W g s m) hm => class_any s m g W h hm)
  have HW := Lib.hid (fun m W (h : Cu W g s m) hm => pass_new s m g W #[.int .i64 1, .int .i64 2, .int .i64 3] [1, 2, 3] rfl h hm hl (by decide))
  have HD := Lib.hid (fun m W (h : Cu W g s m) hm => pass_new s m g W #[.int .i64 2] [2] rfl h hm hl (by decide))
  have HFin := Lib.hid (@next_fin s k)
  have HBad := Lib.hid (@next_bad s k (k + skipF false (s.drop k)) rfl)
  have HLex := Lib.hid (fun kd n => @next_lex s k (k + skipF false (s.drop k)) kd n rfl)
  have bX := (Blk.new w 31 #[.int .i64 0, .string ⟨#[]⟩, .int .i64 0]).alloc (.cells #[.int .i64 0, .int .i64 0] 26)
  have bF := Blk.newAt (w.alloc (.cells #[.int .i64 0, .string ⟨#[]⟩, .int .i64 0] 31)) 26 #[.int .i64 0, .int .i64 0] (g := w.heap.size + 1) (by simp)
  have hb2 : Cu ((w.alloc (.cells #[.int .i64 0, .string ⟨#[]⟩, .int .i64 0] 31)).alloc (.cells #[.int .i64 0, .int .i64 0] 26)) g s k := Blk.alloc (Blk.alloc hb _) _
  have hG2 : Gb w ((w.alloc (.cells #[.int .i64 0, .string ⟨#[]⟩, .int .i64 0] 31)).alloc (.cells #[.int .i64 0, .int .i64 0] 26)) g := Gb.of_below (((Below.refl w.heap.size w).alloc (Nat.le_refl _) _).alloc (by simp) _)
  have hng1 : g ≠ w.heap.size := by omega
  have hng2 : g ≠ w.heap.size + 1 := by omega
  go_enter Try.func33, Try.ntmps33
  go_wp2_with fail
  refine (HG.out _ hb2).mono ?_
  rintro e w3 ⟨⟨v, rfl⟩, hC3, hG3⟩
  have bX3 := bX.grown hG3 (by simp; omega)
  have bF3 := bF.grown hG3 (by simp; omega)
  have hG3' := hG2.trans hG3
  obtain ⟨c0, c1, f0, f1⟩ := hC3.cells
  clear bX bF hb2 hG2 hG3 HG hb
  generalize k + skipF false (s.drop k) = N at *
  by_cases hN : N = s.length
  · have hx := HFin.out hN
    have HX := Lib.hid hx
    subst hN
    obtain ⟨q1, q2, q3, q4⟩ := put5g bX3 bF3 hC3 (by omega) hng1 hng2 (Nat.le_refl _) (by omega) hG3' (.int .i64 0) (.string ⟨#[]⟩) (.int .i64 0) (.int .i64 5) (.int .i64 s.length)
    obtain ⟨x0, x1, x2, y0, y1, y2⟩ := cells3 bX3
    obtain ⟨p0, p1, r0, r1⟩ := cells2 bF3
    clear bX3 bF3 hC3 hG3' HC HW HD HBad HLex hx HFin
    go_wp2_with fail
    refine bodyPost_ret (results_cc rfl _ _ _ _ _ _ _ _ _ _ rfl q1 Try.underlying31 rfl (by kernel_rfl) rfl q2 Try.underlying26 rfl (by kernel_rfl)) rfl ?_
    unfold NxPost
    rw [HX.out]
    exact ⟨rfl, ⟨_, Nat.le_refl _, q3, fun j h => by cases h⟩, q4⟩
  · have hlt : N < s.length := by omega
    have hd1 : ((N : Int) == (s.length : Int)) = false := by rw [beq_eq_false_iff_ne]; omega
    have HCN := Lib.hid (HC.out N w3 hC3 hNle)
    have hBad := Lib.hid (HBad.out hN)
    have hLex := Lib.hid (fun kd n => HLex.out kd n hN)
    clear HFin HBad HLex
    by_cases k1 : hd (s.drop N) = 1
    · rw [k1] at HCN
      have hlex : lexB (s.drop N) = (1, passN [1, 2, 3] (s.drop N)) := by unfold lexB; rw [if_pos k1]
      have hx := hLex.out _ _ hlex (by decide)
      have HX := Lib.hid hx
      have hHW := Lib.hid (fun W (h : Cu W g s N) => HW.out N W h hNle)
      have hpl := passN_le [1, 2, 3] (s.drop N)
      rw [List.length_drop] at hpl
      generalize passN [1, 2, 3] (s.drop N) = n at *
      have htx : (s.take (N + n)).drop N = (s.drop N).take n := by rw [List.drop_take]; congr 1; omega
      have HTX := Lib.hid htx
      clear hx hlex htx hBad hLex k1 HD HW
      go_wp2_with fail
      refine HCN.out.mono ?_
      rintro e w4 ⟨rfl, hb4⟩
      have hC4 := hC3.on hb4
      have bX4 := Blk.on bX3 hb4
      have bF4 := Blk.on bF3 hb4
      have hG4 := hG3'.trans (Gb.of_below hb4)
      clear hC3 bX3 bF3 hG3' hb4 c0 c1 f0 f1 HCN
      go_wp2_with fail
      refine (hHW.out w4 hC4).mono ?_
      rintro e w5 ⟨⟨v5, rfl⟩, hC5, hG5⟩
      have bX5 := bX4.grown hG5 (by simp; omega)
      have bF5 := bF4.grown hG5 (by simp; omega)
      have hG5' := hG4.trans hG5
      clear hC4 bX4 bF4 hG4 hG5
      obtain ⟨c0, c1, f0, f1⟩ := hC5.cells
      obtain ⟨x0, x1, x2, y0, y1, y2⟩ := cells3 bX5
      obtain ⟨p0, p1, r0, r1⟩ := cells2 bF5
      have hcut : N ≤ N + n ∧ N + n ≤ s.length := by omega
      go_wp2_with fail
      obtain ⟨q1, q2, q3, q4⟩ := put5g bX5 bF5 hC5 (by omega) hng1 hng2 (Nat.le_refl _) (by omega) hG5' (.int .i64 1) (.string ⟨((s.take (N + n)).drop N).toArray⟩) (.int .i64 N) (.int .i64 0) (.int .i64 0)
      go_region
      go_wp2_with fail
      refine bodyPost_ret (results_cc rfl _ _ _ _ _ _ _ _ _ _ rfl q1.drew Try.underlying31 rfl (by kernel_rfl) rfl q2.drew Try.underlying26 rfl (by kernel_rfl)) rfl ?_
      unfold NxPost
      rw [HX.out]
      exact ⟨by simp only [nxX, nxF]; rw [← HTX.out]; rfl, ⟨_, by omega, q3, fun j h => by simp only [nxAt, Option.some.injEq] at h; omega⟩, q4.trans (Gb.drew _ g)⟩
    · by_cases k2 : hd (s.drop N) = 2
      · rw [k2] at HCN
        have hHD := Lib.hid (fun W (h : Cu W g s N) => HD.out N W h hNle)
        have hpl := passN_le [2] (s.drop N)
        rw [List.length_drop] at hpl
        have hlx : lexB (s.drop N) = if (s[N].toNat = 48 ∧ 1 < passN [2] (s.drop N)) ∨ hd (s.drop (N + passN [2] (s.drop N))) = 1 ∨ hd (s.drop (N + passN [2] (s.drop N))) = 3 then (0, 0) else (2, passN [2] (s.drop N)) := by
          have e : (s.drop N).head? = some 48 ↔ s[N].toNat = 48 := by
            rw [drop_get hlt, List.head?_cons, Option.some.injEq]
            exact ⟨fun h => by rw [h]; rfl, fun h => UInt8.toNat_inj.1 h⟩
          unfold lexB
          rw [if_neg k1, if_pos k2, List.drop_drop]
          simp only [e]
        generalize passN [2] (s.drop N) = n at *
        have HCn := Lib.hid (fun W (h : Cu W g s (N + n)) => HC.out (N + n) W h (by omega))
        have htx : (s.take (N + n)).drop N = (s.drop N).take n := by rw [List.drop_take]; congr 1; omega
        have HTX := Lib.hid htx
        have hcut : N ≤ N + n ∧ N + n ≤ s.length := by omega
        have Hlx := Lib.hid hlx
        clear htx k1 k2 HD HW HC hlx
        go_wp2_with fail
        refine HCN.out.mono ?_
        rintro e w4 ⟨rfl, hb4⟩
        have hC4 := hC3.on hb4
        have bX4 := Blk.on bX3 hb4
        have bF4 := Blk.on bF3 hb4
        have hG4 := hG3'.trans (Gb.of_below hb4)
        clear hC3 bX3 bF3 hG3' hb4 c0 c1 f0 f1 HCN
        go_wp2_with fail
        refine (hHD.out w4 hC4).mono ?_
        rintro e w5 ⟨⟨v5, rfl⟩, hC5, hG5⟩
        have bX5 := bX4.grown hG5 (by simp; omega)
        have bF5 := bF4.grown hG5 (by simp; omega)
        have hG5' := hG4.trans hG5
        have HC5 := Lib.hid (HCn.out w5 hC5)
        clear hC4 bX4 bF4 hG4 hG5 hHD HCn
        obtain ⟨c0, c1, f0, f1⟩ := hC5.cells
        obtain ⟨x0, x1, x2, y0, y1, y2⟩ := cells3 bX5
        obtain ⟨p0, p1, r0, r1⟩ := cells2 bF5
        by_cases hz : s[N].toNat = 48 ∧ 1 < n
        · have HX := Lib.hid (hBad.out (by rw [Hlx.out, if_pos (.inl hz)]))
          have z48 : ((s[N].toNat : Int) == 48) = true := by rw [beq_iff_eq]; omega
          have hn1 := hz.2
          have hn2 : (N : Int) + 1 < N + n := by omega
          clear hz hBad hLex Hlx
          obtain ⟨q1, q2, q3, q4⟩ := put5g bX5 bF5 hC5 (by omega) hng1 hng2 (Nat.le_refl _) (by omega) hG5' (.int .i64 0) (.string ⟨#[]⟩) (.int .i64 0) (.int .i64 3) (.int .i64 N)
          go_wp2_with fail
          refine bodyPost_ret (results_cc rfl _ _ _ _ _ _ _ _ _ _ rfl q1 Try.underlying31 rfl (by kernel_rfl) rfl q2 Try.underlying26 rfl (by kernel_rfl)) rfl ?_
          unfold NxPost
          rw [HX.out]
          exact ⟨rfl, ⟨_, by omega, q3, fun j h => by cases h⟩, q4⟩
        · have hzc : ((s[N].toNat : Int) == 48) = false ∨ ((s[N].toNat : Int) == 48) = true ∧ ¬ 1 < n ∧ ¬ (N : Int) + 1 < N + n := by
            by_cases h : s[N].toNat = 48
            · exact .inr ⟨by rw [beq_iff_eq]; omega, fun h1 => hz ⟨h, h1⟩, fun h1 => hz ⟨h, by omega⟩⟩
            · exact .inl (by rw [beq_eq_false_iff_ne]; omega)
          by_cases h1 : hd (s.drop (N + n)) = 1
          · have HX := Lib.hid (hBad.out (by rw [Hlx.out, if_pos (.inr (.inl h1))]))
            rw [h1] at HC5
            clear hBad hLex Hlx hz h1
            rcases hzc with z48 | ⟨z48, hn1, hn2⟩
            all_goals
              go_wp2_with fail
              refine HC5.out.mono ?_
              rintro e w6 ⟨rfl, hb6⟩
              have hC6 := hC5.on hb6
              have bX6 := Blk.on bX5 hb6
              have bF6 := Blk.on bF5 hb6
              have hG6 := hG5'.trans (Gb.of_below hb6)
              clear hC5 bX5 bF5 hG5' hb6 c0 c1 f0 f1 x0 x1 x2 y0 y1 y2 p0 p1 r0 r1 HC5
              obtain ⟨c0, c1, f0, f1⟩ := hC6.cells
              obtain ⟨x0, x1, x2, y0, y1, y2⟩ := cells3 bX6
              obtain ⟨p0, p1, r0, r1⟩ := cells2 bF6
              obtain ⟨q1, q2, q3, q4⟩ := put5g bX6 bF6 hC6 (by omega) hng1 hng2 (Nat.le_refl _) (by omega) hG6 (.int .i64 0) (.string ⟨#[]⟩) (.int .i64 0) (.int .i64 3) (.int .i64 N)
              go_wp2_with fail
              refine bodyPost_ret (results_cc rfl _ _ _ _ _ _ _ _ _ _ rfl q1 Try.underlying31 rfl (by kernel_rfl) rfl q2 Try.underlying26 rfl (by kernel_rfl)) rfl ?_
              unfold NxPost
              rw [HX.out]
              exact ⟨rfl, ⟨_, by omega, q3, fun j h => by cases h⟩, q4⟩
          · by_cases h3 : hd (s.drop (N + n)) = 3
            · have HX := Lib.hid (hBad.out (by rw [Hlx.out, if_pos (.inr (.inr h3))]))
              have HCn := Lib.hid (fun W (h : Cu W g s (N + n)) => class_any s (N + n) g W h (by omega))
              rw [h3] at HC5 HCn
              clear hBad hLex Hlx hz h1 h3
              rcases hzc with z48 | ⟨z48, hn1, hn2⟩
              all_goals
                go_wp2_with fail
                refine HC5.out.mono ?_
                rintro e w6 ⟨rfl, hb6⟩
                have hC6 := hC5.on hb6
                have bX6 := Blk.on bX5 hb6
                have bF6 := Blk.on bF5 hb6
                have hG6 := hG5'.trans (Gb.of_below hb6)
                clear hC5 bX5 bF5 hG5' hb6 c0 c1 f0 f1 x0 x1 x2 y0 y1 y2 p0 p1 r0 r1 HC5
                go_wp2_with fail
                refine (HCn.out _ hC6).mono ?_
                rintro e w7 ⟨rfl, hb7⟩
                have hC7 := hC6.on hb7
                have bX7 := Blk.on bX6 hb7
                have bF7 := Blk.on bF6 hb7
                have hG7 := hG6.trans (Gb.of_below hb7)
                clear hC6 bX6 bF6 hG6 hb7 HCn
                obtain ⟨c0, c1, f0, f1⟩ := hC7.cells
                obtain ⟨x0, x1, x2, y0, y1, y2⟩ := cells3 bX7
                obtain ⟨p0, p1, r0, r1⟩ := cells2 bF7
                obtain ⟨q1, q2, q3, q4⟩ := put5g bX7 bF7 hC7 (by omega) hng1 hng2 (Nat.le_refl _) (by omega) hG7 (.int .i64 0) (.string ⟨#[]⟩) (.int .i64 0) (.int .i64 3) (.int .i64 N)
                go_wp2_with fail
                refine bodyPost_ret (results_cc rfl _ _ _ _ _ _ _ _ _ _ rfl q1 Try.underlying31 rfl (by kernel_rfl) rfl q2 Try.underlying26 rfl (by kernel_rfl)) rfl ?_
                unfold NxPost
                rw [HX.out]
                exact ⟨rfl, ⟨_, by omega, q3, fun j h => by cases h⟩, q4⟩
            · have HX := Lib.hid (hLex.out 2 n (by rw [Hlx.out, if_neg (fun h => h.elim hz (fun h => h.elim h1 h3))]) (by decide))
              have HCn := Lib.hid (fun W (h : Cu W g s (N + n)) => class_any s (N + n) g W h (by omega))
              have e1 : ((hd (s.drop (N + n)) : Int) == 1) = false := by rw [beq_eq_false_iff_ne]; omega
              have e3 : ((hd (s.drop (N + n)) : Int) == 3) = false := by rw [beq_eq_false_iff_ne]; omega
              clear hBad hLex Hlx hz h1 h3
              generalize hd (s.drop (N + n)) = cN at *
              rcases hzc with z48 | ⟨z48, hn1, hn2⟩
              all_goals
                go_wp2_with fail
                refine HC5.out.mono ?_
                rintro e w6 ⟨rfl, hb6⟩
                have hC6 := hC5.on hb6
                have bX6 := Blk.on bX5 hb6
                have bF6 := Blk.on bF5 hb6
                have hG6 := hG5'.trans (Gb.of_below hb6)
                clear hC5 bX5 bF5 hG5' hb6 c0 c1 f0 f1 x0 x1 x2 y0 y1 y2 p0 p1 r0 r1 HC5
                go_wp2_with fail
                refine (HCn.out _ hC6).mono ?_
                rintro e w7 ⟨rfl, hb7⟩
                have hC7 := hC6.on hb7
                have bX7 := Blk.on bX6 hb7
                have bF7 := Blk.on bF6 hb7
                have hG7 := hG6.trans (Gb.of_below hb7)
                clear hC6 bX6 bF6 hG6 hb7 HCn
                obtain ⟨c0, c1, f0, f1⟩ := hC7.cells
                obtain ⟨x0, x1, x2, y0, y1, y2⟩ := cells3 bX7
                obtain ⟨p0, p1, r0, r1⟩ := cells2 bF7
                go_wp2_with fail
                obtain ⟨q1, q2, q3, q4⟩ := put5g bX7 bF7 hC7 (by omega) hng1 hng2 (Nat.le_refl _) (by omega) hG7 (.int .i64 2) (.string ⟨((s.take (N + n)).drop N).toArray⟩) (.int .i64 N) (.int .i64 0) (.int .i64 0)
                go_region
                go_wp2_with fail
                refine bodyPost_ret (results_cc rfl _ _ _ _ _ _ _ _ _ _ rfl q1.drew Try.underlying31 rfl (by kernel_rfl) rfl q2.drew Try.underlying26 rfl (by kernel_rfl)) rfl ?_
                unfold NxPost
                rw [HX.out]
                exact ⟨by simp only [nxX, nxF]; rw [← HTX.out]; rfl, ⟨_, by omega, q3, fun j h => by simp only [nxAt, Option.some.injEq] at h; omega⟩, q4.trans (Gb.drew _ g)⟩
      · by_cases k4 : hd (s.drop N) = 4
        · have HX := Lib.hid (hLex.out 3 1 (by unfold lexB; rw [if_neg k1, if_neg k2, if_pos k4]) (by decide))
          rw [k4] at HCN
          have htx : (s.take (N + 1)).drop N = (s.drop N).take 1 := by rw [List.drop_take]; congr 1; omega
          have HTX := Lib.hid htx
          have hcut : N ≤ N + 1 ∧ N + 1 ≤ s.length := by omega
          clear htx hBad hLex k1 k2 k4 HD HW HC
          go_wp2_with fail
          refine HCN.out.mono ?_
          rintro e w4 ⟨rfl, hb4⟩
          have hC4 := hC3.on hb4
          have bX4 := Blk.on bX3 hb4
          have bF4 := Blk.on bF3 hb4
          have hG4 := hG3'.trans (Gb.of_below hb4)
          clear hC3 bX3 bF3 hG3' hb4 c0 c1 f0 f1 HCN
          have hC5 : Cu (w4.setCell ⟨g, 1, none⟩ (.int .i64 ((N + 1 : Nat) : Int))) g s (N + 1) := Blk.set hC4 1 _
          have bX5 := bX4.far (p := ⟨g, 1, none⟩) (by simp only; omega) (.int .i64 ((N + 1 : Nat) : Int))
          have bF5 := bF4.far (p := ⟨g, 1, none⟩) (by simp only; omega) (.int .i64 ((N + 1 : Nat) : Int))
          have hG5' := hG4.trans (Gb.set w4 g 1 (.int .i64 ((N + 1 : Nat) : Int)))
          obtain ⟨c0, c1, f0, f1⟩ := hC4.cells
          have eN : ((N + 1 : Nat) : Int) = (N : Int) + 1 := by omega
          go_wp2_with fail
          rw [← eN]
          clear c0 c1 f0 f1 hC4 bX4 bF4 hG4
          generalize w4.setCell ⟨g, 1, none⟩ (.int .i64 ((N + 1 : Nat) : Int)) = w5 at *
          obtain ⟨c0, c1, f0, f1⟩ := hC5.cells
          obtain ⟨x0, x1, x2, y0, y1, y2⟩ := cells3 bX5
          obtain ⟨p0, p1, r0, r1⟩ := cells2 bF5
          obtain ⟨q1, q2, q3, q4⟩ := put5g bX5 bF5 hC5 (by omega) hng1 hng2 (Nat.le_refl _) (by omega) hG5' (.int .i64 3) (.string ⟨((s.take (N + 1)).drop N).toArray⟩) (.int .i64 N) (.int .i64 0) (.int .i64 0)
          go_region
          go_wp2_with fail
          refine bodyPost_ret (results_cc rfl _ _ _ _ _ _ _ _ _ _ rfl q1.drew Try.underlying31 rfl (by kernel_rfl) rfl q2.drew Try.underlying26 rfl (by kernel_rfl)) rfl ?_
          unfold NxPost
          rw [HX.out]
          exact ⟨by simp only [nxX, nxF]; rw [← HTX.out]; rfl, ⟨_, by omega, q3, fun j h => by simp only [nxAt, Option.some.injEq] at h; omega⟩, q4.trans (Gb.drew _ g)⟩
        · have HX := Lib.hid (hBad.out (by unfold lexB; rw [if_neg k1, if_neg k2, if_neg k4]))
          have e1 : ((hd (s.drop N) : Int) == 1) = false := by rw [beq_eq_false_iff_ne]; omega
          have e2 : ((hd (s.drop N) : Int) == 2) = false := by rw [beq_eq_false_iff_ne]; omega
          have e4 : ((hd (s.drop N) : Int) == 4) = false := by rw [beq_eq_false_iff_ne]; omega
          clear hBad hLex k1 k2 k4 HD HW HC
          generalize hd (s.drop N) = cN at *
          go_wp2_with fail
          refine HCN.out.mono ?_
          rintro e w4 ⟨rfl, hb4⟩
          have hC4 := hC3.on hb4
          have bX4 := Blk.on bX3 hb4
          have bF4 := Blk.on bF3 hb4
          have hG4 := hG3'.trans (Gb.of_below hb4)
          clear hC3 bX3 bF3 hG3' hb4 c0 c1 f0 f1 HCN
          obtain ⟨c0, c1, f0, f1⟩ := hC4.cells
          obtain ⟨x0, x1, x2, y0, y1, y2⟩ := cells3 bX4
          obtain ⟨p0, p1, r0, r1⟩ := cells2 bF4
          obtain ⟨q1, q2, q3, q4⟩ := put5g bX4 bF4 hC4 (by omega) hng1 hng2 (Nat.le_refl _) (by omega) hG4 (.int .i64 0) (.string ⟨#[]⟩) (.int .i64 0) (.int .i64 3) (.int .i64 N)
          go_wp2_with fail
          refine bodyPost_ret (results_cc rfl _ _ _ _ _ _ _ _ _ _ rfl q1 Try.underlying31 rfl (by kernel_rfl) rfl q2 Try.underlying26 rfl (by kernel_rfl)) rfl ?_
          unfold NxPost
          rw [HX.out]
          exact ⟨rfl, ⟨_, by omega, q3, fun j h => by cases h⟩, q4⟩
end Go.Proofs.Ytklfaccjbdkfhaa
