/- TextLexemes. No condition. -/
import Derived.Test.YtklfaccjbdkfhaaX18
namespace Go.Proofs.Ytklfaccjbdkfhaa
open Go.RowKit
set_option maxRecDepth 100000 in
set_option maxHeartbeats 3200000 in
theorem Lexemes_long (s : List UInt8) (w : World) (hl : 2000 < s.length) :
    Calls Try.prog 10 #[.string ⟨s.toArray⟩] w fun e w' => e = .returned (.tuple #[.slice none 0 0, .agg #[.int .i64 4, .int .i64 2000]]) ∧ Below w.heap.size w w' := by
  have hd : (2000 : Int) < s.length := by omega
  go_enter Try.func10, Try.ntmps10
  go_wp2_with fail
  refine bodyPost_ret (results_1c rfl _ _ _ _ _ _ _ _ _ _ rfl ((Blk.new w 23 #[.slice none 0 0]).alloc (.cells #[.int .i64 4, .int .i64 2000] 26)) Try.underlying23 rfl rfl (Blk.newAt (w.alloc (.cells #[.slice none 0 0] 23)) 26 #[.int .i64 4, .int .i64 2000] (g := w.heap.size + 1) (by simp)) Try.underlying26 rfl (by kernel_rfl)) rfl ?_
  exact ⟨rfl, ((Below.refl w.heap.size w).alloc (Nat.le_refl _) _).alloc (by simp) _⟩
set_option maxRecDepth 100000 in
set_option maxHeartbeats 3200000 in
theorem rLexemes_long (s : List UInt8) (w : World) (hl : 2000 < s.length) :
    Calls Try.prog 12 #[.string ⟨s.toArray⟩] w fun e w' => e = .returned (.tuple #[.slice none 0 0, .agg #[.int .i64 4, .int .i64 2000]]) ∧ Below w.heap.size w w' := by
  have hd : (2000 : Int) < s.length := by omega
  go_enter Try.func12, Try.ntmps12
  go_wp2_with fail
  refine bodyPost_ret (results_tc rfl _ _ _ _ _ _ rfl (Blk.new w 26 #[.int .i64 4, .int .i64 2000]) Try.underlying26 rfl (by kernel_rfl)) rfl ?_
  exact ⟨rfl, (Below.refl w.heap.size w).alloc (Nat.le_refl _) _⟩
def lexA (s : List UInt8) : List Lx × Nat × Nat := if s.length ≤ 2000 then lexS s else ([], 4, 2000)
theorem Lexemes_all (s : List UInt8) (w : World) :
    Calls Try.prog 10 #[.string ⟨s.toArray⟩] w fun e w' => (∃ A cap, e = .returned (.tuple #[.slice A (lexA s).1.length cap, .agg #[.int .i64 (lexA s).2.1, .int .i64 (lexA s).2.2]]) ∧ Sl w' w'.heap.size 3 A (lexA s).1.length cap (lxC (lexA s).1)) ∧ Below w.heap.size w w' := by
  unfold lexA
  by_cases h : s.length ≤ 2000
  · rw [if_pos h]; exact Lexemes_any s w h
  · rw [if_neg h]
    refine (Lexemes_long s w (by omega)).mono ?_
    rintro e w' ⟨rfl, hb⟩
    exact ⟨⟨none, 0, rfl, Sl.nil _ _ _⟩, hb⟩
theorem rLexemes_all (s : List UInt8) (w : World) :
    Calls Try.prog 12 #[.string ⟨s.toArray⟩] w fun e w' => (∃ A cap, e = .returned (.tuple #[.slice A (lexA s).1.length cap, .agg #[.int .i64 (lexA s).2.1, .int .i64 (lexA s).2.2]]) ∧ Sl w' w'.heap.size 3 A (lexA s).1.length cap (lxC (lexA s).1)) ∧ Below w.heap.size w w' := by
  unfold lexA
  by_cases h : s.length ≤ 2000
  · rw [if_pos h]; exact rLexemes_any s w h
  · rw [if_neg h]
    refine (rLexemes_long s w (by omega)).mono ?_
    rintro e w' ⟨rfl, hb⟩
    exact ⟨⟨none, 0, rfl, Sl.nil _ _ _⟩, hb⟩
theorem lexA_len (s : List UInt8) : (lexA s).1.length ≤ 2000 := by
  unfold lexA
  by_cases h : s.length ≤ 2000
  · rw [if_pos h]
    rcases lexS_form s with ⟨l, hl⟩ | ⟨e, a, _, _, hl⟩
    · have := lexS_len s l hl
      rw [hl]; simp only; omega
    · rw [hl]; simp
  · rw [if_neg h]; simp
theorem nextV_form (s : List UInt8) (a : Int) : ∃ (k : Int) (tx : List UInt8) (p u er fa : Int), nextV s a = .tuple #[.agg #[.int .i64 k, .string ⟨tx.toArray⟩, .int .i64 p], .int .i64 u, .agg #[.int .i64 er, .int .i64 fa]] := by
  unfold nextV
  by_cases ha : a < 0 ∨ (s.length : Int) < a
  · rw [if_pos ha]; exact ⟨0, [], 0, 0, 2, 0, rfl⟩
  · rw [if_neg ha]
    obtain ⟨k, tx, p, er, fa, h1, h2⟩ := nx_form (nextL s a.toNat) s
    exact ⟨k, tx, p, _, er, fa, by rw [h1, h2]⟩
set_option maxRecDepth 100000 in
set_option maxHeartbeats 6400000 in
theorem TextLexemes_any (s : List UInt8) (a : Int) (w : World) (hs : s.length ≤ maxLen) :
    Calls Try.prog 4 #[.string ⟨s.toArray⟩, .int .i64 a] w fun e w' => e = .returned (.bool true) ∧ Below w.heap.size w w' := by
  have HA := Lib.hid awake04_any
  unfold maxLen at hs
  have hcs : (500 < s.length ∧ s.length ≤ 1990 ∨ 2010 < s.length) ∨ (s.length ≤ 500 ∨ (1990 < s.length ∧ s.length ≤ 2010)) := by omega
  rcases hcs with hout | hin
  · rcases hout with ⟨h1, h2⟩ | h1
    · have h1' : (500 : Int) < s.length := by omega
      have h2' : (s.length : Int) ≤ 1990 := by omega
      clear h1 h2
      go_enter Try.func4, Try.ntmps4
      go_wp2_with fail
      refine (HA.out _).mono ?_
      rintro e w1 ⟨rfl, hb⟩
      go_wp2_with fail
      go_ret
      exact ⟨rfl, hb⟩
    · have h1' : (500 : Int) < s.length := by omega
      have h2' : (1990 : Int) < s.length := by omega
      have h3' : (2010 : Int) < s.length := by omega
      clear h1
      go_enter Try.func4, Try.ntmps4
      go_wp2_with fail
      refine (HA.out _).mono ?_
      rintro e w1 ⟨rfl, hb⟩
      go_wp2_with fail
      go_ret
      exact ⟨rfl, hb⟩
  · have hl3 : s.length ≤ 30000 := by omega
    have HN1 := Lib.hid (fun W => Next_at s a W hl3)
    have HN2 := Lib.hid (fun W => rNext_at s a W hl3)
    have HL1 := Lib.hid (fun W => Lexemes_all s W)
    have HL2 := Lib.hid (fun W => rLexemes_all s W)
    have hln := lexA_len s
    have HS := Lib.hid (fun A1 A2 c1 c2 D W h1 h2 => sameList_any A1 A2 c1 c2 D (lexA s).1 (lexA s).1 W h1 h2 (by omega) (by omega))
    rw [decide_eq_true rfl] at HS
    obtain ⟨k, tx, p, u, er, fa, hv⟩ := nextV_form s a
    rw [hv] at HN1 HN2
    obtain ⟨l, e1, a1, hla⟩ : ∃ l e a, lexA s = (l, e, a) := ⟨_, _, _, rfl⟩
    rw [hla] at HL1 HL2 HS
    simp only at HL1 HL2 HS
    have hd : (s.length : Int) ≤ 500 ∨ ((500 : Int) < s.length ∧ (1990 : Int) < s.length ∧ (s.length : Int) ≤ 2010) := by omega
    clear hv hla hin hl3 hln hs
    rcases hd with hd1 | ⟨hd1, hd2, hd3⟩
    all_goals
      go_enter Try.func4, Try.ntmps4
      go_wp2_with fail
      refine (HL1.out _).mono ?_
      rintro e w1 ⟨⟨A1, cap1, rfl, hS1⟩, hb1⟩
      have F1 := Blk.new w1 26 #[.int .i64 e1, .int .i64 a1]
      have G1 := (Below.refl w1.heap.size w1).alloc (Nat.le_refl _) (.cells #[.int .i64 e1, .int .i64 a1] 26)
      have hB1 := below_on hb1 G1 (Nat.le_refl _)
      have T1 := hS1.below G1 (Nat.le_refl _)
      have z1 := G1.size
      have hw1 := hb1.size
      have hw1' := F1.lt
      clear hS1 hb1 HL1 G1
      go_wp2_with fail
      generalize w1.alloc (.cells #[.int .i64 e1, .int .i64 a1] 26) = v1 at *
      refine (HL2.out _).mono ?_
      rintro e w2 ⟨⟨A2, cap2, rfl, hS2⟩, hb2⟩
      have G2 := (Below.refl w2.heap.size w2).alloc (Nat.le_refl _) (.cells #[.int .i64 e1, .int .i64 a1] 26)
      have F1b := Blk.on (Blk.on F1 hb2) G2
      have F2 := Blk.new w2 26 #[.int .i64 e1, .int .i64 a1]
      have hB2 := below_on (below_on hB1 hb2 (Nat.le_refl _)) G2 (Nat.le_refl _)
      have z12 : w1.heap.size ≤ w2.heap.size := Nat.le_trans z1 hb2.size
      have T1b := ((T1.below hb2 z1).below G2 z12).more (show w1.heap.size ≤ (w2.alloc (.cells #[.int .i64 e1, .int .i64 a1] 26)).heap.size from Nat.le_trans z12 G2.size)
      have T2 := (hS2.below G2 (Nat.le_refl _)).more G2.size
      have z2 := G2.size
      have hne : w1.heap.size ≠ w2.heap.size := by have := hb2.size; omega
      have hlt2 : w2.heap.size < (w2.alloc (.cells #[.int .i64 e1, .int .i64 a1] 26)).heap.size := F2.lt
      clear hS2 hb2 HL2 G2 F1 hB1 T1
      go_wp2_with fail
      generalize w2.alloc (.cells #[.int .i64 e1, .int .i64 a1] 26) = v2 at *
      refine (HS.out A1 A2 cap1 cap2 _ v2 T1b T2).mono ?_
      rintro e w3 ⟨rfl, hb3⟩
      have D1 := Blk.on F1b hb3
      have D2 := Blk.on F2 hb3
      have hB3 := below_on hB2 hb3 (Nat.le_refl _)
      have z3 := hb3.size
      clear hb3 F1b F2 hB2 T1b T2 HS
      obtain ⟨p0, p1, r0, r1⟩ := cells2 D1
      obtain ⟨p2, p3, r2, r3⟩ := cells2 D2
      go_wp2_with fail
      clear p0 p1 p2 p3 r0 r1 r2 r3
      refine (HN1.out _).mono ?_
      rintro e w5 ⟨rfl, hb5⟩
      have D1 := (Blk.on D1 hb5).alloc (.cells #[.int .i64 k, .string ⟨tx.toArray⟩, .int .i64 p] 31)
      have D2 := (Blk.on D2 hb5).alloc (.cells #[.int .i64 k, .string ⟨tx.toArray⟩, .int .i64 p] 31)
      have X1 := Blk.new w5 31 #[.int .i64 k, .string ⟨tx.toArray⟩, .int .i64 p]
      have z5 := hb5.size
      have hB5 := below_on hB3 hb5 (Nat.le_refl _)
      have hB5 := hB5.alloc hB5.size (.cells #[.int .i64 k, .string ⟨tx.toArray⟩, .int .i64 p] 31)
      have hX1 : w1.heap.size ≠ w5.heap.size := by omega
      have hX2 : w2.heap.size ≠ w5.heap.size := by omega
      have hY1 : w5.heap.size ≠ w1.heap.size := by omega
      obtain ⟨p0, p1, r0, r1⟩ := cells2 D1
      have E1 := (D1.set 0 (.int .i64 er)).set 1 (.int .i64 fa)
      have E2 := (D2.far (p := ⟨w1.heap.size, 0, none⟩) (Ne.symm hne) (.int .i64 er)).far (p := ⟨w1.heap.size, 1, none⟩) (Ne.symm hne) (.int .i64 fa)
      have Y1 := (X1.far (p := ⟨w1.heap.size, 0, none⟩) hY1 (.int .i64 er)).far (p := ⟨w1.heap.size, 1, none⟩) hY1 (.int .i64 fa)
      have hB6 := (hB5.setCell (p := ⟨w1.heap.size, 0, none⟩) hw1 (.int .i64 er)).setCell (p := ⟨w1.heap.size, 1, none⟩) hw1 (.int .i64 fa)
      have s5 := X1.lt
      have s6 : w5.heap.size < ((((w5.alloc (.cells #[.int .i64 k, .string ⟨tx.toArray⟩, .int .i64 p] 31)).setCell ⟨w1.heap.size, 0, none⟩ (.int .i64 er)).setCell ⟨w1.heap.size, 1, none⟩ (.int .i64 fa))).heap.size := Y1.lt
      have HQ := Lib.hid (And.intro E1 (And.intro E2 (And.intro Y1 hB6)))
      clear D1 D2 X1 hB3 hB5 hb5 E1 E2 Y1 hB6 HN1 hX1 hY1
      go_wp2_with fail
      obtain ⟨E1, E2, Y1, hB6⟩ := HQ.out
      clear HQ p0 p1 r0 r1
      generalize (((w5.alloc (.cells #[.int .i64 k, .string ⟨tx.toArray⟩, .int .i64 p] 31)).setCell ⟨w1.heap.size, 0, none⟩ (.int .i64 er)).setCell ⟨w1.heap.size, 1, none⟩ (.int .i64 fa)) = v6 at *
      refine (HN2.out _).mono ?_
      rintro e w6 ⟨rfl, hb6⟩
      have D1 := (Blk.on E1 hb6).alloc (.cells #[.int .i64 k, .string ⟨tx.toArray⟩, .int .i64 p] 31)
      have D2 := (Blk.on E2 hb6).alloc (.cells #[.int .i64 k, .string ⟨tx.toArray⟩, .int .i64 p] 31)
      have D3 := (Blk.on Y1 hb6).alloc (.cells #[.int .i64 k, .string ⟨tx.toArray⟩, .int .i64 p] 31)
      have X1 := Blk.new w6 31 #[.int .i64 k, .string ⟨tx.toArray⟩, .int .i64 p]
      have z6 := hb6.size
      have hB7 := below_on hB6 hb6 (Nat.le_refl _)
      have hB7 := hB7.alloc hB7.size (.cells #[.int .i64 k, .string ⟨tx.toArray⟩, .int .i64 p] 31)
      have hX3 : w2.heap.size ≠ w6.heap.size := by omega
      have hX4 : w5.heap.size ≠ w6.heap.size := by omega
      have hY3 : w6.heap.size ≠ w2.heap.size := by omega
      have hw2 : w.heap.size ≤ w2.heap.size := by omega
      obtain ⟨p0, p1, r0, r1⟩ := cells2 D2
      have E1 := (D1.far (p := ⟨w2.heap.size, 0, none⟩) hne (.int .i64 er)).far (p := ⟨w2.heap.size, 1, none⟩) hne (.int .i64 fa)
      have E2 := (D2.set 0 (.int .i64 er)).set 1 (.int .i64 fa)
      have Y1 := (D3.far (p := ⟨w2.heap.size, 0, none⟩) (Ne.symm hX2) (.int .i64 er)).far (p := ⟨w2.heap.size, 1, none⟩) (Ne.symm hX2) (.int .i64 fa)
      have Y2 := (X1.far (p := ⟨w2.heap.size, 0, none⟩) hY3 (.int .i64 er)).far (p := ⟨w2.heap.size, 1, none⟩) hY3 (.int .i64 fa)
      have hB8 := (hB7.setCell (p := ⟨w2.heap.size, 0, none⟩) hw2 (.int .i64 er)).setCell (p := ⟨w2.heap.size, 1, none⟩) hw2 (.int .i64 fa)
      have HQ := Lib.hid hB8
      obtain ⟨m0, m1, _, _⟩ := cells2 E1
      obtain ⟨m2, m3, _, _⟩ := cells2 E2
      obtain ⟨x0, x1, x2, _, _, _⟩ := cells3 Y1
      obtain ⟨x3, x4, x5, _, _, _⟩ := cells3 Y2
      clear D1 D2 D3 X1 hB6 hB7 hb6 E1 E2 Y1 Y2 hB8 HN2 hY3
      go_wp2_with fail
      refine (HA.out _).mono ?_
      rintro e w8 ⟨rfl, hb8⟩
      have hB9 := below_on HQ.out hb8 (Nat.le_refl _)
      clear m0 m1 m2 m3 x0 x1 x2 x3 x4 x5 p0 p1 r0 r1 HQ
      go_wp2_with fail
      go_ret
      exact ⟨rfl, hB9⟩
end Go.Proofs.Ytklfaccjbdkfhaa
