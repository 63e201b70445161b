/- TextPlaces: what it asks of next and of each lexeme. No condition. -/
import Derived.Test.YtklfaccjbdkfhaaX20
namespace Go.Proofs.Ytklfaccjbdkfhaa
open Go.RowKit
theorem lexT_zero (N : Nat) : ∀ (t : List UInt8) (o : Nat), t.length ≤ N → (lexT t o).2.1 = 0 → (lexT t o).2 = (0, 0) := by
  induction N with
  | zero => intro t o h _; rw [lexT_end o (by have := skipF_le false t; omega)]
  | succ N ih =>
    intro t o hN h0
    have hle := skipF_le false t
    by_cases he : skipF false t = t.length
    · rw [lexT_end _ he]
    · have hlt : skipF false t < t.length := by omega
      by_cases hb : (lexB (t.drop (skipF false t))).1 = 0
      · rw [lexT_bad _ hlt hb] at h0; cases h0
      · obtain ⟨k, n, hkn⟩ : ∃ k n, lexB (t.drop (skipF false t)) = (k, n) := ⟨_, _, rfl⟩
        have hk : k ≠ 0 := by rw [hkn] at hb; exact hb
        have hn := lexB_pos _ hb
        rw [hkn, List.length_drop] at hn
        simp only at hn
        rw [lexT_cons _ hlt hkn hk] at h0 ⊢
        exact ih (t.drop (skipF false t + n)) (o + skipF false t + n) (by rw [List.length_drop]; omega) h0
theorem lexS_T {s : List UInt8} {l : List Lx} (h : lexS s = (l, 0, 0)) : lexT s 0 = (l, 0, 0) := by
  unfold lexS at h
  split at h
  · rename_i h1
    injection h with h2 h3
    exact Prod.ext h2 (lexT_zero _ s 0 (Nat.le_refl _) h1)
  · rename_i h1
    injection h with h2 h3
    rw [h3] at h1
    exact absurd rfl h1
theorem places_step {s : List UInt8} {m : Nat} {x : Lx} {l : List Lx} (hm : m ≤ s.length) (h : lexT (s.drop m) m = (x :: l, 0, 0)) :
    ∃ k n f : Nat, x = ⟨k, (s.drop f).take n, f⟩ ∧ m ≤ f ∧ f + n ≤ s.length ∧ ((s.drop f).take n).length = n ∧ checkL x = 0 ∧ blankQ false ((s.drop m).take (f - m)) = true ∧ nextL s m = .lex k n f ∧ lexT (s.drop (f + n)) (f + n) = (l, 0, 0) := by
  rcases nextL_cases s m hm with ⟨_, h2⟩ | ⟨a, _, _, h2⟩ | ⟨k, n, f, hx, hmf, hn, hfn, hk1, hk3, hlb, hfe, h2⟩
  · rw [h2] at h; cases h
  · rw [h2] at h; cases h
  · rw [h2] at h
    injection h with h3 h4
    injection h3 with h5 h6
    have hlen : ((s.drop f).take n).length = n := by rw [List.length_take, List.length_drop]; omega
    refine ⟨k, n, f, h5.symm, hmf, hfn, hlen, ?_, ?_, hx, ?_⟩
    · rw [← h5]
      unfold checkL
      have hsf := lexB_self hlb (by omega)
      simp only
      rw [if_neg (by omega), hsf, hlen]
      simp
      done
    · have := blank_skip false (s.drop m)
      rw [show f - m = skipF false (s.drop m) by omega]
      exact this
    · rw [← h6, ← h4]
theorem places_end {s : List UInt8} {m : Nat} (hm : m ≤ s.length) (h : lexT (s.drop m) m = ([], 0, 0)) : blankQ false (s.drop m) = true := by
  rcases nextL_cases s m hm with ⟨h1, h2⟩ | ⟨a, _, _, h2⟩ | ⟨k, n, f, hx, hmf, hn, hfn, hk1, hk3, hlb, hfe, h2⟩
  · have h3 : m + skipF false (s.drop m) = s.length := by
      unfold nextL at h1
      split at h1
      · assumption
      · split at h1
        · cases h1
        · cases h1
    have := blank_skip false (s.drop m)
    rw [show skipF false (s.drop m) = (s.drop m).length by rw [List.length_drop]; omega, List.take_length] at this
    exact this
  · rw [h2] at h; injection h with h3 h4; injection h4 with h5; omega
  · rw [h2] at h; cases h
set_option maxRecDepth 100000 in
set_option maxHeartbeats 3200000 in
theorem next04_any (s : List UInt8) (a : Int) (x : Lx) (n : Int) (w : World) (hl : s.length ≤ 30000) (h : nextV s a = .tuple #[x.v, .int .i64 n, .agg #[.int .i64 0, .int .i64 0]]) :
    Calls Try.prog 17 #[.string ⟨s.toArray⟩, .int .i64 a, x.v, .int .i64 n] w fun e w' => e = .returned (.bool true) ∧ Below w.heap.size w w' := by
  have HN := Lib.hid (fun W => Next_at s a W hl)
  rw [h] at HN
  clear h
  obtain ⟨kd, tx, p⟩ := x
  show Calls Try.prog 17 #[.string ⟨s.toArray⟩, .int .i64 a, .agg #[.int .i64 kd, .string ⟨tx.toArray⟩, .int .i64 p], .int .i64 n] w fun e w' => e = .returned (.bool true) ∧ Below w.heap.size w w'
  unfold Lx.v at HN
  simp only at HN
  have bX := Blk.new w 31 #[.int .i64 kd, .string ⟨tx.toArray⟩, .int .i64 p]
  have hB := (Below.refl w.heap.size w).alloc (Nat.le_refl _) (.cells #[.int .i64 kd, .string ⟨tx.toArray⟩, .int .i64 p] 31)
  have hz := bX.lt
  have HG := Lib.hid (And.intro bX (And.intro hB hz))
  clear bX hB hz
  go_enter Try.func17, Try.ntmps17
  go_wp2_with fail
  obtain ⟨bX, hB, hz⟩ := HG.out
  clear HG
  generalize w.alloc (.cells #[.int .i64 kd, .string ⟨tx.toArray⟩, .int .i64 p] 31) = v1 at *
  refine (HN.out _).mono ?_
  rintro e w3 ⟨rfl, hb3⟩
  have hs3 := hb3.size
  have hB3 := below_on hB hb3 (Nat.le_refl _)
  have c1 := ((Blk.on bX hb3).alloc (.cells #[.int .i64 kd, .string ⟨tx.toArray⟩, .int .i64 p] 31)).alloc (.cells #[.int .i64 0, .int .i64 0] 26)
  have c2 := (Blk.new w3 31 #[.int .i64 kd, .string ⟨tx.toArray⟩, .int .i64 p]).alloc (.cells #[.int .i64 0, .int .i64 0] 26)
  have c3 := Blk.newAt (w3.alloc (.cells #[.int .i64 kd, .string ⟨tx.toArray⟩, .int .i64 p] 31)) 26 #[.int .i64 0, .int .i64 0] (g := w3.heap.size + 1) (by simp)
  have hB5 := Lib.hid ((hB3.alloc hB3.size (.cells #[.int .i64 kd, .string ⟨tx.toArray⟩, .int .i64 p] 31)).alloc (by have := hB3.size; simp; omega) (.cells #[.int .i64 0, .int .i64 0] 26))
  obtain ⟨x0, x1, x2, _, _, _⟩ := cells3 c1
  obtain ⟨x3, x4, x5, _, _, _⟩ := cells3 c2
  obtain ⟨p0, p1, _, _⟩ := cells2 c3
  clear c1 c2 c3 bX hB hB3 hb3 HN
  go_wp2_with fail
  go_ret
  exact ⟨rfl, hB5.out⟩
set_option maxRecDepth 100000 in
set_option maxHeartbeats 6400000 in
theorem TextPlaces_any (s : List UInt8) (w : World) (hs : s.length ≤ maxLen) :
    Calls Try.prog 5 #[.string ⟨s.toArray⟩] w fun e w' => e = .returned (.bool true) ∧ Below w.heap.size w w' := by
  have HA := Lib.hid awake04_any
  unfold maxLen at hs
  by_cases h1 : 400 < s.length
  · have h1' : (400 : Int) < s.length := by omega
    go_enter Try.func5, Try.ntmps5
    go_wp2_with fail
    refine (HA.out _).mono ?_
    rintro e w1 ⟨rfl, hb⟩
    go_wp2_with fail
    go_ret
    exact ⟨rfl, hb⟩
  · have h1' : (s.length : Int) ≤ 400 := by omega
    have HL := Lib.hid Lexemes_at
    rcases lexS_form s with ⟨l, ha⟩ | ⟨ea, aa, hea, haa, ha⟩
    · have K1 := Lib.hid (fun W => HL.out _ _ _ _ W (by omega) ha)
      have hT : lexT (s.drop 0) 0 = (l.drop 0, 0, 0) := by rw [List.drop_zero, List.drop_zero]; exact lexS_T ha
      have hT' := Lib.hid hT
      have hln := lexS_len s l ha
      clear HL ha h1 hT
      go_enter Try.func5, Try.ntmps5
      go_wp2_with fail
      refine (K1.out _).mono ?_
      rintro e w1 ⟨⟨A1, cap1, rfl, hS1⟩, hb1⟩
      have F1 := Blk.new w1 26 #[.int .i64 0, .int .i64 0]
      have G1 := (Below.refl w1.heap.size w1).alloc (Nat.le_refl _) (.cells #[.int .i64 0, .int .i64 0] 26)
      have hB1 := below_on hb1 G1 (Nat.le_refl _)
      have T1 := hS1.below G1 (Nat.le_refl _)
      have z1 := G1.size
      obtain ⟨p0, p1, r0, r1⟩ := cells2 F1
      clear hS1 hb1 K1 G1
      go_wp2_with fail
      clear p0 p1 r0 r1
      generalize w1.alloc (.cells #[.int .i64 0, .int .i64 0] 26) = v1 at *
      go_loopw [5, 6] (fun a i W => ∃ m k : Nat, m ≤ s.length ∧ k ≤ l.length ∧ a = .int .i64 m ∧ i = .int .i64 k ∧ lexT (s.drop m) m = (l.drop k, 0, 0) ∧ Below v1.heap.size v1 W) (fun _ i _ => l.length - (intOf i).toNat)
      case atStart => exact ⟨0, 0, Nat.zero_le _, Nat.zero_le _, rfl, rfl, hT'.out, Below.refl _ _⟩
      case round =>
        obtain ⟨m, k, hm, hk, rfl, rfl, hTm, hBr⟩ := hrel
        have hsr := hBr.size
        clear hT'
        by_cases hlt : k < l.length
        · obtain ⟨b, o, rfl, hb, c0, c1, c2⟩ := sl_lx (T1.below hBr z1) hlt
          rw [List.drop_eq_getElem_cons hlt] at hTm
          obtain ⟨kd, n, f, hx, hmf, hfn, hlen, hck, hbq, hnx, hTn⟩ := places_step hm hTm
          rw [hx] at c0 c1 c2 hck
          simp only at c0 c1 c2
          have HCk := Lib.hid (fun W => Check_any ⟨kd, (s.drop f).take n, f⟩ W (by rw [hlen]; omega))
          rw [hck] at HCk
          have HBl := Lib.hid (fun W => blank04_any ((s.drop m).take (f - m)) W (by rw [List.length_take, List.length_drop]; omega))
          rw [hbq] at HBl
          have HNx := Lib.hid (fun W => next04_any s m ⟨kd, (s.drop f).take n, f⟩ ((f + n : Nat) : Int) W (by omega) (by
            unfold nextV
            rw [if_neg (by omega), Int.toNat_natCast, hnx]
            rfl))
          have HTn := Lib.hid hTn
          have hsl : (s.take ((f : Int) + (n : Int)).toNat).drop f = (s.drop f).take n := by
            rw [show ((f : Int) + (n : Int)).toNat = f + n by omega, List.drop_take, Nat.add_sub_cancel_left]
          rw [show (s.drop m).take (f - m) = (s.take f).drop m by rw [List.drop_take]] at HBl
          generalize (s.drop f).take n = tx at *
          have HB := Lib.hid (And.intro hBr hB1)
          have hbw : b < wr.heap.size := by omega
          clear hTm hx hck hbq hnx hTn hBr hB1
          have hwr := HB.out.1.size
          have X1 := Blk.new wr 31 #[.int .i64 kd, .string ⟨tx.toArray⟩, .int .i64 f]
          have hB2 := Lib.hid (And.intro (HB.out.1.alloc hwr (.cells #[.int .i64 kd, .string ⟨tx.toArray⟩, .int .i64 f] 31)) HB.out.2)
          have hlt2 := X1.lt
          obtain ⟨x0, x1, x2, _, _, _⟩ := cells3 X1
          clear X1
          go_wp2_with fail
          generalize wr.alloc (.cells #[.int .i64 kd, .string ⟨tx.toArray⟩, .int .i64 f] 31) = wv at *
          have hf0 : (0 : Int) ≤ f := by omega
          have hm0 : (0 : Int) ≤ m := by omega
          have hd1 : decide ((f : Int) < (m : Int)) = false := decide_eq_false (by omega)
          have hd1n : decide (f < m) = false := decide_eq_false (by omega)
          have hd2n : decide (s.length < f + n) = false := decide_eq_false (by omega)
          have hmfz : (m : Int) ≤ f := by omega
          have hfl : (f : Int) ≤ s.length := by omega
          have hwp : IntKind.i64.wrap ((f : Int) + (n : Int)) = (f : Int) + (n : Int) := Go.IntWalk.i64_in _ (by omega)
          have hd2 : decide ((s.length : Int) < (f : Int) + (n : Int)) = false := decide_eq_false (by omega)
          have hfe : (f : Int) ≤ (f : Int) + (n : Int) := by omega
          have hel : (f : Int) + (n : Int) ≤ s.length := by omega
          rw [show ((f + n : Nat) : Int) = (f : Int) + (n : Int) by omega] at HNx
          have KC := Lib.hid (fun W (hW : Below wv.heap.size wv W) => (HCk.out W).mono fun e W' ⟨he, hb⟩ => And.intro he (hW.trans (hb.mono hW.size)))
          have KB := Lib.hid (fun W (hW : Below wv.heap.size wv W) => (HBl.out W).mono fun e W' ⟨he, hb⟩ => And.intro he (show Below wv.heap.size wv W' by rw [← hb]; exact hW))
          have KN := Lib.hid (fun W (hW : Below wv.heap.size wv W) => (HNx.out W).mono fun e W' ⟨he, hb⟩ => And.intro he (hW.trans (hb.mono hW.size)))
          unfold Lx.v at KC KN
          simp only at KC KN
          have hb0 := (Below.refl wv.heap.size wv).drew
          clear HCk HBl HNx c0 c1 c2 hwr HB
          go_region_held3 (fun W => Below wv.heap.size wv W ∧ W.cell? ⟨wr.heap.size, 0, none⟩ = some (.int .i64 kd) ∧ W.cell? ⟨wr.heap.size, 1, none⟩ = some (.string ⟨tx.toArray⟩) ∧ W.cell? ⟨wr.heap.size, 2, none⟩ = some (.int .i64 f))
            (exact ⟨by assumption, ((by assumption : Below wv.heap.size wv _).cell (p := ⟨wr.heap.size, 0, none⟩) hlt2).trans x0, ((by assumption : Below wv.heap.size wv _).cell (p := ⟨wr.heap.size, 1, none⟩) hlt2).trans x1, ((by assumption : Below wv.heap.size wv _).cell (p := ⟨wr.heap.size, 2, none⟩) hlt2).trans x2⟩)
            (first
              | (go_at_call 15; refine (KC.out _ ?_).mono ?_; (exact (by assumption : _ ∧ _).1); rintro e w3 ⟨rfl, hb3⟩)
              | (go_at_call 16; refine (KB.out _ ?_).mono ?_; (exact (by assumption : _ ∧ _).1); rintro e w3 ⟨rfl, hb3⟩)
              | (go_at_call 17; refine (KN.out _ ?_).mono ?_; (exact (by assumption : _ ∧ _).1); rintro e w3 ⟨rfl, hb3⟩))
          go_wp2_with fail
          go_roundw
          case rel => exact ⟨f + n, k + 1, by omega, by omega, by go_num, by go_num, HTn.out, below_on hB2.out.1 (by assumption) (Nat.le_refl _)⟩
          case measure => simp [intOf]; omega
        · obtain rfl : k = l.length := by omega
          rw [List.drop_length] at hTm
          have hbq := places_end hm hTm
          have HBl := Lib.hid (fun W => blank04_any (s.drop m) W (by rw [List.length_drop]; omega))
          rw [hbq] at HBl
          have hB2 := Lib.hid (below_on hB1 hBr (Nat.le_refl _))
          have hm0 : (m : Int) ≤ s.length := by omega
          clear hTm hbq hBr hB1
          go_wp2_with fail
          refine (HBl.out _).mono ?_
          rintro e w3 ⟨rfl, rfl⟩
          go_wp2_with fail
          refine (HA.out _).mono ?_
          rintro e w4 ⟨rfl, hb4⟩
          have hB3 := below_on hB2.out hb4 (Nat.le_refl _)
          go_wp2_with fail
          go_ret
          exact ⟨rfl, hB3⟩
    · have hk1 := Lib.hid (fun W => HL.out _ _ _ _ W (by omega) ha)
      have ha1 : (0 : Int) ≤ aa := by omega
      have ha2 : (aa : Int) ≤ s.length := by omega
      have hz : ((ea : Int) == 0) = false := by rw [beq_eq_false_iff_ne]; omega
      clear HL ha hea haa h1
      go_enter Try.func5, Try.ntmps5
      go_wp2_with fail
      refine (hk1.out _).mono ?_
      rintro e w1 ⟨⟨A1, cap1, rfl, hS1⟩, hb1⟩
      have F1 := Blk.new w1 26 #[.int .i64 ea, .int .i64 aa]
      have G1 := (Below.refl w1.heap.size w1).alloc (Nat.le_refl _) (.cells #[.int .i64 ea, .int .i64 aa] 26)
      have hB1 := Lib.hid (below_on hb1 G1 (Nat.le_refl _))
      obtain ⟨p0, p1, _, _⟩ := cells2 F1
      clear hS1 hb1 G1 F1 hk1
      go_wp2_with fail
      refine (HA.out _).mono ?_
      rintro e w2 ⟨rfl, hb2⟩
      have hB2 := below_on hB1.out hb2 (Nat.le_refl _)
      go_wp2_with fail
      go_ret
      exact ⟨rfl, hB2⟩
end Go.Proofs.Ytklfaccjbdkfhaa
