/- The reference's Lexemes. No condition. -/
import Derived.Test.YtklfaccjbdkfhaaX17
namespace Go.Proofs.Ytklfaccjbdkfhaa
open Go.RowKit
theorem results_tc {P : Program} {fn : Func} {u q : Tmp} {tq : TypeId} (h : fn.results = #[.tmp u, .cell q tq]) (tmps : Array Value) (w : World) (g2 : Nat) (t2 : TypeId) (ds : Array Value) (d2 : TypeDesc)
    (hp2 : tmps.getD q undef = .pointer (some ⟨g2, 0, none⟩)) (hg2 : Blk w g2 t2 ds)
    (hu2 : P.underlying tq = some d2) (hd2 : (match d2 with | .struct _ | .array _ _ => true | _ => false) = true) (hi2 : (P.info? tq).map (·.size) = some ds.size) :
    (results fn tmps).run P w = .ok (.tuple #[tmps.getD u undef, .agg ds]) w := by
  obtain ⟨fr2, hg2, _⟩ := hg2
  have hq' : tmps[q]?.getD undef = .pointer (some ⟨g2, 0, none⟩) := by simpa using hp2
  simp [results, h, hq', asAddr, run_loadVar_row w g2 t2 tq ds fr2 d2 hg2 hu2 hd2 hi2]
theorem lexS_ok {s : List UInt8} {L : List Lx} (h : lexT s 0 = (L, 0, 0)) : lexS s = (L, 0, 0) := by unfold lexS; rw [h]; rfl
theorem lexS_bad {s : List UInt8} {L : List Lx} {a : Nat} (h : lexT s 0 = (L, 3, a)) : lexS s = ([], 3, a) := by unfold lexS; rw [h]; rfl
theorem rNext_k (s : List UInt8) (m : Nat) (w : World) (hl : s.length ≤ 30000) (hm : m ≤ s.length) : Calls Try.prog 14 #[.string ⟨s.toArray⟩, .int .i64 m] w fun e w' => e = .returned (.tuple #[nxX (nextL s m) s, .int .i64 (nxU (nextL s m)), nxF (nextL s m)]) ∧ Below w.heap.size w w' := by
  have H := rNext_at s m w hl
  have e : nextV s m = .tuple #[nxX (nextL s m) s, .int .i64 (nxU (nextL s m)), nxF (nextL s m)] := if_neg (by omega)
  rw [e] at H
  exact H
theorem put2 {w W : World} {g : Nat} {T : TypeId} {a b : Value} (h : Blk W g T #[a, b]) (hB : Below w.heap.size w W) (hg : w.heap.size ≤ g) (x y : Value) :
    Blk ((W.setCell ⟨g, 0, none⟩ x).setCell ⟨g, 1, none⟩ y) g T #[x, y] ∧ Below w.heap.size w ((W.setCell ⟨g, 0, none⟩ x).setCell ⟨g, 1, none⟩ y) :=
  ⟨(h.set 0 x).set 1 y, (hB.setCell (p := ⟨g, 0, none⟩) hg x).setCell (p := ⟨g, 1, none⟩) hg y⟩
set_option maxRecDepth 100000 in
set_option maxHeartbeats 3200000 in
theorem rLexemes_any (s : List UInt8) (w : World) (hl : s.length ≤ 2000) :
    Calls Try.prog 12 #[.string ⟨s.toArray⟩] w fun e w' => (∃ A cap, e = .returned (.tuple #[.slice A (lexS s).1.length cap, .agg #[.int .i64 (lexS s).2.1, .int .i64 (lexS s).2.2]]) ∧ Sl w' w'.heap.size 3 A (lexS s).1.length cap (lxC (lexS s).1)) ∧ Below w.heap.size w w' := by
  have hlz : (s.length : Int) ≤ 2000 := by omega
  have HX := Lib.hid (fun m W hm => rNext_k s m W (by omega) hm)
  have b1 := Blk.new w 26 #[.int .i64 0, .int .i64 0]
  have hB0 := (Below.refl w.heap.size w).alloc (Nat.le_refl _) (.cells #[.int .i64 0, .int .i64 0] 26)
  have hs0 : (w.alloc (.cells #[.int .i64 0, .int .i64 0] 26)).heap.size = w.heap.size + 1 := by simp
  have HH := Lib.hid (And.intro b1 (And.intro hB0 hs0))
  obtain ⟨i0, hi0, hz0, hz1, hz2⟩ := info_parts infoL
  clear b1 hB0 hs0 hl
  go_enter Try.func12, Try.ntmps12
  go_wp2_with fail
  obtain ⟨b1, hB0, hs0⟩ := HH.out
  clear HH
  generalize w.alloc (.cells #[.int .i64 0, .int .i64 0] 26) = W1 at *
  go_loopw [4, 5] (fun v4 v5 W => ∃ (m : Nat) (L : List Lx) (A : Option Addr) (cap : Nat), m ≤ s.length ∧ v5 = .int .i64 m ∧ v4 = .slice A L.length cap ∧ lexT s 0 = (L ++ (lexT (s.drop m) m).1, (lexT (s.drop m) m).2) ∧ L.length ≤ m ∧
    Blk W w.heap.size 26 #[.int .i64 0, .int .i64 0] ∧ Own W (w.heap.size + 1) 31 3 A L.length cap (lxC L) ∧ Below w.heap.size w W ∧ w.heap.size + 1 ≤ W.heap.size) (fun _ v5 _ => s.length - (intOf v5).toNat)
  case atStart => exact ⟨0, [], none, 0, Nat.zero_le _, rfl, rfl, by simp, Nat.le_refl _, b1, Own.nil _ _ _ _, hB0, by omega⟩
  case round =>
    obtain ⟨m, L, A, cap, hm, rfl, rfl, hT, hLm, hb, hown, hB, hsz⟩ := hrel
    clear b1 hB0 hs0
    have hXm := Lib.hid (fun W => HX.out m W hm)
    rcases nextL_cases s m hm with ⟨h, hT2⟩ | ⟨a, h, ha, hT2⟩ | ⟨k, n, f, h, hmf, hn, hfn, hk1, hk3, hlb, hfe, hT2⟩
    · rw [h] at hXm
      rw [hT2, List.append_nil] at hT
      have HS := Lib.hid (lexS_ok hT)
      simp only [nxX, nxF, nxU] at hXm
      clear h hT hT2 HX
      go_wp2_with fail
      refine (hXm.out _).mono ?_
      rintro e w2 ⟨rfl, hb2⟩
      have c3 := ((Blk.on hb hb2).alloc (.cells #[.int .i64 0, .string ⟨#[]⟩, .int .i64 0] 31)).alloc (.cells #[.int .i64 5, .int .i64 s.length] 26)
      have ho := ((hown.below hb2 (Nat.le_refl _)).alloc (.cells #[.int .i64 0, .string ⟨#[]⟩, .int .i64 0] 31)).alloc (.cells #[.int .i64 5, .int .i64 s.length] 26)
      have hB2 := below_on hB hb2 (Nat.le_refl _)
      have hB3 := (hB2.alloc hB2.size (.cells #[.int .i64 0, .string ⟨#[]⟩, .int .i64 0] 31)).alloc (by simp; have := hB2.size; omega) (.cells #[.int .i64 5, .int .i64 s.length] 26)
      obtain ⟨p0, p1, r0, r1⟩ := cells2 c3
      have ho2 := ((ho.far (p := ⟨w.heap.size, 0, none⟩) (by simp) (.int .i64 0)).far (p := ⟨w.heap.size, 1, none⟩) (by simp) (.int .i64 0)).sl
      have HQ := Lib.hid (And.intro (put2 c3 hB3 (Nat.le_refl _) (.int .i64 0) (.int .i64 0)) ho2)
      clear c3 ho hB2 hB3 hb2 hb hown hB hsz ho2
      go_wp2_with fail
      refine bodyPost_ret (results_tc rfl _ _ _ _ _ _ rfl HQ.out.1.1 Try.underlying26 rfl (by kernel_rfl)) rfl ?_
      rw [HS.out]
      exact ⟨⟨A, cap, rfl, HQ.out.2⟩, HQ.out.1.2⟩
    · rw [h] at hXm
      rw [hT2, List.append_nil] at hT
      have HS := Lib.hid (lexS_bad hT)
      simp only [nxX, nxF, nxU] at hXm
      clear h hT hT2 HX
      go_wp2_with fail
      refine (hXm.out _).mono ?_
      rintro e w2 ⟨rfl, hb2⟩
      have hs2 := hb2.size
      have c3 := ((Blk.on hb hb2).alloc (.cells #[.int .i64 0, .string ⟨#[]⟩, .int .i64 0] 31)).alloc (.cells #[.int .i64 3, .int .i64 a] 26)
      have c8 := Blk.newAt (w2.alloc (.cells #[.int .i64 0, .string ⟨#[]⟩, .int .i64 0] 31)) 26 #[.int .i64 3, .int .i64 a] (g := w2.heap.size + 1) (by simp)
      have hB2 := below_on hB hb2 (Nat.le_refl _)
      have hB3 := (hB2.alloc hB2.size (.cells #[.int .i64 0, .string ⟨#[]⟩, .int .i64 0] 31)).alloc (by simp; have := hB2.size; omega) (.cells #[.int .i64 3, .int .i64 a] 26)
      obtain ⟨p0, p1, r0, r1⟩ := cells2 c3
      obtain ⟨s0, s1, t0, t1⟩ := cells2 c8
      have hn8 : w2.heap.size + 1 ≠ w.heap.size := by omega
      have HQ := Lib.hid (put2 c3 hB3 (Nat.le_refl _) (.int .i64 3) (.int .i64 a))
      clear c3 c8 hB2 hB3 hb2 hb hown hB hsz hs2
      go_wp2_with fail
      generalize (w2.alloc (.cells #[.int .i64 0, .string ⟨#[]⟩, .int .i64 0] 31)).alloc (.cells #[.int .i64 3, .int .i64 a] 26) = W3 at *
      go_region
      go_wp2_with fail
      refine bodyPost_ret (results_tc rfl _ _ _ _ _ _ rfl HQ.out.1.drew Try.underlying26 rfl (by kernel_rfl)) rfl ?_
      rw [HS.out]
      exact ⟨⟨none, 0, rfl, Sl.nil _ _ _⟩, HQ.out.2.drew⟩
    · rw [h] at hXm
      rw [hT2] at hT
      have HT := Lib.hid (show lexT s 0 = ((L ++ [⟨k, (s.drop f).take n, f⟩]) ++ (lexT (s.drop (f + n)) (f + n)).1, (lexT (s.drop (f + n)) (f + n)).2) by rw [hT]; simp)
      simp only [nxX, nxF, nxU] at hXm
      clear h hT hT2 hlb hfe
      generalize (s.drop f).take n = tx at *
      have hm1 : L.length + 1 ≤ maxLen := by simp only [maxLen]; omega
      have hm2 : (L.length + 1) * 32 ≤ 140737488355328 := by omega
      go_wp2_with fail
      refine (hXm.out _).mono ?_
      rintro e w2 ⟨rfl, hb2⟩
      have hs2 := hb2.size
      have c3 := ((Blk.on hb hb2).alloc (.cells #[.int .i64 k, .string ⟨tx.toArray⟩, .int .i64 f] 31)).alloc (.cells #[.int .i64 0, .int .i64 0] 26)
      have ho := ((hown.below hb2 (Nat.le_refl _)).alloc (.cells #[.int .i64 k, .string ⟨tx.toArray⟩, .int .i64 f] 31)).alloc (.cells #[.int .i64 0, .int .i64 0] 26)
      have hB2 := below_on hB hb2 (Nat.le_refl _)
      have hB3 := (hB2.alloc hB2.size (.cells #[.int .i64 k, .string ⟨tx.toArray⟩, .int .i64 f] 31)).alloc (by simp; have := hB2.size; omega) (.cells #[.int .i64 0, .int .i64 0] 26)
      have hz3 : ((w2.alloc (.cells #[.int .i64 k, .string ⟨tx.toArray⟩, .int .i64 f] 31)).alloc (.cells #[.int .i64 0, .int .i64 0] 26)).heap.size = w2.heap.size + 2 := by simp
      have c6 := (Blk.new w2 31 #[.int .i64 k, .string ⟨tx.toArray⟩, .int .i64 f]).alloc (.cells #[.int .i64 0, .int .i64 0] 26)
      have c8 := Blk.newAt (w2.alloc (.cells #[.int .i64 k, .string ⟨tx.toArray⟩, .int .i64 f] 31)) 26 #[.int .i64 0, .int .i64 0] (g := w2.heap.size + 1) (by simp)
      obtain ⟨x0, x1, x2, y0, y1, y2⟩ := cells3 c6
      obtain ⟨s0, s1, t0, t1⟩ := cells2 c8
      clear c6 c8 hB2 hb2 hb hown hB hXm HX
      have hs3 : w.heap.size + 1 ≤ ((w2.alloc (.cells #[.int .i64 k, .string ⟨tx.toArray⟩, .int .i64 f] 31)).alloc (.cells #[.int .i64 0, .int .i64 0] 26)).heap.size := by omega
      go_wp2_with (at_builtin; refine wpList_append_new rfl _ _ _ rfl (w.heap.size + 1) 31 i0 _ 3 32 Try.underlying23 hi0 hz0 hz1 hz2 rfl (by decide) rfl ho #[.int .i64 k, .string ⟨tx.toArray⟩, .int .i64 f] (by first | rfl | (rw [hz3]; rfl) | (simp only [World.size_alloc]; rfl) | (trace_state; fail)) rfl (by simp [Value.oneCell']) hm1 hm2 hs3 ?_; intro A5 cap5 W5 hown5 hg5 hat5)
      go_roundw
      case rel => exact ⟨f + n, L ++ [⟨k, tx, f⟩], A5, cap5, hfn, rfl, by rw [List.length_append]; rfl, HT.out, by rw [List.length_append]; simp only [List.length_cons, List.length_nil]; omega, c3.grown hg5 (ho.ne (by omega)), by rw [List.length_append, lxC_append]; exact hown5, grown_below hB3 (ho.base (by omega)) hg5 (by omega), by have := hg5.size; omega⟩
      case measure => simp [intOf]; omega
end Go.Proofs.Ytklfaccjbdkfhaa
