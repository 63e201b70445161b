/- Of of both at any numbers. No condition. -/
import Derived.Test.YtdndomjmnlpjgaaP9
namespace Go.Proofs.Ytdndomjmnlpjgaa
open Go.RowKit
theorem results_tc {P : Program} {fn : Func} {u q : Tmp} {tq : TypeId} (h : fn.results = #[.tmp u, .cell q tq]) (tmps : Array Value) (w : World) (g2 : Nat) (t2 : TypeId) (ds : Array Value) (d2 : TypeDesc)
    (hp2 : tmps.getD q undef = .pointer (some ⟨g2, 0, none⟩)) (hg2 : Blk w g2 t2 ds)
    (hu2 : P.underlying tq = some d2) (hd2 : (match d2 with | .struct _ | .array _ _ => true | _ => false) = true) (hi2 : (P.info? tq).map (·.size) = some ds.size) :
    (results fn tmps).run P w = .ok (.tuple #[tmps.getD u undef, .agg ds]) w := by
  obtain ⟨fr2, hg2, _⟩ := hg2
  have hq' : tmps[q]?.getD undef = .pointer (some ⟨g2, 0, none⟩) := by simpa using hp2
  simp [results, h, hq', asAddr, run_loadVar_row w g2 t2 tq ds fr2 d2 hg2 hu2 hd2 hi2]
theorem divA_len (m : Int) : ∀ (l rest : List Tok), (divA m l rest).1.length ≤ l.length ∧ (divA m l rest).2.length ≤ l.length + rest.length ∧ ∀ x ∈ (divA m l rest).1, x.toks.length ≤ l.length + rest.length
  | [], rest => ⟨Nat.le_refl _, by simp [divA], fun x hx => by simp [divA] at hx⟩
  | t :: l, rest => by
    by_cases h : t.sym = m
    · have e : divA m (t :: l) rest = (⟨rest, 1, t.at_⟩ :: (divA m l []).1, (divA m l []).2) := by rw [divA, if_pos h]
      obtain ⟨h1, h2, h3⟩ := divA_len m l []
      rw [e]
      simp only [List.length_cons, List.length_nil] at *
      refine ⟨by omega, by omega, fun x hx => ?_⟩
      rcases List.mem_cons.1 hx with rfl | hx
      · simp only; omega
      · have := h3 x hx; omega
    · have e : divA m (t :: l) rest = divA m l (rest ++ [t]) := by rw [divA, if_neg h]
      obtain ⟨h1, h2, h3⟩ := divA_len m l (rest ++ [t])
      rw [e]
      simp only [List.length_cons, List.length_append, List.length_nil] at *
      exact ⟨by omega, by omega, fun x hx => by have := h3 x hx; omega⟩
theorem framesA_len (l : List UInt8) (n a : Int) : (framesA l n a).1.length ≤ 20000 ∧ ((framesA l n a).2.2.err = 0 → 0 ≤ a ∧ a + l.length ≤ 1099511627776) := by
  rcases framesA_cases l n a with ⟨h1, h⟩ | ⟨h1, h2, h⟩ | ⟨m, rfl, h1, h2, ⟨h3, h⟩ | ⟨h3, h4, h⟩ | ⟨h3, h4, h5, h⟩ | ⟨h3, h4, h5, h⟩ | ⟨h3, h4, h5, h⟩⟩
  · rw [h]; exact ⟨Nat.zero_le _, fun h => by cases h⟩
  · rw [h]; exact ⟨Nat.zero_le _, fun h => by cases h⟩
  · rw [h]; exact ⟨Nat.zero_le _, fun h => by cases h⟩
  · rw [h]; exact ⟨Nat.zero_le _, fun h => by cases h⟩
  · rw [h]; exact ⟨Nat.zero_le _, fun h => by cases h⟩
  · rw [h]; exact ⟨Nat.zero_le _, fun h => by cases h⟩
  · rw [h]
    have hlen := framesT_len m h1 h2 l.length l a (by omega) (by omega)
    exact ⟨by omega, fun _ => ⟨by omega, by omega⟩⟩
def ofA (l : List UInt8) (n a : Int) : List Rc × Fault :=
  if (framesA l n a).2.2.err = 0 then ((divA n (framesA l n a).1 []).1 ++ (if (divA n (framesA l n a).1 []).2 = [] then [] else [⟨(divA n (framesA l n a).1 []).2, 2, a + l.length⟩]), ⟨0, 0⟩) else ([], (framesA l n a).2.2)
theorem ofA_len (l : List UInt8) (n a : Int) : (ofA l n a).1.length ≤ 20001 ∧ ∀ x ∈ (ofA l n a).1, x.toks.length ≤ 20000 := by
  have h0 := (framesA_len l n a).1
  obtain ⟨h1, h2, h3⟩ := divA_len n (framesA l n a).1 []
  simp only [List.length_nil, Nat.add_zero] at h2 h3
  unfold ofA
  split
  · split
    · simp only [List.append_nil]
      exact ⟨by omega, fun x hx => by have := h3 x hx; omega⟩
    · simp only [List.length_append, List.length_cons, List.length_nil]
      refine ⟨by omega, fun x hx => ?_⟩
      rcases List.mem_append.1 hx with hx | hx
      · have := h3 x hx; omega
      · simp only [List.mem_cons, List.not_mem_nil, or_false] at hx
        subst hx
        simp only; omega
  · exact ⟨Nat.zero_le _, fun x hx => by cases hx⟩
theorem rcO.snoc {W : World} {L : List RcM} {x : RcM} (h : rcO W W.heap.size L) (hx : Own W 0 41 3 x.A x.r.toks.length x.cap (tokC x.r.toks)) : rcO W W.heap.size (L ++ [x]) := fun y hy => by
  rcases List.mem_append.1 hy with hy | hy
  · exact h y hy
  · simp only [List.mem_cons, List.not_mem_nil, or_false] at hy
    subst hy
    exact ⟨hx, fun g hg => (hx.lt hg).2⟩
set_option maxRecDepth 100000 in
set_option maxHeartbeats 3200000 in
theorem Of_any (l : List UInt8) (n a : Int) (w : World) (hl : l.length ≤ 30000) :
    Calls Try.prog 21 #[.string ⟨l.toArray⟩, .int .i64 n, .int .i64 a] w fun e w' => (∃ L A cap, L.map (·.r) = (ofA l n a).1 ∧ e = .returned (.tuple #[.slice A L.length cap, (ofA l n a).2.v]) ∧
      Own w' 0 43 3 A L.length cap (rcC L) ∧ rcO w' w'.heap.size L) ∧ Below w.heap.size w w' := by
  have HF := Lib.hid (fun W => FramesA_any l n a W hl)
  obtain ⟨hT20, hok⟩ := framesA_len l n a
  have hof : ofA l n a = if (framesA l n a).2.2.err = 0 then ((divA n (framesA l n a).1 []).1 ++ (if (divA n (framesA l n a).1 []).2 = [] then [] else [⟨(divA n (framesA l n a).1 []).2, 2, a + l.length⟩]), ⟨0, 0⟩) else ([], (framesA l n a).2.2) := rfl
  generalize ofA l n a = O at *
  obtain ⟨⟨T, u, ⟨fe, fa⟩⟩, hF⟩ : ∃ q, framesA l n a = q := ⟨_, rfl⟩
  rw [hF] at HF hT20 hok hof
  simp only at HF hT20 hok hof
  unfold Fault.v at HF
  simp only at HF
  clear hF
  have HOk := Lib.hid hok
  have HOf := Lib.hid hof
  have HD := Lib.hid (divA_len n T [])
  have HSp := Lib.hid (fun A cap D W hS hD => split_any A cap D T n W hS hD hT20)
  have HCl := Lib.hid (fun g T cs A n cap e0 a0 en a w => close_any g T cs A n cap e0 a0 en a w)
  obtain ⟨i0, hi0, hz0, hz1, hz2⟩ := info_parts infoR
  have b1 := Blk.new w 27 #[.int .i64 0, .int .i64 0]
  have hB0 := (Below.refl w.heap.size w).alloc (Nat.le_refl _) (.cells #[.int .i64 0, .int .i64 0] 27)
  have hs0 : (w.alloc (.cells #[.int .i64 0, .int .i64 0] 27)).heap.size = w.heap.size + 1 := by simp
  have HH := Lib.hid (And.intro b1 (And.intro hB0 hs0))
  clear hok hof b1 hB0 hs0
  go_enter Try.func21, Try.ntmps21
  go_wp2_with fail
  obtain ⟨b1, hB0, hs0⟩ := HH.out
  clear HH
  generalize w.alloc (.cells #[.int .i64 0, .int .i64 0] 27) = W1 at *
  refine (HF.out _).mono ?_
  rintro e w2 ⟨⟨A, cap, rfl, hS⟩, hb2⟩
  have hs2 := hb2.size
  have c3 := (Blk.on b1 hb2).alloc (.cells #[.int .i64 fe, .int .i64 fa] 27)
  have c4 := Blk.new w2 27 #[.int .i64 fe, .int .i64 fa]
  have hB2 := below_on hB0 hb2 (by omega)
  have hB3 := hB2.alloc hB2.size (.cells #[.int .i64 fe, .int .i64 fa] 27)
  have hs3 : (w2.alloc (.cells #[.int .i64 fe, .int .i64 fa] 27)).heap.size = w2.heap.size + 1 := by simp
  have hS3 := hS.alloc (Nat.le_refl _) (.cells #[.int .i64 fe, .int .i64 fa] 27)
  obtain ⟨p0, p1, r0, r1⟩ := cells2 c3
  obtain ⟨s0, s1, t0, t1⟩ := cells2 c4
  clear b1 hb2 hB0 hB2 c4 HF hS
  by_cases hfe : fe = 0
  · subst hfe
    obtain ⟨ha0, ha1⟩ := HOk.out rfl
    have hof := HOf.out
    rw [if_pos rfl] at hof
    have HOf2 := Lib.hid hof
    have HSp2 := Lib.hid (HSp.out A cap w2.heap.size (w2.alloc (.cells #[.int .i64 0, .int .i64 fa] 27)) hS3 (by omega))
    have HC3 := Lib.hid (And.intro c3 hB3)
    clear hof HOf HSp hS3 c3 hB3
    go_wp2_with fail
    refine HSp2.out.mono ?_
    rintro e w4 ⟨⟨L, rest, Ao, Ar, co, cr, hdv, rfl, hO, hR, hT⟩, hb4⟩
    obtain ⟨c3, hB3⟩ := HC3.out
    have hs4 := hb4.size
    have c5 := Blk.on c3 hb4
    have hB4 := below_on hB3 hb4 (by omega)
    have hdl := HD.out
    have hof := HOf2.out
    rw [hdv] at hdl hof
    simp only [List.length_map, List.length_nil, Nat.add_zero] at hdl hof
    obtain ⟨hL1, hL2, hL3⟩ := hdl
    clear HSp2 HC3 c3 hB3 hb4 HD HOf2 p0 p1 r0 r1 s0 s1 t0 t1 hL3
    by_cases hre : rest = []
    · subst hre
      rw [if_pos rfl, List.append_nil] at hof
      have HOf3 := Lib.hid hof
      clear hof
      obtain ⟨p0, p1, r0, r1⟩ := cells2 c5
      have HQ := Lib.hid (put2 c5 hB4 (Nat.le_refl _) (.int .i64 0) (.int .i64 0))
      have hO2 := ((hO.far (p := ⟨w.heap.size, 0, none⟩) (by simp; omega) (.int .i64 0)).far (p := ⟨w.heap.size, 1, none⟩) (by simp; omega) (.int .i64 0)).base (Nat.zero_le _)
      have hR2 := (((hR.grownG (by decide) c5 (setG w4 w.heap.size 0 (.int .i64 0))).grownG (by decide) (c5.set 0 _) (setG _ w.heap.size 1 (.int .i64 0)))).more (by simp : _ ≤ (World.setCell (World.setCell w4 ⟨w.heap.size, 0, none⟩ (.int .i64 0)) ⟨w.heap.size, 1, none⟩ (.int .i64 0)).heap.size)
      have HR := Lib.hid (And.intro hO2 hR2)
      clear hO hR hT c5 hB4 hO2 hR2 hdv
      go_wp2_with fail
      refine bodyPost_ret (results_tc rfl _ _ _ _ _ _ rfl HQ.out.1 Try.underlying27 rfl (by kernel_rfl)) rfl ?_
      rw [HOf3.out]
      exact ⟨⟨L, Ao, co, rfl, rfl, HR.out.1, HR.out.2⟩, HQ.out.2⟩
    · rw [if_neg hre] at hof
      have hr0 : 0 < rest.length := List.length_pos_iff.2 hre
      have hrz : (0 : Int) < rest.length := by omega
      have HOf3 := Lib.hid hof
      have hm1 : L.length + 1 ≤ maxLen := by simp only [maxLen]; omega
      have hm2 : (L.length + 1) * 40 ≤ 140737488355328 := by omega
      have hbase : w2.heap.size + 1 ≤ w4.heap.size := by omega
      rw [hs3] at hO hT
      clear hof hdv hre
      have HG := Lib.hid (And.intro hR (And.intro hT (And.intro hB4 c5)))
      have hbN := Blk.new w4 82 #[.slice Ar rest.length cr, .int .i64 0, .int .i64 0]
      have HCl2 := Lib.hid (HCl.out w4.heap.size 82 #[.slice Ar rest.length cr, .int .i64 0, .int .i64 0] Ar rest.length cr 0 0 2 (a + l.length) _ hbN (by simp) rfl rfl rfl)
      clear hbN hR hT hB4 c5 HCl
      go_wp2_with fail
      refine HCl2.out.mono ?_
      rintro e w6 ⟨rfl, _, hG6⟩
      have hs6 := hG6.size
      have e6 : (w4.alloc (.cells #[.slice Ar rest.length cr, .int .i64 0, .int .i64 0] 82)).heap.size = w4.heap.size + 1 := by simp
      have hbw : Below w4.heap.size w4 w6 := ((Below.refl _ _).alloc (Nat.le_refl _) _).grown hG6 (by omega) (fun k hk => by injection hk with hk; omega)
      have hO6 := hO.below hbw (Nat.le_refl _)
      have hbase6 : w2.heap.size + 1 ≤ w6.heap.size := by omega
      clear hO HCl2 hG6
      go_wp2_with (at_builtin; refine wpList_append_new rfl _ _ _ rfl (w2.heap.size + 1) 43 i0 _ 3 40 Try.underlying35 hi0 hz0 hz1 hz2 rfl (by decide) rfl hO6 #[.slice Ar rest.length cr, .int .i64 2, .int .i64 (a + l.length)] rfl rfl (by simp [Value.oneCell']) hm1 hm2 hbase6 ?_; intro A5 cap5 W5 hown5 hg5 hat5; obtain ⟨hR, hT, hB4, c5⟩ := HG.out; have hT6 := hT.below hbw (Nat.le_refl _); have hT5 := hT6.grown hg5 (Own.ne_type (by decide) hT6 hO6); have hR5 := ((hR.below hbw (Nat.le_refl _)).grownR (by decide) hO6 hg5).more (Nat.le_trans hbw.size hg5.size); have hB8 := (below_on hB4 hbw (by omega)).grown hg5 (by omega) (fun k hk => by have := (hO6.lt hk).1; omega); have c8 := (Blk.on c5 hbw).grown hg5 (hO6.some_ne (by omega)); have hR8 : rcO W5 W5.heap.size (L ++ [⟨Ar, cr, ⟨rest, 2, a + l.length⟩⟩]) := rcO.snoc hR5 (hT5.base (Nat.zero_le _)); obtain ⟨p0, p1, r0, r1⟩ := cells2 c8)
      have HQ := Lib.hid (put2 c8 hB8 (Nat.le_refl _) (.int .i64 0) (.int .i64 0))
      have hO9 := ((hown5.far (p := ⟨w.heap.size, 0, none⟩) (by simp; omega) (.int .i64 0)).far (p := ⟨w.heap.size, 1, none⟩) (by simp; omega) (.int .i64 0)).base (Nat.zero_le _)
      have hR9 := (((hR8.grownG (by decide) c8 (setG W5 w.heap.size 0 (.int .i64 0))).grownG (by decide) (c8.set 0 _) (setG _ w.heap.size 1 (.int .i64 0)))).more (by simp : _ ≤ (World.setCell (World.setCell W5 ⟨w.heap.size, 0, none⟩ (.int .i64 0)) ⟨w.heap.size, 1, none⟩ (.int .i64 0)).heap.size)
      have HR := Lib.hid (And.intro hO9 hR9)
      clear hO9 hR9 hR8 c8 hB8 hown5
      go_wp2_with fail
      refine bodyPost_ret (results_tc rfl _ _ _ _ _ _ rfl HQ.out.1 Try.underlying27 rfl (by kernel_rfl)) rfl ?_
      rw [HOf3.out]
      refine ⟨⟨L ++ [⟨Ar, cr, ⟨rest, 2, a + l.length⟩⟩], by rw [List.map_append]; rfl, A5, cap5, by rw [List.length_append]; rfl, ?_, HR.out.2⟩, HQ.out.2⟩
      rw [List.length_append, rcC_append]
      exact HR.out.1
  · have hof := HOf.out
    rw [if_neg hfe] at hof
    have HOf2 := Lib.hid hof
    have HQ := Lib.hid (put2 c3 hB3 (Nat.le_refl _) (.int .i64 fe) (.int .i64 fa))
    have hfb : (fe != 0) = true := bne_iff_ne.2 hfe
    clear hof c3 hB3 HOf HOk HSp HD hS3
    go_wp2_with fail
    go_region
    all_goals go_wp2_with fail
    all_goals refine bodyPost_ret (results_tc rfl _ _ _ _ _ _ rfl HQ.out.1 Try.underlying27 rfl (by kernel_rfl)) rfl ?_
    all_goals rw [HOf2.out]
    all_goals exact ⟨⟨[], none, 0, rfl, rfl, Own.nil _ _ _ _, rcO.nil _ _⟩, HQ.out.2.trans ⟨rfl, rfl, rfl, Nat.le_refl _, fun _ _ => rfl⟩⟩
set_option maxRecDepth 100000 in
set_option maxHeartbeats 3200000 in
theorem rOf_any (l : List UInt8) (n a : Int) (w : World) (hl : l.length ≤ 30000) :
    Calls Try.prog 25 #[.string ⟨l.toArray⟩, .int .i64 n, .int .i64 a] w fun e w' => (∃ L A cap, L.map (·.r) = (ofA l n a).1 ∧ e = .returned (.tuple #[.slice A L.length cap, (ofA l n a).2.v]) ∧
      Own w' 0 43 3 A L.length cap (rcC L) ∧ rcO w' w'.heap.size L) ∧ Below w.heap.size w w' := by
  have HF := Lib.hid (fun W => rFramesA_any l n a W hl)
  obtain ⟨hT20, hok⟩ := framesA_len l n a
  have hof : ofA l n a = if (framesA l n a).2.2.err = 0 then ((divA n (framesA l n a).1 []).1 ++ (if (divA n (framesA l n a).1 []).2 = [] then [] else [⟨(divA n (framesA l n a).1 []).2, 2, a + l.length⟩]), ⟨0, 0⟩) else ([], (framesA l n a).2.2) := rfl
  generalize ofA l n a = O at *
  obtain ⟨⟨T, u, ⟨fe, fa⟩⟩, hF⟩ : ∃ q, framesA l n a = q := ⟨_, rfl⟩
  rw [hF] at HF hT20 hok hof
  simp only at HF hT20 hok hof
  unfold Fault.v at HF
  simp only at HF
  clear hF
  have HOk := Lib.hid hok
  have HOf := Lib.hid hof
  have HD := Lib.hid (divA_len n T [])
  have HSp := Lib.hid (fun A cap D W hS hD => divide_any A cap D T n W hS hD hT20)
  obtain ⟨i0, hi0, hz0, hz1, hz2⟩ := info_parts infoR
  have b1 := Blk.new w 27 #[.int .i64 0, .int .i64 0]
  have hB0 := (Below.refl w.heap.size w).alloc (Nat.le_refl _) (.cells #[.int .i64 0, .int .i64 0] 27)
  have hs0 : (w.alloc (.cells #[.int .i64 0, .int .i64 0] 27)).heap.size = w.heap.size + 1 := by simp
  have HH := Lib.hid (And.intro b1 (And.intro hB0 hs0))
  clear hok hof b1 hB0 hs0
  go_enter Try.func25, Try.ntmps25
  go_wp2_with fail
  obtain ⟨b1, hB0, hs0⟩ := HH.out
  clear HH
  generalize w.alloc (.cells #[.int .i64 0, .int .i64 0] 27) = W1 at *
  refine (HF.out _).mono ?_
  rintro e w2 ⟨⟨A, cap, rfl, hS⟩, hb2⟩
  have hs2 := hb2.size
  have c3 := (Blk.on b1 hb2).alloc (.cells #[.int .i64 fe, .int .i64 fa] 27)
  have c4 := Blk.new w2 27 #[.int .i64 fe, .int .i64 fa]
  have hB2 := below_on hB0 hb2 (by omega)
  have hB3 := hB2.alloc hB2.size (.cells #[.int .i64 fe, .int .i64 fa] 27)
  have hs3 : (w2.alloc (.cells #[.int .i64 fe, .int .i64 fa] 27)).heap.size = w2.heap.size + 1 := by simp
  have hS3 := hS.alloc (Nat.le_refl _) (.cells #[.int .i64 fe, .int .i64 fa] 27)
  obtain ⟨p0, p1, r0, r1⟩ := cells2 c3
  obtain ⟨s0, s1, t0, t1⟩ := cells2 c4
  clear b1 hb2 hB0 hB2 c4 HF hS
  by_cases hfe : fe = 0
  · subst hfe
    obtain ⟨ha0, ha1⟩ := HOk.out rfl
    have hof := HOf.out
    rw [if_pos rfl] at hof
    have HOf2 := Lib.hid hof
    have HSp2 := Lib.hid (HSp.out A cap w2.heap.size (w2.alloc (.cells #[.int .i64 0, .int .i64 fa] 27)) hS3 (by omega))
    have HC3 := Lib.hid (And.intro c3 hB3)
    clear hof HOf HSp hS3 c3 hB3
    go_wp2_with fail
    refine HSp2.out.mono ?_
    rintro e w4 ⟨⟨L, rest, Ao, Ar, co, cr, hdv, rfl, hO, hR, hT⟩, hb4⟩
    obtain ⟨c3, hB3⟩ := HC3.out
    have hs4 := hb4.size
    have c5 := Blk.on c3 hb4
    have hB4 := below_on hB3 hb4 (by omega)
    have hdl := HD.out
    have hof := HOf2.out
    rw [hdv] at hdl hof
    simp only [List.length_map, List.length_nil, Nat.add_zero] at hdl hof
    obtain ⟨hL1, hL2, hL3⟩ := hdl
    clear HSp2 HC3 c3 hB3 hb4 HD HOf2 p0 p1 r0 r1 s0 s1 t0 t1 hL3
    by_cases hre : rest = []
    · subst hre
      rw [if_pos rfl, List.append_nil] at hof
      have HOf3 := Lib.hid hof
      clear hof
      obtain ⟨p0, p1, r0, r1⟩ := cells2 c5
      have HQ := Lib.hid (put2 c5 hB4 (Nat.le_refl _) (.int .i64 0) (.int .i64 0))
      have hO2 := ((hO.far (p := ⟨w.heap.size, 0, none⟩) (by simp; omega) (.int .i64 0)).far (p := ⟨w.heap.size, 1, none⟩) (by simp; omega) (.int .i64 0)).base (Nat.zero_le _)
      have hR2 := (((hR.grownG (by decide) c5 (setG w4 w.heap.size 0 (.int .i64 0))).grownG (by decide) (c5.set 0 _) (setG _ w.heap.size 1 (.int .i64 0)))).more (by simp : _ ≤ (World.setCell (World.setCell w4 ⟨w.heap.size, 0, none⟩ (.int .i64 0)) ⟨w.heap.size, 1, none⟩ (.int .i64 0)).heap.size)
      have HR := Lib.hid (And.intro hO2 hR2)
      clear hO hR hT c5 hB4 hO2 hR2 hdv
      go_wp2_with fail
      refine bodyPost_ret (results_tc rfl _ _ _ _ _ _ rfl HQ.out.1 Try.underlying27 rfl (by kernel_rfl)) rfl ?_
      rw [HOf3.out]
      exact ⟨⟨L, Ao, co, rfl, rfl, HR.out.1, HR.out.2⟩, HQ.out.2⟩
    · rw [if_neg hre] at hof
      have hr0 : 0 < rest.length := List.length_pos_iff.2 hre
      have hrz : (0 : Int) < rest.length := by omega
      have HOf3 := Lib.hid hof
      have hm1 : L.length + 1 ≤ maxLen := by simp only [maxLen]; omega
      have hm2 : (L.length + 1) * 40 ≤ 140737488355328 := by omega
      have hbase : w2.heap.size + 1 ≤ w4.heap.size := by omega
      rw [hs3] at hO hT
      clear hof hdv hre
      have HG := Lib.hid (And.intro hR (And.intro hT (And.intro hB4 c5)))
      clear hR hT hB4 c5
      go_wp2_with (at_builtin; refine wpList_append_new rfl _ _ _ rfl (w2.heap.size + 1) 43 i0 _ 3 40 Try.underlying35 hi0 hz0 hz1 hz2 rfl (by decide) rfl hO #[.slice Ar rest.length cr, .int .i64 2, .int .i64 (a + l.length)] rfl rfl (by simp [Value.oneCell']) hm1 hm2 hbase ?_; intro A5 cap5 W5 hown5 hg5 hat5; obtain ⟨hR, hT, hB4, c5⟩ := HG.out; have hT5 := hT.grown hg5 (Own.ne_type (by decide) hT hO); have hR5 := (hR.grownR (by decide) hO hg5).more hg5.size; have hB8 := hB4.grown hg5 (by omega) (fun k hk => by have := (hO.lt hk).1; omega); have c8 := c5.grown hg5 (hO.some_ne (by omega)); have hR8 : rcO W5 W5.heap.size (L ++ [⟨Ar, cr, ⟨rest, 2, a + l.length⟩⟩]) := rcO.snoc hR5 (hT5.base (Nat.zero_le _)); obtain ⟨p0, p1, r0, r1⟩ := cells2 c8)
      have HQ := Lib.hid (put2 c8 hB8 (Nat.le_refl _) (.int .i64 0) (.int .i64 0))
      have hO9 := ((hown5.far (p := ⟨w.heap.size, 0, none⟩) (by simp; omega) (.int .i64 0)).far (p := ⟨w.heap.size, 1, none⟩) (by simp; omega) (.int .i64 0)).base (Nat.zero_le _)
      have hR9 := (((hR8.grownG (by decide) c8 (setG W5 w.heap.size 0 (.int .i64 0))).grownG (by decide) (c8.set 0 _) (setG _ w.heap.size 1 (.int .i64 0)))).more (by simp : _ ≤ (World.setCell (World.setCell W5 ⟨w.heap.size, 0, none⟩ (.int .i64 0)) ⟨w.heap.size, 1, none⟩ (.int .i64 0)).heap.size)
      have HR := Lib.hid (And.intro hO9 hR9)
      clear hO9 hR9 hR8 c8 hB8 hown5
      go_wp2_with fail
      refine bodyPost_ret (results_tc rfl _ _ _ _ _ _ rfl HQ.out.1 Try.underlying27 rfl (by kernel_rfl)) rfl ?_
      rw [HOf3.out]
      refine ⟨⟨L ++ [⟨Ar, cr, ⟨rest, 2, a + l.length⟩⟩], by rw [List.map_append]; rfl, A5, cap5, by rw [List.length_append]; rfl, ?_, HR.out.2⟩, HQ.out.2⟩
      rw [List.length_append, rcC_append]
      exact HR.out.1
  · have hof := HOf.out
    rw [if_neg hfe] at hof
    have HOf2 := Lib.hid hof
    have HQ := Lib.hid (put2 c3 hB3 (Nat.le_refl _) (.int .i64 fe) (.int .i64 fa))
    have hfb : (fe != 0) = true := bne_iff_ne.2 hfe
    clear hof c3 hB3 HOf HOk HSp HD hS3
    go_wp2_with fail
    go_region
    all_goals go_wp2_with fail
    all_goals refine bodyPost_ret (results_tc rfl _ _ _ _ _ _ rfl HQ.out.1 Try.underlying27 rfl (by kernel_rfl)) rfl ?_
    all_goals rw [HOf2.out]
    all_goals exact ⟨⟨[], none, 0, rfl, rfl, Own.nil _ _ _ _, rcO.nil _ _⟩, HQ.out.2.trans ⟨rfl, rfl, rfl, Nat.le_refl _, fun _ _ => rfl⟩⟩
end Go.Proofs.Ytdndomjmnlpjgaa
