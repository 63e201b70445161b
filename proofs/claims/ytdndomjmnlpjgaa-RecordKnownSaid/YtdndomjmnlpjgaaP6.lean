/- Frames of both at any numbers. No condition. -/
import Derived.Test.YtdndomjmnlpjgaaP4
import Derived.Test.YtdndomjmnlpjgaaP1
namespace Go.Proofs.Ytdndomjmnlpjgaa
open Go.RowKit
theorem results_ttc {P : Program} {fn : Func} {p u q : Tmp} {tq : TypeId} (h : fn.results = #[.tmp p, .tmp u, .cell q tq]) (tmps : Array Value) (w : World) (g2 : Nat) (t2 : TypeId) (ds : Array Value) (d2 : TypeDesc)
    (hp2 : tmps.getD q undef = .pointer (some ⟨g2, 0, none⟩)) (hg2 : Blk w g2 t2 ds)
    (hu2 : P.underlying tq = some d2) (hd2 : (match d2 with | .struct _ | .array _ _ => true | _ => false) = true) (hi2 : (P.info? tq).map (·.size) = some ds.size) :
    (results fn tmps).run P w = .ok (.tuple #[tmps.getD p undef, tmps.getD u undef, .agg ds]) w := by
  obtain ⟨fr2, hg2, _⟩ := hg2
  have hq' : tmps[q]?.getD undef = .pointer (some ⟨g2, 0, none⟩) := by simpa using hp2
  simp [results, h, hq', asAddr, run_loadVar_row w g2 t2 tq ds fr2 d2 hg2 hu2 hd2 hi2]
def framesA (l : List UInt8) (n a : Int) : List Tok × Nat × Fault :=
  if rangedB n = false ∨ a < 0 ∨ 1099511627776 < a ∨ 1099511627776 < a + l.length then ([], 0, ⟨2, 0⟩) else if 20000 < l.length then ([], 0, ⟨4, 0⟩) else framesT n.toNat l.length l a
theorem framesA_cases (l : List UInt8) (n a : Int) :
    (n < 1 ∧ framesA l n a = ([], 0, ⟨2, 0⟩)) ∨ (1 ≤ n ∧ 8 < n ∧ framesA l n a = ([], 0, ⟨2, 0⟩)) ∨
    (∃ m : Nat, n = m ∧ 1 ≤ m ∧ m ≤ 8 ∧ ((a < 0 ∧ framesA l n a = ([], 0, ⟨2, 0⟩)) ∨ (0 ≤ a ∧ 1099511627776 < a ∧ framesA l n a = ([], 0, ⟨2, 0⟩)) ∨ (0 ≤ a ∧ a ≤ 1099511627776 ∧ 1099511627776 < a + l.length ∧ framesA l n a = ([], 0, ⟨2, 0⟩)) ∨
      (0 ≤ a ∧ a + l.length ≤ 1099511627776 ∧ 20000 < l.length ∧ framesA l n a = ([], 0, ⟨4, 0⟩)) ∨ (0 ≤ a ∧ a + l.length ≤ 1099511627776 ∧ l.length ≤ 20000 ∧ framesA l n a = framesT m l.length l a))) := by
  by_cases h1 : n < 1
  · exact .inl ⟨h1, if_pos (.inl (by unfold rangedB; simp; omega))⟩
  · by_cases h2 : 8 < n
    · exact .inr (.inl ⟨by omega, h2, if_pos (.inl (by unfold rangedB; simp; omega))⟩)
    · obtain ⟨m, rfl⟩ := Int.eq_ofNat_of_zero_le (show 0 ≤ n by omega)
      have hr : ¬ rangedB m = false := by rw [ranged_ok m (by omega) (by omega)]; simp
      refine .inr (.inr ⟨m, rfl, by omega, by omega, ?_⟩)
      by_cases h3 : a < 0
      · exact .inl ⟨h3, if_pos (.inr (.inl h3))⟩
      · by_cases h4 : 1099511627776 < a
        · exact .inr (.inl ⟨by omega, h4, if_pos (.inr (.inr (.inl h4)))⟩)
        · by_cases h5 : 1099511627776 < a + l.length
          · exact .inr (.inr (.inl ⟨by omega, by omega, h5, if_pos (.inr (.inr (.inr h5)))⟩))
          · have e : framesA l m a = if 20000 < l.length then ([], 0, ⟨4, 0⟩) else framesT (m : Int).toNat l.length l a := if_neg (fun h => by rcases h with h | h | h | h; exact hr h; exact h3 h; exact h4 h; exact h5 h)
            by_cases h6 : 20000 < l.length
            · exact .inr (.inr (.inr (.inl ⟨by omega, by omega, h6, by rw [e, if_pos h6]⟩)))
            · exact .inr (.inr (.inr (.inr ⟨by omega, by omega, by omega, by rw [e, if_neg h6, Int.toNat_natCast]⟩)))
theorem frames_round (m : Nat) (h1 : 1 ≤ m) (h8 : m ≤ 8) (l : List UInt8) (k : Nat) (hk : k < l.length) (a : Int) (ha : 0 ≤ a) (hal : a + l.length ≤ 1099511627776) :
    (∃ fe fa : Int, readF (l.drop k) m (a + k) = ⟨fe, fa⟩ ∧ fe ≠ 0 ∧ framesT m l.length (l.drop k) (a + k) = ([], 0, ⟨fe, fa⟩)) ∨
    (readF (l.drop k) m (a + k) = ⟨0, 0⟩ ∧ ∃ u : Nat, readU (l.drop k) m (a + k) = u ∧ 1 ≤ u ∧ k + u ≤ l.length ∧ framesT m l.length (l.drop k) (a + k) = (readT (l.drop k) m (a + k) :: (framesT m l.length (l.drop (k + u)) (a + (k + u : Nat))).1, u + (framesT m l.length (l.drop (k + u)) (a + (k + u : Nat))).2.1, (framesT m l.length (l.drop (k + u)) (a + (k + u : Nat))).2.2)) := by
  have hne : l.drop k ≠ [] := fun h => by have := congrArg List.length h; rw [List.length_drop] at this; simp only [List.length_nil] at this; omega
  obtain ⟨N, hN⟩ : ∃ N, l.length = N + 1 := ⟨l.length - 1, by omega⟩
  have hld : (l.drop k).length = l.length - k := List.length_drop
  have e := framesT_step m N (l.drop k) (a + k) hne
  rw [← hN] at e
  by_cases hf : (readF (l.drop k) m (a + k)).err = 0
  · rw [if_neg (by simpa using hf)] at e
    obtain ⟨_, hu2, hul, _⟩ := frame_read (l.drop k) m h1 h8 (a + k) (by omega) (by omega) hf
    have hz := (read_more (l.drop k) [] m h1 h8 (a + k) (by omega) (by omega) hf).2.2.1
    rw [List.append_nil] at hz
    refine .inr ⟨hz, _, rfl, by omega, by omega, ?_⟩
    rw [e, List.drop_drop, show a + (k : Int) + ((readU (l.drop k) m (a + k) : Nat) : Int) = a + ((k + readU (l.drop k) m (a + k) : Nat) : Int) by omega]
    rw [framesT_fuel m h1 h8 N l.length (l.drop (k + readU (l.drop k) m (a + k))) (a + ((k + readU (l.drop k) m (a + k) : Nat) : Int)) (by rw [List.length_drop]; omega) (by rw [List.length_drop]; omega) (by omega) (by rw [List.length_drop]; omega)]
  · rw [if_pos (by simpa using hf)] at e
    exact .inl ⟨_, _, rfl, hf, e⟩
theorem put2 {w W : World} {g : Nat} {T : TypeId} {a b : Value} (h : Blk W g T #[a, b]) (hB : Below w.heap.size w W) (hg : w.heap.size ≤ g) (x y : Value) :
    Blk ((W.setCell ⟨g, 0, none⟩ x).setCell ⟨g, 1, none⟩ y) g T #[x, y] ∧ Below w.heap.size w ((W.setCell ⟨g, 0, none⟩ x).setCell ⟨g, 1, none⟩ y) :=
  ⟨(h.set 0 x).set 1 y, (hB.setCell (p := ⟨g, 0, none⟩) hg x).setCell (p := ⟨g, 1, none⟩) hg y⟩
set_option maxRecDepth 100000 in
set_option maxHeartbeats 3200000 in
theorem FramesA_any (l : List UInt8) (n a : Int) (w : World) (hl : l.length ≤ 30000) :
    Calls Try.prog 18 #[.string ⟨l.toArray⟩, .int .i64 n, .int .i64 a] w fun e w' => (∃ A cap, e = .returned (.tuple #[.slice A (framesA l n a).1.length cap, .int .i64 (framesA l n a).2.1, (framesA l n a).2.2.v]) ∧
      Sl w' w'.heap.size 3 A (framesA l n a).1.length cap (tokC (framesA l n a).1)) ∧ Below w.heap.size w w' := by
  have hlz : (l.length : Int) ≤ 30000 := by omega
  rcases framesA_cases l n a with ⟨h1, h⟩ | ⟨h1, h2, h⟩ | ⟨m, rfl, h1, h2, ⟨h3, h⟩ | ⟨h3, h4, h⟩ | ⟨h3, h4, h5, h⟩ | ⟨h3, h4, h5, h⟩ | ⟨h3, h4, h5, h⟩⟩
  · rw [h]
    clear h
    go_enter Try.func18, Try.ntmps18
    go_wp2_with fail
    refine bodyPost_ret (results_ccc rfl _ _ _ _ _ _ _ _ _ _ _ _ _ _ rfl (((Blk.new w 24 #[.slice none 0 0]).alloc (.cells #[.int .i64 0] 3)).alloc (.cells #[.int .i64 2, .int .i64 0] 27)) rfl rfl rfl ((Blk.newAt (w.alloc (.cells #[.slice none 0 0] 24)) 3 #[.int .i64 0] (g := w.heap.size + 1) (by simp)).alloc (.cells #[.int .i64 2, .int .i64 0] 27)) rfl rfl rfl (Blk.newAt ((w.alloc (.cells #[.slice none 0 0] 24)).alloc (.cells #[.int .i64 0] 3)) 27 #[.int .i64 2, .int .i64 0] (g := w.heap.size + 2) (by simp)) Try.underlying27 rfl (by kernel_rfl)) rfl ?_
    exact ⟨⟨none, 0, rfl, Sl.nil _ _ _⟩, (((Below.refl w.heap.size w).alloc (Nat.le_refl _) _).alloc (by simp) _).alloc (by simp; omega) _⟩
  · rw [h]
    clear h
    go_enter Try.func18, Try.ntmps18
    go_wp2_with fail
    refine bodyPost_ret (results_ccc rfl _ _ _ _ _ _ _ _ _ _ _ _ _ _ rfl (((Blk.new w 24 #[.slice none 0 0]).alloc (.cells #[.int .i64 0] 3)).alloc (.cells #[.int .i64 2, .int .i64 0] 27)) rfl rfl rfl ((Blk.newAt (w.alloc (.cells #[.slice none 0 0] 24)) 3 #[.int .i64 0] (g := w.heap.size + 1) (by simp)).alloc (.cells #[.int .i64 2, .int .i64 0] 27)) rfl rfl rfl (Blk.newAt ((w.alloc (.cells #[.slice none 0 0] 24)).alloc (.cells #[.int .i64 0] 3)) 27 #[.int .i64 2, .int .i64 0] (g := w.heap.size + 2) (by simp)) Try.underlying27 rfl (by kernel_rfl)) rfl ?_
    exact ⟨⟨none, 0, rfl, Sl.nil _ _ _⟩, (((Below.refl w.heap.size w).alloc (Nat.le_refl _) _).alloc (by simp) _).alloc (by simp; omega) _⟩
  · rw [h]
    have m1 : (1 : Int) ≤ m := by omega
    have m2 : (m : Int) ≤ 8 := by omega
    clear h
    go_enter Try.func18, Try.ntmps18
    go_wp2_with fail
    refine bodyPost_ret (results_ccc rfl _ _ _ _ _ _ _ _ _ _ _ _ _ _ rfl (((Blk.new w 24 #[.slice none 0 0]).alloc (.cells #[.int .i64 0] 3)).alloc (.cells #[.int .i64 2, .int .i64 0] 27)) rfl rfl rfl ((Blk.newAt (w.alloc (.cells #[.slice none 0 0] 24)) 3 #[.int .i64 0] (g := w.heap.size + 1) (by simp)).alloc (.cells #[.int .i64 2, .int .i64 0] 27)) rfl rfl rfl (Blk.newAt ((w.alloc (.cells #[.slice none 0 0] 24)).alloc (.cells #[.int .i64 0] 3)) 27 #[.int .i64 2, .int .i64 0] (g := w.heap.size + 2) (by simp)) Try.underlying27 rfl (by kernel_rfl)) rfl ?_
    exact ⟨⟨none, 0, rfl, Sl.nil _ _ _⟩, (((Below.refl w.heap.size w).alloc (Nat.le_refl _) _).alloc (by simp) _).alloc (by simp; omega) _⟩
  · rw [h]
    have m1 : (1 : Int) ≤ m := by omega
    have m2 : (m : Int) ≤ 8 := by omega
    clear h
    go_enter Try.func18, Try.ntmps18
    go_wp2_with fail
    refine bodyPost_ret (results_ccc rfl _ _ _ _ _ _ _ _ _ _ _ _ _ _ rfl (((Blk.new w 24 #[.slice none 0 0]).alloc (.cells #[.int .i64 0] 3)).alloc (.cells #[.int .i64 2, .int .i64 0] 27)) rfl rfl rfl ((Blk.newAt (w.alloc (.cells #[.slice none 0 0] 24)) 3 #[.int .i64 0] (g := w.heap.size + 1) (by simp)).alloc (.cells #[.int .i64 2, .int .i64 0] 27)) rfl rfl rfl (Blk.newAt ((w.alloc (.cells #[.slice none 0 0] 24)).alloc (.cells #[.int .i64 0] 3)) 27 #[.int .i64 2, .int .i64 0] (g := w.heap.size + 2) (by simp)) Try.underlying27 rfl (by kernel_rfl)) rfl ?_
    exact ⟨⟨none, 0, rfl, Sl.nil _ _ _⟩, (((Below.refl w.heap.size w).alloc (Nat.le_refl _) _).alloc (by simp) _).alloc (by simp; omega) _⟩
  · rw [h]
    have m1 : (1 : Int) ≤ m := by omega
    have m2 : (m : Int) ≤ 8 := by omega
    clear h
    go_enter Try.func18, Try.ntmps18
    go_wp2_with fail
    refine bodyPost_ret (results_ccc rfl _ _ _ _ _ _ _ _ _ _ _ _ _ _ rfl (((Blk.new w 24 #[.slice none 0 0]).alloc (.cells #[.int .i64 0] 3)).alloc (.cells #[.int .i64 2, .int .i64 0] 27)) rfl rfl rfl ((Blk.newAt (w.alloc (.cells #[.slice none 0 0] 24)) 3 #[.int .i64 0] (g := w.heap.size + 1) (by simp)).alloc (.cells #[.int .i64 2, .int .i64 0] 27)) rfl rfl rfl (Blk.newAt ((w.alloc (.cells #[.slice none 0 0] 24)).alloc (.cells #[.int .i64 0] 3)) 27 #[.int .i64 2, .int .i64 0] (g := w.heap.size + 2) (by simp)) Try.underlying27 rfl (by kernel_rfl)) rfl ?_
    exact ⟨⟨none, 0, rfl, Sl.nil _ _ _⟩, (((Below.refl w.heap.size w).alloc (Nat.le_refl _) _).alloc (by simp) _).alloc (by simp; omega) _⟩
  · rw [h]
    have m1 : (1 : Int) ≤ m := by omega
    have m2 : (m : Int) ≤ 8 := by omega
    have m3 : a ≤ 1099511627776 := by omega
    have m4 : (20000 : Int) < l.length := by omega
    clear h
    go_enter Try.func18, Try.ntmps18
    go_wp2_with fail
    refine bodyPost_ret (results_ccc rfl _ _ _ _ _ _ _ _ _ _ _ _ _ _ rfl (((Blk.new w 24 #[.slice none 0 0]).alloc (.cells #[.int .i64 0] 3)).alloc (.cells #[.int .i64 4, .int .i64 0] 27)) rfl rfl rfl ((Blk.newAt (w.alloc (.cells #[.slice none 0 0] 24)) 3 #[.int .i64 0] (g := w.heap.size + 1) (by simp)).alloc (.cells #[.int .i64 4, .int .i64 0] 27)) rfl rfl rfl (Blk.newAt ((w.alloc (.cells #[.slice none 0 0] 24)).alloc (.cells #[.int .i64 0] 3)) 27 #[.int .i64 4, .int .i64 0] (g := w.heap.size + 2) (by simp)) Try.underlying27 rfl (by kernel_rfl)) rfl ?_
    exact ⟨⟨none, 0, rfl, Sl.nil _ _ _⟩, (((Below.refl w.heap.size w).alloc (Nat.le_refl _) _).alloc (by simp) _).alloc (by simp; omega) _⟩
  · rw [h]
    clear h
    refine (Frames_in l m a w h1 h2 h3 h4 h5).mono ?_
    rintro e w' ⟨A, cap, rfl, hS, hB⟩
    exact ⟨⟨A, cap, rfl, hS⟩, hB⟩
set_option maxRecDepth 100000 in
set_option maxHeartbeats 3200000 in
theorem rFramesA_any (l : List UInt8) (n a : Int) (w : World) (hl : l.length ≤ 30000) :
    Calls Try.prog 24 #[.string ⟨l.toArray⟩, .int .i64 n, .int .i64 a] w fun e w' => (∃ A cap, e = .returned (.tuple #[.slice A (framesA l n a).1.length cap, .int .i64 (framesA l n a).2.1, (framesA l n a).2.2.v]) ∧
      Sl w' w'.heap.size 3 A (framesA l n a).1.length cap (tokC (framesA l n a).1)) ∧ Below w.heap.size w w' := by
  have hlz : (l.length : Int) ≤ 30000 := by omega
  rcases framesA_cases l n a with ⟨h1, h⟩ | ⟨h1, h2, h⟩ | ⟨m, rfl, h1, h2, ⟨h3, h⟩ | ⟨h3, h4, h⟩ | ⟨h3, h4, h5, h⟩ | ⟨h3, h4, h5, h⟩ | ⟨h3, h4, h5, h⟩⟩
  · rw [h]
    clear h
    go_enter Try.func24, Try.ntmps24
    go_wp2_with fail
    refine bodyPost_ret (results_ttc rfl _ _ _ _ _ _ rfl (Blk.new w 27 #[.int .i64 2, .int .i64 0]) Try.underlying27 rfl (by kernel_rfl)) rfl ?_
    exact ⟨⟨none, 0, rfl, Sl.nil _ _ _⟩, (Below.refl w.heap.size w).alloc (Nat.le_refl _) _⟩
  · rw [h]
    clear h
    go_enter Try.func24, Try.ntmps24
    go_wp2_with fail
    refine bodyPost_ret (results_ttc rfl _ _ _ _ _ _ rfl (Blk.new w 27 #[.int .i64 2, .int .i64 0]) Try.underlying27 rfl (by kernel_rfl)) rfl ?_
    exact ⟨⟨none, 0, rfl, Sl.nil _ _ _⟩, (Below.refl w.heap.size w).alloc (Nat.le_refl _) _⟩
  · rw [h]
    have m1 : (1 : Int) ≤ m := by omega
    have m2 : (m : Int) ≤ 8 := by omega
    clear h
    go_enter Try.func24, Try.ntmps24
    go_wp2_with fail
    refine bodyPost_ret (results_ttc rfl _ _ _ _ _ _ rfl (Blk.new w 27 #[.int .i64 2, .int .i64 0]) Try.underlying27 rfl (by kernel_rfl)) rfl ?_
    exact ⟨⟨none, 0, rfl, Sl.nil _ _ _⟩, (Below.refl w.heap.size w).alloc (Nat.le_refl _) _⟩
  · rw [h]
    have m1 : (1 : Int) ≤ m := by omega
    have m2 : (m : Int) ≤ 8 := by omega
    clear h
    go_enter Try.func24, Try.ntmps24
    go_wp2_with fail
    refine bodyPost_ret (results_ttc rfl _ _ _ _ _ _ rfl (Blk.new w 27 #[.int .i64 2, .int .i64 0]) Try.underlying27 rfl (by kernel_rfl)) rfl ?_
    exact ⟨⟨none, 0, rfl, Sl.nil _ _ _⟩, (Below.refl w.heap.size w).alloc (Nat.le_refl _) _⟩
  · rw [h]
    have m1 : (1 : Int) ≤ m := by omega
    have m2 : (m : Int) ≤ 8 := by omega
    clear h
    go_enter Try.func24, Try.ntmps24
    go_wp2_with fail
    refine bodyPost_ret (results_ttc rfl _ _ _ _ _ _ rfl (Blk.new w 27 #[.int .i64 2, .int .i64 0]) Try.underlying27 rfl (by kernel_rfl)) rfl ?_
    exact ⟨⟨none, 0, rfl, Sl.nil _ _ _⟩, (Below.refl w.heap.size w).alloc (Nat.le_refl _) _⟩
  · rw [h]
    have m1 : (1 : Int) ≤ m := by omega
    have m2 : (m : Int) ≤ 8 := by omega
    have m3 : a ≤ 1099511627776 := by omega
    have m4 : (20000 : Int) < l.length := by omega
    clear h
    go_enter Try.func24, Try.ntmps24
    go_wp2_with fail
    refine bodyPost_ret (results_ttc rfl _ _ _ _ _ _ rfl (Blk.new w 27 #[.int .i64 4, .int .i64 0]) Try.underlying27 rfl (by kernel_rfl)) rfl ?_
    exact ⟨⟨none, 0, rfl, Sl.nil _ _ _⟩, (Below.refl w.heap.size w).alloc (Nat.le_refl _) _⟩
  · rw [h]
    clear h
    have m1 : (1 : Int) ≤ m := by omega
    have m2 : (m : Int) ≤ 8 := by omega
    have m3 : a ≤ 1099511627776 := by omega
    have m4 : (l.length : Int) ≤ 20000 := by omega
    have HX := Lib.hid (fun k W (hk : k ≤ l.length) => refRead_any (l.drop k) m (a + k) W (by rw [List.length_drop]; omega))
    have HRo := Lib.hid (fun k hk => frames_round m h1 h2 l k hk a h3 h4)
    obtain ⟨F, hF⟩ : ∃ F, framesT m l.length l a = F := ⟨_, rfl⟩
    rw [hF]
    have b1 := Blk.new w 27 #[.int .i64 0, .int .i64 0]
    have hB0 := (Below.refl w.heap.size w).alloc (Nat.le_refl _) (.cells #[.int .i64 0, .int .i64 0] 27)
    have hs0 : (w.alloc (.cells #[.int .i64 0, .int .i64 0] 27)).heap.size = w.heap.size + 1 := by simp
    have HH := Lib.hid (And.intro b1 (And.intro hB0 hs0))
    obtain ⟨i0, hi0, hz0, hz1, hz2⟩ := info_parts infoT
    clear b1 hB0 hs0 hl
    go_enter Try.func24, Try.ntmps24
    go_wp2_with fail
    obtain ⟨b1, hB0, hs0⟩ := HH.out
    clear HH
    generalize w.alloc (.cells #[.int .i64 0, .int .i64 0] 27) = W1 at *
    go_loopw [9, 10] (fun v9 v10 W => ∃ (k : Nat) (L : List Tok) (A : Option Addr) (cap : Nat), k ≤ l.length ∧ v10 = .int .i64 k ∧ v9 = .slice A L.length cap ∧ F = (L ++ (framesT m l.length (l.drop k) (a + k)).1, k + (framesT m l.length (l.drop k) (a + k)).2.1, (framesT m l.length (l.drop k) (a + k)).2.2) ∧ L.length ≤ k ∧
      Blk W w.heap.size 27 #[.int .i64 0, .int .i64 0] ∧ Own W (w.heap.size + 1) 41 3 A L.length cap (tokC L) ∧ Below w.heap.size w W ∧ w.heap.size + 1 ≤ W.heap.size) (fun _ v10 _ => l.length - (intOf v10).toNat)
    case atStart => exact ⟨0, [], none, 0, Nat.zero_le _, rfl, rfl, by rw [List.drop_zero, ← hF]; simp, Nat.le_refl _, b1, Own.nil _ _ _ _, hB0, by omega⟩
    case round =>
      obtain ⟨k, L, A, cap, hk, rfl, rfl, hT, hLk, hb, hown, hB, hsz⟩ := hrel
      clear b1 hB0 hs0 hF
      by_cases hlt : k < l.length
      · have hXk := Lib.hid (fun W => HX.out k W hk)
        have hkz : (k : Int) ≤ l.length := by omega
        have hltz : (k : Int) < l.length := by omega
        have hwk : IntKind.i64.wrap (a + (k : Int)) = a + (k : Int) := Go.IntWalk.i64_in _ (by omega)
        rcases HRo.out k hlt with ⟨fe, fa, hr, hfe, hst⟩ | ⟨hr, u, hu, hu1, hul, hst⟩
        · have hrt : readT (l.drop k) m (a + k) = tok0 ∧ readU (l.drop k) m (a + k) = 0 := by
            have hno : readOk (l.drop k) m (a + k) = false := by
              cases hok : readOk (l.drop k) m (a + k) with
              | false => rfl
              | true =>
                rw [readOk_in _ m (a + k) h1 h2 (by omega) (by omega)] at hok
                rw [readF_in _ m (a + k) h1 h2 (by omega) (by omega)] at hr
                simp only [Bool.and_eq_true, decide_eq_true_eq] at hok
                rw [if_neg (fun h => h hok.1), if_pos hok.2] at hr
                injection hr with e1 e2
                exact absurd e1.symm hfe
            unfold readT readU
            rw [hno]
            exact ⟨rfl, rfl⟩
          rw [hr, hrt.1, hrt.2] at hXk
          unfold Tok.v Fault.v tok0 at hXk
          simp only at hXk
          rw [hst, List.append_nil, Nat.add_zero] at hT
          have hfb : (fe == 0) = false := by simpa using hfe
          have HTT := Lib.hid hT
          clear hr hrt hst hT HX HRo hfe
          go_wp2_with fail
          refine (hXk.out _).mono ?_
          rintro e w2 ⟨rfl, hb2⟩
          have hs2 := hb2.size
          have c3 := ((Blk.on hb hb2).alloc (.cells #[.int .i64 0, .string ⟨#[]⟩, .int .i64 0] 41)).alloc (.cells #[.int .i64 fe, .int .i64 fa] 27)
          have c8 := Blk.newAt (w2.alloc (.cells #[.int .i64 0, .string ⟨#[]⟩, .int .i64 0] 41)) 27 #[.int .i64 fe, .int .i64 fa] (g := w2.heap.size + 1) (by simp)
          have ho := ((hown.below hb2 (Nat.le_refl _)).alloc (.cells #[.int .i64 0, .string ⟨#[]⟩, .int .i64 0] 41)).alloc (.cells #[.int .i64 fe, .int .i64 fa] 27)
          have hB2 := below_on hB hb2 (Nat.le_refl _)
          have hB3 := (hB2.alloc hB2.size (.cells #[.int .i64 0, .string ⟨#[]⟩, .int .i64 0] 41)).alloc (by simp; have := hB2.size; omega) (.cells #[.int .i64 fe, .int .i64 fa] 27)
          have ho2 := ((ho.far (p := ⟨w.heap.size, 0, none⟩) (by simp) (.int .i64 fe)).far (p := ⟨w.heap.size, 1, none⟩) (by simp) (.int .i64 fa)).sl
          obtain ⟨p0, p1, r0, r1⟩ := cells2 c3
          obtain ⟨s0, s1, t0, t1⟩ := cells2 c8
          have hn8 : w2.heap.size + 1 ≠ w.heap.size := by omega
          have HQ := Lib.hid (And.intro (put2 c3 hB3 (Nat.le_refl _) (.int .i64 fe) (.int .i64 fa)) ho2)
          clear c3 c8 ho ho2 hB2 hB3 hb2 hb hown hB hsz hs2
          go_wp2_with fail
          generalize (w2.alloc (.cells #[.int .i64 0, .string ⟨#[]⟩, .int .i64 0] 41)).alloc (.cells #[.int .i64 fe, .int .i64 fa] 27) = W3 at *
          go_region
          go_wp2_with fail
          refine bodyPost_ret (results_ttc rfl _ _ _ _ _ _ rfl HQ.out.1.1.drew Try.underlying27 rfl (by kernel_rfl)) rfl ?_
          rw [HTT.out]
          exact ⟨⟨A, cap, rfl, HQ.out.2.drew⟩, HQ.out.1.2.drew⟩
        · rw [hr, hu] at hXk
          unfold Tok.v Fault.v at hXk
          simp only at hXk
          have HTT := Lib.hid (show F = ((L ++ [readT (l.drop k) m (a + k)]) ++ (framesT m l.length (l.drop (k + u)) (a + (k + u : Nat))).1, (k + u) + (framesT m l.length (l.drop (k + u)) (a + (k + u : Nat))).2.1, (framesT m l.length (l.drop (k + u)) (a + (k + u : Nat))).2.2) by rw [hT, hst]; simp [Nat.add_assoc])
          generalize readT (l.drop k) m (a + k) = t at *
          obtain ⟨sy, tx, p⟩ := t
          simp only at hXk
          have hm1 : L.length + 1 ≤ maxLen := by simp only [maxLen]; omega
          have hm2 : (L.length + 1) * 32 ≤ 140737488355328 := by omega
          have huz : (u : Int) ≤ 20000 := by omega
          clear hr hu hst hT HX HRo
          go_wp2_with fail
          refine (hXk.out _).mono ?_
          rintro e w2 ⟨rfl, hb2⟩
          have hs2 := hb2.size
          have c3 := ((Blk.on hb hb2).alloc (.cells #[.int .i64 sy, .string ⟨tx.toArray⟩, .int .i64 p] 41)).alloc (.cells #[.int .i64 0, .int .i64 0] 27)
          have ho := ((hown.below hb2 (Nat.le_refl _)).alloc (.cells #[.int .i64 sy, .string ⟨tx.toArray⟩, .int .i64 p] 41)).alloc (.cells #[.int .i64 0, .int .i64 0] 27)
          have hB2 := below_on hB hb2 (Nat.le_refl _)
          have hB3 := (hB2.alloc hB2.size (.cells #[.int .i64 sy, .string ⟨tx.toArray⟩, .int .i64 p] 41)).alloc (by simp; have := hB2.size; omega) (.cells #[.int .i64 0, .int .i64 0] 27)
          have hz3 : ((w2.alloc (.cells #[.int .i64 sy, .string ⟨tx.toArray⟩, .int .i64 p] 41)).alloc (.cells #[.int .i64 0, .int .i64 0] 27)).heap.size = w2.heap.size + 2 := by simp
          have c6 := (Blk.new w2 41 #[.int .i64 sy, .string ⟨tx.toArray⟩, .int .i64 p]).alloc (.cells #[.int .i64 0, .int .i64 0] 27)
          have c8 := Blk.newAt (w2.alloc (.cells #[.int .i64 sy, .string ⟨tx.toArray⟩, .int .i64 p] 41)) 27 #[.int .i64 0, .int .i64 0] (g := w2.heap.size + 1) (by simp)
          obtain ⟨x0, x1, x2, y0, y1, y2⟩ := cells3 c6
          obtain ⟨s0, s1, t0, t1⟩ := cells2 c8
          clear c6 c8 hB2 hb2 hb hown hB hXk
          have hs3 : w.heap.size + 1 ≤ ((w2.alloc (.cells #[.int .i64 sy, .string ⟨tx.toArray⟩, .int .i64 p] 41)).alloc (.cells #[.int .i64 0, .int .i64 0] 27)).heap.size := by omega
          go_wp2_with (at_builtin; refine wpList_append_new rfl _ _ _ rfl (w.heap.size + 1) 41 i0 _ 3 32 Try.underlying24 hi0 hz0 hz1 hz2 rfl (by decide) rfl ho #[.int .i64 sy, .string ⟨tx.toArray⟩, .int .i64 p] (by first | rfl | (rw [hz3]; rfl) | (simp only [World.size_alloc]; rfl) | (trace_state; fail)) rfl (by simp [Value.oneCell']) hm1 hm2 hs3 ?_; intro A5 cap5 W5 hown5 hg5 hat5)
          go_roundw
          case rel => exact ⟨k + u, L ++ [⟨sy, tx, p⟩], A5, cap5, hul, by go_num, by rw [List.length_append]; rfl, HTT.out, by rw [List.length_append]; simp only [List.length_cons, List.length_nil]; omega, c3.grown hg5 (ho.ne (by omega)), by rw [List.length_append, tokC_append]; exact hown5, grown_below hB3 (ho.base (by omega)) hg5 (by omega), by have := hg5.size; omega⟩
          case measure => simp [intOf]; omega
      · obtain rfl : k = l.length := by omega
        have hT' : F = (L, l.length, ⟨0, 0⟩) := by rw [hT, List.drop_length, framesT_nil]; simp
        have HTT := Lib.hid hT'
        obtain ⟨p0, p1, r0, r1⟩ := cells2 hb
        have ho2 := ((hown.far (p := ⟨w.heap.size, 0, none⟩) (by simp) (.int .i64 0)).far (p := ⟨w.heap.size, 1, none⟩) (by simp) (.int .i64 0)).sl
        have HQ := Lib.hid (And.intro (put2 hb hB (Nat.le_refl _) (.int .i64 0) (.int .i64 0)) ho2)
        clear hT hT' hb hown hB HX HRo ho2
        go_wp2_with fail
        refine bodyPost_ret (results_ttc rfl _ _ _ _ _ _ rfl HQ.out.1.1 Try.underlying27 rfl (by kernel_rfl)) rfl ?_
        rw [HTT.out]
        exact ⟨⟨A, cap, rfl, HQ.out.2⟩, HQ.out.1.2⟩
end Go.Proofs.Ytdndomjmnlpjgaa
