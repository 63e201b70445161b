/- intern: slices.Clone, begun, put. No condition. -/
import Derived.Test.YtbobpgjgknkogaaI4
namespace Go.Proofs.Ytbobpgjgknkogaa
open Go.RowKit Go.Maps
/-- A table that is right. -/
def goodT (l : List (List UInt8)) : Prop := l.length ≤ 32 ∧ ∀ k (h : k < l.length), nameE l[k] = 0 ∧ l[k] ∉ l.take k
theorem chkFrom_good (l : List (List UInt8)) : ∀ (n k : Nat), k + n = l.length → ((chkFrom l k (l.drop k)).1 = 0 ↔ ∀ j (h : j < l.length), k ≤ j → nameE l[j] = 0 ∧ l[j] ∉ l.take j) ∧ ((chkFrom l k (l.drop k)).1 = 0 → chkFrom l k (l.drop k) = (0, 0))
  | 0, k, hk => by
    have : l.drop k = [] := List.drop_of_length_le (by omega)
    rw [this]
    refine ⟨⟨fun _ j h hj => by omega, fun _ => rfl⟩, fun _ => rfl⟩
  | n + 1, k, hk => by
    have hlt : k < l.length := by omega
    have ih := chkFrom_good l n (k + 1) (by omega)
    rw [chkFrom_drop l k hlt]
    by_cases h0 : nameE l[k] = 0
    · rw [if_pos h0]
      by_cases hc : (l.take k).contains l[k] = true
      · rw [if_pos hc]
        have hm : l[k] ∈ l.take k := by simpa using hc
        exact ⟨⟨fun h => absurd h (show ¬ ((8 : Int) = 0) by decide), fun h => absurd hm (h k hlt (Nat.le_refl _)).2⟩, fun h => absurd h (show ¬ ((8 : Int) = 0) by decide)⟩
      · rw [if_neg hc]
        have hm : l[k] ∉ l.take k := by simpa using hc
        refine ⟨⟨fun h j hj hkj => ?_, fun h => ih.1.2 fun j hj hkj => h j hj (by omega)⟩, ih.2⟩
        rcases Nat.lt_or_ge k j with h1 | h1
        · exact ih.1.1 h j hj h1
        · obtain rfl : k = j := by omega
          exact ⟨h0, hm⟩
    · rw [if_neg h0]
      exact ⟨⟨fun h => absurd h h0, fun h => absurd (h k hlt (Nat.le_refl _)).1 h0⟩, fun h => absurd h h0⟩
theorem chk_good (l : List (List UInt8)) : ((chkT l).1 = 0 ↔ goodT l) ∧ ((chkT l).1 = 0 → chkT l = (0, 0)) := by
  unfold chkT goodT
  by_cases h : 32 < l.length
  · rw [if_pos h]
    exact ⟨⟨fun h => absurd h (show ¬ ((6 : Int) = 0) by decide), fun h2 => absurd h2.1 (by omega)⟩, fun h => absurd h (show ¬ ((6 : Int) = 0) by decide)⟩
  · rw [if_neg h]
    have := chkFrom_good l l.length 0 (by omega)
    rw [List.drop_zero] at this
    refine ⟨⟨fun h2 => ⟨by omega, fun k hk => this.1.1 h2 k hk (Nat.zero_le _)⟩, fun h2 => this.1.2 fun j hj _ => h2.2 j hj⟩, this.2⟩
theorem Own.ne_blk {w : World} {B s n cap g : Nat} {e e' : TypeId} {A : Option Addr} {xs : List Value} {cs : Array Value} (he : e ≠ e') (h : Own w B e s A n cap xs) (hb : Blk w g e' cs) : blockOf A cap ≠ some g := by
  intro hq
  apply he
  rcases h.2.2.2 with h0 | ⟨g1, cur, rfl, _, hk, _, _⟩
  · simp [blockOf, h0] at hq
  · unfold blockOf at hq
    split at hq
    · cases hq
    · simp at hq
      subst hq
      obtain ⟨c1, f1, q1⟩ := hk
      obtain ⟨c2, f2, q2⟩ := hb
      rw [f1] at f2
      injection f2 with q3
      injection q3
theorem Own.ne_map {w : World} {B s n cap g : Nat} {e e' : TypeId} {A : Option Addr} {xs : List Value} {m : Nat} {f : List UInt8 → Option (DataW Unit)} (h : Own w B e s A n cap xs) (hb : MapF w e' g m f) : blockOf A cap ≠ some g := by
  obtain ⟨D, ⟨es, clock, h1, _⟩, _⟩ := hb
  exact fun e => h.neObj h1 (fun _ _ _ => by simp) e.symm
/-- A table at work. -/
def WK (w : World) (B g bm : Nat) (l : List (List UInt8)) (er : Int) (A : Option Addr) (c : Nat) : Prop :=
  Blk w g 67 #[.slice A l.length c, .map (some bm), .int .i64 er] ∧ MapF w 3 bm l.length (numF l) ∧ Own w B 9 1 A l.length c (l.map strV) ∧ B ≤ bm ∧ B ≤ g ∧ bm ≠ g
theorem WK.below {w w' : World} {B g bm : Nat} {l : List (List UInt8)} {er : Int} {A : Option Addr} {c : Nat} (h : WK w B g bm l er A c) (hb : Below w.heap.size w w') : WK w' B g bm l er A c :=
  ⟨h.1.on hb, h.2.1.on hb, h.2.2.1.below hb (Nat.le_refl _), h.2.2.2⟩
set_option maxRecDepth 100000 in
theorem sClone_any (A : Option Addr) (cap D : Nat) (l : List (List UInt8)) (w : World) (hS : Sl w D 1 A l.length cap (l.map strV)) (hD : D ≤ w.heap.size) (hn : l.length ≤ 1000) :
    Calls Try.prog 56 #[.slice A l.length cap] w fun e w' => (∃ A2 cap2, e = .returned (.slice A2 l.length cap2) ∧ Own w' w.heap.size 9 1 A2 l.length cap2 (l.map strV)) ∧ Below w.heap.size w w' := by
  have qT : ∀ (w : World) (a : Option Addr) (n c n' c' : Nat), (binOp .eql 22 (.slice a n c) (.slice none n' c')).run Try.prog w = .ok (.bool a.isNone) w := fun w a n c n' c' => Lib.run_eql_slice_nil w _ _ a n c n' c' Try.underlying22
  obtain ⟨i0, hi0, hz0, hz1, hz2⟩ := info_parts infoS
  have hone := str_one l
  have hm1 : 0 + l.length ≤ maxLen := by simp only [maxLen]; omega
  have hm2 : (0 + l.length) * 16 ≤ 140737488355328 := by omega
  cases A with
  | none =>
    have hl : l = [] := by
      refine List.eq_nil_of_length_eq_zero (Nat.eq_zero_of_not_pos fun h => ?_)
      obtain ⟨b, o, e, _⟩ := hS.2.2.2 h
      cases e
    subst hl
    go_enter Try.func56, Try.ntmps56
    go_wp2_with fail
    go_ret
    exact ⟨⟨none, 0, rfl, Own.nil _ _ _ _⟩, Below.refl _ _⟩
  | some ad =>
    have hS1 := hS.alloc hD (.cells #[] 9)
    have hO := (Own.bare w w.heap.size 9 1 (some ⟨w.heap.size, 0, none⟩)).alloc (.cells #[] 9)
    have hB := Lib.hid ((Below.refl w.heap.size w).alloc (Nat.le_refl _) (.cells #[] 9))
    have hbase : w.heap.size ≤ (w.alloc (.cells #[] 9)).heap.size := hB.out.size
    clear hS
    go_enter Try.func56, Try.ntmps56
    go_wp2_with (at_builtin; refine wpList_append_o _ rfl _ _ _ rfl w.heap.size 9 i0 _ 1 16 Try.underlying22 hi0 hz0 hz1 hz2 rfl (by decide) rfl hO rfl hS1 hone hm1 hm2 hbase ?_; intro A5 cap5 W5 hown5 hg5 hat5)
    go_ret
    refine ⟨⟨A5, cap5, by rw [← Nat.zero_add l.length]; rfl, by simpa using hown5⟩, grown_below hB.out hO hg5 hbase⟩
set_option maxRecDepth 100000 in
set_option maxHeartbeats 3200000 in
theorem begun_any (A : Option Addr) (cap D : Nat) (l : List (List UInt8)) (w : World) (hS : Sl w D 1 A l.length cap (l.map strV)) (hD : D ≤ w.heap.size) (hn : l.length ≤ 1000) (hl : ∀ s ∈ l, s.length ≤ maxLen) :
    Calls Try.prog 44 #[.agg #[.slice A l.length cap]] w fun e w' => (((chkT l).1 ≠ 0 ∧ e = .returned (.tuple #[.pointer none, .int .i64 (chkT l).1])) ∨
      (goodT l ∧ ∃ g bm A2 c2, e = .returned (.tuple #[.pointer (some ⟨g, 0, none⟩), .int .i64 0]) ∧ WK w' w.heap.size g bm l 0 A2 c2)) ∧ Below w.heap.size w w' := by
  have hmm := @run_makeMap Try.prog
  have bT := Blk.new w 24 #[.slice A l.length cap]
  have hB0 := (Below.refl w.heap.size w).alloc (Nat.le_refl _) (.cells #[.slice A l.length cap] 24)
  have hz : (w.alloc (.cells #[.slice A l.length cap] 24)).heap.size = w.heap.size + 1 := by simp
  have HC := Lib.hid (fun W hS hD => iCheck_any A cap D l W hS hD hn hl)
  have HCl := Lib.hid (fun W hS hD => sClone_any A cap D l W hS hD hn)
  have hg := chk_good l
  have HS := Lib.hid hS
  have HL := Lib.hid hl
  have HH := Lib.hid (And.intro bT hB0)
  generalize chkT l = C at *
  clear hS bT hB0 hl
  by_cases hc : C.1 = 0
  · have hgood := hg.1.1 hc
    have hC := hg.2 hc
    clear hg
    subst hC
    clear hc
    have HG := Lib.hid hgood
    clear hgood
    go_enter Try.func44, Try.ntmps44
    go_wp2_with fail
    have HC1 := Lib.hid (HC.out _ (HS.out.below HH.out.2 hD) (Nat.le_trans hD HH.out.2.size))
    refine HC1.out.mono ?_
    rintro e w1 ⟨rfl, hb1⟩
    have bT1 := Blk.on HH.out.1 hb1
    have hB1 := below_on HH.out.2 hb1 (Nat.le_refl _)
    have t0 := (cells1 bT1).1
    have HCl1 := Lib.hid (HCl.out w1 (HS.out.below hB1 hD) (Nat.le_trans hD hB1.size))
    have HB1 := Lib.hid (And.intro bT1 hB1)
    clear bT1 hB1 hb1 HC HC1 HCl
    go_wp2_with fail
    refine HCl1.out.mono ?_
    rintro e w2 ⟨⟨A2, c2, rfl, o2⟩, hb2⟩
    have bT2 := Blk.on HB1.out.1 hb2
    have hB2 := below_on HB1.out.2 hb2 (Nat.le_refl _)
    have hsz := HB1.out.2.size
    have hM := (MapF.made w2 3).alloc (.cells #[.slice A2 l.length c2, .map (some w2.heap.size), .int .i64 0] 67)
    have hz3 : (w2.alloc (.map #[] 0)).heap.size = w2.heap.size + 1 := by simp
    have bW := Blk.newAt (w2.alloc (.map #[] 0)) 67 #[.slice A2 l.length c2, .map (some w2.heap.size), .int .i64 0] (g := w2.heap.size + 1) hz3.symm
    have bT3 := (bT2.alloc (.map #[] 0)).alloc (.cells #[.slice A2 l.length c2, .map (some w2.heap.size), .int .i64 0] 67)
    have hB3 := (hB2.alloc hB2.size (.map #[] 0)).alloc (by rw [hz3]; have := hB2.size; omega) (.cells #[.slice A2 l.length c2, .map (some w2.heap.size), .int .i64 0] 67)
    have o3 := (((show Own w2 w.heap.size 9 1 A2 l.length c2 (l.map strV) from ⟨o2.1, o2.2.1, o2.2.2.1, o2.2.2.2.imp id fun ⟨g, cur, h1, h2, h3⟩ => ⟨g, cur, h1, Nat.le_trans hsz h2, h3⟩⟩)).alloc (.map #[] 0)).alloc (.cells #[.slice A2 l.length c2, .map (some w2.heap.size), .int .i64 0] 67)
    obtain ⟨t0, _⟩ := cells1 bT3
    have HW := Lib.hid (And.intro hM (And.intro bW (And.intro bT3 (And.intro hB3 o3))))
    have hw2 := hB2.size
    clear bT2 hB2 o2 hM hz3 bW bT3 hB3 o3 hb2 HB1 HCl1
    go_wp2_with fail
    go_loopw [27] (fun i W => ∃ k : Nat, k ≤ l.length ∧ i = .int .i64 k ∧ MapF W 3 w2.heap.size k (numF (l.take k)) ∧ Blk W (w2.heap.size + 1) 67 #[.slice A2 l.length c2, .map (some w2.heap.size), .int .i64 0] ∧ Own W w.heap.size 9 1 A2 l.length c2 (l.map strV) ∧ Below w.heap.size w W) (fun i _ => l.length - (intOf i).toNat)
    case atStart => exact ⟨0, Nat.zero_le _, rfl, HW.out.1, HW.out.2.1, HW.out.2.2.2.2, HW.out.2.2.2.1⟩
    case round =>
      obtain ⟨k, hk, rfl, hM, bW, oO, hB⟩ := hrel
      clear t0
      by_cases hlt : k < l.length
      · obtain ⟨b, o, rfl, hb, c0⟩ := sl_str (HS.out.below hB hD) hlt
        have hni := (HG.out.2 k hlt).2
        have hsn : ∀ x, (if x = l[k] then some (.lit (.int .i64 (k : Int))) else numF (l.take k) x) = numF (l.take (k + 1)) x := fun x => by
          have h := numF_snoc hni x
          rw [List.length_take, Nat.min_eq_left hk] at h
          rw [takeSnoc l k hlt]
          exact h
        have hsl := HL.out l[k] (List.getElem_mem hlt)
        generalize l[k] = s at *
        have HSn := Lib.hid hsn
        have hkm : k < maxLen := by simp only [maxLen]; omega
        obtain ⟨u0, u1, u2, _⟩ := cells3 bW
        have hkw : (Lit.int .i64 (k : Int)).wf = true := Go.WalkArith.wf_i64 (by omega)
        clear hsn hni
        go_wp2_with (at_mapUpdate; refine wpList_putF rfl _ _ _ _ _ rfl Try.underlying65 hM hkm s hsl rfl rfl rfl (plainElem_int Try.underlying3 hkw) ?_; intro w4 hM4 hg4)
        have hB4 : Below w.heap.size w w4 := hB.grown hg4 hB.size (fun j hj => by injection hj with hj; omega)
        have bW4 := bW.grown hg4 (by simp)
        have o4 := oO.grown hg4 (.inr (oO.ne_map hM))
        go_roundw
        case rel => exact ⟨k + 1, by omega, by go_num, hM4.ext HSn.out, bW4, o4, hB4⟩
        case measure => simp [intOf]; omega
      · obtain rfl : k = l.length := by omega
        rw [List.take_length] at hM
        have HR := Lib.hid (And.intro hM (And.intro bW (And.intro oO hB)))
        clear hM bW oO hB
        go_wp2_with fail
        go_ret2
        exact ⟨.inr ⟨HG.out, w2.heap.size + 1, w2.heap.size, A2, c2, rfl, HR.out.2.1, HR.out.1, HR.out.2.2.1, by omega, by omega, by omega⟩, HR.out.2.2.2⟩
  · have hcb : (C.1 != 0) = true := bne_iff_ne.2 hc
    have HN := Lib.hid hc
    clear hg hc
    go_enter Try.func44, Try.ntmps44
    go_wp2_with fail
    have HC1 := Lib.hid (HC.out _ (HS.out.below HH.out.2 hD) (Nat.le_trans hD HH.out.2.size))
    refine HC1.out.mono ?_
    rintro e w1 ⟨rfl, hb1⟩
    have HB1 := Lib.hid (below_on HH.out.2 hb1 (Nat.le_refl _))
    clear hb1
    go_wp2_with fail
    go_ret2
    exact ⟨.inl ⟨HN.out, rfl⟩, HB1.out⟩
end Go.Proofs.Ytbobpgjgknkogaa
