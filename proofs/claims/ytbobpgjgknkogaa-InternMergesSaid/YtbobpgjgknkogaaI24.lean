/- law06: InternFinds. No condition. -/
import Derived.Test.YtbobpgjgknkogaaI23
namespace Go.Proofs.Ytbobpgjgknkogaa
open Go.RowKit Go.Maps
/-- Block g is the table with this slice, which reads as l. -/
def TA (W : World) (g : Nat) (A : Option Addr) (c : Nat) (l : List (List UInt8)) : Prop := Blk W g 24 #[.slice A l.length c] ∧ Sl W W.heap.size 1 A l.length c (l.map strV)
theorem TA.on {W W' : World} {g : Nat} {A : Option Addr} {c : Nat} {l : List (List UInt8)} (h : TA W g A c l) (hb : Below W.heap.size W W') : TA W' g A c l := ⟨h.1.on hb, h.2.on hb⟩
theorem TA.new {w : World} {A : Option Addr} {c : Nat} {l : List (List UInt8)} (h : Sl w w.heap.size 1 A l.length c (l.map strV)) : TA (w.alloc (.cells #[.slice A l.length c] 24)) w.heap.size A c l :=
  ⟨Blk.new w _ _, (h.alloc (Nat.le_refl _) _).more (by simp)⟩
theorem TA.cell {W : World} {g : Nat} {A : Option Addr} {c : Nat} {l : List (List UInt8)} (h : TA W g A c l) : W.cell? ⟨g, 0, none⟩ = some (.slice A l.length c) := h.1.cell 0
theorem TA.elem {W : World} {g bb o c k : Nat} {l : List (List UInt8)} {x : List UInt8} (h : TA W g (some ⟨bb, o, none⟩) c l) (hx : l[k]? = some x) : W.cell? ⟨bb, o + k, none⟩ = some (.string ⟨x.toArray⟩) := by
  have hk : k < l.length := (List.getElem?_eq_some_iff.1 hx).1
  obtain ⟨b, o', e, _, hc⟩ := h.2.2.2.2 (by omega)
  injection e with e
  injection e with e1 e2
  subst e1 e2
  exact hc k _ (by rw [List.getElem?_map, hx]; rfl)
theorem TA.pair {W : World} {g bb o c k : Nat} {l : List (List UInt8)} {x : List UInt8} (h : TA W g (some ⟨bb, o, none⟩) c l) (hx : l[k]? = some x) : W.cell? ⟨g, 0, none⟩ = some (.slice (some ⟨bb, o, none⟩) l.length c) ∧ W.cell? ⟨bb, o + k, none⟩ = some (.string ⟨x.toArray⟩) := ⟨h.cell, h.elem hx⟩
theorem below_ac {w w' : World} {o : Obj} (h : Below (w.drew.alloc o).heap.size (w.drew.alloc o) w') : Below w.heap.size w w' := ((Below.refl w.heap.size w).drew.alloc (Nat.le_refl _) o).trans (h.mono (by simp))
theorem idxF_get {l : List (List UInt8)} : ∀ {k : Nat} (h : k < l.length), l[k] ∉ l.take k → idxF l l[k] = some k := by
  induction l with
  | nil => intro k h; simp at h
  | cons x l ih =>
    intro k h hn
    cases k with
    | zero => simp [idxF]
    | succ k =>
      simp only [List.getElem_cons_succ, List.take_succ_cons, List.mem_cons, not_or] at hn ⊢
      unfold idxF
      rw [if_neg (fun e => hn.1 e.symm), ih (by simpa using h) hn.2]
      rfl
theorem ML.facts {l : List (List UInt8)} (h : ML l) {k : Nat} (hk : k < l.length) : findR l l[k] = (k, 0) ∧ nameR l k = (l[k], 0) ∧ internR l l[k] false = (l, k, 0) := by
  have hc := (chk_good l).1.2 h.1
  have hin : l[k] ∈ l := List.getElem_mem hk
  have hn := nm_good l[k] (h.2 _ hin)
  have hi := idxF_get hk (h.1.2 k hk).2
  unfold findR nameR internR
  rw [if_neg (by simpa using hc), if_neg (by simpa using hn), if_pos hin, if_neg (by simpa using hc), if_neg (by omega), if_neg (by simpa using hc), if_neg (by simpa using hn), if_pos hin, if_neg (by decide), hi]
  refine ⟨rfl, ?_, rfl⟩
  rw [Int.toNat_natCast, List.getD_eq_getElem?_getD, List.getElem?_eq_getElem hk]
  rfl
set_option maxRecDepth 100000 in
set_option maxHeartbeats 6400000 in
theorem InternFinds_any (A : Option Addr) (cap D : Nat) (ns : List Int) (w : World) (hS : Sl w D 1 A ns.length cap (ns.map intV)) (hD : D ≤ w.heap.size) (hn : ns.length ≤ maxLen) :
    Calls Try.prog 6 #[.slice A ns.length cap] w fun e w' => e = .returned (.bool true) ∧ Below w.heap.size w w' := by
  have HKn := Lib.hid InternKnown_any
  have HMd := Lib.hid (fun W h => made_any A cap D ns W h)
  have HS := Lib.hid hS
  clear hS
  go_enter Try.func6, Try.ntmps6
  go_wp2_with fail
  refine (HKn.out _).mono ?_
  rintro e w1 ⟨rfl, hb1⟩
  have HB1 := Lib.hid hb1
  clear hb1
  go_wp2_with fail
  refine (HMd.out w1 (HS.out.below HB1.out hD) (Nat.le_trans hD HB1.out.size) hn).mono ?_
  rintro e w2 ⟨⟨l, A2, c2, hL, rfl, s2⟩, hb2⟩
  have hT := TA.new s2
  have hB2 := below_on HB1.out hb2 (Nat.le_refl _)
  have hB3 := hB2.alloc hB2.size (.cells #[.slice A2 l.length c2] 24)
  have HT := Lib.hid (And.intro hT hB3)
  have hlen := hL.len
  have HL := Lib.hid hL
  clear hT hB2 hB3 hb2 s2 HB1 HMd HKn hL HS
  go_wp2_with fail
  go_loopw [6] (fun i W => ∃ k : Nat, k ≤ l.length ∧ i = .int .i64 k ∧ TA W w2.heap.size A2 c2 l ∧ Below w.heap.size w W) (fun i _ => l.length - (intOf i).toNat)
  case atStart => exact ⟨0, Nat.zero_le _, rfl, HT.out.1, HT.out.2⟩
  case round =>
    obtain ⟨k, hk, rfl, hT, hB⟩ := hrel
    have c0 := hT.cell
    by_cases hlt : k < l.length
    · obtain ⟨bb, o, rfl, hbb, d0⟩ := sl_str hT.2 hlt
      obtain ⟨hf, hn1, hi⟩ := HL.out.facts hlt
      have hx := HL.out.short _ (List.getElem_mem hlt)
      have HF := Lib.hid (fun W h => Find_any (some ⟨bb, o, none⟩) c2 W.heap.size l l[k] W h (Nat.le_refl _) (by omega) HL.out.short hx)
      have HN := Lib.hid (fun W h => Name_any (some ⟨bb, o, none⟩) c2 W.heap.size l k W h (Nat.le_refl _) (by omega) HL.out.short)
      have HI := Lib.hid (fun W h => Intern_any (some ⟨bb, o, none⟩) c2 W.heap.size l l[k] W h (Nat.le_refl _) (by omega) HL.out.short hx)
      rw [hf] at HF
      rw [hn1] at HN
      rw [hi] at HI
      unfold tabPost at HI
      have hget : l[k]? = some l[k] := List.getElem?_eq_getElem hlt
      generalize l[k] = x at *
      have HG := Lib.hid hget
      have HH := Lib.hid (And.intro hT hB)
      clear hf hn1 hi hx hT hB HT hget
      go_wp2_with fail
      go_region_held3 (fun W => W.cell? ⟨w2.heap.size, 0, none⟩ = some (.slice (some ⟨bb, o, none⟩) l.length c2) ∧ W.cell? ⟨bb, o + k, none⟩ = some (.string ⟨x.toArray⟩))
        (first
          | exact ⟨c0, d0⟩
          | exact k3)
        (first
          | (go_at_call 21; refine (HF.out _ (HH.out.1.on ((Below.refl _ _).drew)).2).mono ?_; rintro e w3 ⟨rfl, hb3⟩; have hT3 := (HH.out.1.on ((Below.refl _ _).drew)).on hb3; have k3 := hT3.pair HG.out))
      have hB3 := below_on HH.out.2.drew hb3 (Nat.le_refl _)
      have HH3 := Lib.hid (And.intro hT3 hB3)
      obtain ⟨c3, d3⟩ := k3
      clear hT3 hB3 hb3 HH HF c0 d0
      go_wp2_with fail
      refine (HN.out _ HH3.out.1.2).mono ?_
      rintro e w4 ⟨rfl, hb4⟩
      have hT4 := HH3.out.1.on hb4
      have hB4 := below_on HH3.out.2 hb4 (Nat.le_refl _)
      obtain ⟨c4, d4⟩ := hT4.pair HG.out
      have HH4 := Lib.hid (And.intro hT4 hB4)
      clear hT4 hB4 hb4 HH3 HN c3 d3
      have hTa := (HH4.out.1.on ((Below.refl _ _).drew)).on ((Below.refl _ _).alloc (Nat.le_refl _) (.cells #[.slice none 0 0] 24))
      have ka := hTa.pair HG.out
      have HTa := Lib.hid hTa
      clear hTa
      go_wp2_with fail
      go_region_held3 (fun W => W.cell? ⟨w2.heap.size, 0, none⟩ = some (.slice (some ⟨bb, o, none⟩) l.length c2) ∧ W.cell? ⟨bb, o + k, none⟩ = some (.string ⟨x.toArray⟩))
        (first
          | exact ⟨c4, d4⟩
          | exact ka
          | exact k5
          | exact k6
          | exact k7
          | exact k8)
        (first
          | (go_at_call 17; refine (HI.out _ HTa.out.2).mono ?_; rintro e w5 ⟨⟨A5, c5, rfl, s5⟩, hb5⟩; have k5 := (HTa.out.on hb5).pair HG.out; have k6 := (HH4.out.1.on ((below_ac hb5).setCell (p := ⟨w4.heap.size, 0, none⟩) (Nat.le_refl _) (.slice A5 l.length c5))).pair HG.out; have b5 := (Blk.new w4.drew 24 #[.slice none 0 0]).on hb5; have f5 : w5.frozen? ⟨w4.heap.size, 0, none⟩ = false := (cells1 b5).2; have q5 : w5.cell? ⟨w4.heap.size, 0, none⟩ = some (.slice none 0 0) := (cells1 b5).1)
          | (go_at_call 17; refine (HI.out _ (HH4.out.1.on ((Below.refl _ _).drew)).2).mono ?_; rintro e w5 ⟨⟨A5, c5, rfl, s5⟩, hb5⟩; have hT5 := (HH4.out.1.on ((Below.refl _ _).drew)).on hb5; have k5 := hT5.pair HG.out; have k6 := (hT5.on ((Below.refl _ _).alloc (Nat.le_refl _) (.cells #[.slice none 0 0] 24))).pair HG.out; have k7 := (hT5.on ((Below.refl _ _).alloc (Nat.le_refl _) (.cells #[.slice A5 l.length c5] 24))).pair HG.out; have k8 := (hT5.on (((Below.refl _ _).alloc (Nat.le_refl _) (.cells #[.slice none 0 0] 24)).setCell (p := ⟨w5.heap.size, 0, none⟩) (Nat.le_refl _) (.slice A5 l.length c5))).pair HG.out))
      · have hT6 := TA.new s5
        have hT7 := hT5.on ((Below.refl _ _).alloc (Nat.le_refl _) (.cells #[.slice A5 l.length c5] 24))
        have hB5 := below_on HH4.out.2.drew hb5 (Nat.le_refl _)
        have hB6 := hB5.alloc hB5.size (.cells #[.slice A5 l.length c5] 24)
        clear hT5 k5 k6 k7 k8 ka c4 d4 hB5 hb5 s5
        generalize hW6 : w5.alloc (.cells #[.slice A5 l.length c5] 24) = W6 at *
        clear hW6
        generalize w5.heap.size = g11 at *
        have HE := Lib.hid (equal_any A5 (some ⟨bb, o, none⟩) c5 c2 W6.heap.size l l W6 hT6.2 hT7.2 (Nat.le_refl _) (by omega) (by omega))
        rw [decide_eq_true (rfl : l = l)] at HE
        have c6 := hT6.cell
        obtain ⟨c7, d7⟩ := hT7.pair HG.out
        have HH7 := Lib.hid (And.intro hT7 hB6)
        clear hT6 hT7 hB6 HTa HI HH4
        go_wp2_with fail
        refine HE.out.mono ?_
        rintro e w8 ⟨rfl, hb8⟩
        have hT8 := HH7.out.1.on hb8
        have hB8 := below_on HH7.out.2 hb8 (Nat.le_refl _)
        have HH8 := Lib.hid (And.intro hT8 hB8)
        clear hT8 hB8 hb8 HH7 HE
        go_wp2_with fail
        go_roundw
        case rel => exact ⟨k + 1, by omega, by go_num, HH8.out.1, HH8.out.2⟩
        case measure => simp [intOf]; omega
      · have s6 := s5.farT b5 (fun i b e => by cases i <;> simp at e) 0 (.slice A5 l.length c5)
        have hT6 : TA (w5.setCell ⟨w4.heap.size, 0, none⟩ (.slice A5 l.length c5)) w4.heap.size A5 c5 l := ⟨b5.set 0 _, by rw [World.size_setCell]; exact s6⟩
        have hT7 := HH4.out.1.on ((below_ac hb5).setCell (p := ⟨w4.heap.size, 0, none⟩) (Nat.le_refl _) (.slice A5 l.length c5))
        have hB6 := below_on HH4.out.2 ((below_ac hb5).setCell (p := ⟨w4.heap.size, 0, none⟩) (Nat.le_refl _) (.slice A5 l.length c5)) (Nat.le_refl _)
        clear b5 f5 q5 k5 k6 ka c4 d4 hb5 s5 s6
        generalize hW6 : w5.setCell ⟨w4.heap.size, 0, none⟩ (.slice A5 l.length c5) = W6 at *
        clear hW6
        generalize w4.heap.size = g11 at *
        have HE := Lib.hid (equal_any A5 (some ⟨bb, o, none⟩) c5 c2 W6.heap.size l l W6 hT6.2 hT7.2 (Nat.le_refl _) (by omega) (by omega))
        rw [decide_eq_true (rfl : l = l)] at HE
        have c6 := hT6.cell
        obtain ⟨c7, d7⟩ := hT7.pair HG.out
        have HH7 := Lib.hid (And.intro hT7 hB6)
        clear hT6 hT7 hB6 HTa HI HH4
        go_wp2_with fail
        refine HE.out.mono ?_
        rintro e w8 ⟨rfl, hb8⟩
        have hT8 := HH7.out.1.on hb8
        have hB8 := below_on HH7.out.2 hb8 (Nat.le_refl _)
        have HH8 := Lib.hid (And.intro hT8 hB8)
        clear hT8 hB8 hb8 HH7 HE
        go_wp2_with fail
        go_roundw
        case rel => exact ⟨k + 1, by omega, by go_num, HH8.out.1, HH8.out.2⟩
        case measure => simp [intOf]; omega
    · obtain rfl : k = l.length := by omega
      have HB := Lib.hid hB
      clear hB hT HT
      go_wp2_with fail
      go_ret
      exact ⟨rfl, HB.out⟩
end Go.Proofs.Ytbobpgjgknkogaa
