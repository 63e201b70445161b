/- law06: InternKeeps. No condition. -/
import Derived.Test.YtbobpgjgknkogaaI27
import Derived.Deep.CutRange
namespace Go.Proofs.Ytbobpgjgknkogaa
open Go.RowKit Go.Maps
theorem ints_snoc (ws : List Nat) (k : Nat) : (ints ws).map intV ++ [Value.int .i64 (k : Int)] = (ints (ws ++ [k])).map intV := by simp [ints, intV]
theorem ints_drop (ws : List Nat) (p : Nat) : ((ints ws).map intV).drop p = (ints (ws.drop p)).map intV := by simp [ints, List.map_drop]
theorem ints_take (ws : List Nat) (p : Nat) : ((ints ws).map intV).take p = (ints (ws.take p)).map intV := by simp [ints, List.map_take]
theorem ints_append (a b : List Nat) : (ints (a ++ b)).map intV = (ints a).map intV ++ (ints b).map intV := by simp [ints]
theorem apart_of {b b' : Option Nat} (h : ∀ g, b = some g → b' ≠ some g) : b' = none ∨ b' ≠ b := by
  cases b' with
  | none => exact .inl rfl
  | some g => exact .inr fun e => h g e.symm rfl
theorem dis1 {b6 b7 b8 : Option Nat} {n : Nat} (hd : ∀ g, b6 = some g → b7 ≠ some g) (h7 : ∀ g, b7 = some g → g < n) (hat : b8 = b6 ∨ b8 = some (n + 1)) : ∀ g, b8 = some g → b7 ≠ some g := by
  intro g e e7
  rcases hat with h | h
  · exact hd g (h ▸ e) e7
  · rw [h] at e
    injection e with e
    have := h7 g e7
    omega
theorem dis2 {b7 b8 b9 : Option Nat} {n : Nat} (hd : ∀ g, b8 = some g → b7 ≠ some g) (h8 : ∀ g, b8 = some g → g < n) (hat : b9 = b7 ∨ b9 = some (n + 1)) : ∀ g, b8 = some g → b9 ≠ some g := by
  intro g e e9
  rcases hat with h | h
  · exact hd g e (h ▸ e9)
  · rw [h] at e9
    injection e9 with e9
    have := h8 g e
    omega
theorem Own.somes {w : World} {B s n cap : Nat} {e : TypeId} {A : Option Addr} {xs : List Value} (h : Own w B e s A n cap xs) (h0 : 0 < cap) : ∃ g, A = some ⟨g, 0, none⟩ ∧ B ≤ g ∧ g < w.heap.size := by
  rcases h.2.2.2 with h1 | ⟨g, cur, rfl, hB, hb, _, _⟩
  · omega
  · exact ⟨g, rfl, hB, hb.lt⟩
theorem Keep_ML (A Aw : Option Addr) (cap capw n : Nat) (l R : List (List UInt8)) (ws : List Nat) (hl : ML l) (hw : ∀ k ∈ ws, k < l.length) (hnd : ws.Nodup) (hR : pickL l ws = R) (hn : ws.length = n) (W : World) (h1 : Sl W W.heap.size 1 A l.length cap (l.map strV)) (h2 : Sl W W.heap.size 1 Aw n capw ((ints ws).map intV)) :
    Calls Try.prog 29 #[.agg #[.slice A l.length cap], .slice Aw n capw] W fun e w' => (∃ A2 c2, e = .returned (.tuple #[.agg #[.slice A2 R.length c2], .int .i64 0]) ∧ Sl w' w'.heap.size 1 A2 R.length c2 (R.map strV)) ∧ Below W.heap.size W w' := by
  have hlen : ws.length ≤ 20 := by
    have h := (pick_ML hl hw hnd).len
    rw [pickL_len] at h
    exact h
  have h := Keep_any A Aw cap capw W.heap.size l (ints ws) W h1 (by rw [ints_len, hn]; exact h2) (Nat.le_refl _) (by have := hl.len; omega) (by rw [ints_len]; omega) hl.short
  rw [keep_ok hl hw hnd, hR, ints_len, hn] at h
  unfold tab2Post at h
  exact h
theorem equal_same (A1 A2 : Option Addr) (c1 c2 : Nat) (l : List (List UInt8)) (hl : l.length ≤ 1000) (W : World) (h1 : Sl W W.heap.size 1 A1 l.length c1 (l.map strV)) (h2 : Sl W W.heap.size 1 A2 l.length c2 (l.map strV)) :
    Calls Try.prog 16 #[.agg #[.slice A1 l.length c1], .agg #[.slice A2 l.length c2]] W fun e w' => e = .returned (.bool true) ∧ Below W.heap.size W w' := by
  have h := equal_any A1 A2 c1 c2 W.heap.size l l W h1 h2 (Nat.le_refl _) (by omega) (by omega)
  rw [decide_eq_true (rfl : l = l)] at h
  exact h
set_option maxRecDepth 100000 in
set_option maxHeartbeats 12800000 in
theorem InternKeeps_any (A : Option Addr) (cap D : Nat) (ns : List Int) (at_ : Int) (w : World) (hS : Sl w D 1 A ns.length cap (ns.map intV)) (hD : D ≤ w.heap.size) (hn : ns.length ≤ maxLen) :
    Calls Try.prog 8 #[.slice A ns.length cap, .int .i64 at_] w fun e w' => e = .returned (.bool true) ∧ Below w.heap.size w w' := by
  obtain ⟨i0, hi0, hz0, hz1, hz2⟩ := info_parts infoI
  have HKn := Lib.hid InternKnown_any
  have HMd := Lib.hid (fun W h => made_any A cap D ns W h)
  have HS := Lib.hid hS
  clear hS
  go_enter Try.func8, Try.ntmps8
  go_wp2_with fail
  refine (HKn.out _).mono ?_
  rintro e w1 ⟨rfl, hb1⟩
  have HB1 := Lib.hid hb1
  clear hb1
  go_wp2_with fail
  refine (HMd.out w1 (HS.out.below HB1.out hD) (Nat.le_trans hD HB1.out.size) hn).mono ?_
  rintro e w2 ⟨⟨l, A2, c2, hL, rfl, s2⟩, hb2⟩
  have hT := TA.new s2
  have hB2 := below_on HB1.out hb2 (Nat.le_refl _)
  have hB3 := hB2.alloc hB2.size (.cells #[.slice A2 l.length c2] 24)
  have HT := Lib.hid (And.intro hT hB3)
  have hlen := hL.len
  have HL := Lib.hid hL
  have c0 := hT.cell
  have hgb : w2.heap.size < (w2.alloc (.cells #[.slice A2 l.length c2] 24)).heap.size := by simp
  clear hT hB2 hB3 hb2 s2 HB1 HMd HKn hL HS
  go_wp2_with fail
  generalize hv : w2.alloc (.cells #[.slice A2 l.length c2] 24) = v at *
  generalize w2.heap.size = gT at *
  clear hv c0
  go_loopw [9, 13] (fun all i W => ∃ (k : Nat) (A3 : Option Addr) (c3 : Nat), k ≤ l.length ∧ i = .int .i64 k ∧ all = .slice A3 k c3 ∧ Own W v.heap.size 3 1 A3 k c3 ((ints (List.range k)).map intV) ∧ Below v.heap.size v W) (fun _ i _ => l.length - (intOf i).toNat)
  case atStart => exact ⟨0, none, 0, Nat.zero_le _, rfl, rfl, Own.nil _ _ _ _, Below.refl _ _⟩
  case round =>
    obtain ⟨k, A3, c3, hk, rfl, rfl, hO, hB⟩ := hrel
    by_cases hlt : k < l.length
    · have hsn := ints_snoc (List.range k) k
      rw [← List.range_succ] at hsn
      have HSN := Lib.hid hsn
      clear hsn
      have hm1 : k + 1 ≤ maxLen := by simp only [maxLen]; omega
      have hm2 : (k + 1) * 8 ≤ 140737488355328 := by omega
      go_wp2_with (at_builtin; refine wpList_append_new rfl _ _ _ rfl v.heap.size 3 i0 _ 1 8 Try.underlying41 hi0 hz0 hz1 hz2 rfl (by decide) rfl hO #[.int .i64 k] rfl rfl (by simp [Value.oneCell']) hm1 hm2 hB.size ?_; intro A6 c6 w5 o6 hg6 hat6)
      have hB6 := grown_below hB hO hg6 hB.size
      have o7 : Own w5 v.heap.size 3 1 A6 (k + 1) c6 ((ints (List.range (k + 1))).map intV) := by rw [← HSN.out]; exact o6
      have HH := Lib.hid (And.intro o7 hB6)
      clear o6 o7 hB6 hg6 hat6 hO hB
      go_wp2_with fail
      go_roundw
      case rel => exact ⟨k + 1, A6, c6, by omega, by go_num, rfl, HH.out.1, HH.out.2⟩
      case measure => simp [intOf]; omega
    · obtain rfl : k = l.length := by omega
      have HM := Lib.hid (fun W => Mod_any at_ ((l.length : Int) + 1) W (by omega) (by omega))
      obtain ⟨p, hp⟩ : ∃ p : Nat, at_ % ((l.length : Int) + 1) = (p : Int) := ⟨(at_ % ((l.length : Int) + 1)).toNat, by have := Int.emod_nonneg at_ (show (l.length : Int) + 1 ≠ 0 by omega); omega⟩
      have hpl : p ≤ l.length := by have := Int.emod_lt_of_pos at_ (show (0 : Int) < (l.length : Int) + 1 by omega); omega
      rw [hp] at HM
      have HW := Lib.hid (And.intro (HT.out.1.on hB) (below_on HT.out.2 hB (Nat.le_refl _)))
      have HO := Lib.hid hO
      have hvw := hB.size
      clear hp hB hO HT
      go_wp2_with fail
      refine (HM.out _).mono ?_
      rintro e w3 ⟨rfl, rfl⟩
      clear HM
      go_upto_region 12 with fail
      go_cut [10] from 23 to 55 (fun s10 wx => ∃ A5 c5, s10 = .slice A5 l.length c5 ∧ Own wx wr.heap.size 3 1 A5 l.length c5 ((ints (turn l.length p)).map intV) ∧ Below wr.heap.size wr wx)
      case first =>
        have hone : ∀ u ∈ (ints (List.range l.length)).map intV, u.oneCell' = true := intV_one _
        have hON := (((Own.bare wr wr.heap.size 3 1 (some ⟨wr.heap.size, 0, none⟩)).alloc (.cells #[] 3))).drew
        have hBN := ((Below.refl wr.heap.size wr).alloc (Nat.le_refl _) (.cells #[] 3)).drew
        have hsz : wr.heap.size ≤ (wr.alloc (.cells #[] 3)).drew.heap.size := hBN.size
        have hm1 : 0 + (l.length - p) ≤ maxLen := by simp only [maxLen]; omega
        have hm2 : (0 + (l.length - p)) * 8 ≤ 140737488355328 := by omega
        have hm3 : l.length - p + p ≤ maxLen := by simp only [maxLen]; omega
        have hm4 : (l.length - p + p) * 8 ≤ 140737488355328 := by omega
        have hnp : l.length - p + p = l.length := by omega
        have hcap := HO.out.2.1
        have hpc : p ≤ c3 := by omega
        have hpc2 : (p : Int) ≤ c3 := by omega
        have hpl2 : (p : Int) ≤ l.length := by omega
        have htk := HO.out.sl.take hpl
        rw [Nat.mul_one, ints_take] at htk
        have hdr := HO.out.sl.cut hpl
        rw [Nat.mul_one, ints_drop] at hdr
        have hone1 := intV_one (ints ((List.range l.length).drop p))
        have hone2 := intV_one (ints ((List.range l.length).take p))
        have HTk := Lib.hid htk
        by_cases hcp : c3 = p
        · have hpe : p = l.length := by omega
          have hsl := Sl.empty (wr.alloc (.cells #[] 3)).drew wr.heap.size 1 A3 (cap := 0) (Nat.zero_le _)
          have hone0 : ∀ u ∈ ([] : List Value), u.oneCell' = true := fun u hu => by cases hu
          have hT0 : Sl wr wr.heap.size 1 A3 l.length l.length ((ints (List.range l.length)).map intV) := by
            have h := HO.out.sl
            rw [hcp, hpe] at h
            exact h
          have HT0 := Lib.hid hT0
          have ht0 : turn l.length p = List.range l.length := by
            unfold turn
            rw [hpe, List.drop_of_length_le (by simp), List.take_of_length_le (by simp)]
            rfl
          have HTN := Lib.hid ht0
          rw [hpe] at hcp
          subst hcp
          subst hpe
          have hl0 : 0 + l.length ≤ maxLen := by simp only [maxLen]; omega
          have hl1 : (0 + l.length) * 8 ≤ 140737488355328 := by omega
          clear hdr htk hT0 ht0 HTk hone1 hone2 hm1 hm2 hm3 hm4 hnp
          go_wp2_with fail
          go_region_law (first
            | (refine step_append_o _ (by rfl) (.tmp 47) (.tmp 50) 41 (by rfl) wr.heap.size 3 i0 _ 1 8 Try.underlying41 hi0 hz0 hz1 hz2 rfl (by decide) (by rfl) hON (by rfl) hsl hone0 (by decide) (by decide) hsz ?_; intro A4 c4 W4 o4 hg4 hat4; have o5 : Own W4 wr.heap.size 3 1 A4 0 c4 [] := o4; have hB4 := grown_below hBN hON hg4 hsz)
            | (refine step_append_o _ (by rfl) (.tmp 51) (.tmp 54) 41 (by rfl) wr.heap.size 3 i0 _ 1 8 Try.underlying41 hi0 hz0 hz1 hz2 rfl (by decide) (by rfl) o5 (by rfl) (HT0.out.below hB4 (Nat.le_refl _)) hone hl0 hl1 hB4.size ?_; intro A5 c5 W5 o6 hg6 hat6; have hB5 := grown_below hB4 o5 hg6 hB4.size))
          have o7 : Own W5 wr.heap.size 3 1 A5 l.length c5 ((ints (turn l.length l.length)).map intV) := by
            rw [Nat.zero_add, List.nil_append] at o6
            rw [HTN.out]
            exact o6
          have HR := Lib.hid (And.intro o7 hB5)
          clear o4 o5 o6 o7 hB4 hB5 hsl hg4 hg6 hat4 hat6 hON hBN
          go_wp2_with fail
          go_meet
          case rel => exact ⟨A5, c5, rfl, HR.out.1, HR.out.2⟩
        · obtain ⟨g, rfl, hg1, hg2⟩ := HO.out.somes (by omega)
          rw [if_neg hcp] at hdr
          have hdr2 : Sl wr wr.heap.size 1 (some ⟨g, p, none⟩) (l.length - p) (c3 - p) ((ints ((List.range l.length).drop p)).map intV) := by
            by_cases hp0 : p = 0
            · simpa [Addr.add, hp0] using hdr
            · simpa [Addr.add, hp0] using hdr
          have hsl := hdr2.below hBN (Nat.le_refl _)
          have HDr := Lib.hid hdr2
          clear hdr hdr2 htk
          go_wp2_with fail
          go_region_law (first
            | (refine step_append_o _ (by rfl) (.tmp 47) (.tmp 50) 41 (by rfl) wr.heap.size 3 i0 _ 1 8 Try.underlying41 hi0 hz0 hz1 hz2 rfl (by decide) (by rfl) hON (by rfl) hsl hone1 hm1 hm2 hsz ?_; intro A4 c4 W4 o4 hg4 hat4; have o5 := o4; rw [Nat.zero_add] at o5; have hB4 := grown_below hBN hON hg4 hsz)
            | (refine step_append_o _ (by rfl) (.tmp 51) (.tmp 54) 41 (by rfl) wr.heap.size 3 i0 _ 1 8 Try.underlying41 hi0 hz0 hz1 hz2 rfl (by decide) (by rfl) o5 (by rfl) (HTk.out.below hB4 (Nat.le_refl _)) hone2 hm3 hm4 hB4.size ?_; intro A5 c5 W5 o6 hg6 hat6; have hB5 := grown_below hB4 o5 hg6 hB4.size))
          have o7 : Own W5 wr.heap.size 3 1 A5 l.length c5 ((ints (turn l.length p)).map intV) := by
            rw [hnp] at o6
            rw [turn, ints_append]
            exact o6
          have HR := Lib.hid (And.intro o7 hB5)
          clear o4 o5 o6 o7 hB4 hB5 hsl hg4 hg6 hat4 hat6 hON hBN
          go_wp2_with fail
          go_meet
          case rel => exact ⟨A5, c5, rfl, HR.out.1, HR.out.2⟩
      case rest =>
      obtain ⟨A5, c5, rfl, hO5, hB5⟩ := hcut
      have hTw := HW.out.1.on hB5
      have hBw := below_on HW.out.2 hB5 (Nat.le_refl _)
      have hAll : Sl wc wc.heap.size 1 A3 l.length c3 ((ints (List.range l.length)).map intV) := (HO.out.sl.below hB5 (Nat.le_refl _)).more hB5.size
      have hTn := hO5.sl
      have HF := Lib.hid (And.intro hTw (And.intro hBw (And.intro hAll hTn)))
      clear hTw hBw hAll hTn hO5 hB5 HW HO
      have htl := turn_len l.length p
      have HTN := Lib.hid (And.intro htl (And.intro (turn_lt l.length p) (And.intro (turn_nodup l.length p) (And.intro (pick_range l) (turn_same HL.out hpl)))))
      clear htl
      generalize turn l.length p = tn at *
      go_wp2_with fail
      go_loopw [11, 12, 14] (fun some_ both_ i W => ∃ (m k : Nat) (A6 : Option Addr) (c6 : Nat) (A7 : Option Addr) (c7 : Nat), Hid (m = 2 * k) ∧ m ≤ l.length + 1 ∧ i = .int .i64 m ∧ some_ = .slice A6 k c6 ∧ both_ = .slice A7 k c7 ∧ Own W wc.heap.size 3 1 A6 k c6 ((ints (evens k)).map intV) ∧ Own W wc.heap.size 3 1 A7 k c7 ((ints (both tn k)).map intV) ∧ (∀ g, blockOf A6 c6 = some g → blockOf A7 c7 ≠ some g) ∧ Below wc.heap.size wc W) (fun _ _ i _ => l.length + 2 - (intOf i).toNat)
      case atStart => exact ⟨0, 0, none, 0, none, 0, Lib.hid rfl, Nat.zero_le _, rfl, rfl, rfl, Own.nil _ _ _ _, Own.nil _ _ _ _, fun g h => by simp [blockOf] at h, Below.refl _ _⟩
      case round =>
        obtain ⟨m, k, A6, c6, A7, c7, hmk, hm, rfl, rfl, rfl, hO6, hO7, hdis, hB⟩ := hrel
        by_cases hlt : m < l.length
        · have hmt : m < tn.length := by have := HTN.out.1; omega
          have hlti : m < (ints tn).length := by rw [ints_len]; exact hmt
          have hTn : Sl wc wc.heap.size 1 A5 (ints tn).length c5 ((ints tn).map intV) := by rw [ints_len, HTN.out.1]; exact HF.out.2.2.2
          obtain ⟨bt, ot, rfl, hbt, dc⟩ := sl_int hTn hlti
          have hx : (ints tn)[m] = ((tn.getD m 0 : Nat) : Int) := by rw [getDN hmt]; simp [ints]
          rw [hx] at dc
          have hev := ints_snoc (evens k) m
          rw [hmk.out, ← evens_succ] at hev
          have hbo := ints_snoc (both tn k) (tn.getD m 0)
          rw [hmk.out, ← both_succ] at hbo
          rw [← hmk.out] at hev hbo
          generalize tn.getD m 0 = x at *
          have HEV := Lib.hid hev
          have HBO := Lib.hid hbo
          have d0 := (hB.cell (p := ⟨bt, ot + m, none⟩) hbt).trans dc
          have hm1 : k + 1 ≤ maxLen := by have := hmk.out; simp only [maxLen]; omega
          have hm2 : (k + 1) * 8 ≤ 140737488355328 := by have := hmk.out; omega
          have HDc := Lib.hid dc
          have HDis := Lib.hid hdis
          clear hTn hx hev hbo dc hdis
          go_wp2_with (at_builtin; first
            | (refine wpList_append_new rfl _ _ _ rfl wc.heap.size 3 i0 _ 1 8 Try.underlying41 hi0 hz0 hz1 hz2 rfl (by decide) rfl hO6 #[.int .i64 m] rfl rfl (by simp [Value.oneCell']) hm1 hm2 hB.size ?_; intro A8 c8 w5 o8 hg8 hat8; have hB5 := grown_below hB hO6 hg8 hB.size; have o7 := hO7.grown hg8 (apart_of HDis.out); have d5 := (hB5.cell (p := ⟨bt, ot + m, none⟩) hbt).trans HDc.out)
            | (refine wpList_append_new rfl _ _ _ rfl wc.heap.size 3 i0 _ 1 8 Try.underlying41 hi0 hz0 hz1 hz2 rfl (by decide) rfl o7 #[.int .i64 x] rfl rfl (by simp [Value.oneCell']) hm1 hm2 hB5.size ?_; intro A9 c9 w6 o9 hg9 hat9; have hB6 := grown_below hB5 o7 hg9 hB5.size))
          have e1 := dis1 HDis.out (fun g h => (hO7.lt h).2) hat8
          have e2 := dis2 e1 (fun g h => (o8.lt h).2) hat9
          have o10 := o8.grown hg9 (apart_of (fun g h h8 => e1 g h8 h))
          have o11 : Own w6 wc.heap.size 3 1 A8 (k + 1) c8 ((ints (evens (k + 1))).map intV) := by rw [← HEV.out]; exact o10
          have o12 : Own w6 wc.heap.size 3 1 A9 (k + 1) c9 ((ints (both tn (k + 1))).map intV) := by rw [← HBO.out]; exact o9
          have HR := Lib.hid (And.intro o11 (And.intro o12 (And.intro e2 hB6)))
          have hmk2 : Hid (m + 2 = 2 * (k + 1)) := Lib.hid (by have := hmk.out; omega)
          clear e1 e2 o10 o11 o12 o8 o9 o7 hB5 hB6 hg8 hg9 hat8 hat9 hO6 hO7 hB d0 d5
          go_roundw
          case rel => exact ⟨m + 2, k + 1, A8, c8, A9, c9, hmk2, by omega, by go_num, rfl, rfl, HR.out.1, HR.out.2.1, HR.out.2.2.1, HR.out.2.2.2⟩
          case measure => simp [intOf]; omega
        · have hB' := HF.out.2.1
          have HC := Lib.hid (And.intro (HF.out.1.on hB) (And.intro (below_on hB' hB (Nat.le_refl _)) (And.intro (HF.out.2.2.1.on hB) (And.intro (HF.out.2.2.2.on hB) (And.intro hO6.sl hO7.sl)))))
          have hmm := hmk.out
          have hk2 : 2 * k ≤ tn.length + 1 := by have := HTN.out.1; omega
          clear hB hB' hO6 hO7 hdis HF hmm hmk
          have HT := Lib.hid HC.out.1
          have HB := Lib.hid HC.out.2.1
          have HS1 := Lib.hid HC.out.2.2.1
          have HS2 := Lib.hid HC.out.2.2.2.1
          have HS3 := Lib.hid HC.out.2.2.2.2.1
          have HS4 := Lib.hid HC.out.2.2.2.2.2
          clear HC
          have hl := HL.out
          obtain ⟨htl, htlt, htnd, hpr, hts⟩ := HTN.out
          have hbM := pick_ML hl htlt htnd
          have hbl := pickL_len l tn
          have hpb := pick_both (l := l) hk2
          have K1 := Lib.hid (fun A Aw c cw W h1 h2 => Keep_ML A Aw c cw l.length l l (List.range l.length) hl (fun k hk => List.mem_range.1 hk) List.nodup_range hpr (by simp) W h1 h2)
          have K2 := Lib.hid (fun A Aw c cw W h1 h2 => Keep_ML A Aw c cw l.length l (pickL l tn) tn hl htlt htnd rfl htl W h1 h2)
          have K3 := Lib.hid (fun A Aw c cw W h1 h2 => Keep_ML A Aw c cw k (pickL l tn) _ (evens k) hbM (fun i hi => by rw [hbl]; exact evens_lt hk2 i hi) (evens_nodup k) hpb (by simp [evens]) W h1 h2)
          have K4 := Lib.hid (fun A Aw c cw W h1 h2 => Keep_ML A Aw c cw k l (pickL l (both tn k)) (both tn k) hl (both_lt htlt hk2) (both_nodup htnd hk2) rfl (by simp [both, evens]) W h1 h2)
          have hcl : (pickL l (both tn k)).length ≤ 1000 := by have := (pick_ML hl (both_lt htlt hk2) (both_nodup htnd hk2)).len; omega
          have hb1 : (pickL l tn).length ≤ 1000 := by have := hbM.len; omega
          have hl1 : l.length ≤ 1000 := by omega
          generalize pickL l (both tn k) = cL at *
          have HQ := Lib.hid hts
          generalize pickL l tn = b at *
          clear hl htl htlt htnd hpr hts hbM hbl hpb HTN HL
          have qHT := HT.out.cell
          go_wp2_with fail
          clear qHT
          have Q := Lib.hid (K1.out _ _ _ _ _ HT.out.2 HS1.out)
          refine Q.out.mono ?_
          rintro e w11 ⟨⟨Aa, ca, rfl, sa⟩, hb11⟩
          clear Q
          have HTn := Lib.hid (HT.out.on hb11)
          clear HT
          have HT := HTn
          clear HTn
          have HS1n := Lib.hid (HS1.out.on hb11)
          clear HS1
          have HS1 := HS1n
          clear HS1n
          have HS2n := Lib.hid (HS2.out.on hb11)
          clear HS2
          have HS2 := HS2n
          clear HS2n
          have HS3n := Lib.hid (HS3.out.on hb11)
          clear HS3
          have HS3 := HS3n
          clear HS3n
          have HS4n := Lib.hid (HS4.out.on hb11)
          clear HS4
          have HS4 := HS4n
          clear HS4n
          have HBn := Lib.hid (below_on HB.out hb11 (Nat.le_refl _))
          clear HB
          have HB := HBn
          clear HBn
          clear hb11
          have hbt := (Below.refl w11.heap.size w11).alloc (Nat.le_refl _) (.cells #[.slice Aa l.length ca] 24)
          have HTn := Lib.hid (HT.out.on hbt)
          clear HT
          have HT := HTn
          clear HTn
          have HS1n := Lib.hid (HS1.out.on hbt)
          clear HS1
          have HS1 := HS1n
          clear HS1n
          have HS2n := Lib.hid (HS2.out.on hbt)
          clear HS2
          have HS2 := HS2n
          clear HS2n
          have HS3n := Lib.hid (HS3.out.on hbt)
          clear HS3
          have HS3 := HS3n
          clear HS3n
          have HS4n := Lib.hid (HS4.out.on hbt)
          clear HS4
          have HS4 := HS4n
          clear HS4n
          have HBn := Lib.hid (below_on HB.out hbt (Nat.le_refl _))
          clear HB
          have HB := HBn
          clear HBn
          clear hbt
          have HA := Lib.hid (TA.new sa)
          clear sa
          have qHT := HT.out.cell
          go_wp2_with fail
          clear qHT
          have Q := Lib.hid (K2.out _ _ _ _ _ HT.out.2 HS2.out)
          refine Q.out.mono ?_
          rintro e w12 ⟨⟨Ab, cb, rfl, sb⟩, hb12⟩
          clear Q
          have HTn := Lib.hid (HT.out.on hb12)
          clear HT
          have HT := HTn
          clear HTn
          have HS1n := Lib.hid (HS1.out.on hb12)
          clear HS1
          have HS1 := HS1n
          clear HS1n
          have HS2n := Lib.hid (HS2.out.on hb12)
          clear HS2
          have HS2 := HS2n
          clear HS2n
          have HS3n := Lib.hid (HS3.out.on hb12)
          clear HS3
          have HS3 := HS3n
          clear HS3n
          have HS4n := Lib.hid (HS4.out.on hb12)
          clear HS4
          have HS4 := HS4n
          clear HS4n
          have HAn := Lib.hid (HA.out.on hb12)
          clear HA
          have HA := HAn
          clear HAn
          have HBn := Lib.hid (below_on HB.out hb12 (Nat.le_refl _))
          clear HB
          have HB := HBn
          clear HBn
          clear hb12
          have hbt := (Below.refl w12.heap.size w12).alloc (Nat.le_refl _) (.cells #[.slice Ab b.length cb] 24)
          have HTn := Lib.hid (HT.out.on hbt)
          clear HT
          have HT := HTn
          clear HTn
          have HS1n := Lib.hid (HS1.out.on hbt)
          clear HS1
          have HS1 := HS1n
          clear HS1n
          have HS2n := Lib.hid (HS2.out.on hbt)
          clear HS2
          have HS2 := HS2n
          clear HS2n
          have HS3n := Lib.hid (HS3.out.on hbt)
          clear HS3
          have HS3 := HS3n
          clear HS3n
          have HS4n := Lib.hid (HS4.out.on hbt)
          clear HS4
          have HS4 := HS4n
          clear HS4n
          have HAn := Lib.hid (HA.out.on hbt)
          clear HA
          have HA := HAn
          clear HAn
          have HBn := Lib.hid (below_on HB.out hbt (Nat.le_refl _))
          clear HB
          have HB := HBn
          clear HBn
          clear hbt
          have HBb := Lib.hid (TA.new sb)
          clear sb
          have qHBb := HBb.out.cell
          go_wp2_with fail
          clear qHBb
          have Q := Lib.hid (K3.out _ _ _ _ _ HBb.out.2 HS3.out)
          refine Q.out.mono ?_
          rintro e w13 ⟨⟨Ac, cc, rfl, sc⟩, hb13⟩
          clear Q
          have HTn := Lib.hid (HT.out.on hb13)
          clear HT
          have HT := HTn
          clear HTn
          have HS1n := Lib.hid (HS1.out.on hb13)
          clear HS1
          have HS1 := HS1n
          clear HS1n
          have HS2n := Lib.hid (HS2.out.on hb13)
          clear HS2
          have HS2 := HS2n
          clear HS2n
          have HS3n := Lib.hid (HS3.out.on hb13)
          clear HS3
          have HS3 := HS3n
          clear HS3n
          have HS4n := Lib.hid (HS4.out.on hb13)
          clear HS4
          have HS4 := HS4n
          clear HS4n
          have HAn := Lib.hid (HA.out.on hb13)
          clear HA
          have HA := HAn
          clear HAn
          have HBbn := Lib.hid (HBb.out.on hb13)
          clear HBb
          have HBb := HBbn
          clear HBbn
          have HBn := Lib.hid (below_on HB.out hb13 (Nat.le_refl _))
          clear HB
          have HB := HBn
          clear HBn
          clear hb13
          have hbt := (Below.refl w13.heap.size w13).alloc (Nat.le_refl _) (.cells #[.slice Ac cL.length cc] 24)
          have HTn := Lib.hid (HT.out.on hbt)
          clear HT
          have HT := HTn
          clear HTn
          have HS1n := Lib.hid (HS1.out.on hbt)
          clear HS1
          have HS1 := HS1n
          clear HS1n
          have HS2n := Lib.hid (HS2.out.on hbt)
          clear HS2
          have HS2 := HS2n
          clear HS2n
          have HS3n := Lib.hid (HS3.out.on hbt)
          clear HS3
          have HS3 := HS3n
          clear HS3n
          have HS4n := Lib.hid (HS4.out.on hbt)
          clear HS4
          have HS4 := HS4n
          clear HS4n
          have HAn := Lib.hid (HA.out.on hbt)
          clear HA
          have HA := HAn
          clear HAn
          have HBbn := Lib.hid (HBb.out.on hbt)
          clear HBb
          have HBb := HBbn
          clear HBbn
          have HBn := Lib.hid (below_on HB.out hbt (Nat.le_refl _))
          clear HB
          have HB := HBn
          clear HBn
          clear hbt
          have HCc := Lib.hid (TA.new sc)
          clear sc
          have qHT := HT.out.cell
          go_wp2_with fail
          clear qHT
          have Q := Lib.hid (K4.out _ _ _ _ _ HT.out.2 HS4.out)
          refine Q.out.mono ?_
          rintro e w14 ⟨⟨Ad, cd, rfl, sd⟩, hb14⟩
          clear Q
          have HTn := Lib.hid (HT.out.on hb14)
          clear HT
          have HT := HTn
          clear HTn
          have HS1n := Lib.hid (HS1.out.on hb14)
          clear HS1
          have HS1 := HS1n
          clear HS1n
          have HS2n := Lib.hid (HS2.out.on hb14)
          clear HS2
          have HS2 := HS2n
          clear HS2n
          have HS3n := Lib.hid (HS3.out.on hb14)
          clear HS3
          have HS3 := HS3n
          clear HS3n
          have HS4n := Lib.hid (HS4.out.on hb14)
          clear HS4
          have HS4 := HS4n
          clear HS4n
          have HAn := Lib.hid (HA.out.on hb14)
          clear HA
          have HA := HAn
          clear HAn
          have HBbn := Lib.hid (HBb.out.on hb14)
          clear HBb
          have HBb := HBbn
          clear HBbn
          have HCcn := Lib.hid (HCc.out.on hb14)
          clear HCc
          have HCc := HCcn
          clear HCcn
          have HBn := Lib.hid (below_on HB.out hb14 (Nat.le_refl _))
          clear HB
          have HB := HBn
          clear HBn
          clear hb14
          have hbt := (Below.refl w14.heap.size w14).alloc (Nat.le_refl _) (.cells #[.slice Ad cL.length cd] 24)
          have HTn := Lib.hid (HT.out.on hbt)
          clear HT
          have HT := HTn
          clear HTn
          have HS1n := Lib.hid (HS1.out.on hbt)
          clear HS1
          have HS1 := HS1n
          clear HS1n
          have HS2n := Lib.hid (HS2.out.on hbt)
          clear HS2
          have HS2 := HS2n
          clear HS2n
          have HS3n := Lib.hid (HS3.out.on hbt)
          clear HS3
          have HS3 := HS3n
          clear HS3n
          have HS4n := Lib.hid (HS4.out.on hbt)
          clear HS4
          have HS4 := HS4n
          clear HS4n
          have HAn := Lib.hid (HA.out.on hbt)
          clear HA
          have HA := HAn
          clear HAn
          have HBbn := Lib.hid (HBb.out.on hbt)
          clear HBb
          have HBb := HBbn
          clear HBbn
          have HCcn := Lib.hid (HCc.out.on hbt)
          clear HCc
          have HCc := HCcn
          clear HCcn
          have HBn := Lib.hid (below_on HB.out hbt (Nat.le_refl _))
          clear HB
          have HB := HBn
          clear HBn
          clear hbt
          have HDd := Lib.hid (TA.new sd)
          clear sd
          clear K1 K2 K3 K4 HS1 HS2 HS3 HS4
          have qHA := HA.out.cell
          have qHT := HT.out.cell
          go_wp2_with fail
          clear qHA qHT
          have Q := Lib.hid (equal_same _ _ _ _ l hl1 _ HA.out.2 HT.out.2)
          refine Q.out.mono ?_
          rintro e w15 ⟨rfl, hb15⟩
          clear Q
          have HTn := Lib.hid (HT.out.on hb15)
          clear HT
          have HT := HTn
          clear HTn
          have HAn := Lib.hid (HA.out.on hb15)
          clear HA
          have HA := HAn
          clear HAn
          have HBbn := Lib.hid (HBb.out.on hb15)
          clear HBb
          have HBb := HBbn
          clear HBbn
          have HCcn := Lib.hid (HCc.out.on hb15)
          clear HCc
          have HCc := HCcn
          clear HCcn
          have HDdn := Lib.hid (HDd.out.on hb15)
          clear HDd
          have HDd := HDdn
          clear HDdn
          have HBn := Lib.hid (below_on HB.out hb15 (Nat.le_refl _))
          clear HB
          have HB := HBn
          clear HBn
          clear hb15
          have qHA := HA.out.cell
          have qHT := HT.out.cell
          go_wp2_with fail
          clear qHA qHT
          have Q := Lib.hid (Same_any _ _ _ _ _ l l _ HA.out.2 HT.out.2 (Nat.le_refl _) (by omega) (by omega))
          refine Q.out.mono ?_
          rintro e w16 ⟨rfl, hb16⟩
          clear Q
          have HTn := Lib.hid (HT.out.on hb16)
          clear HT
          have HT := HTn
          clear HTn
          have HAn := Lib.hid (HA.out.on hb16)
          clear HA
          have HA := HAn
          clear HAn
          have HBbn := Lib.hid (HBb.out.on hb16)
          clear HBb
          have HBb := HBbn
          clear HBbn
          have HCcn := Lib.hid (HCc.out.on hb16)
          clear HCc
          have HCc := HCcn
          clear HCcn
          have HDdn := Lib.hid (HDd.out.on hb16)
          clear HDd
          have HDd := HDdn
          clear HDdn
          have HBn := Lib.hid (below_on HB.out hb16 (Nat.le_refl _))
          clear HB
          have HB := HBn
          clear HBn
          clear hb16
          clear HA
          have qHCc := HCc.out.cell
          have qHDd := HDd.out.cell
          go_wp2_with fail
          clear qHCc qHDd
          have Q := Lib.hid (equal_same _ _ _ _ cL hcl _ HCc.out.2 HDd.out.2)
          refine Q.out.mono ?_
          rintro e w17 ⟨rfl, hb17⟩
          clear Q
          have HTn := Lib.hid (HT.out.on hb17)
          clear HT
          have HT := HTn
          clear HTn
          have HBbn := Lib.hid (HBb.out.on hb17)
          clear HBb
          have HBb := HBbn
          clear HBbn
          have HCcn := Lib.hid (HCc.out.on hb17)
          clear HCc
          have HCc := HCcn
          clear HCcn
          have HDdn := Lib.hid (HDd.out.on hb17)
          clear HDd
          have HDd := HDdn
          clear HDdn
          have HBn := Lib.hid (below_on HB.out hb17 (Nat.le_refl _))
          clear HB
          have HB := HBn
          clear HBn
          clear hb17
          clear HCc HDd
          have qHBb := HBb.out.cell
          have qHT := HT.out.cell
          go_wp2_with fail
          clear qHBb qHT
          have Q := Lib.hid (Same_any _ _ _ _ _ b l _ HBb.out.2 HT.out.2 (Nat.le_refl _) (by omega) (by omega))
          refine Q.out.mono ?_
          rintro e w18 ⟨rfl, hb18⟩
          clear Q
          have HTn := Lib.hid (HT.out.on hb18)
          clear HT
          have HT := HTn
          clear HTn
          have HBbn := Lib.hid (HBb.out.on hb18)
          clear HBb
          have HBb := HBbn
          clear HBbn
          have HBn := Lib.hid (below_on HB.out hb18 (Nat.le_refl _))
          clear HB
          have HB := HBn
          clear HBn
          clear hb18
          clear HBb HT hcl hb1 hl1
          generalize hq : decide (b = l) = q at *
          by_cases hp0 : p = 0
          · have hq2 : q = true := by rw [← hq]; exact decide_eq_true (HQ.out.2 (.inl hp0))
            subst hq2
            subst hp0
            clear hq HQ
            go_wp2_with fail
            go_ret
            exact ⟨rfl, HB.out⟩
          · by_cases hpn : p = l.length
            · have hq2 : q = true := by rw [← hq]; exact decide_eq_true (HQ.out.2 (.inr hpn))
              have hz1 : ((p : Int) == 0) = false := by simpa using hp0
              have hz2 : ((p : Int) == (l.length : Int)) = true := by simp [hpn]
              subst hq2
              clear hq HQ hpn hpl
              go_wp2_with fail
              go_ret
              exact ⟨rfl, HB.out⟩
            · have hq2 : q = false := by rw [← hq]; exact decide_eq_false (fun h => by rcases HQ.out.1 h with h | h <;> omega)
              have hz1 : ((p : Int) == 0) = false := by simpa using hp0
              have hz2 : ((p : Int) == (l.length : Int)) = false := by simp; omega
              subst hq2
              clear hq HQ
              go_wp2_with fail
              go_ret
              exact ⟨rfl, HB.out⟩
end Go.Proofs.Ytbobpgjgknkogaa
