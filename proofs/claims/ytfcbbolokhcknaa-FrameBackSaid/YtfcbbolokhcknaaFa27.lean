/- FrameBack. -/
import Derived.Test.YtfcbbolokhcknaaFa26
namespace Go.Proofs.Ytfcbbolokhcknaa
open Go.RowKit
def intV (x : Int) : Value := .int .i64 x
theorem sl_int {w : World} {D : Nat} {A : Option Addr} {cap : Nat} {ls : List Int} (h : Sl w D 1 A ls.length cap (ls.map intV)) {k : Nat} (hk : k < ls.length) :
    ∃ b o, A = some ⟨b, o, none⟩ ∧ b < D ∧ w.cell? ⟨b, o + k, none⟩ = some (.int .i64 ls[k]) := by
  obtain ⟨b, o, u, e, hb, hu, hc⟩ := h.at_ hk
  refine ⟨b, o, e, hb, ?_⟩
  rw [hc, ← hu]
  simp [hk, intV]
theorem sumL_snoc (l : List Tok) (t : Tok) : sumL (l ++ [t]) = sumL l + (2 + t.text.length) := by
  unfold sumL
  rw [List.map_append, List.sum_append]
  simp
set_option maxRecDepth 100000 in
set_option maxHeartbeats 6400000 in
theorem FrameBack_any (A : Option Addr) (cap : Nat) (ls : List Int) (b : Int) (w : World) (hS : Sl w w.heap.size 1 A ls.length cap (ls.map intV)) :
    Calls Try.prog 7 #[.slice A ls.length cap, .int .i64 b] w fun e w' => e = .returned (.bool true) ∧ Below w.heap.size w w' := by
  obtain ⟨i0, hi0, hz0, hz1, hz2⟩ := info_parts infoT
  have hSc := hS.2.1
  have hSm := hS.2.2.1
  unfold maxLen at hSm
  have HK := Lib.hid (fun W => FrameKnown_any W)
  have HM := Lib.hid (fun k W => made29_any k W)
  have HY := Lib.hid (fun s x W hs hx => refBytes3 s x W hs hx)
  have HS := Lib.hid hS
  have HC := Lib.hid (fun f str p l a u er W hf hl h => Chunk_at 3 f str p l a u er W hf hl h)
  clear hS
  go_enter Try.func7, Try.ntmps7
  go_wp2_with fail
  refine (HK.out _).mono ?_
  rintro e w1 ⟨rfl, hb1⟩
  go_wp2_with fail
  go_loopw [6, 7, 8] (fun s tt i W => ∃ (k : Nat) (S : List UInt8) (ts : List Tok) (A2 : Option Addr) (cap2 : Nat), k ≤ ls.length ∧ k ≤ 10 ∧ ts.length = k ∧ S.length ≤ k * 6 ∧ stC 3 [] (ibs 0 S) = ⟨[], ts, S.length, S.length, 0⟩ ∧ sumL ts = S.length ∧ (∀ t ∈ ts, t.text.length ≤ 10000) ∧
    s = .string ⟨S.toArray⟩ ∧ tt = .slice A2 k cap2 ∧ i = .int .i64 k ∧ Own W w.heap.size 29 3 A2 k cap2 (tokC ts) ∧ Below w.heap.size w W) (fun _ _ i _ => ls.length - (intOf i).toNat)
  case atStart => exact ⟨0, [], [], none, 0, Nat.zero_le _, Nat.zero_le _, rfl, Nat.le_refl _, rfl, rfl, by simp, rfl, rfl, rfl, Own.nil _ _ _ _, hb1⟩
  case round =>
    obtain ⟨k, S, ts, A2, cap2, hk, hk10, hts, hSl, hst, hsum, htx, rfl, rfl, rfl, hown, hB⟩ := hrel
    clear hb1
    by_cases hlt : k < ls.length ∧ k < 10
    · obtain ⟨hlt1, hlt2⟩ := hlt
      obtain ⟨bb, o, rfl, hbb, c0⟩ := sl_int (HS.out.below hB (Nat.le_refl _)) hlt1
      generalize ls[k] = y at *
      have hsz := hB.size
      have HT := Lib.hid hts
      have HX := Lib.hid htx
      have HE := Lib.hid hst
      have HU := Lib.hid hsum
      clear hts htx hst hsum HC
      go_wp2_with fail
      refine (HM.out _ _).mono ?_
      rintro e w3 ⟨⟨s, x, hs, hx, rfl⟩, hb3⟩
      have hB3 := below_on hB hb3 (Nat.le_refl _)
      have hown3 := hown.below hb3 (Nat.le_refl _)
      have hne : blockOf A2 cap2 ≠ some w3.heap.size := fun e => by have := (hown3.lt e).2; omega
      have hT3 := Blk.new w3 29 #[.int .i64 s, .string ⟨x.toArray⟩, .int .i64 0]
      have hB3a := hB3.alloc hB3.size (.cells #[.int .i64 s, .string ⟨x.toArray⟩, .int .i64 0] 29)
      have hown3a := hown3.alloc (.cells #[.int .i64 s, .string ⟨x.toArray⟩, .int .i64 0] 29)
      have hsz3 := hB3.size
      have hY := Lib.hid (fun W => HY.out s x W hs (by omega))
      clear hB hown hb3 HM HY c0 hB3
      go_wp2_with fail
      refine (hY.out _).mono ?_
      rintro e w4 ⟨rfl, hb4⟩
      have hT4 := hT3.on hb4
      have hB4 := below_on hB3a hb4 (Nat.le_refl _)
      have hown4 := hown3a.below hb4 (Nat.le_refl _)
      have hfl := frB_len ⟨s, x, 0⟩
      simp only at hfl
      have hmo := Lib.hid (fun h => fr_more 3 s x 0 hs (by decide) (by omega) S ts (by omega) h)
      clear hY hT3 hB3a hown3a hb4
      generalize frB ⟨s, x, 0⟩ = F at *
      have hfl2 : (S.length : Int) + F.length ≤ 100 := by omega
      obtain ⟨d0, d1, d2, f0, f1, f2⟩ := cells3 hT4
      have hB5 := hB4.setCell (p := ⟨w3.heap.size, 2, none⟩) hsz3 (.int .i64 S.length)
      have hown5 := hown4.farNe (p := ⟨w3.heap.size, 2, none⟩) hne (.int .i64 S.length)
      have hsz5 := hB5.size
      clear hB4 hown4 hown3 hne
      go_wp2_with (at_builtin; refine wpList_append_new rfl _ _ _ rfl w.heap.size 29 i0 _ 3 32 Try.underlying33 hi0 hz0 hz1 hz2 rfl (by decide) rfl hown5 #[.int .i64 s, .string ⟨x.toArray⟩, .int .i64 S.length] (by first | rfl | (simp only [World.size_setCell]; rfl)) rfl (by simp [Value.oneCell']) (by simp only [maxLen]; omega) (by omega) hsz5 ?_; intro A4 cap4 W4 hown6 hg6 hat6)
      go_wp2_with fail
      go_roundw
      case rel => exact ⟨k + 1, S ++ F, ts ++ [⟨s, x, S.length⟩], A4, cap4, by omega, by omega, by rw [List.length_append, HT.out]; rfl, by rw [List.length_append]; omega, hmo.out HE.out, by rw [sumL_snoc, HU.out, List.length_append]; simp only; omega, fun t ht => (List.mem_append.1 ht).elim (fun h => HX.out t h) (fun h => by rw [List.mem_singleton] at h; subst h; simp only; omega), rfl, rfl, by go_num, by rw [tokC_append]; exact hown6, grown_below hB5 hown5 hg6 hsz5⟩
      case measure => simp [intOf]; omega
    · clear HM HY
      subst hts
      have hS60 : S.length ≤ 60 := by omega
      obtain ⟨m, hm, hm2⟩ : ∃ m : Nat, b % ((S.length : Int) + 1) = m ∧ m ≤ S.length := ⟨(b % ((S.length : Int) + 1)).toNat, by rw [Int.toNat_of_nonneg (Int.emod_nonneg _ (by omega))], by have := Int.emod_lt_of_pos b (show (0 : Int) < (S.length : Int) + 1 by omega); omega⟩
      have HM2 := Lib.hid (fun W => Mod_any b ((S.length : Int) + 1) W (by omega) (by omega))
      rw [hm] at HM2
      have hch : ∀ (f str : List UInt8), okG 3 f → chunkC 3 f str = stC 3 f (ibs 0 str) := fun f str hg => by
        unfold chunkC
        rw [if_neg (by simpa using partE_ok f hg)]
        rfl
      obtain ⟨P, L1, a1, u1, L2, a2, u2, hok, hc1, hc2, hL⟩ := cut_ok 3 S ts (by omega) hst m
      have hP := (okG_len 3 P hok).1
      have HC1 := Lib.hid (fun W => HC.out [] S [] ts S.length S.length 0 W (by simp) (by omega) ((hch [] S (okG_nil 3)).trans hst))
      have HC2 := Lib.hid (fun W => HC.out [] (S.take m) P L1 a1 u1 0 W (by simp) (by rw [List.length_take]; omega) ((hch [] _ (okG_nil 3)).trans hc1))
      have HC3 := Lib.hid (fun W => HC.out P (S.drop m) [] L2 a2 u2 0 W (by omega) (by rw [List.length_drop]; omega) ((hch P _ hok).trans hc2))
      have hLl : ts.length = L1.length + L2.length := by have := congrArg List.length hL; simpa using this
      have hLa : ∀ j (h : j < ts.length) (h1 : j < L1.length), L1[j].sym = ts[j].sym ∧ L1[j].text = ts[j].text := fun j h h1 => by
        have h0 := congrArg (fun l => l[j]?) hL
        simp only [List.getElem?_append_left (show j < (L1.map keyT).length by simpa using h1), List.getElem?_map, List.getElem?_eq_getElem h, List.getElem?_eq_getElem h1, Option.map_some, Option.some.injEq, keyT, Prod.mk.injEq] at h0
        exact ⟨h0.1.symm, h0.2.symm⟩
      have hLb : ∀ j (h : j < ts.length) (h1 : ¬ j < L1.length) (h2 : j - L1.length < L2.length), L2[j - L1.length].sym = ts[j].sym ∧ L2[j - L1.length].text = ts[j].text := fun j h h1 h2 => by
        have h0 := congrArg (fun l => l[j]?) hL
        simp only [List.getElem?_append_right (show (L1.map keyT).length ≤ j by simp; omega), List.length_map, List.getElem?_map, List.getElem?_eq_getElem h, List.getElem?_eq_getElem h2, Option.map_some, Option.some.injEq, keyT, Prod.mk.injEq] at h0
        exact ⟨h0.1.symm, h0.2.symm⟩
      have HLl := Lib.hid hLl
      have HLa := Lib.hid hLa
      have HLb := Lib.hid hLb
      have HE := Lib.hid hst
      have HU := Lib.hid hsum
      have HX := Lib.hid htx
      have hSz : (S.length : Int) ≤ 60 := by omega
      have hdec : decide (ts = ts) = true := by simp
      have HSm := Lib.hid (fun A1 A2 c1 c2 D W h1 h2 => SameTokens_any A1 A2 c1 c2 D ts ts W h1 h2 (by omega) (by omega))
      rw [hdec] at HSm
      have HSu := Lib.hid (fun A c D W h1 hD => fSum_any A c D ts W h1 hD (by omega) htx)
      rw [hsum] at HSu
      have hLi : (L1.length : Int) + L2.length = ts.length := by omega
      clear hLl hLa hLb hst hsum htx hdec hch hc1 hc2 hL HC HS
      have hcases : ¬ ts.length < ls.length ∨ ts.length < ls.length ∧ ¬ ts.length < 10 := by omega
      clear hlt
      rcases hcases with hx | ⟨hx, hy⟩
      all_goals
        go_wp2_with fail
        refine (HC1.out _).mono ?_
        rintro e w2 ⟨⟨A5, cap5, rfl, hS5⟩, hb2⟩
        have hB2 := below_on hB hb2 (Nat.le_refl _)
        have hown2 := hown.below hb2 (Nat.le_refl _)
        have hSm2 := Lib.hid (HSm.out A5 A2 cap5 cap2 _ w2 hS5 hown2.sl)
        go_wp2_with fail
        refine hSm2.out.mono ?_
        rintro e w3 ⟨rfl, hb3⟩
        have hB3 := below_on hB2 hb3 (Nat.le_refl _)
        have hown3 := hown2.below hb3 (Nat.le_refl _)
        have hSu3 := Lib.hid (HSu.out A2 cap2 _ w3 hown3.sl (Nat.le_refl _))
        go_wp2_with fail
        refine hSu3.out.mono ?_
        rintro e w4 ⟨rfl, hb4⟩
        have hB4 := below_on hB3 hb4 (Nat.le_refl _)
        have hown4 := hown3.below hb4 (Nat.le_refl _)
        clear hS5 hown hown2 hown3 hB hB2 hB3 hb2 hb3 hb4 hSm2 hSu3 HSm HSu HC1
        go_wp2_with fail
        refine (HM2.out _).mono ?_
        rintro e w5 ⟨rfl, rfl⟩
        go_wp2_with fail
        refine (HC2.out _).mono ?_
        rintro e w6 ⟨⟨A6, cap6, rfl, hS6⟩, hb6⟩
        have hB6 := below_on hB4 hb6 (Nat.le_refl _)
        have hown6 := hown4.below hb6 (Nat.le_refl _)
        clear hB4 hown4 hb6 HC2
        go_wp2_with fail
        refine (HC3.out _).mono ?_
        rintro e w7 ⟨⟨A7, cap7, rfl, hS7⟩, hb7⟩
        have hB7 := below_on hB6 hb7 (Nat.le_refl _)
        have hS67 := hS6.below hb7 (Nat.le_refl _)
        have hown7 := (hown6.below hb7 (Nat.le_refl _)).sl
        have hS68 := hS67.more hb7.size
        clear hB6 hown6 hb7 HC3 hS6 hS67
        go_wp2_with fail
        go_loopw [24] (fun i W => ∃ k : Nat, k ≤ ts.length ∧ i = .int .i64 k ∧ Below w7.heap.size w7 W) (fun i _ => ts.length - (intOf i).toNat)
        case atStart => exact ⟨0, Nat.zero_le _, rfl, Below.refl _ _⟩
        case round =>
          obtain ⟨k, hk, rfl, hBr⟩ := hrel
          have hsr := hBr.size
          by_cases hlt : k < ts.length
          · obtain ⟨b1, o1, rfl, hb1, c0, c1, c2⟩ := sl_tok (hown7.below hBr (Nat.le_refl _)) hlt
            by_cases hl1 : k < L1.length
            · obtain ⟨b2, o2, rfl, hb2, d0, d1, d2⟩ := sl_tok (hS68.below hBr (Nat.le_refl _)) hl1
              have hh := HLa.out k hlt hl1
              generalize L1[k] = t1 at *
              generalize ts[k] = t0 at *
              obtain ⟨sy, x, a⟩ := t0
              obtain ⟨sy1, x1, a1'⟩ := t1
              simp only at *
              obtain ⟨rfl, rfl⟩ := hh
              have hBa := Lib.hid (fun o => hBr.alloc hBr.size o)
              have hbb1 : b1 < wr.heap.size := by omega
              have hbb2 : b2 < wr.heap.size := by omega
              have hbn1 : b1 ≠ wr.heap.size := by omega
              have hbn2 : b2 ≠ wr.heap.size := by omega
              go_wp2_with fail
              go_quiet (fail)
              go_wp2_with fail
              go_roundw
              case rel => exact ⟨k + 1, by omega, by go_num, (hBr.alloc hBr.size _).trans ⟨rfl, rfl, rfl, Nat.le_refl _, fun _ _ => rfl⟩⟩
              case measure => simp [intOf]; omega
            · have hl2 : k - L1.length < L2.length := by omega
              obtain ⟨b2, o2, rfl, hb2, d0, d1, d2⟩ := sl_tok (hS7.below hBr (Nat.le_refl _)) hl2
              have hh := HLb.out k hlt hl1 hl2
              have hjz : (k : Int) - L1.length = ((k - L1.length : Nat) : Int) := by omega
              generalize L2[k - L1.length] = t1 at *
              generalize ts[k] = t0 at *
              generalize k - L1.length = j at *
              obtain ⟨sy, x, a⟩ := t0
              obtain ⟨sy1, x1, a1'⟩ := t1
              simp only at *
              obtain ⟨rfl, rfl⟩ := hh
              have hbb1 : b1 < wr.heap.size := by omega
              have hbb2 : b2 < wr.heap.size := by omega
              have hbn1 : b1 ≠ wr.heap.size := by omega
              have hbn2 : b2 ≠ wr.heap.size := by omega
              go_wp2_with fail
              go_quiet (fail)
              go_wp2_with fail
              go_roundw
              case rel => exact ⟨k + 1, by omega, by go_num, (hBr.alloc hBr.size _).trans ⟨rfl, rfl, rfl, Nat.le_refl _, fun _ _ => rfl⟩⟩
              case measure => simp [intOf]; omega
          · go_wp2_with fail
            go_ret
            exact ⟨rfl, below_on hB7 hBr (Nat.le_refl _)⟩
end Go.Proofs.Ytfcbbolokhcknaa
