/- checked; Split of both. No condition. -/
import Derived.Test.YtdndomjmnlpjgaaP10
namespace Go.Proofs.Ytdndomjmnlpjgaa
open Go.RowKit
def plE : List Tok → Int
  | [] => 0
  | [_] => 0
  | t :: u :: l => if u.at_ = t.at_ + (2 + (t.text.length : Int)) then plE (u :: l) else 9
theorem plE_drop (l : List Tok) (k : Nat) (hk : k + 1 < l.length) : plE (l.drop k) = if l[k + 1].at_ = (l[k]'(by omega)).at_ + (2 + ((l[k]'(by omega)).text.length : Int)) then plE (l.drop (k + 1)) else 9 := by
  rw [List.drop_eq_getElem_cons (show k < l.length by omega), List.drop_eq_getElem_cons hk]; rfl
theorem plE_end (l : List Tok) (k : Nat) (hk : k + 1 = l.length ∨ (k = 0 ∧ l.length = 0)) : plE (l.drop k) = 0 := by
  rcases hk with hk | ⟨rfl, h⟩
  · rw [List.drop_eq_getElem_cons (show k < l.length by omega), List.drop_of_length_le (by omega)]; rfl
  · rw [List.eq_nil_of_length_eq_zero h]; rfl
def chkE (l : List Tok) (n : Int) : Int := if listE1 l n = 0 then plE l else listE1 l n
theorem chk_bounds {l : List Tok} {n : Int} (h : listE1 l n = 0) : ∀ t ∈ l, t.text.length ≤ 24 ∧ 0 ≤ t.at_ ∧ t.at_ ≤ 1099511627776 := fun t ht => by
  obtain ⟨_, _, _, _, _, _, _, h1, h2, h3⟩ := check_ok t n (listE1_all l n h t ht)
  exact ⟨h1, h2, h3⟩
theorem sl_tok_at {w : World} {D b o cap : Nat} {l : List Tok} (h : Sl w D 3 (some ⟨b, o, none⟩) l.length cap (tokC l)) {k : Nat} (hk : k < l.length) :
    b < D ∧ w.cell? ⟨b, o + k * 3, none⟩ = some (.int .i64 l[k].sym) ∧ w.cell? ⟨b, o + k * 3 + 1, none⟩ = some (.string ⟨l[k].text.toArray⟩) ∧ w.cell? ⟨b, o + k * 3 + 2, none⟩ = some (.int .i64 l[k].at_) := by
  obtain ⟨b', o', e, hb, c0, c1, c2⟩ := sl_tok h hk
  cases e
  exact ⟨hb, c0, c1, c2⟩
set_option maxRecDepth 100000 in
set_option maxHeartbeats 6400000 in
theorem checked_any (A : Option Addr) (cap D : Nat) (l : List Tok) (n : Int) (w : World) (hS : Sl w D 3 A l.length cap (tokC l)) (hD : D ≤ w.heap.size) (hn : l.length ≤ 20000) (hl : ∀ t ∈ l, t.text.length ≤ maxLen) :
    Calls Try.prog 64 #[.slice A l.length cap, .int .i64 n] w fun e w' => e = .returned (.int .i64 (chkE l n)) ∧ Below w.heap.size w w' := by
  have HX := Lib.hid (fun (v : Int) (h : listE1 l n = v) (hv : v ≠ 0) => (show v = chkE l n by unfold chkE; rw [if_neg (by rw [h]; exact hv), h]))
  have HY := Lib.hid (fun (v : Int) (h : listE1 l n = 0) (hv : plE l = v) => (show v = chkE l n by unfold chkE; rw [if_pos h, hv]))
  generalize chkE l n = ck at *
  go_enter Try.func64, Try.ntmps64
  go_wp2_with fail
  go_loopw [11] (fun i W => ∃ k : Nat, k ≤ l.length ∧ i = .int .i64 k ∧ listE1 l n = listE1 (l.drop k) n ∧ Below w.heap.size w W) (fun i _ => l.length - (intOf i).toNat)
  case atStart => exact ⟨0, Nat.zero_le _, rfl, rfl, Below.refl _ _⟩
  case round =>
    obtain ⟨k, hk, rfl, heq, hB⟩ := hrel
    by_cases hlt : k < l.length
    · obtain ⟨b, o, rfl, hb, c0, c1, c2⟩ := sl_tok (hS.below hB hD) hlt
      rw [listE1_drop l n k hlt] at heq
      have htl := hl l[k] (List.getElem_mem hlt)
      have HC := Lib.hid (fun W => check_any l[k] n W htl)
      generalize l[k] = t at *
      obtain ⟨sy, x, a⟩ := t
      unfold Tok.v at HC
      simp only at *
      generalize checkE ⟨sy, x, a⟩ n = ce at *
      have HB := Lib.hid (hB.alloc hB.size (.cells #[.int .i64 sy, .string ⟨x.toArray⟩, .int .i64 a] 41))
      have HS := Lib.hid hS
      clear hB hl hS
      by_cases hce : ce = 0
      · rw [if_pos hce] at heq
        subst hce
        have HE := Lib.hid heq
        clear heq
        go_wp2_with fail
        refine (HC.out _).mono ?_
        rintro e w3 ⟨rfl, hb3⟩
        go_wp2_with fail
        go_roundw
        case rel => exact ⟨k + 1, by omega, by go_num, HE.out, below_on HB.out hb3 (Nat.le_refl _)⟩
        case measure => simp [intOf]; omega
      · rw [if_neg hce] at heq
        have HE := Lib.hid heq
        have HN := Lib.hid hce
        have hcb : (ce != 0) = true := bne_iff_ne.2 hce
        clear heq
        go_wp2_with fail
        refine (HC.out _).mono ?_
        rintro e w3 ⟨rfl, hb3⟩
        go_wp2_with fail
        go_ret
        exact ⟨ret_int (HX.out _ HE.out HN.out), below_on HB.out hb3 (Nat.le_refl _)⟩
    · obtain rfl : k = l.length := by omega
      have h0 : listE1 l n = 0 := by rw [heq, List.drop_length]; rfl
      have hbd := chk_bounds h0
      have HZ := Lib.hid h0
      clear h0 heq hlt hl
      go_wp2_with fail
      go_loopw [8] (fun v W => ∃ i j : Nat, i = j + 1 ∧ (i ≤ l.length ∨ (j = 0 ∧ l.length = 0)) ∧ v = .int .i64 i ∧ plE l = plE (l.drop j) ∧ Below w.heap.size w W) (fun v _ => l.length - (intOf v).toNat)
      case atStart => exact ⟨1, 0, rfl, by omega, rfl, rfl, hB⟩
      case round =>
        clear hB
        obtain ⟨i, j, hij, hjl, rfl, heq, hB⟩ := hrel
        by_cases hlt : i < l.length
        · have hj : j < l.length := by omega
          obtain ⟨b, o, rfl, hb, d0, d1, d2⟩ := sl_tok (hS.below hB hD) hj
          obtain ⟨_, c0, c1, c2⟩ := sl_tok_at (hS.below hB hD) hlt
          rw [plE_drop l j (by omega)] at heq
          have hgi : l[j + 1]'(by omega) = l[i] := by simp [hij]
          rw [hgi] at heq
          obtain ⟨hx, ha0, ha1⟩ := hbd l[j] (List.getElem_mem hj)
          have HSz := Lib.hid (fun W => size_any l[j] W (by omega))
          clear hgi
          generalize l[i] = t at *
          generalize l[j] = t' at *
          obtain ⟨sy, x, a⟩ := t
          obtain ⟨sy', x', a'⟩ := t'
          unfold Tok.v at HSz
          simp only at *
          have hs1 : IntKind.i64.wrap ((i : Int) - 1) = j := by rw [Go.IntWalk.i64_in _ (by omega)]; omega
          have hs2 : IntKind.i64.wrap (a' + (2 + (x'.length : Int))) = a' + (2 + (x'.length : Int)) := Go.IntWalk.i64_in _ (by omega)
          have hjz : (j : Int) < l.length := by omega
          have hiz : (i : Int) < l.length := by omega
          have hbw : b < wr.heap.size := by have := hB.size; omega
          have HI := Lib.hid hij
          have HB := Lib.hid hB
          have HS := Lib.hid hS
          have HBd := Lib.hid hbd
          have hb0 := (Below.refl wr.heap.size wr).drew
          clear hij hjl hB hS hbd hb hx ha0 ha1
          by_cases hq : a = a' + (2 + (x'.length : Int))
          · rw [if_pos hq] at heq
            subst hq
            have HE := Lib.hid heq
            clear heq
            go_wp2_with fail
            go_region_held3 (fun W => Below wr.heap.size wr W ∧ W.cell? ⟨b, o + i * 3 + 2, none⟩ = some (.int .i64 (a' + (2 + (x'.length : Int)))) ∧ W.cell? ⟨b, o + j * 3, none⟩ = some (.int .i64 sy') ∧ W.cell? ⟨b, o + j * 3 + 1, none⟩ = some (.string ⟨x'.toArray⟩) ∧ W.cell? ⟨b, o + j * 3 + 2, none⟩ = some (.int .i64 a'))
              (exact ⟨by assumption, ((by assumption : Below wr.heap.size wr _).cell (p := ⟨b, o + i * 3 + 2, none⟩) hbw).trans c2, ((by assumption : Below wr.heap.size wr _).cell (p := ⟨b, o + j * 3, none⟩) hbw).trans d0, ((by assumption : Below wr.heap.size wr _).cell (p := ⟨b, o + j * 3 + 1, none⟩) hbw).trans d1, ((by assumption : Below wr.heap.size wr _).cell (p := ⟨b, o + j * 3 + 2, none⟩) hbw).trans d2⟩)
              (first
                | (go_at_call 34; refine (HSz.out _).mono ?_; rintro e w3 ⟨rfl, hb3⟩; have hb4 := hb0.trans (hb3.mono hb0.size)))
            go_wp2_with fail
            go_roundw
            case rel => exact ⟨i + 1, j + 1, by have := HI.out; omega, .inl (by omega), by go_num, HE.out, below_on HB.out (by assumption) (Nat.le_refl _)⟩
            case measure => simp [intOf]; omega
          · rw [if_neg hq] at heq
            have HE := Lib.hid heq
            have hqb : (a != a' + (2 + (x'.length : Int))) = true := bne_iff_ne.2 hq
            clear heq
            go_wp2_with fail
            go_region_held3 (fun W => Below wr.heap.size wr W ∧ W.cell? ⟨b, o + i * 3 + 2, none⟩ = some (.int .i64 a) ∧ W.cell? ⟨b, o + j * 3, none⟩ = some (.int .i64 sy') ∧ W.cell? ⟨b, o + j * 3 + 1, none⟩ = some (.string ⟨x'.toArray⟩) ∧ W.cell? ⟨b, o + j * 3 + 2, none⟩ = some (.int .i64 a'))
              (exact ⟨by assumption, ((by assumption : Below wr.heap.size wr _).cell (p := ⟨b, o + i * 3 + 2, none⟩) hbw).trans c2, ((by assumption : Below wr.heap.size wr _).cell (p := ⟨b, o + j * 3, none⟩) hbw).trans d0, ((by assumption : Below wr.heap.size wr _).cell (p := ⟨b, o + j * 3 + 1, none⟩) hbw).trans d1, ((by assumption : Below wr.heap.size wr _).cell (p := ⟨b, o + j * 3 + 2, none⟩) hbw).trans d2⟩)
              (first
                | (go_at_call 34; refine (HSz.out _).mono ?_; rintro e w3 ⟨rfl, hb3⟩; have hb4 := hb0.trans (hb3.mono hb0.size)))
            go_wp2_with fail
            go_ret
            exact ⟨ret_int (HY.out _ HZ.out HE.out), below_on HB.out (by assumption) (Nat.le_refl _)⟩
        · have h0 : plE l = 0 := by rw [heq]; exact plE_end l j (by omega)
          have HE := Lib.hid h0
          have hltz : ¬ (i : Int) < l.length := by omega
          clear heq h0
          go_wp2_with fail
          go_ret
          exact ⟨ret_int (HY.out _ HZ.out HE.out), hB⟩
/-- The records of tokens, and the rest, or which error. -/
def splitA (l : List Tok) (n : Int) : List Rc × List Tok × Int :=
  if n < 1 ∨ 8 < n then ([], [], 2) else if chkE l n = 0 then ((divA n l []).1, (divA n l []).2, 0) else ([], [], chkE l n)
def splitPost (l : List Tok) (n : Int) (e : Ending) (w' : World) : Prop := ∃ (L : List RcM) (rest : List Tok) (Ao Ar : Option Addr) (co cr : Nat) (er : Int), splitA l n = (L.map (·.r), rest, er) ∧ e = .returned (.tuple #[.slice Ao L.length co, .slice Ar rest.length cr, .int .i64 er]) ∧
  Own w' 0 43 3 Ao L.length co (rcC L) ∧ rcO w' w'.heap.size L ∧ Own w' 0 41 3 Ar rest.length cr (tokC rest)
theorem splitPost.fail {l : List Tok} {n er : Int} {w' : World} (h : splitA l n = ([], [], er)) : splitPost l n (.returned (.tuple #[.slice none 0 0, .slice none 0 0, .int .i64 er])) w' :=
  ⟨[], [], none, none, 0, 0, er, h, rfl, Own.nil _ _ _ _, rcO.nil _ _, Own.nil _ _ _ _⟩
theorem splitA_range {l : List Tok} {n : Int} (h : n < 1 ∨ 8 < n) : splitA l n = ([], [], 2) := if_pos h
theorem splitA_bad {l : List Tok} {n v : Int} (h : ¬ (n < 1 ∨ 8 < n)) (h2 : v = chkE l n) (hv : v ≠ 0) : splitA l n = ([], [], v) := by unfold splitA; rw [if_neg h, if_neg (by rw [← h2]; exact hv), h2]
theorem splitA_ok {l : List Tok} {n : Int} (h : ¬ (n < 1 ∨ 8 < n)) (h2 : 0 = chkE l n) {L : List Rc} {rest : List Tok} (hd : divA n l [] = (L, rest)) : splitA l n = (L, rest, 0) := by unfold splitA; rw [if_neg h, if_pos h2.symm, hd]
set_option maxRecDepth 100000 in
set_option maxHeartbeats 6400000 in
theorem Split_any (A : Option Addr) (cap D : Nat) (l : List Tok) (n : Int) (w : World) (hS : Sl w D 3 A l.length cap (tokC l)) (hD : D ≤ w.heap.size) (hn : l.length ≤ 20000) (hl : ∀ t ∈ l, t.text.length ≤ maxLen) :
    Calls Try.prog 27 #[.slice A l.length cap, .int .i64 n] w fun e w' => splitPost l n e w' ∧ Below w.heap.size w w' := by
  have hnz : ¬ (20000 : Int) < l.length := by omega
  have hnn : ¬ 20000 < l.length := by omega
  by_cases h1 : n < 1
  · have HP := Lib.hid (fun w' => splitPost.fail (w' := w') (splitA_range (l := l) (Or.inl h1)))
    go_enter Try.func27, Try.ntmps27
    go_wp2_with fail
    go_ret3
    exact ⟨HP.out _, Below.refl _ _⟩
  · by_cases h2 : 8 < n
    · have HP := Lib.hid (fun w' => splitPost.fail (w' := w') (splitA_range (l := l) (Or.inr h2)))
      go_enter Try.func27, Try.ntmps27
      go_wp2_with fail
      go_ret3
      exact ⟨HP.out _, Below.refl _ _⟩
    · have hr : ¬ (n < 1 ∨ 8 < n) := by omega
      have HR := Lib.hid hr
      have HC := Lib.hid (checked_any A cap D l n w hS hD hn hl)
      have HSp := Lib.hid (fun W hS hD => split_any A cap D l n W hS hD hn)
      obtain ⟨c, hc⟩ : ∃ c, c = chkE l n := ⟨_, rfl⟩
      rw [← hc] at HC
      have HK := Lib.hid hc
      have HS := Lib.hid hS
      clear hr hc hS hl
      by_cases hz : c = 0
      · subst hz
        go_enter Try.func27, Try.ntmps27
        go_wp2_with fail
        refine HC.out.mono ?_
        rintro e w1 ⟨rfl, hb⟩
        have HSp2 := Lib.hid (HSp.out w1 (HS.out.below hb hD) (Nat.le_trans hD hb.size))
        go_wp2_with fail
        refine HSp2.out.mono ?_
        rintro e w4 ⟨⟨L, rest, Ao, Ar, co, cr, hdv, rfl, hO, hR, hT⟩, hb4⟩
        have HPo := Lib.hid (show splitPost l n (.returned (.tuple #[.slice Ao L.length co, .slice Ar rest.length cr, .int .i64 0])) w4 from ⟨L, rest, Ao, Ar, co, cr, 0, splitA_ok HR.out HK.out hdv, rfl, hO.base (Nat.zero_le _), hR, hT.base (Nat.zero_le _)⟩)
        clear hdv hO hR hT
        go_wp2_with fail
        go_ret3
        exact ⟨HPo.out, below_on hb hb4 (Nat.le_refl _)⟩
      · have hzb : (c != 0) = true := bne_iff_ne.2 hz
        have HP := Lib.hid (fun w' => splitPost.fail (w' := w') (splitA_bad HR.out HK.out hz))
        go_enter Try.func27, Try.ntmps27
        go_wp2_with fail
        refine HC.out.mono ?_
        rintro e w1 ⟨rfl, hb⟩
        go_wp2_with fail
        go_ret3
        exact ⟨HP.out _, hb⟩
set_option maxRecDepth 100000 in
set_option maxHeartbeats 6400000 in
theorem rSplit_any (A : Option Addr) (cap D : Nat) (l : List Tok) (n : Int) (w : World) (hS : Sl w D 3 A l.length cap (tokC l)) (hD : D ≤ w.heap.size) (hn : l.length ≤ 20000) (hl : ∀ t ∈ l, t.text.length ≤ maxLen) :
    Calls Try.prog 29 #[.slice A l.length cap, .int .i64 n] w fun e w' => splitPost l n e w' ∧ Below w.heap.size w w' := by
  have hnz : ¬ (20000 : Int) < l.length := by omega
  have hnn : ¬ 20000 < l.length := by omega
  by_cases h1 : n < 1
  · have HP := Lib.hid (fun w' => splitPost.fail (w' := w') (splitA_range (l := l) (Or.inl h1)))
    go_enter Try.func29, Try.ntmps29
    go_wp2_with fail
    go_ret3
    exact ⟨HP.out _, Below.refl _ _⟩
  by_cases h2 : 8 < n
  · have HP := Lib.hid (fun w' => splitPost.fail (w' := w') (splitA_range (l := l) (Or.inr h2)))
    go_enter Try.func29, Try.ntmps29
    go_wp2_with fail
    go_ret3
    exact ⟨HP.out _, Below.refl _ _⟩
  have HR := Lib.hid (show ¬ (n < 1 ∨ 8 < n) by omega)
  have HR1 := Lib.hid (fun (v : Int) (h : listE1 l n = v) (hv : v ≠ 0) => splitA_bad HR.out (show v = chkE l n by unfold chkE; rw [if_neg (by rw [h]; exact hv), h]) hv)
  have HR2 := Lib.hid (fun (h : listE1 l n = 0) (hv : plE l = 9) => splitA_bad HR.out (show (9 : Int) = chkE l n by unfold chkE; rw [if_pos h, hv]) (by decide))
  have HR3 := Lib.hid (fun (L : List Rc) (rest : List Tok) (hd : divA n l [] = (L, rest)) (h : listE1 l n = 0) (hv : plE l = 0) => splitA_ok HR.out (show (0 : Int) = chkE l n by unfold chkE; rw [if_pos h, hv]) hd)
  have HPF := Lib.hid (fun (er : Int) (w' : World) (h : splitA l n = ([], [], er)) => splitPost.fail (w' := w') h)
  go_enter Try.func29, Try.ntmps29
  go_wp2_with fail
  go_loopw [7] (fun i W => ∃ k : Nat, k ≤ l.length ∧ i = .int .i64 k ∧ listE1 l n = listE1 (l.drop k) n ∧ Below w.heap.size w W) (fun i _ => l.length - (intOf i).toNat)
  case atStart => exact ⟨0, Nat.zero_le _, rfl, rfl, Below.refl _ _⟩
  case round =>
    obtain ⟨k, hk, rfl, heq, hB⟩ := hrel
    by_cases hlt : k < l.length
    · obtain ⟨b, o, rfl, hb, c0, c1, c2⟩ := sl_tok (hS.below hB hD) hlt
      rw [listE1_drop l n k hlt] at heq
      have htl := hl l[k] (List.getElem_mem hlt)
      have HC := Lib.hid (fun W => refCheck_any l[k] n W htl)
      generalize l[k] = t at *
      obtain ⟨sy, x, a⟩ := t
      unfold Tok.v at HC
      simp only at *
      generalize checkE ⟨sy, x, a⟩ n = ce at *
      have HB := Lib.hid hB
      have HS := Lib.hid hS
      clear hB hl hS
      by_cases hce : ce = 0
      · rw [if_pos hce] at heq
        subst hce
        have HE := Lib.hid heq
        clear heq
        go_wp2_with fail
        refine (HC.out _).mono ?_
        rintro e w3 ⟨rfl, hb3⟩
        go_wp2_with fail
        go_roundw
        case rel => exact ⟨k + 1, by omega, by go_num, HE.out, below_on HB.out hb3 (Nat.le_refl _)⟩
        case measure => simp [intOf]; omega
      · rw [if_neg hce] at heq
        have HE := Lib.hid heq
        have HN := Lib.hid hce
        have hcb : (ce != 0) = true := bne_iff_ne.2 hce
        clear heq
        go_wp2_with fail
        refine (HC.out _).mono ?_
        rintro e w3 ⟨rfl, hb3⟩
        go_wp2_with fail
        go_ret3
        exact ⟨HPF.out _ _ (HR1.out _ HE.out HN.out), below_on HB.out hb3 (Nat.le_refl _)⟩
    · obtain rfl : k = l.length := by omega
      have h0 : listE1 l n = 0 := by rw [heq, List.drop_length]; rfl
      have hbd := chk_bounds h0
      have HZ := Lib.hid h0
      clear h0 heq hlt hl
      go_wp2_with fail
      go_loopw [9] (fun v W => ∃ i j : Nat, i = j + 1 ∧ (i ≤ l.length ∨ (j = 0 ∧ l.length = 0)) ∧ v = .int .i64 i ∧ plE l = plE (l.drop j) ∧ Below w.heap.size w W) (fun v _ => l.length - (intOf v).toNat)
      case atStart => exact ⟨1, 0, rfl, by omega, rfl, rfl, hB⟩
      case round =>
        clear hB
        obtain ⟨i, j, hij, hjl, rfl, heq, hB⟩ := hrel
        by_cases hlt : i < l.length
        · have hj : j < l.length := by omega
          obtain ⟨b, o, rfl, hb, d0, d1, d2⟩ := sl_tok (hS.below hB hD) hj
          obtain ⟨_, c0, c1, c2⟩ := sl_tok_at (hS.below hB hD) hlt
          rw [plE_drop l j (by omega)] at heq
          have hgi : l[j + 1]'(by omega) = l[i] := by simp [hij]
          rw [hgi] at heq
          obtain ⟨hx, ha0, ha1⟩ := hbd l[j] (List.getElem_mem hj)
          have HSz := Lib.hid (fun W => refSize_any l[j] W (by omega))
          clear hgi
          generalize l[i] = t at *
          generalize l[j] = t' at *
          obtain ⟨sy, x, a⟩ := t
          obtain ⟨sy', x', a'⟩ := t'
          unfold Tok.v at HSz
          simp only at *
          have hs1 : IntKind.i64.wrap ((i : Int) - 1) = j := by rw [Go.IntWalk.i64_in _ (by omega)]; omega
          have hs2 : IntKind.i64.wrap (a' + (2 + (x'.length : Int))) = a' + (2 + (x'.length : Int)) := Go.IntWalk.i64_in _ (by omega)
          have hjz : (j : Int) < l.length := by omega
          have hiz : (i : Int) < l.length := by omega
          have hbw : b < wr.heap.size := by have := hB.size; omega
          have HI := Lib.hid hij
          have HB := Lib.hid hB
          have HS := Lib.hid hS
          have HBd := Lib.hid hbd
          have hb0 := (Below.refl wr.heap.size wr).drew
          clear hij hjl hB hS hbd hb hx ha0 ha1
          by_cases hq : a = a' + (2 + (x'.length : Int))
          · rw [if_pos hq] at heq
            subst hq
            have HE := Lib.hid heq
            clear heq
            go_wp2_with fail
            go_region_held3 (fun W => Below wr.heap.size wr W ∧ W.cell? ⟨b, o + i * 3 + 2, none⟩ = some (.int .i64 (a' + (2 + (x'.length : Int)))) ∧ W.cell? ⟨b, o + j * 3, none⟩ = some (.int .i64 sy') ∧ W.cell? ⟨b, o + j * 3 + 1, none⟩ = some (.string ⟨x'.toArray⟩) ∧ W.cell? ⟨b, o + j * 3 + 2, none⟩ = some (.int .i64 a'))
              (exact ⟨by assumption, ((by assumption : Below wr.heap.size wr _).cell (p := ⟨b, o + i * 3 + 2, none⟩) hbw).trans c2, ((by assumption : Below wr.heap.size wr _).cell (p := ⟨b, o + j * 3, none⟩) hbw).trans d0, ((by assumption : Below wr.heap.size wr _).cell (p := ⟨b, o + j * 3 + 1, none⟩) hbw).trans d1, ((by assumption : Below wr.heap.size wr _).cell (p := ⟨b, o + j * 3 + 2, none⟩) hbw).trans d2⟩)
              (first
                | (go_at_call 38; refine (HSz.out _).mono ?_; rintro e w3 ⟨rfl, hb3⟩; have hb4 := hb0.trans (hb3.mono hb0.size)))
            go_wp2_with fail
            go_roundw
            case rel => exact ⟨i + 1, j + 1, by have := HI.out; omega, .inl (by omega), by go_num, HE.out, below_on HB.out (by assumption) (Nat.le_refl _)⟩
            case measure => simp [intOf]; omega
          · rw [if_neg hq] at heq
            have HE := Lib.hid heq
            have hqb : (a != a' + (2 + (x'.length : Int))) = true := bne_iff_ne.2 hq
            clear heq
            go_wp2_with fail
            go_region_held3 (fun W => Below wr.heap.size wr W ∧ W.cell? ⟨b, o + i * 3 + 2, none⟩ = some (.int .i64 a) ∧ W.cell? ⟨b, o + j * 3, none⟩ = some (.int .i64 sy') ∧ W.cell? ⟨b, o + j * 3 + 1, none⟩ = some (.string ⟨x'.toArray⟩) ∧ W.cell? ⟨b, o + j * 3 + 2, none⟩ = some (.int .i64 a'))
              (exact ⟨by assumption, ((by assumption : Below wr.heap.size wr _).cell (p := ⟨b, o + i * 3 + 2, none⟩) hbw).trans c2, ((by assumption : Below wr.heap.size wr _).cell (p := ⟨b, o + j * 3, none⟩) hbw).trans d0, ((by assumption : Below wr.heap.size wr _).cell (p := ⟨b, o + j * 3 + 1, none⟩) hbw).trans d1, ((by assumption : Below wr.heap.size wr _).cell (p := ⟨b, o + j * 3 + 2, none⟩) hbw).trans d2⟩)
              (first
                | (go_at_call 38; refine (HSz.out _).mono ?_; rintro e w3 ⟨rfl, hb3⟩; have hb4 := hb0.trans (hb3.mono hb0.size)))
            go_wp2_with fail
            go_ret3
            exact ⟨HPF.out _ _ (HR2.out HZ.out HE.out), below_on HB.out (by assumption) (Nat.le_refl _)⟩
        · have h0 : plE l = 0 := by rw [heq]; exact plE_end l j (by omega)
          have HE := Lib.hid h0
          have hltz : ¬ (i : Int) < l.length := by omega
          clear heq h0
          have HDv := Lib.hid (divide_any A cap D l n wr (hS.below hB hD) (Nat.le_trans hD hB.size) hn)
          have HB := Lib.hid hB
          clear hS hB hbd
          go_wp2_with fail
          refine HDv.out.mono ?_
          rintro e w4 ⟨⟨L, rest, Ao, Ar, co, cr, hdv, rfl, hO, hR, hT⟩, hb4⟩
          go_wp2_with fail
          go_ret3
          exact ⟨⟨L, rest, Ao, Ar, co, cr, 0, HR3.out _ _ hdv HZ.out HE.out, rfl, hO.base (Nat.zero_le _), hR, hT.base (Nat.zero_le _)⟩, below_on HB.out hb4 (Nat.le_refl _)⟩
end Go.Proofs.Ytdndomjmnlpjgaa
