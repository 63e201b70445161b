/- The reference's divide; SameRecs. No condition. -/
import Derived.Test.YtdndomjmnlpjgaaP3
namespace Go.Proofs.Ytdndomjmnlpjgaa
open Go.RowKit
set_option maxRecDepth 100000 in
set_option maxHeartbeats 3200000 in
theorem divide_any (A : Option Addr) (cap D : Nat) (l : List Tok) (m : Int) (w : World) (hS : Sl w D 3 A l.length cap (tokC l)) (hD : D ≤ w.heap.size) (hn : l.length ≤ 20000) :
    Calls Try.prog 65 #[.slice A l.length cap, .int .i64 m] w fun e w' => (∃ (L : List RcM) (rest : List Tok) (Ao Ar : Option Addr) (co cr : Nat), divA m l [] = (L.map (·.r), rest) ∧ e = .returned (.tuple #[.slice Ao L.length co, .slice Ar rest.length cr]) ∧
      Own w' w.heap.size 43 3 Ao L.length co (rcC L) ∧ rcO w' w'.heap.size L ∧ Own w' w.heap.size 41 3 Ar rest.length cr (tokC rest)) ∧ Below w.heap.size w w' := by
  obtain ⟨i0, hi0, hz0, hz1, hz2⟩ := info_parts infoR
  obtain ⟨j0, hj0, hy0, hy1, hy2⟩ := info_parts infoT
  go_enter Try.func65, Try.ntmps65
  go_wp2_with fail
  go_loopw [6, 7, 8] (fun v6 v7 v8 W => ∃ (i : Nat) (L : List RcM) (rest : List Tok) (Ao Ar : Option Addr) (co cr B : Nat), i ≤ l.length ∧ v8 = .int .i64 i ∧ v6 = .slice Ao L.length co ∧ v7 = .slice Ar rest.length cr ∧ divA m l [] = (L.map (·.r) ++ (divA m (l.drop i) rest).1, (divA m (l.drop i) rest).2) ∧ L.length ≤ i ∧ rest.length ≤ i ∧
    Own W w.heap.size 43 3 Ao L.length co (rcC L) ∧ w.heap.size ≤ B ∧ B ≤ W.heap.size ∧ rcO W B L ∧ Own W B 41 3 Ar rest.length cr (tokC rest) ∧ Below w.heap.size w W) (fun _ _ v8 _ => l.length - (intOf v8).toNat)
  case atStart => exact ⟨0, [], [], none, none, 0, 0, w.heap.size, Nat.zero_le _, rfl, rfl, rfl, by simp, Nat.le_refl _, Nat.le_refl _, Own.nil _ _ _ _, Nat.le_refl _, Nat.le_refl _, rcO.nil _ _, Own.nil _ _ _ _, Below.refl _ _⟩
  case round =>
    obtain ⟨i, L, rest, Ao, Ar, co, cr, B, hi, rfl, rfl, rfl, hdv, hLi, hri, hO, hwB, hBW, hR, hT, hB⟩ := hrel
    by_cases hlt : i < l.length
    · obtain ⟨b, o, rfl, hb, c0, c1, c2⟩ := sl_tok (hS.below hB hD) hlt
      rw [divA_at m hlt] at hdv
      generalize l[i] = t at *
      obtain ⟨sy, x, a⟩ := t
      simp only at *
      have hm1 : L.length + 1 ≤ maxLen := by simp only [maxLen]; omega
      have hm2 : (L.length + 1) * 40 ≤ 140737488355328 := by omega
      have hk1 : rest.length + 1 ≤ maxLen := by simp only [maxLen]; omega
      have hk2 : (rest.length + 1) * 32 ≤ 140737488355328 := by omega
      have hwW : w.heap.size ≤ wr.heap.size := by omega
      by_cases hsy : sy = m
      · rw [if_pos hsy] at hdv
        subst hsy
        have HDv := Lib.hid hdv
        have HG := Lib.hid (And.intro hR (And.intro hT hB))
        clear hdv hR hT hB
        go_wp2_with (at_builtin; refine wpList_append_new rfl _ _ _ rfl w.heap.size 43 i0 _ 3 40 Try.underlying35 hi0 hz0 hz1 hz2 rfl (by decide) rfl hO #[.slice Ar rest.length cr, .int .i64 1, .int .i64 a] rfl rfl (by simp [Value.oneCell']) hm1 hm2 hwW ?_; intro A5 cap5 W5 hown5 hg5 hat5)
        obtain ⟨hR, hT, hB⟩ := HG.out
        have hT5 := hT.grown hg5 (Own.ne_type (by decide) hT hO)
        have hR5 := (hR.grownR (by decide) hO hg5).more (Nat.le_trans hBW hg5.size)
        have hB5 := grown_below hB hO hg5 hwW
        go_roundw
        case rel =>
          refine ⟨i + 1, L ++ [⟨Ar, cr, ⟨rest, 1, a⟩⟩], [], A5, none, cap5, 0, W5.heap.size, by omega, by go_num, by rw [List.length_append]; rfl, rfl, ?_, by rw [List.length_append]; simp; omega, Nat.zero_le _, ?_, hB5.size, Nat.le_refl _, ?_, Own.nil _ _ _ _, hB5⟩
          · rw [HDv.out]; simp
          · rw [List.length_append, rcC_append]; exact hown5
          · intro x hx
            rcases List.mem_append.1 hx with hx | hx
            · exact hR5 x hx
            · simp only [List.mem_cons, List.not_mem_nil, or_false] at hx
              subst hx
              exact ⟨hT5.base (Nat.zero_le _), fun g hg => (hT5.lt hg).2⟩
        case measure => simp [intOf]; omega
      · rw [if_neg hsy] at hdv
        have hsyb : (sy == m) = false := by simpa using hsy
        have HDv := Lib.hid hdv
        have HG := Lib.hid (And.intro hR (And.intro hO hB))
        clear hdv hR hO hB hsy
        go_wp2_with (at_builtin; refine wpList_append_new rfl _ _ _ rfl B 41 j0 _ 3 32 Try.underlying24 hj0 hy0 hy1 hy2 rfl (by decide) rfl hT #[.int .i64 sy, .string ⟨x.toArray⟩, .int .i64 a] rfl rfl (by simp [Value.oneCell']) hk1 hk2 hBW ?_; intro A5 cap5 W5 hown5 hg5 hat5)
        obtain ⟨hR, hO, hB⟩ := HG.out
        have hO5 := hO.grown hg5 (Own.ne_type (by decide) hO hT)
        have hR5 := hR.grownT hT hg5
        have hB5 := grown_below hB (hT.base hwB) hg5 hwW
        go_roundw
        case rel => exact ⟨i + 1, L, rest ++ [⟨sy, x, a⟩], Ao, A5, co, cap5, B, by omega, by go_num, rfl, by rw [List.length_append]; rfl, HDv.out, by omega, by rw [List.length_append]; simp; omega, hO5, hwB, Nat.le_trans hBW hg5.size, hR5, by rw [List.length_append, tokC_append]; exact hown5, hB5⟩
        case measure => simp [intOf]; omega
    · obtain rfl : i = l.length := by omega
      rw [List.drop_length] at hdv
      have hdv' : divA m l [] = (L.map (·.r), rest) := by rw [hdv]; simp [divA]
      have HDv := Lib.hid hdv'
      have HG := Lib.hid (And.intro hR (And.intro hT (And.intro hO hB)))
      clear hdv hdv' hR hT hO hB
      go_wp2_with fail
      obtain ⟨hR, hT, hO, hB⟩ := HG.out
      go_ret2
      exact ⟨⟨L, rest, Ao, Ar, co, cr, HDv.out, rfl, hO, hR.more hBW, hT.base hwB⟩, hB⟩
set_option maxRecDepth 100000 in
set_option maxHeartbeats 6400000 in
theorem SameRecs_any (A1 A2 : Option Addr) (cap1 cap2 : Nat) (l k : List RcM) (w : World) (hS1 : Sl w w.heap.size 3 A1 l.length cap1 (rcC l)) (hS2 : Sl w w.heap.size 3 A2 k.length cap2 (rcC k))
    (r1 : ∀ x ∈ l, Sl w w.heap.size 3 x.A x.r.toks.length x.cap (tokC x.r.toks)) (r2 : ∀ x ∈ k, Sl w w.heap.size 3 x.A x.r.toks.length x.cap (tokC x.r.toks)) (hn : l.length ≤ 100000) (t1 : ∀ x ∈ l, x.r.toks.length ≤ 100000) (t2 : ∀ x ∈ k, x.r.toks.length ≤ 100000) :
    Calls Try.prog 26 #[.slice A1 l.length cap1, .slice A2 k.length cap2] w fun e w' => e = .returned (.bool (decide (l.map (·.r) = k.map (·.r)))) ∧ Below w.heap.size w w' := by
  obtain ⟨R, hR⟩ : ∃ R : Bool, decide (l.map (·.r) = k.map (·.r)) = R := ⟨_, rfl⟩
  have HR1 := Lib.hid (show l.map (·.r) = k.map (·.r) → R = true from fun h => by rw [← hR]; exact decide_eq_true h)
  have HR2 := Lib.hid (show l.map (·.r) ≠ k.map (·.r) → R = false from fun h => by rw [← hR]; exact decide_eq_false h)
  rw [hR]
  clear hR
  by_cases hlen : l.length = k.length
  · have HLen := Lib.hid hlen
    have hcast : (l.length : Int) = k.length := by omega
    go_enter Try.func26, Try.ntmps26
    clear hlen
    go_wp2_with fail
    clear hcast
    go_loopw [5] (fun i W => ∃ j : Nat, j ≤ l.length ∧ i = .int .i64 j ∧ (l.take j).map (·.r) = (k.take j).map (·.r) ∧ Below w.heap.size w W) (fun i _ => l.length - (intOf i).toNat)
    case atStart => exact ⟨0, Nat.zero_le _, rfl, rfl, Below.refl _ _⟩
    case round =>
      obtain ⟨j, hj, rfl, heq, hBr⟩ := hrel
      have hsr := hBr.size
      by_cases hlt : j < l.length
      · have hlt2 : j < k.length := by have := HLen.out; omega
        obtain ⟨b, o, rfl, hb, c0, c1, c2⟩ := sl_rc (hS1.below hBr (Nat.le_refl _)) hlt
        obtain ⟨b2, o2, rfl, hb2, d0, d1, d2⟩ := sl_rc (hS2.below hBr (Nat.le_refl _)) hlt2
        have s1 := (r1 _ (List.getElem_mem hlt)).below hBr (Nat.le_refl _)
        have s2 := (r2 _ (List.getElem_mem hlt2)).below hBr (Nat.le_refl _)
        have n1 := t1 _ (List.getElem_mem hlt)
        have n2 := t2 _ (List.getElem_mem hlt2)
        have HKT := Lib.hid (fun W (hW : Below wr.heap.size wr W) => SameTokens_any l[j].A k[j].A l[j].cap k[j].cap w.heap.size l[j].r.toks k[j].r.toks W (s1.below hW hsr) (s2.below hW hsr) n1 n2)
        have hsn : (l.take (j + 1)).map (·.r) = (l.take j).map (·.r) ++ [l[j].r] := by rw [take_snoc l j hlt, List.map_append]; rfl
        have hsn2 : (k.take (j + 1)).map (·.r) = (k.take j).map (·.r) ++ [k[j].r] := by rw [take_snoc k j hlt2, List.map_append]; rfl
        have hne : l[j].r ≠ k[j].r → l.map (·.r) ≠ k.map (·.r) := fun h h' => by
          have e1 : (l.map (·.r))[j]? = some l[j].r := by rw [List.getElem?_map, List.getElem?_eq_getElem hlt]; rfl
          have e2 : (k.map (·.r))[j]? = some k[j].r := by rw [List.getElem?_map, List.getElem?_eq_getElem hlt2]; rfl
          rw [h', e2] at e1
          injection e1 with e1
          exact h e1.symm
        clear s1 s2 n1 n2
        generalize l[j] = t at *
        generalize k[j] = u at *
        obtain ⟨xA, xc, ⟨xt, xf, xa⟩⟩ := t
        obtain ⟨yA, yc, ⟨yt, yf, ya⟩⟩ := u
        simp only at *
        have H1 := Lib.hid hsn
        have H2 := Lib.hid hsn2
        have HN := Lib.hid hne
        have HQ := Lib.hid heq
        have HB := Lib.hid hBr
        have hbw : b < wr.heap.size := by omega
        have hbw2 : b2 < wr.heap.size := by omega
        have hltz : (j : Int) < l.length := by omega
        have hlt2z : (j : Int) < k.length := by omega
        have hb0 := (Below.refl wr.heap.size wr).drew
        have KT := Lib.hid (fun W (hW : Below wr.heap.size wr W) => (HKT.out W hW).mono fun e W' ⟨he, hb⟩ => And.intro he (hW.trans (hb.mono hW.size)))
        clear hsn hsn2 hne heq hBr hS1 hS2 r1 r2 t1 t2 HKT
        by_cases ht : xf = yf ∧ xa = ya
        · obtain ⟨rfl, rfl⟩ := ht
          by_cases hk : xt = yt
          · subst hk
            rw [decide_eq_true rfl] at KT
            clear HR2 HN
            go_wp2_with fail
            go_region_held3 (fun W => Below wr.heap.size wr W ∧ W.cell? ⟨b, o + j * 3, none⟩ = some (.slice xA xt.length xc) ∧ W.cell? ⟨b, o + j * 3 + 1, none⟩ = some (.int .i64 xf) ∧ W.cell? ⟨b, o + j * 3 + 2, none⟩ = some (.int .i64 xa) ∧ W.cell? ⟨b2, o2 + j * 3, none⟩ = some (.slice yA xt.length yc) ∧ W.cell? ⟨b2, o2 + j * 3 + 1, none⟩ = some (.int .i64 xf) ∧ W.cell? ⟨b2, o2 + j * 3 + 2, none⟩ = some (.int .i64 xa))
            (exact ⟨by assumption, ((by assumption : Below wr.heap.size wr _).cell (p := ⟨b, o + j * 3, none⟩) hbw).trans c0, ((by assumption : Below wr.heap.size wr _).cell (p := ⟨b, o + j * 3 + 1, none⟩) hbw).trans c1, ((by assumption : Below wr.heap.size wr _).cell (p := ⟨b, o + j * 3 + 2, none⟩) hbw).trans c2, ((by assumption : Below wr.heap.size wr _).cell (p := ⟨b2, o2 + j * 3, none⟩) hbw2).trans d0, ((by assumption : Below wr.heap.size wr _).cell (p := ⟨b2, o2 + j * 3 + 1, none⟩) hbw2).trans d1, ((by assumption : Below wr.heap.size wr _).cell (p := ⟨b2, o2 + j * 3 + 2, none⟩) hbw2).trans d2⟩)
            (first
              | (go_at_call 19; refine (KT.out _ ?_).mono ?_; (exact (by assumption : _ ∧ _).1); rintro e w3 ⟨rfl, hb3⟩))
            go_wp2_with fail
            go_roundw
            case rel => exact ⟨j + 1, by omega, by go_num, by rw [H1.out, H2.out, HQ.out], below_on HB.out (by assumption) (Nat.le_refl _)⟩
            case measure => simp [intOf]; omega
          · rw [decide_eq_false hk] at KT
            have hR0 := HR2.out (HN.out (fun h => by injection h with h1; exact hk h1))
            subst hR0
            clear hk HR1 HR2 HN H1 H2 HQ
            go_wp2_with fail
            go_region_held3 (fun W => Below wr.heap.size wr W ∧ W.cell? ⟨b, o + j * 3, none⟩ = some (.slice xA xt.length xc) ∧ W.cell? ⟨b, o + j * 3 + 1, none⟩ = some (.int .i64 xf) ∧ W.cell? ⟨b, o + j * 3 + 2, none⟩ = some (.int .i64 xa) ∧ W.cell? ⟨b2, o2 + j * 3, none⟩ = some (.slice yA yt.length yc) ∧ W.cell? ⟨b2, o2 + j * 3 + 1, none⟩ = some (.int .i64 xf) ∧ W.cell? ⟨b2, o2 + j * 3 + 2, none⟩ = some (.int .i64 xa))
            (exact ⟨by assumption, ((by assumption : Below wr.heap.size wr _).cell (p := ⟨b, o + j * 3, none⟩) hbw).trans c0, ((by assumption : Below wr.heap.size wr _).cell (p := ⟨b, o + j * 3 + 1, none⟩) hbw).trans c1, ((by assumption : Below wr.heap.size wr _).cell (p := ⟨b, o + j * 3 + 2, none⟩) hbw).trans c2, ((by assumption : Below wr.heap.size wr _).cell (p := ⟨b2, o2 + j * 3, none⟩) hbw2).trans d0, ((by assumption : Below wr.heap.size wr _).cell (p := ⟨b2, o2 + j * 3 + 1, none⟩) hbw2).trans d1, ((by assumption : Below wr.heap.size wr _).cell (p := ⟨b2, o2 + j * 3 + 2, none⟩) hbw2).trans d2⟩)
            (first
              | (go_at_call 19; refine (KT.out _ ?_).mono ?_; (exact (by assumption : _ ∧ _).1); rintro e w3 ⟨rfl, hb3⟩))
            go_wp2_with fail
            go_ret
            exact ⟨rfl, below_on HB.out (by assumption) (Nat.le_refl _)⟩
        · have hR0 := HR2.out (HN.out (fun h => by injection h with h1 h2 h3; exact ht ⟨h2, h3⟩))
          subst hR0
          clear HR1 HR2 HN H1 H2 HQ KT
          by_cases h1 : xf = yf
          · subst h1
            have h2 : xa ≠ ya := fun h => ht ⟨rfl, h⟩
            have hz : (xa != ya) = true := bne_iff_ne.2 h2
            clear ht
            go_wp2_with fail
            go_quiet (fail)
            go_wp2_with fail
            go_ret
            exact ⟨rfl, HB.out.trans ⟨rfl, rfl, rfl, Nat.le_refl _, fun _ _ => rfl⟩⟩
          · have hz : (xf != yf) = true := bne_iff_ne.2 h1
            clear ht
            go_wp2_with fail
            go_quiet (fail)
            go_wp2_with fail
            go_ret
            exact ⟨rfl, HB.out.trans ⟨rfl, rfl, rfl, Nat.le_refl _, fun _ _ => rfl⟩⟩
      · obtain rfl : j = l.length := by omega
        have hall : l.map (·.r) = k.map (·.r) := by
          have h1 := HLen.out
          rw [List.take_length] at heq
          rw [heq, h1, List.take_length]
        have hR0 := HR1.out hall
        have hnl : ¬ l.length < k.length := by have := HLen.out; omega
        have hnlz : ¬ (l.length : Int) < (k.length : Int) := by have := HLen.out; omega
        clear heq hall HR1 HR2 hS1 hS2 HLen r1 r2 t1 t2
        subst hR0
        go_wp2_with fail
        go_ret
        exact ⟨rfl, hBr⟩
  · have hR0 := HR2.out (fun h => hlen (by have := congrArg List.length h; rw [List.length_map, List.length_map] at this; exact this))
    subst hR0
    have hc : ¬ (l.length : Int) = k.length := by omega
    clear HR1 HR2 hS1 hS2 r1 r2 t1 t2
    go_enter Try.func26, Try.ntmps26
    go_wp2_with fail
    go_ret
    exact ⟨rfl, Below.refl _ _⟩
end Go.Proofs.Ytdndomjmnlpjgaa
