/- The reference: Find, Name, Same. No condition. -/
import Derived.Test.YtbobpgjgknkogaaI31
namespace Go.Proofs.Ytbobpgjgknkogaa
open Go.RowKit Go.Maps
set_option maxRecDepth 100000 in
set_option maxHeartbeats 3200000 in
theorem rFind_any (A : Option Addr) (cap D : Nat) (l : List (List UInt8)) (s : List UInt8) (w : World) (hS : Sl w D 1 A l.length cap (l.map strV)) (hD : D ≤ w.heap.size) (hn : l.length ≤ 1000) (hl : ∀ s ∈ l, s.length ≤ maxLen) (hs : s.length ≤ maxLen) :
    Calls Try.prog 22 #[.agg #[.slice A l.length cap], .string ⟨s.toArray⟩] w fun e w' => e = .returned (.tuple #[.int .i64 ((findR l s).1 : Int), .int .i64 (findR l s).2]) ∧ Below w.heap.size w w' := by
  have hB0 := (Below.refl w.heap.size w).alloc (Nat.le_refl _) (.cells #[.slice A l.length cap] 24)
  have b0 := Blk.new w 24 #[.slice A l.length cap]
  have HC := Lib.hid (rOk_any A cap D l _ (hS.below hB0 hD) (Nat.le_trans hD hB0.size) hn hl)
  have HN := Lib.hid (fun W => rName_any s W hs)
  have HA := Lib.hid (fun W h => rAt_any A cap D l s W h hn)
  have hR : findR l s = if (chkT l).1 ≠ 0 then (0, (chkT l).1) else if nameE s ≠ 0 then (0, nameE s) else if s ∈ l then ((idxF l s).getD 0, 0) else (0, 7) := rfl
  generalize findR l s = R at *
  generalize (chkT l).1 = c0 at *
  generalize nameE s = ne at *
  have HB := Lib.hid (And.intro b0 hB0)
  have HS := Lib.hid hS
  clear hS hl hB0 b0
  go_enter Try.func22, Try.ntmps22
  go_wp2_with fail
  refine HC.out.mono ?_
  rintro e w1 ⟨rfl, hb1⟩
  have p1 := (cells1 (HB.out.1.on hb1)).1
  have HB1 := Lib.hid (below_on HB.out.2 hb1 (Nat.le_refl _))
  clear hb1 HC HB
  by_cases hc : c0 = 0
  · rw [if_neg (by simpa using hc)] at hR
    subst hc
    go_wp2_with fail
    refine (HN.out _).mono ?_
    rintro e w2 ⟨rfl, rfl⟩
    clear HN
    by_cases hne : ne = 0
    · rw [if_neg (by simpa using hne)] at hR
      subst hne
      go_wp2_with fail
      refine (HA.out _ (HS.out.below HB1.out hD)).mono ?_
      rintro e w3 ⟨rfl, rfl⟩
      clear HA
      by_cases hin : s ∈ l
      · rw [if_pos hin] at hR
        rw [atR_in hin]
        generalize (idxF l s).getD 0 = ix at *
        subst hR
        go_wp2_with fail
        go_ret2
        exact ⟨rfl, HB1.out⟩
      · rw [if_neg hin] at hR
        rw [atR_out hin]
        subst hR
        go_wp2_with fail
        go_ret2
        exact ⟨rfl, HB1.out⟩
    · rw [if_pos hne] at hR
      subst hR
      have hnb : (ne != 0) = true := bne_iff_ne.2 hne
      clear HA
      go_wp2_with fail
      go_ret2
      exact ⟨rfl, HB1.out⟩
  · rw [if_pos hc] at hR
    subst hR
    have hcb : (c0 != 0) = true := bne_iff_ne.2 hc
    have hcb2 : (c0 == 0) = false := by simpa using hc
    clear HA HN
    go_wp2_with fail
    go_ret2
    exact ⟨rfl, HB1.out⟩
set_option maxRecDepth 100000 in
set_option maxHeartbeats 3200000 in
theorem rNameAt_any (A : Option Addr) (cap D : Nat) (l : List (List UInt8)) (n : Int) (w : World) (hS : Sl w D 1 A l.length cap (l.map strV)) (hD : D ≤ w.heap.size) (hn : l.length ≤ 1000) (hl : ∀ s ∈ l, s.length ≤ maxLen) :
    Calls Try.prog 24 #[.agg #[.slice A l.length cap], .int .i64 n] w fun e w' => e = .returned (.tuple #[.string ⟨(nameR l n).1.toArray⟩, .int .i64 (nameR l n).2]) ∧ Below w.heap.size w w' := by
  have hB0 := (Below.refl w.heap.size w).alloc (Nat.le_refl _) (.cells #[.slice A l.length cap] 24)
  have b0 := Blk.new w 24 #[.slice A l.length cap]
  have HC := Lib.hid (rOk_any A cap D l _ (hS.below hB0 hD) (Nat.le_trans hD hB0.size) hn hl)
  have hR : nameR l n = if (chkT l).1 ≠ 0 then ([], (chkT l).1) else if n < 0 ∨ (l.length : Int) ≤ n then ([], 2) else (l.getD n.toNat [], 0) := rfl
  generalize nameR l n = R at *
  generalize (chkT l).1 = C at *
  have HB0 := Lib.hid (And.intro b0 (And.intro hB0 hS))
  clear hS hl hB0 b0
  by_cases hc : C = 0
  · rw [if_neg (by simpa using hc)] at hR
    by_cases h1 : n < 0
    · rw [if_pos (.inl h1)] at hR
      subst hR
      go_enter Try.func24, Try.ntmps24
      go_wp2_with fail
      refine HC.out.mono ?_
      rintro e w1 ⟨rfl, hb1⟩
      have HB1 := Lib.hid (below_on HB0.out.2.1 hb1 (Nat.le_refl _))
      clear hb1
      go_wp2_with fail
      go_ret2
      exact ⟨rfl, HB1.out⟩
    · by_cases h2 : (l.length : Int) ≤ n
      · rw [if_pos (.inr h2)] at hR
        subst hR
        go_enter Try.func24, Try.ntmps24
        go_wp2_with fail
        refine HC.out.mono ?_
        rintro e w1 ⟨rfl, hb1⟩
        have c0 := (cells1 (Blk.on HB0.out.1 hb1)).1
        have HB1 := Lib.hid (below_on HB0.out.2.1 hb1 (Nat.le_refl _))
        clear hb1
        go_wp2_with fail
        go_ret2
        exact ⟨rfl, HB1.out⟩
      · rw [if_neg (by omega)] at hR
        obtain ⟨k, rfl⟩ := Int.eq_ofNat_of_zero_le (show 0 ≤ n by omega)
        have hk : k < l.length := by omega
        rw [Int.toNat_natCast, List.getD_eq_getElem?_getD, List.getElem?_eq_getElem hk] at hR
        have hR' : R = (l[k], 0) := hR
        clear hR
        subst hR'
        obtain ⟨hSv⟩ : Nonempty (∀ W, Sl W D 1 A l.length cap (l.map strV) → _) := ⟨fun W h => sl_str h hk⟩
        generalize l[k] = s at *
        have HSv := Lib.hid hSv
        clear hSv
        go_enter Try.func24, Try.ntmps24
        go_wp2_with fail
        refine HC.out.mono ?_
        rintro e w1 ⟨rfl, hb1⟩
        have c0 := (cells1 (Blk.on HB0.out.1 hb1)).1
        have hB1 := below_on HB0.out.2.1 hb1 (Nat.le_refl _)
        obtain ⟨b, o, rfl, hb, d0⟩ := HSv.out w1 (HB0.out.2.2.below hB1 hD)
        have HB1 := Lib.hid hB1
        clear hb1 hB1
        go_wp2_with fail
        go_ret2
        exact ⟨rfl, HB1.out⟩
  · rw [if_pos hc] at hR
    subst hR
    have hcb : (C != 0) = true := bne_iff_ne.2 hc
    have hcb2 : (C == 0) = false := by simpa using hc
    go_enter Try.func24, Try.ntmps24
    go_wp2_with fail
    refine HC.out.mono ?_
    rintro e w1 ⟨rfl, hb1⟩
    have HB1 := Lib.hid (below_on HB0.out.2.1 hb1 (Nat.le_refl _))
    clear hb1
    go_wp2_with fail
    go_ret2
    exact ⟨rfl, HB1.out⟩
set_option maxRecDepth 100000 in
set_option maxHeartbeats 3200000 in
theorem rSame_any (A1 A2 : Option Addr) (cap1 cap2 D : Nat) (l k : List (List UInt8)) (w : World) (hS1 : Sl w D 1 A1 l.length cap1 (l.map strV)) (hS2 : Sl w D 1 A2 k.length cap2 (k.map strV)) (hD : D ≤ w.heap.size) (hn : l.length ≤ 100000) (hn2 : k.length ≤ 100000) :
    Calls Try.prog 32 #[.agg #[.slice A1 l.length cap1], .agg #[.slice A2 k.length cap2]] w fun e w' => e = .returned (.bool (decide (l = k))) ∧ Below w.heap.size w w' := by
  obtain ⟨R, hR⟩ : ∃ R : Bool, decide (l = k) = R := ⟨_, rfl⟩
  have HR1 := Lib.hid (show l = k → R = true from fun h => by rw [← hR]; exact decide_eq_true h)
  have HR2 := Lib.hid (show l ≠ k → R = false from fun h => by rw [← hR]; exact decide_eq_false h)
  rw [hR]
  clear hR
  have b0 := (Blk.new w 24 #[.slice A1 l.length cap1]).alloc (.cells #[.slice A2 k.length cap2] 24)
  have b1 : Blk ((w.alloc (.cells #[.slice A1 l.length cap1] 24)).alloc (.cells #[.slice A2 k.length cap2] 24)) (w.heap.size + 1) 24 #[.slice A2 k.length cap2] := Blk.newAt _ _ _ (by simp)
  have hB := (((Below.refl w.heap.size w).alloc (Nat.le_refl _) (.cells #[.slice A1 l.length cap1] 24)).alloc (by simp) (.cells #[.slice A2 k.length cap2] 24))
  have HB := Lib.hid (And.intro b0 (And.intro b1 (And.intro (hS1.below hB hD) (And.intro (hS2.below hB hD) hB))))
  clear b0 b1 hB hS1 hS2
  by_cases hlen : l.length = k.length
  · have HLen := Lib.hid hlen
    have hcast : (l.length : Int) = k.length := by omega
    go_enter Try.func32, Try.ntmps32
    clear hlen
    go_wp2_with fail
    clear hcast
    generalize (w.alloc (.cells #[.slice A1 l.length cap1] 24)).alloc (.cells #[.slice A2 k.length cap2] 24) = v at *
    go_loopw [5] (fun i W => ∃ j : Nat, j ≤ l.length ∧ i = .int .i64 j ∧ l.take j = k.take j ∧ Blk W w.heap.size 24 #[.slice A1 l.length cap1] ∧ Blk W (w.heap.size + 1) 24 #[.slice A2 k.length cap2] ∧ Below v.heap.size v W ∧ Sl W D 1 A1 l.length cap1 (l.map strV) ∧ Sl W D 1 A2 k.length cap2 (k.map strV)) (fun i _ => l.length - (intOf i).toNat)
    case atStart => exact ⟨0, Nat.zero_le _, rfl, rfl, HB.out.1, HB.out.2.1, Below.refl _ _, HB.out.2.2.1, HB.out.2.2.2.1⟩
    case round =>
      obtain ⟨j, hj, rfl, heq, b0, b1, hBv, hS1, hS2⟩ := hrel
      have c0 := (cells1 b0).1
      have c1 := (cells1 b1).1
      by_cases hlt : j < l.length
      · have hlt2 : j < k.length := by have := HLen.out; omega
        obtain ⟨b, o, rfl, hb, d0⟩ := sl_str hS1 hlt
        obtain ⟨b2, o2, rfl, hb2, d1⟩ := sl_str hS2 hlt2
        have hsn : l.take (j + 1) = l.take j ++ [l[j]] := takeSnoc l j hlt
        have hsn2 : k.take (j + 1) = k.take j ++ [k[j]] := takeSnoc k j hlt2
        have hne : l[j] ≠ k[j] → l ≠ k := fun h h' => by subst h'; exact h rfl
        generalize l[j] = t at *
        generalize k[j] = u at *
        have H1 := Lib.hid hsn
        have H2 := Lib.hid hsn2
        have HN := Lib.hid hne
        have HQ := Lib.hid heq
        have HS := Lib.hid (And.intro b0 (And.intro b1 (And.intro hBv (And.intro hS1 hS2))))
        clear hsn hsn2 hne heq hS1 hS2 b0 b1 hBv
        by_cases ht : t = u
        · subst ht
          go_wp2_with fail
          go_quiet (fail)
          go_wp2_with fail
          go_roundw
          case rel => exact ⟨j + 1, by omega, by go_num, by rw [H1.out, H2.out, HQ.out], HS.out.1.drewN _, HS.out.2.1.drewN _, HS.out.2.2.1.trans ⟨rfl, rfl, rfl, Nat.le_refl _, fun _ _ => rfl⟩, HS.out.2.2.2.1.drewN _, HS.out.2.2.2.2.drewN _⟩
          case measure => simp [intOf]; omega
        · have hR0 := HR2.out (HN.out ht)
          have hxb : (t == u) = false := by simpa using ht
          subst hR0
          have hBf := Lib.hid (HB.out.2.2.2.2.trans (HS.out.2.2.1.mono HB.out.2.2.2.2.size))
          clear ht HR1 HR2 HN H1 H2 HQ
          go_wp2_with fail
          go_quiet (fail)
          go_wp2_with fail
          go_ret
          exact ⟨rfl, hBf.out.trans ⟨rfl, rfl, rfl, Nat.le_refl _, fun _ _ => rfl⟩⟩
      · obtain rfl : j = l.length := by omega
        have hall : l = k := by
          have h1 := HLen.out
          rw [List.take_length] at heq
          rw [heq, h1, List.take_length]
        have hR0 := HR1.out hall
        have hBf := Lib.hid (HB.out.2.2.2.2.trans (hBv.mono HB.out.2.2.2.2.size))
        have hlast : ¬ (l.length : Int) < k.length := by have := HLen.out; omega
        clear heq hall HR1 HR2 hS1 hS2 HLen b0 b1 hBv
        subst hR0
        go_wp2_with fail
        go_ret
        exact ⟨rfl, hBf.out⟩
  · have hR0 := HR2.out (fun h => hlen (by rw [h]))
    subst hR0
    have hc : ¬ (l.length : Int) = k.length := by omega
    clear HR1 HR2
    go_enter Try.func32, Try.ntmps32
    go_wp2_with fail
    go_ret
    exact ⟨rfl, HB.out.2.2.2.2⟩
end Go.Proofs.Ytbobpgjgknkogaa
