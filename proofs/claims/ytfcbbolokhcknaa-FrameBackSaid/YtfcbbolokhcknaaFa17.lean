/- Plain laws of parts that can become whole; FrameParts. -/
import Derived.Test.YtfcbbolokhcknaaFa16
namespace Go.Proofs.Ytfcbbolokhcknaa
open Go.RowKit
theorem needs_ok (l : List UInt8) (hg : okG 3 l) : ∃ N : Nat, needN 3 l = N ∧ partE 3 l = 0 ∧ 1 ≤ N ∧ N ≤ 26 ∧ (l.length < 2 ∧ N = 2 - l.length ∨ 2 ≤ l.length ∧ N + l.length = 2 + b1 l) := by
  have hE : partE 3 l = 0 := by unfold partE rangedB; rw [if_neg (by decide)]; exact if_pos hg
  have hk := okG_len 3 l hg
  unfold needN
  rw [if_neg (by simpa using hE)]
  by_cases h2 : l.length < 2
  · exact ⟨2 - l.length, by rw [if_pos h2]; omega, hE, by omega, by omega, .inl ⟨h2, rfl⟩⟩
  · have := hk.2 (by omega)
    exact ⟨2 + b1 l - l.length, by rw [if_neg h2]; omega, hE, by omega, by omega, .inr ⟨by omega, by omega⟩⟩
theorem badN_zero (m n : Nat) : badN m n 0 = 0 := by
  unfold badN
  by_cases h0 : n = 0
  · rw [if_pos h0]; rfl
  · rw [if_neg h0]
    by_cases h1 : n = 1
    · rw [if_pos h1]; rfl
    · rw [if_neg h1]
theorem b1_app (l r : List UInt8) (h : 2 ≤ l.length) : b1 (l ++ r) = b1 l := by
  unfold b1
  rw [List.getD_eq_getElem?_getD, List.getD_eq_getElem?_getD, List.getElem?_append_left (by omega)]
theorem zero_whole (l : List UInt8) (N : Nat) (hN : l.length < 2 ∧ N = 2 - l.length ∨ 2 ≤ l.length ∧ N + l.length = 2 + b1 l) (j : Nat) (hj : j < N) :
    wholeP (l ++ List.replicate (j + 1) 0) = decide (j + 1 = N) := by
  rcases hN with ⟨h2, rfl⟩ | ⟨h2, hN⟩
  · match l, h2 with
    | [], _ =>
      rcases (by simp at hj; omega : j = 0 ∨ j = 1) with rfl | rfl <;> decide
    | [x], _ =>
      obtain rfl : j = 0 := by simp at hj; omega
      have e : wholeP ([x] ++ List.replicate (0 + 1) 0) = true := rfl
      rw [e]; rfl
  · unfold wholeP
    rw [b1_app l _ h2, List.length_append, List.length_replicate, decide_eq_true (show 2 ≤ l.length + (j + 1) by omega), Bool.true_and]
    by_cases h : j + 1 = N
    · rw [decide_eq_true h, decide_eq_true (by omega)]
    · rw [decide_eq_false h, decide_eq_false (by omega)]
theorem zero_ok (l : List UInt8) (hg : okG 3 l) (N : Nat) (hN : l.length < 2 ∧ N = 2 - l.length ∨ 2 ≤ l.length ∧ N + l.length = 2 + b1 l) : ∀ j, j < N → okG 3 (l ++ List.replicate j 0)
  | 0, _ => by simpa using hg
  | j + 1, hj => by
    have ih := zero_ok l hg N hN j (by omega)
    have hw := zero_whole l N hN j (by omega)
    rw [decide_eq_false (by omega)] at hw
    rw [List.replicate_succ', ← List.append_assoc] at hw ⊢
    exact (okG_snoc 3 _ 0).2 ⟨ih, badN_zero _ _, hw⟩
theorem partE_ok (l : List UInt8) (hg : okG 3 l) : partE 3 l = 0 := by unfold partE rangedB; rw [if_neg (by decide)]; exact if_pos hg
theorem take_zero (l : List UInt8) (hg : okG 3 l) (N : Nat) (hN : l.length < 2 ∧ N = 2 - l.length ∨ 2 ≤ l.length ∧ N + l.length = 2 + b1 l) (j : Nat) (hj : j < N) :
    takeE 3 (l ++ List.replicate j 0) 0 = 0 ∧ takeW 3 (l ++ List.replicate j 0) 0 = decide (j + 1 = N) ∧ (j + 1 < N → takeS 3 (l ++ List.replicate j 0) 0 = l ++ List.replicate (j + 1) 0) := by
  have hE := partE_ok _ (zero_ok l hg N hN j hj)
  have hT : takeE 3 (l ++ List.replicate j 0) 0 = 0 := by unfold takeE; rw [if_neg (by simpa using hE)]; exact badN_zero _ _
  have hw := zero_whole l N hN j hj
  rw [List.replicate_succ', ← List.append_assoc] at hw
  refine ⟨hT, ?_, fun hlt => ?_⟩
  · unfold takeW; rw [hT]; exact hw
  · unfold takeS
    rw [hT, List.replicate_succ', ← List.append_assoc]
    rw [decide_eq_false (by omega)] at hw
    exact if_pos ⟨rfl, hw⟩
theorem chunk_bad (l : List UInt8) (hg : okG 3 l) (b : Nat) (hb8 : b < 256) (hb : badN 3 l.length b ≠ 0) : chunkC 3 l [UInt8.ofNat b, 0, 0, 0] = ⟨[], [], 0, 0, badN 3 l.length b⟩ := by
  unfold chunkC
  rw [if_neg (by simpa using partE_ok l hg)]
  have e : (UInt8.ofNat b).toNat = b := Nat.mod_eq_of_lt hb8
  have e1 : stC (3 : Int).toNat l (ibs 0 [UInt8.ofNat b]) = ⟨[], [], 0, 0, badN 3 l.length b⟩ := by
    show stepC 3 ⟨l, [], 0, 0, 0⟩ _ = _
    unfold stepC
    rw [if_neg (by simp)]
    simp only [e]
    exact if_pos hb
  have e2 := stC_stop (3 : Int).toNat l (ibs 0 [UInt8.ofNat b]) (ibs 1 [0, 0, 0]) (by rw [e1]; exact hb)
  rw [e1] at e2
  exact e2
/-- What a byte makes of a part: whole, or what it needs then. -/
theorem next_needs (l : List UInt8) (hg : okG 3 l) (N : Nat) (hN : l.length < 2 ∧ N = 2 - l.length ∨ 2 ≤ l.length ∧ N + l.length = 2 + b1 l) (b : Nat) (hb8 : b < 256) (hb : badN 3 l.length b = 0) :
    (wholeP (l ++ [UInt8.ofNat b]) = true → N = 1) ∧ (wholeP (l ++ [UInt8.ofNat b]) = false → partE 3 (l ++ [UInt8.ofNat b]) = 0 ∧ (needN 3 (l ++ [UInt8.ofNat b]) = (N : Int) - 1 ∨ l.length = 1 ∧ needN 3 (l ++ [UInt8.ofNat b]) = b)) := by
  have e : (UInt8.ofNat b).toNat = b := Nat.mod_eq_of_lt hb8
  refine ⟨fun hw => ?_, fun hw => ?_⟩
  · unfold wholeP at hw
    simp only [Bool.and_eq_true, decide_eq_true_eq, List.length_append, List.length_singleton] at hw
    rcases hN with ⟨h2, rfl⟩ | ⟨h2, hN⟩
    · omega
    · rw [b1_app l _ h2] at hw; omega
  · have hg2 := (okG_snoc 3 l (UInt8.ofNat b)).2 ⟨hg, by rw [e]; exact hb, hw⟩
    have hE := partE_ok _ hg2
    refine ⟨hE, ?_⟩
    unfold needN
    rw [if_neg (by simpa using hE), List.length_append, List.length_singleton]
    rcases hN with ⟨h2, rfl⟩ | ⟨h2, hN⟩
    · match l, h2 with
      | [], _ => left; rfl
      | [x], _ =>
        right
        refine ⟨rfl, ?_⟩
        have e3 : b1 ([x] ++ [UInt8.ofNat b]) = b := e
        rw [if_neg (by simp), e3]
        simp
        omega
    · left
      rw [if_neg (by omega), b1_app l _ h2]
      omega
theorem run_bytes4_str (W : World) (k : Nat) (hk : k < 256) : (convert 41 9 (.slice (some ⟨W.heap.size, 0, none⟩) 4 4)).run Try.prog (W.alloc (.cells #[.int .u8 k, .int .u8 0, .int .u8 0, .int .u8 0] 5)) = .ok (.string ⟨[UInt8.ofNat k, 0, 0, 0].toArray⟩) (W.alloc (.cells #[.int .u8 k, .int .u8 0, .int .u8 0, .int .u8 0] 5)) := by
  have h := run_bytes_back (P := Try.prog) 41 9 5 Try.underlying41 Try.underlying5 Try.underlying9 (n := 4) (l := [UInt8.ofNat k, 0, 0, 0]) rfl (sl_row W #[.int .u8 (UInt8.ofNat k).toNat, .int .u8 (0 : UInt8).toNat, .int .u8 (0 : UInt8).toNat, .int .u8 (0 : UInt8).toNat] 5 4 rfl (by decide))
  rw [show (UInt8.ofNat k).toNat = k from Nat.mod_eq_of_lt hk] at h
  exact h
/-- Take of nought, as the row calls it. -/
theorem take_zeros (l : List UInt8) (hg : okG 3 l) (N : Nat) (hN : l.length < 2 ∧ N = 2 - l.length ∨ 2 ≤ l.length ∧ N + l.length = 2 + b1 l) (h26 : N ≤ 26) (hl : l.length ≤ 30) (j : Nat) (hj : j < N) (W : World) :
    Calls Try.prog 13 #[.int .i64 3, .string ⟨(l ++ List.replicate j 0).toArray⟩, .int .u8 0] W fun e w' => (∃ (s : List UInt8) (sy : Int) (x : List UInt8) (a : Int), (j + 1 < N → s = l ++ List.replicate (j + 1) 0) ∧ e = .returned (.tuple #[.string ⟨s.toArray⟩, (Tok.mk sy x a).v, .bool (decide (j + 1 = N)), .int .i64 0])) ∧ Below W.heap.size W w' := by
  obtain ⟨h1, h2, h3⟩ := take_zero l hg N hN j hj
  refine Calls.mono (Take_any 3 (l ++ List.replicate j 0) 0 W (by simp; omega) (by decide)) ?_
  rintro e w' ⟨rfl, hb⟩
  refine ⟨⟨_, (takeT 3 (l ++ List.replicate j 0) 0).sym, (takeT 3 (l ++ List.replicate j 0) 0).text, (takeT 3 (l ++ List.replicate j 0) 0).at_, h3, ?_⟩, hb⟩
  rw [h1, h2]
/-- What the row's last calls answer, where the byte is good. -/
theorem parts_good (l : List UInt8) (hg : okG 3 l) (N : Nat) (hN : l.length < 2 ∧ N = 2 - l.length ∨ 2 ≤ l.length ∧ N + l.length = 2 + b1 l) (hl : l.length ≤ 30) (b : Nat) (hb8 : b < 256) (hb : badN 3 l.length b = 0) :
    ∃ (nx : List UInt8) (sy : Int) (x : List UInt8) (a : Int) (wh : Bool) (m : Int), (∀ W, Calls Try.prog 13 #[.int .i64 3, .string ⟨l.toArray⟩, .int .u8 b] W fun e w' => e = .returned (.tuple #[.string ⟨nx.toArray⟩, (Tok.mk sy x a).v, .bool wh, .int .i64 0]) ∧ Below W.heap.size W w') ∧
      (∀ W, Calls Try.prog 11 #[.int .i64 3, .string ⟨nx.toArray⟩] W fun e w' => e = .returned (.tuple #[.int .i64 m, .int .i64 0]) ∧ Below W.heap.size W w') ∧
      (wh = true ∧ N = 1 ∧ m = 2 ∨ wh = false ∧ m = (N : Int) - 1 ∨ wh = false ∧ m ≠ (N : Int) - 1 ∧ l.length = 1 ∧ m = b) := by
  obtain ⟨h1, h2⟩ := next_needs l hg N hN b hb8 hb
  have hE := partE_ok l hg
  have hT : takeE 3 l b = 0 := by unfold takeE; rw [if_neg (by simpa using hE)]; exact hb
  have hW : takeW 3 l b = wholeP (l ++ [UInt8.ofNat b]) := by unfold takeW; rw [hT]; rfl
  have HT := fun W => Take_any 3 l b W (by omega) hb8
  rw [hT] at HT
  by_cases hw : wholeP (l ++ [UInt8.ofNat b]) = true
  · have hS : takeS 3 l b = [] := if_neg (fun h' => by have h6 := h'.2; rw [hw] at h6; cases h6)
    refine ⟨[], (takeT 3 l b).sym, (takeT 3 l b).text, (takeT 3 l b).at_, true, 2, fun W => ?_, fun W => Needs_any 3 [] W (by decide), .inl ⟨rfl, h1 hw, rfl⟩⟩
    have := HT W
    rw [hS, hW, hw] at this
    exact this
  · have hw' : wholeP (l ++ [UInt8.ofNat b]) = false := by simpa using hw
    have hS : takeS 3 l b = l ++ [UInt8.ofNat b] := if_pos ⟨hT, hw'⟩
    obtain ⟨h3, h4⟩ := h2 hw'
    refine ⟨l ++ [UInt8.ofNat b], (takeT 3 l b).sym, (takeT 3 l b).text, (takeT 3 l b).at_, false, needN 3 (l ++ [UInt8.ofNat b]), fun W => ?_, fun W => ?_, ?_⟩
    · have := HT W
      rw [hS, hW, hw'] at this
      exact this
    · have := Needs_any 3 (l ++ [UInt8.ofNat b]) W (by simp; omega)
      rw [h3] at this
      exact this
    · by_cases h5 : needN 3 (l ++ [UInt8.ofNat b]) = (N : Int) - 1
      · exact .inr (.inl ⟨rfl, h5⟩)
      · exact .inr (.inr ⟨rfl, h5, h4.resolve_left h5⟩)
set_option maxRecDepth 100000 in
set_option maxHeartbeats 6400000 in
theorem FrameParts_any (l : List UInt8) (b : Nat) (w : World) (hl : l.length ≤ maxLen) (hb8 : b < 256) :
    Calls Try.prog 5 #[.string ⟨l.toArray⟩, .int .u8 b] w fun e w' => e = .returned (.bool true) ∧ Below w.heap.size w w' := by
  unfold maxLen at hl
  have HK := Lib.hid (fun W => FrameKnown_any W)
  by_cases h30 : 30 < l.length
  · go_enter Try.func5, Try.ntmps5
    go_wp2_with fail
    refine (HK.out _).mono ?_
    rintro e w1 ⟨rfl, hb1⟩
    go_wp2_with fail
    go_ret
    exact ⟨rfl, hb1⟩
  have HG := fun W => Good_any 3 l W (by omega)
  have HN := fun W => Needs_any 3 l W (by omega)
  have HT := fun W => Take_any 3 l b W (by omega) hb8
  by_cases hg : okG 3 l
  · obtain ⟨N, hNe, hE, hN1, hN26, hN⟩ := needs_ok l hg
    have l30 : l.length ≤ 30 := by omega
    have TZ := Lib.hid (fun j hj W => take_zeros l hg N hN hN26 l30 j hj W)
    rw [hE] at HG HN
    rw [hNe] at HN
    rw [show decide ((0 : Int) = 0) = true from rfl, show (if (0 : Int) = 3 then (0 : Int) else 0) = 0 from rfl] at HG
    have HG' := Lib.hid HG
    have HN' := Lib.hid HN
    have PG := Lib.hid (fun hb => parts_good l hg N hN l30 b hb8 hb)
    have PB := Lib.hid (show badN 3 l.length b ≠ 0 → l.length < 2 ∧ (∀ W, Calls Try.prog 13 #[.int .i64 3, .string ⟨l.toArray⟩, .int .u8 b] W fun e w' => e = .returned (.tuple #[.string ⟨#[]⟩, (Tok.mk 0 [] 0).v, .bool false, .int .i64 (badN 3 l.length b)]) ∧ Below W.heap.size W w') from fun hb => by
      have hT : takeE 3 l b = badN 3 l.length b := by unfold takeE; rw [if_neg (by simpa using hE)]; rfl
      have e1 : takeS 3 l b = [] := if_neg (fun h' => by rw [hT] at h'; exact hb h'.1)
      have e2 : takeT 3 l b = tok0 := if_neg (fun h' => by rw [hT] at h'; exact hb h'.1)
      have e3 : takeW 3 l b = false := by unfold takeW; rw [hT, decide_eq_false hb]; rfl
      refine ⟨?_, fun W => ?_⟩
      · rcases badN_cases 3 l.length b with h | h | h | h | h | h | h <;> omega
      · have := HT W
        rw [e1, e2, e3, hT] at this
        exact this)
    have PC := Lib.hid (fun hb W => Chunk_at 3 l [UInt8.ofNat b, 0, 0, 0] [] [] 0 0 (badN 3 l.length b) W (by omega) (by simp) (chunk_bad l hg b hb8 hb))
    have hcv := fun W => run_bytes4_str W b hb8
    clear HG HN HT hE hNe hN hg
    go_enter Try.func5, Try.ntmps5
    go_wp2_with fail
    refine (HK.out _).mono ?_
    rintro e w1 ⟨rfl, hb1⟩
    go_wp2_with fail
    refine (HG'.out _).mono ?_
    rintro e w2 ⟨rfl, hb2⟩
    have B2 := below_on hb1 hb2 (Nat.le_refl _)
    go_wp2_with fail
    refine (HN'.out _).mono ?_
    rintro e w3 ⟨rfl, hb3⟩
    have B3 := below_on B2 hb3 (Nat.le_refl _)
    clear hb1 hb2 hb3 B2 HG' HN' HK
    go_wp2_with fail
    go_loopw [16, 17] (fun s i W => ∃ j : Nat, j ≤ N ∧ i = .int .i64 j ∧ (∃ sl : List UInt8, (j < N → sl = l ++ List.replicate j 0) ∧ s = .string ⟨sl.toArray⟩) ∧ Below w.heap.size w W) (fun _ i _ => N - (intOf i).toNat)
    case atStart => exact ⟨0, Nat.zero_le _, rfl, ⟨l, fun _ => by simp, rfl⟩, B3⟩
    case round =>
      obtain ⟨j, hj, rfl, ⟨sl, hsl, rfl⟩, hB⟩ := hrel
      by_cases hlt : j < N
      · obtain rfl := hsl hlt
        have TJ := TZ.out j hlt
        by_cases hlast : j + 1 = N
        · rw [decide_eq_true hlast] at TJ
          have hq : ((j : Int) == (N : Int) - 1) = true := by rw [beq_iff_eq]; omega
          have TJ' := Lib.hid TJ
          clear TJ hsl PG PB PC TZ
          go_wp2_with fail
          refine (TJ'.out _).mono ?_
          rintro e w4 ⟨⟨s4, sy, x, a, hs4, rfl⟩, hb4⟩
          unfold Tok.v
          have B4 := below_on hB hb4 (Nat.le_refl _)
          go_wp2_with fail
          go_roundw
          case rel => exact ⟨j + 1, by omega, by go_num, ⟨s4, hs4, rfl⟩, B4.alloc B4.size _⟩
          case measure => simp [intOf]; omega
        · rw [decide_eq_false hlast] at TJ
          have hq : ((j : Int) == (N : Int) - 1) = false := by rw [beq_eq_false_iff_ne]; omega
          have TJ' := Lib.hid TJ
          clear TJ hsl PG PB PC TZ
          go_wp2_with fail
          refine (TJ'.out _).mono ?_
          rintro e w4 ⟨⟨s4, sy, x, a, hs4, rfl⟩, hb4⟩
          unfold Tok.v
          have B4 := below_on hB hb4 (Nat.le_refl _)
          go_wp2_with fail
          go_roundw
          case rel => exact ⟨j + 1, by omega, by go_num, ⟨s4, hs4, rfl⟩, B4.alloc B4.size _⟩
          case measure => simp [intOf]; omega
      · obtain rfl : j = N := by omega
        clear hsl TZ
        by_cases hb : badN 3 l.length b = 0
        · obtain ⟨nx, sy, x, a, wh, m, HT1, HN1, hc⟩ := PG.out hb
          have HT1' := Lib.hid HT1
          have HN1' := Lib.hid HN1
          clear PG PB PC HT1 HN1 hb
          rcases hc with ⟨rfl, rfl, rfl⟩ | ⟨rfl, rfl⟩ | ⟨rfl, hm, h1, rfl⟩
          · go_wp2_with fail
            refine (HT1'.out _).mono ?_
            rintro e w4 ⟨rfl, hb4⟩
            unfold Tok.v
            have B4 := below_on hB hb4 (Nat.le_refl _)
            go_wp2_with fail
            refine (HN1'.out _).mono ?_
            rintro e w5 ⟨rfl, hb5⟩
            go_wp2_with fail
            go_ret
            exact ⟨rfl, below_on (B4.alloc B4.size _) hb5 (Nat.le_refl _)⟩
          · go_wp2_with fail
            refine (HT1'.out _).mono ?_
            rintro e w4 ⟨rfl, hb4⟩
            unfold Tok.v
            have B4 := below_on hB hb4 (Nat.le_refl _)
            go_wp2_with fail
            refine (HN1'.out _).mono ?_
            rintro e w5 ⟨rfl, hb5⟩
            go_wp2_with fail
            go_ret
            exact ⟨rfl, below_on (B4.alloc B4.size _) hb5 (Nat.le_refl _)⟩
          · have hm' : ((b : Int) == (j : Int) - 1) = false := by rw [beq_eq_false_iff_ne]; exact hm
            have h1' : ((l.length : Int) == 1) = true := by rw [beq_iff_eq]; omega
            go_wp2_with fail
            refine (HT1'.out _).mono ?_
            rintro e w4 ⟨rfl, hb4⟩
            unfold Tok.v
            have B4 := below_on hB hb4 (Nat.le_refl _)
            go_wp2_with fail
            refine (HN1'.out _).mono ?_
            rintro e w5 ⟨rfl, hb5⟩
            go_wp2_with fail
            go_ret
            exact ⟨rfl, below_on (B4.alloc B4.size _) hb5 (Nat.le_refl _)⟩
        · obtain ⟨h2, HT1⟩ := PB.out hb
          have HT1' := Lib.hid HT1
          have HC1 := Lib.hid (PC.out hb)
          have hz : (badN 3 l.length b == 0) = false := by rw [beq_eq_false_iff_ne]; exact hb
          clear PG PB PC HT1
          generalize badN 3 l.length b = er at *
          go_wp2_with fail
          refine (HT1'.out _).mono ?_
          rintro e w4 ⟨rfl, hb4⟩
          unfold Tok.v
          have B4 := below_on hB hb4 (Nat.le_refl _)
          have hv := hcv (w4.alloc (.cells #[.int .i64 0, .string ⟨#[]⟩, .int .i64 0] 29))
          rw [show (w4.alloc (.cells #[.int .i64 0, .string ⟨#[]⟩, .int .i64 0] 29)).heap.size = w4.heap.size + 1 by simp] at hv
          clear hcv
          go_wp2_with fail
          refine (HC1.out _).mono ?_
          rintro e w5 ⟨⟨A5, cap5, rfl, -⟩, hb5⟩
          go_wp2_with fail
          go_ret
          exact ⟨rfl, below_on ((B4.alloc B4.size _).alloc (B4.alloc B4.size (.cells #[.int .i64 0, .string ⟨#[]⟩, .int .i64 0] 29)).size _) hb5 (Nat.le_refl _)⟩
  · have hE : partE 3 l = 3 := by unfold partE rangedB; rw [if_neg (by decide)]; exact if_neg hg
    have hT : takeE 3 l b = 3 := by unfold takeE; rw [hE]; rfl
    have e1 : takeS 3 l b = [] := if_neg (fun h' => by rw [hT] at h'; cases h'.1)
    have e2 : takeT 3 l b = tok0 := if_neg (fun h' => by rw [hT] at h'; cases h'.1)
    have e3 : takeW 3 l b = false := by unfold takeW; rw [hT]; rfl
    rw [hE] at HG HN
    rw [hT, e1, e2, e3] at HT
    unfold tok0 Tok.v at HT
    have HG' := Lib.hid HG
    have HN' := Lib.hid HN
    have HT' := Lib.hid HT
    clear HG HN HT hE hT e1 e2 e3 hg
    go_enter Try.func5, Try.ntmps5
    go_wp2_with fail
    refine (HK.out _).mono ?_
    rintro e w1 ⟨rfl, hb1⟩
    go_wp2_with fail
    refine (HG'.out _).mono ?_
    rintro e w2 ⟨rfl, hb2⟩
    have B2 := below_on hb1 hb2 (Nat.le_refl _)
    go_wp2_with fail
    refine (HT'.out _).mono ?_
    rintro e w3 ⟨rfl, hb3⟩
    have B3 := below_on B2 hb3 (Nat.le_refl _)
    go_wp2_with fail
    refine (HN'.out _).mono ?_
    rintro e w4 ⟨rfl, hb4⟩
    go_wp2_with fail
    go_ret
    exact ⟨rfl, below_on (B3.alloc B3.size _) hb4 (Nat.le_refl _)⟩
end Go.Proofs.Ytfcbbolokhcknaa
