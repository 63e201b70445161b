/- FrameChunks. -/
import Derived.Test.YtfcbbolokhcknaaFa19
namespace Go.Proofs.Ytfcbbolokhcknaa
open Go.RowKit
theorem tokC_one : ∀ (l : List Tok), ∀ u ∈ tokC l, u.oneCell' = true
  | [], u, h => by simp [tokC] at h
  | t :: l, u, h => by
    rw [tokC_cons] at h
    rcases List.mem_append.1 h with h | h
    · simp only [List.mem_cons, List.not_mem_nil, or_false] at h
      rcases h with rfl | rfl | rfl <;> rfl
    · exact tokC_one l u h
theorem chunk_len (n : Int) (f str : List UInt8) (hl : str.length ≤ 1000) : (chunkC n f str).l.length ≤ 1000 := by
  by_cases h : partE n f = 0
  · rcases partE_cases n f with ⟨_, h0, _⟩ | ⟨_, _, h0, _⟩ | ⟨m, rfl, h1, h8, hg, _, _⟩ | ⟨m, _, _, _, _, h0, _⟩
    · omega
    · omega
    · have e : chunkC (m : Int) f str = stC m f (ibs 0 str) := by unfold chunkC; rw [if_neg (by simpa using h)]; rfl
      rw [e]
      have := (stC_inv m f hg (ibs 0 str)).2.1
      rw [ibs_len 0 str (by omega)] at this
      omega
    · omega
  · have e : chunkC n f str = ⟨[], [], 0, 0, partE n f⟩ := if_pos h
    rw [e]; exact Nat.zero_le _
set_option maxRecDepth 100000 in
set_option maxHeartbeats 3200000 in
theorem rSum_any (A : Option Addr) (cap D : Nat) (l : List Tok) (w : World) (hS : Sl w D 3 A l.length cap (tokC l)) (hD : D ≤ w.heap.size) (hn : l.length ≤ 1000) (hl : ∀ t ∈ l, t.text.length ≤ 10000) :
    Calls Try.prog 24 #[.slice A l.length cap] w fun e w' => e = .returned (.int .i64 (sumL l)) ∧ Below w.heap.size w w' := by
  go_enter Try.func24, Try.ntmps24
  go_wp2_with fail
  go_loopw [3, 4] (fun s i W => ∃ k : Nat, k ≤ l.length ∧ i = .int .i64 k ∧ s = .int .i64 (sumL (l.take k)) ∧ Below w.heap.size w W) (fun _ i _ => l.length - (intOf i).toNat)
  case atStart => exact ⟨0, Nat.zero_le _, rfl, rfl, Below.refl _ _⟩
  case round =>
    obtain ⟨k, hk, rfl, rfl, hB⟩ := hrel
    by_cases hlt : k < l.length
    · obtain ⟨b, o, rfl, hb, c0, c1, c2⟩ := sl_tok (hS.below hB hD) hlt
      have htl := hl l[k] (List.getElem_mem hlt)
      have hsn := sumL_take l k hlt
      have hbd := sumL_le 10000 (l.take k) (fun t ht => hl t (List.mem_of_mem_take ht))
      rw [List.length_take] at hbd
      have hbd2 : sumL (l.take k) ≤ 10002000 := by
        have : min k l.length * (2 + 10000) ≤ 1000 * (2 + 10000) := Nat.mul_le_mul_right _ (by omega)
        omega
      have HZ := fun W => refSize29_any l[k] W (by omega)
      generalize sumL (l.take k) = S0 at *
      generalize l[k] = t at *
      obtain ⟨sy, x, a⟩ := t
      unfold Tok.v at HZ
      simp only at *
      have HZ' := Lib.hid HZ
      have HN := Lib.hid hsn
      have hxl : (x.length : Int) ≤ 10000 := by omega
      have hsz : (S0 : Int) ≤ 10002000 := by omega
      have HB := Lib.hid hB
      clear HZ hsn hbd hbd2 hB hl hS
      go_wp2_with fail
      refine (HZ'.out _).mono ?_
      rintro e w3 ⟨rfl, hb3⟩
      go_wp2_with fail
      go_roundw
      case rel => exact ⟨k + 1, by omega, by go_num, by rw [HN.out]; go_num, below_on HB.out hb3 (Nat.le_refl _)⟩
      case measure => simp [intOf]; omega
    · obtain rfl : k = l.length := by omega
      rw [List.take_length]
      go_wp2_with fail
      go_ret
      exact ⟨rfl, hB⟩
set_option maxRecDepth 100000 in
set_option maxHeartbeats 6400000 in
theorem FrameChunks_any (n : Int) (f str : List UInt8) (A : Option Addr) (cap : Nat) (l : List Tok) (w : World) (hS : Sl w w.heap.size 3 A l.length cap (tokC l)) (hlt : ∀ t ∈ l, t.text.length ≤ maxLen) (hf : f.length ≤ maxLen) (hs : str.length ≤ maxLen) :
    Calls Try.prog 6 #[.int .i64 n, .string ⟨f.toArray⟩, .string ⟨str.toArray⟩, .slice A l.length cap] w fun e w' => e = .returned (.bool true) ∧ Below w.heap.size w w' := by
  have hSc := hS.2.1
  have hSm := hS.2.2.1
  unfold maxLen at hSm hlt hf hs
  have HA := Lib.hid (fun W => awake29_any W)
  by_cases q1 : 200 < f.length
  · clear hS hlt
    go_enter Try.func6, Try.ntmps6
    go_wp2_with fail
    refine (HA.out _).mono ?_
    rintro e w1 ⟨rfl, hb1⟩
    go_wp2_with fail
    go_ret
    exact ⟨rfl, hb1⟩
  by_cases q2 : 200 < str.length
  · clear hS hlt
    go_enter Try.func6, Try.ntmps6
    go_wp2_with fail
    refine (HA.out _).mono ?_
    rintro e w1 ⟨rfl, hb1⟩
    go_wp2_with fail
    go_ret
    exact ⟨rfl, hb1⟩
  by_cases q3 : 20 < l.length
  · clear hS hlt
    go_enter Try.func6, Try.ntmps6
    go_wp2_with fail
    refine (HA.out _).mono ?_
    rintro e w1 ⟨rfl, hb1⟩
    go_wp2_with fail
    go_ret
    exact ⟨rfl, hb1⟩
  obtain ⟨i0, hi0, hz0, hz1, hz2⟩ := info_parts infoT
  have HC1 := fun W => Chunk_any n f str W (by omega) (by omega)
  have HC2 := fun W => refChunk_any n f str W (by omega) (by omega)
  have hcl := chunk_len n f str (by omega)
  have hone := Lib.hid (tokC_one l)
  generalize chunkC n f str = Z at *
  obtain ⟨zp, zl, za, zu, ze⟩ := Z
  simp only at HC1 HC2 hcl
  have HC1' := Lib.hid HC1
  have HC2' := Lib.hid HC2
  have HS := Lib.hid hS
  have HT := Lib.hid hlt
  clear HC1 HC2 hS hlt hf hs
  go_enter Try.func6, Try.ntmps6
  go_wp2_with fail
  go_loopw [9] (fun i W => ∃ k : Nat, k ≤ l.length ∧ i = .int .i64 k ∧ (∀ j (hj : j < l.length), j < k → l[j].text.length ≤ 60) ∧ Below w.heap.size w W) (fun i _ => l.length - (intOf i).toNat)
  case atStart => exact ⟨0, Nat.zero_le _, rfl, fun j _ h => absurd h (by omega), Below.refl _ _⟩
  case round =>
    obtain ⟨k, hk, rfl, hall, hB⟩ := hrel
    by_cases hlt : k < l.length
    · obtain ⟨b, o, rfl, hb, c0, c1, c2⟩ := sl_tok (HS.out.below hB (Nat.le_refl _)) hlt
      have htl := HT.out l[k] (List.getElem_mem hlt)
      have hbw : b < wr.heap.size := block_lt_of_cell c2
      have HB := Lib.hid hB
      have HAll := Lib.hid hall
      have hbd := (Below.refl wr.heap.size wr).drew
      by_cases h60 : 60 < l[k].text.length
      · generalize l[k] = t at *
        obtain ⟨sy, x, a⟩ := t
        simp only at *
        clear HC1' HC2' HT hall hB
        have hgt : (60 : Int) < (x.length : Int) := by omega
        have hxl : (x.length : Int) ≤ 9223372036854775807 := by omega
        go_wp2_with fail
        go_region
        go_wp2_with fail
        refine (HA.out _).mono ?_
        rintro e w4 ⟨rfl, hb4⟩
        have q := below_on (by assumption : Below wr.heap.size wr _) hb4 (Nat.le_refl _)
        have c1' := (q.cell (p := ⟨b, o + k * 3 + 1, none⟩) hbw).trans c1
        go_wp2_with fail
        go_ret
        exact ⟨rfl, below_on HB.out q (Nat.le_refl _)⟩
      · have h60' : l[k].text.length ≤ 60 := by omega
        have HSz : ∀ W, Below wr.heap.size wr W → Calls Try.prog 20 #[l[k].v] W fun e W' => e = .returned (.int .i64 (2 + l[k].text.length)) ∧ Below wr.heap.size wr W' :=
          fun W hW => (fSize_any l[k] W (by omega)).mono fun e W' ⟨he, hb⟩ => ⟨he, hW.trans (hb.mono hW.size)⟩
        have HSr : ∀ W, Below wr.heap.size wr W → Calls Try.prog 21 #[l[k].v] W fun e W' => e = .returned (.int .i64 (2 + l[k].text.length)) ∧ Below wr.heap.size wr W' :=
          fun W hW => (refSize29_any l[k] W (by omega)).mono fun e W' ⟨he, hb⟩ => ⟨he, hW.trans (hb.mono hW.size)⟩
        have HK : (∀ j (hj : j < l.length), j < k + 1 → l[j].text.length ≤ 60) := fun j hj hjk => by
          by_cases h2 : j < k
          · exact HAll.out j hj h2
          · obtain rfl : j = k := by omega
            exact h60'
        have HK' := Lib.hid HK
        clear HK h60'
        generalize l[k] = t at *
        obtain ⟨sy, x, a⟩ := t
        unfold Tok.v at *
        simp only at *
        have HSz' := Lib.hid HSz
        have HSr' := Lib.hid HSr
        clear HSz HSr HC1' HC2' HT hall hB
        have hd : decide ((60 : Int) < (x.length : Int)) = false := decide_eq_false (by omega)
        go_wp2_with fail
        go_region_held3 (fun W => Below wr.heap.size wr W ∧ W.cell? ⟨b, o + k * 3, none⟩ = some (.int .i64 sy) ∧ W.cell? ⟨b, o + k * 3 + 1, none⟩ = some (.string ⟨x.toArray⟩) ∧ W.cell? ⟨b, o + k * 3 + 2, none⟩ = some (.int .i64 a))
          (exact ⟨by assumption, ((by assumption : Below wr.heap.size wr _).cell (p := ⟨b, o + k * 3, none⟩) hbw).trans c0, ((by assumption : Below wr.heap.size wr _).cell (p := ⟨b, o + k * 3 + 1, none⟩) hbw).trans c1, ((by assumption : Below wr.heap.size wr _).cell (p := ⟨b, o + k * 3 + 2, none⟩) hbw).trans c2⟩)
          (first
            | (go_at_call 20; refine (HSz'.out _ ?_).mono ?_; (exact (by assumption : _ ∧ _).1); rintro e w3 ⟨rfl, hb3⟩)
            | (go_at_call 21; refine (HSr'.out _ ?_).mono ?_; (exact (by assumption : _ ∧ _).1); rintro e w3 ⟨rfl, hb3⟩))
        go_wp2_with fail
        go_roundw
        case rel => exact ⟨k + 1, by omega, by go_num, HK'.out, below_on HB.out (by assumption) (Nat.le_refl _)⟩
        case measure => simp [intOf]; omega
    · obtain rfl : k = l.length := by omega
      have hl60 : ∀ t ∈ l, t.text.length ≤ 10000 := fun t ht => by
        obtain ⟨j, hj, rfl⟩ := List.getElem_of_mem ht
        have := hall j hj hj
        omega
      have hl20 : l.length ≤ 20 := by omega
      have HF := fun A1 cap1 D (W : World) (h : Sl W D 3 A1 l.length cap1 (tokC l)) (hD : D ≤ W.heap.size) => fSum_any A1 cap1 D l W h hD (by omega) hl60
      have HG := fun A1 cap1 D (W : World) (h : Sl W D 3 A1 l.length cap1 (tokC l)) (hD : D ≤ W.heap.size) => rSum_any A1 cap1 D l W h hD (by omega) hl60
      generalize sumL l = SL at *
      have HF' := Lib.hid HF
      have HG' := Lib.hid HG
      have HZ := Lib.hid (fun A1 A2 cap1 cap2 (D : Nat) (W : World) (h : Sl W D 3 A1 zl.length cap1 (tokC zl)) (h2 : Sl W D 3 A2 zl.length cap2 (tokC zl)) => SameTokens_any A1 A2 cap1 cap2 D zl zl W h h2 (by omega) (by omega))
      have HI := Lib.hid (fun A1 A2 cap1 cap2 (D : Nat) (W : World) (h : Sl W D 3 A1 l.length cap1 (tokC l)) (h2 : Sl W D 3 A2 l.length cap2 (tokC l)) => SameTokens_any A1 A2 cap1 cap2 D l l W h h2 (by omega) (by omega))
      have S0 := HS.out.below hB (Nat.le_refl _)
      have S0' := S0.more hB.size
      clear HF HG hl60 hall HT
      have hA := Sl.alloc S0' (Nat.le_refl _) (.cells #[] 29)
      have hO := (Own.bare wr w.heap.size 29 3 (some ⟨wr.heap.size, 0, none⟩)).alloc (.cells #[] 29)
      have hBm := hB.alloc hB.size (.cells #[] 29)
      have hsz := hBm.size
      go_wp2_with (at_builtin; refine wpList_append_o _ rfl _ _ _ rfl w.heap.size 29 i0 _ 3 32 Try.underlying33 hi0 hz0 hz1 hz2 rfl (by decide) rfl hO rfl hA hone.out (by simp only [maxLen]; omega) (by omega) hsz ?_; intro A2 cap2 w2 hown2 hg2 _; simp only [Nat.zero_add, List.nil_append] at hown2 ⊢)
      have B2 := grown_below hBm hO hg2 hsz
      have S2 := hown2.sl
      clear hA hO hBm hsz hown2 hg2 S0 S0' hB hcl hone
      go_wp2_with fail
      refine (HC1'.out _).mono ?_
      rintro e w3 ⟨⟨A3, cap3, rfl, S3⟩, hb3⟩
      have B3 := below_on B2 hb3 (Nat.le_refl _)
      have S2b := (S2.below hb3 (Nat.le_refl _)).more hb3.size
      clear S2 B2 hb3 HC1'
      go_wp2_with fail
      refine (HC2'.out _).mono ?_
      rintro e w4 ⟨⟨A4, cap4, rfl, S4⟩, hb4⟩
      have B4 := below_on B3 hb4 (Nat.le_refl _)
      have S2c := (S2b.below hb4 (Nat.le_refl _)).more hb4.size
      have S3b := (S3.below hb4 (Nat.le_refl _)).more hb4.size
      have K1 := HZ.out A3 A4 cap3 cap4 w4.heap.size w4 S3b S4
      simp only [decide_true] at K1
      have K1' := Lib.hid K1
      clear S2b S3 S3b S4 B3 hb4 HC2' HZ K1
      go_wp2_with fail
      refine K1'.out.mono ?_
      rintro e w5 ⟨rfl, hb5⟩
      have B5 := below_on B4 hb5 (Nat.le_refl _)
      have S2d := (S2c.below hb5 (Nat.le_refl _)).more hb5.size
      have K2 := Lib.hid (HF'.out A2 cap2 w5.heap.size w5 S2d (Nat.le_refl _))
      clear S2c B4 hb5 K1' HF'
      go_wp2_with fail
      refine K2.out.mono ?_
      rintro e w6 ⟨rfl, hb6⟩
      have B6 := below_on B5 hb6 (Nat.le_refl _)
      have S2e := (S2d.below hb6 (Nat.le_refl _)).more hb6.size
      have K3 := Lib.hid (HG'.out A cap w.heap.size w6 (HS.out.below B6 (Nat.le_refl _)) B6.size)
      clear S2d B5 hb6 K2 HG'
      go_wp2_with fail
      refine K3.out.mono ?_
      rintro e w7 ⟨rfl, hb7⟩
      have B7 := below_on B6 hb7 (Nat.le_refl _)
      have S2f := (S2e.below hb7 (Nat.le_refl _)).more hb7.size
      have K4 := HI.out A2 A cap2 cap w7.heap.size w7 S2f ((HS.out.below B7 (Nat.le_refl _)).more B7.size)
      simp only [decide_true] at K4
      have K4' := Lib.hid K4
      clear S2e S2f B6 hb7 K3 HI K4
      go_wp2_with fail
      refine K4'.out.mono ?_
      rintro e w8 ⟨rfl, hb8⟩
      have B8 := below_on B7 hb8 (Nat.le_refl _)
      clear B7 hb8 K4'
      go_wp2_with fail
      refine (HA.out _).mono ?_
      rintro e w9 ⟨rfl, hb9⟩
      go_wp2_with fail
      go_ret
      exact ⟨rfl, below_on B8 hb9 (Nat.le_refl _)⟩
end Go.Proofs.Ytfcbbolokhcknaa
