/- Walks of tokens: read. -/
import Derived.Test.YtdndomjmnlpjgaaT3
namespace Go.Proofs.Ytdndomjmnlpjgaa
open Go.RowKit
def b0 (l : List UInt8) : Nat := (l.getD 0 0).toNat
def b1 (l : List UInt8) : Nat := (l.getD 1 0).toNat
/-- Which fault the first two bytes have. -/
def badE (l : List UInt8) (n : Nat) : Int :=
  if 0 < l.length ∧ 128 ≤ b0 l then 26 else if 0 < l.length ∧ n < b0 l then 14 else if 1 < l.length ∧ 128 ≤ b1 l then 26 else if 1 < l.length ∧ 24 < b1 l then 4 else 0
def wholeB (l : List UInt8) : Bool := decide (2 ≤ l.length) && decide (2 + b1 l ≤ l.length)
theorem b0_lt (l : List UInt8) : b0 l < 256 := (l.getD 0 0).toNat_lt
theorem b1_lt (l : List UInt8) : b1 l < 256 := (l.getD 1 0).toNat_lt
theorem b0_get (l : List UInt8) (h : 0 < l.length) : l[0].toNat = b0 l := by unfold b0; simp [h]
theorem b1_get (l : List UInt8) (h : 1 < l.length) : l[1].toNat = b1 l := by unfold b1; simp [h]
/-- The reading behind i bytes: what its five cells hold. -/
def rdAt (l : List UInt8) (i : Nat) : Array Value :=
  if i = 0 then rdC 0 0 0 [] 0 else if i = 1 then rdC 1 0 (b0 l) [] 0 else rdC 2 ((b1 l + 2 - i : Nat) : Int) (b0 l) ((l.take i).drop 2) 0
theorem tx_snoc (l : List UInt8) (i : Nat) (h2 : 2 ≤ i) (h : i < l.length) : (l.take (i + 1)).drop 2 = (l.take i).drop 2 ++ [l[i]] := by
  rw [take_snoc l i h, List.drop_append_of_le_length (by rw [List.length_take]; omega)]
/-- What read answers. -/
def readPost (l : List UInt8) (n g : Nat) (w : World) (e : Ending) (w' : World) : Prop :=
  ∃ (idx : Nat), e = .returned (.tuple #[.pointer (some ⟨g, 0, none⟩), .int .i64 idx, .int .i64 (badE l n)]) ∧ Below w.heap.size w w' ∧
    (badE l n = 0 → ∃ (st left sy : Int) (tx : List UInt8), Blk w' g 103 (rdC st left sy tx 0) ∧ (wholeB l = true → st = 3 ∧ idx = 2 + b1 l ∧ sy = b0 l ∧ tx = (l.take (2 + b1 l)).drop 2) ∧ (wholeB l = false → st = 0 ∨ st = 1 ∨ st = 2))
set_option maxRecDepth 100000 in
set_option maxHeartbeats 3200000 in
theorem read_any (l : List UInt8) (n : Nat) (w : World) (hl : l.length ≤ 30000) :
    Calls Try.prog 70 #[.string ⟨l.toArray⟩, .int .i64 n] w fun e w' => readPost l n w.heap.size w e w' := by
  have hblk := Blk.new w 103 (rdC 0 0 0 [] 0)
  have hbel := (Below.refl w.heap.size w).alloc (Nat.le_refl _) (.cells (rdC 0 0 0 [] 0) 103)
  unfold rdC at hblk hbel
  go_enter Try.func70, Try.ntmps70
  go_wp2_with fail
  go_loopw [14] (fun i W => ∃ (k : Nat), k ≤ l.length ∧ i = .int .i64 k ∧ (0 < k → b0 l < 128 ∧ b0 l ≤ n) ∧ (1 < k → b1 l ≤ 24 ∧ k < 2 + b1 l) ∧ Blk W w.heap.size 103 (rdAt l k) ∧ Below w.heap.size w W) (fun i _ => l.length - (intOf i).toNat)
  case atStart => exact ⟨0, Nat.zero_le _, rfl, fun h => absurd h (by omega), fun h => absurd h (by omega), hblk, hbel⟩
  case round =>
    obtain ⟨k, hk, rfl, hc0, hc1, hb, hB⟩ := hrel
    clear hblk hbel
    by_cases hlt : k < l.length
    · have hk3 : k = 0 ∨ k = 1 ∨ 2 ≤ k := by omega
      have HC0 := Lib.hid hc0; clear hc0
      have HC1 := Lib.hid hc1; clear hc1
      rcases hk3 with rfl | rfl | hk2
      · have hg := b0_get l hlt
        have hl0 := b0_lt l
        have HT := take0_any (b0 l) n 0 0 0 [] w.heap.size w.heap.size wr (Nat.le_refl _) hl0 hb
        have HL := Lib.hid hlt
        by_cases h1 : 128 ≤ b0 l
        · have HE := Lib.hid (show badE l n = 26 from if_pos ⟨hlt, h1⟩)
          rw [if_pos h1] at HT
          clear h1
          have HT' := Lib.hid HT; clear HT
          go_wp2_with fail
          refine HT'.out.mono ?_
          rintro e w2 ⟨rfl, hb2, _⟩
          go_wp2_with fail
          go_ret3
          exact ⟨0, by rw [HE.out]; rfl, hB.trans hb2, fun h => absurd h (by rw [HE.out]; decide)⟩
        by_cases h2 : n < b0 l
        · have HE := Lib.hid (show badE l n = 14 from by unfold badE; rw [if_neg (fun h => h1 h.2), if_pos ⟨hlt, h2⟩])
          rw [if_neg h1, if_pos h2] at HT
          clear h1 h2
          have HT' := Lib.hid HT; clear HT
          go_wp2_with fail
          refine HT'.out.mono ?_
          rintro e w2 ⟨rfl, hb2, _⟩
          go_wp2_with fail
          go_ret3
          exact ⟨0, by rw [HE.out]; rfl, hB.trans hb2, fun h => absurd h (by rw [HE.out]; decide)⟩
        · rw [if_neg h1, if_neg h2] at HT
          have HT' := Lib.hid HT; clear HT
          go_wp2_with fail
          refine HT'.out.mono ?_
          rintro e w2 ⟨rfl, hb2, hblk2⟩
          have hblk3 := hblk2 (by omega) (by omega)
          obtain ⟨c0, _⟩ := rd_cells hblk3
          have hB2 := hB.trans hb2
          have HK := Lib.hid hblk3; clear hblk2 hblk3
          go_wp2_with fail
          go_roundw
          case rel => exact ⟨1, by omega, by go_num, fun _ => ⟨by omega, by omega⟩, fun h => absurd h (by omega), HK.out, hB2⟩
          case measure => simp [intOf]; omega
      · have hg := b1_get l hlt
        have hl1 := b1_lt l
        have h0 := HC0.out (by omega)
        have HT := take1_any (b1 l) n 0 (b0 l) 0 [] w.heap.size w.heap.size wr (Nat.le_refl _) hl1 hb
        have HL := Lib.hid hlt
        by_cases h1 : 128 ≤ b1 l
        · have HE := Lib.hid (show badE l n = 26 from by unfold badE; rw [if_neg (fun h => by omega), if_neg (fun h => by omega), if_pos ⟨hlt, h1⟩])
          rw [if_pos h1] at HT
          clear h1
          have HT' := Lib.hid HT; clear HT
          go_wp2_with fail
          refine HT'.out.mono ?_
          rintro e w2 ⟨rfl, hb2, _⟩
          go_wp2_with fail
          go_ret3
          exact ⟨1, by rw [HE.out]; rfl, hB.trans hb2, fun h => absurd h (by rw [HE.out]; decide)⟩
        by_cases h2 : 24 < b1 l
        · have HE := Lib.hid (show badE l n = 4 from by unfold badE; rw [if_neg (fun h => by omega), if_neg (fun h => by omega), if_neg (fun h => by omega), if_pos ⟨hlt, h2⟩])
          rw [if_neg h1, if_pos h2] at HT
          clear h1 h2
          have HT' := Lib.hid HT; clear HT
          go_wp2_with fail
          refine HT'.out.mono ?_
          rintro e w2 ⟨rfl, hb2, _⟩
          go_wp2_with fail
          go_ret3
          exact ⟨1, by rw [HE.out]; rfl, hB.trans hb2, fun h => absurd h (by rw [HE.out]; decide)⟩
        have hE0 : badE l n = 0 := by unfold badE; rw [if_neg (fun h => by omega), if_neg (fun h => by omega), if_neg (fun h => by omega), if_neg (fun h => by omega)]
        rw [if_neg h1, if_neg h2] at HT
        by_cases h3 : b1 l = 0
        · rw [if_pos h3] at HT
          have HT' := Lib.hid HT; clear HT
          have H3 := Lib.hid h3; clear h3
          have HE := Lib.hid hE0; clear hE0
          go_wp2_with fail
          refine HT'.out.mono ?_
          rintro e w2 ⟨rfl, hb2, hblk2⟩
          have hblk3 := hblk2 (by omega)
          obtain ⟨c0, _⟩ := rd_cells hblk3
          have hB2 := hB.trans hb2
          have HK := Lib.hid hblk3; clear hblk2 hblk3
          go_wp2_with fail
          go_ret3
          refine ⟨2, by rw [HE.out]; rfl, hB2, fun _ => ⟨3, _, _, _, HK.out, fun _ => ⟨rfl, by rw [H3.out], rfl, ?_⟩, fun h => ?_⟩⟩
          · rw [H3.out]; simp
          · exfalso
            have h5 := H3.out
            have h6 := HL.out
            unfold wholeB at h
            simp at h
            omega
        · rw [if_neg h3] at HT
          have HT' := Lib.hid HT; clear HT
          have HE := Lib.hid hE0; clear hE0
          go_wp2_with fail
          refine HT'.out.mono ?_
          rintro e w2 ⟨rfl, hb2, hblk2⟩
          have hblk3 := hblk2 (by omega)
          obtain ⟨c0, _⟩ := rd_cells hblk3
          have hB2 := hB.trans hb2
          have HK := Lib.hid hblk3; clear hblk2 hblk3
          go_wp2_with fail
          go_roundw
          case rel =>
            refine ⟨2, by omega, by go_num, fun _ => h0, fun _ => ⟨by omega, by omega⟩, ?_, hB2⟩
            have := HK.out
            simpa [rdAt] using this
          case measure => simp [intOf]; omega
      · have h0 := HC0.out (by omega)
        have h1 := HC1.out (by omega)
        have hrd : rdAt l k = rdC 2 ((b1 l + 2 - k : Nat) : Int) (b0 l) ((l.take k).drop 2) 0 := by unfold rdAt; rw [if_neg (by omega), if_neg (by omega)]
        rw [hrd] at hb
        have HE := Lib.hid (show badE l n = 0 from by unfold badE; rw [if_neg (fun h => by omega), if_neg (fun h => by omega), if_neg (fun h => by omega), if_neg (fun h => by omega)])
        have HT := take2_any l[k] n (b1 l + 2 - k) (b0 l) 0 ((l.take k).drop 2) w.heap.size w.heap.size wr (Nat.le_refl _) (by omega) (by rw [List.length_drop, List.length_take]; omega) hb
        rw [← tx_snoc l k hk2 hlt] at HT
        have HL := Lib.hid hlt
        clear hrd hb
        by_cases h3 : b1 l + 2 - k = 1
        · rw [if_pos h3] at HT
          have HT' := Lib.hid HT; clear HT
          have H3 := Lib.hid (show k + 1 = 2 + b1 l by omega); clear h3
          go_wp2_with fail
          refine HT'.out.mono ?_
          rintro e w2 ⟨rfl, hb2, hblk3⟩
          obtain ⟨c0, _⟩ := rd_cells hblk3
          have hB2 := hB.trans hb2
          have HK := Lib.hid hblk3; clear hblk3
          go_wp2_with fail
          go_ret3
          refine ⟨k + 1, by rw [HE.out]; rfl, hB2, fun _ => ⟨3, _, _, _, HK.out, fun _ => ⟨rfl, H3.out, rfl, by rw [H3.out]⟩, fun h => ?_⟩⟩
          exfalso
          have h5 := H3.out
          have h6 := HL.out
          unfold wholeB at h
          simp at h
          omega
        · rw [if_neg h3] at HT
          have hk1 : k + 1 < 2 + b1 l := by omega
          have hb24 := h1.1
          have hleft : b1 l + 2 - k - 1 = b1 l + 2 - (k + 1) := by omega
          rw [hleft] at HT
          have HT' := Lib.hid HT; clear HT h3 hleft
          go_wp2_with fail
          refine HT'.out.mono ?_
          rintro e w2 ⟨rfl, hb2, hblk3⟩
          obtain ⟨c0, _⟩ := rd_cells hblk3
          have hB2 := hB.trans hb2
          have HK := Lib.hid hblk3; clear hblk3
          go_wp2_with fail
          go_roundw
          case rel =>
            refine ⟨k + 1, by omega, by go_num, fun _ => h0, fun _ => ⟨by omega, by omega⟩, ?_, hB2⟩
            have := HK.out
            unfold rdAt
            rw [if_neg (by omega), if_neg (by omega)]
            exact this
          case measure => simp [intOf]; omega
    · obtain rfl : k = l.length := by omega
      have HE := Lib.hid (show badE l n = 0 from by
        unfold badE
        rw [if_neg (fun h => by have := hc0 (by omega); omega), if_neg (fun h => by have := hc0 (by omega); omega), if_neg (fun h => by have := hc1 (by omega); omega), if_neg (fun h => by have := hc1 (by omega); omega)])
      have HW := Lib.hid (show wholeB l = false from by
        unfold wholeB
        by_cases h2 : 2 ≤ l.length
        · have := hc1 (by omega)
          simp
          omega
        · simp [h2])
      clear hc0 hc1
      have HB := Lib.hid hb; clear hb
      go_wp2
      go_ret3
      refine ⟨l.length, by rw [HE.out]; rfl, hB, fun _ => ?_⟩
      have hb := HB.out
      unfold rdAt at hb
      by_cases h0 : l.length = 0
      · rw [if_pos h0] at hb
        exact ⟨_, _, _, _, hb, fun h => absurd h (by rw [HW.out]; decide), fun _ => .inl rfl⟩
      rw [if_neg h0] at hb
      by_cases h1 : l.length = 1
      · rw [if_pos h1] at hb
        exact ⟨_, _, _, _, hb, fun h => absurd h (by rw [HW.out]; decide), fun _ => .inr (.inl rfl)⟩
      · rw [if_neg h1] at hb
        exact ⟨_, _, _, _, hb, fun h => absurd h (by rw [HW.out]; decide), fun _ => .inr (.inr rfl)⟩
end Go.Proofs.Ytdndomjmnlpjgaa
