/- The walk of RecordLonger. -/
import Derived.Test.YtdndomjmnlpjgaaT38
namespace Go.Proofs.Ytdndomjmnlpjgaa
open Go.RowKit
theorem framesT_fuel (m : Nat) (h1 : 1 ≤ m) (h8 : m ≤ 8) : ∀ (n k : Nat) (l : List UInt8) (a : Int), l.length ≤ n → l.length ≤ k → 0 ≤ a → a + l.length ≤ 1099511627776 → framesT m n l a = framesT m k l a
  | n, k, [], a, _, _, _, _ => by rw [framesT_nil, framesT_nil]
  | 0, _, x :: l, a, h, _, _, _ => by simp at h
  | _ + 1, 0, x :: l, a, _, h, _, _ => by simp at h
  | n + 1, k + 1, x :: l, a, hn, hk, ha, hal => by
    have hne : x :: l ≠ [] := by simp
    generalize x :: l = l at *
    unfold framesT
    rw [if_neg hne, if_neg hne]
    by_cases hf : (readF l m a).err = 0
    · rw [if_neg (by simpa using hf), if_neg (by simpa using hf)]
      obtain ⟨_, hu2, hul, _⟩ := frame_read l m h1 h8 a ha (by omega) hf
      rw [framesT_fuel m h1 h8 n k (l.drop (readU l m a)) (a + readU l m a) (by rw [List.length_drop]; omega) (by rw [List.length_drop]; omega) (by omega) (by rw [List.length_drop]; omega)]
    · rw [if_pos (by simpa using hf), if_pos (by simpa using hf)]
theorem framesT_len (m : Nat) (h1 : 1 ≤ m) (h8 : m ≤ 8) : ∀ (n : Nat) (l : List UInt8) (a : Int), 0 ≤ a → a + l.length ≤ 1099511627776 → (framesT m n l a).1.length ≤ l.length ∧ (framesT m n l a).2.1 ≤ l.length
  | 0, l, a, _, _ => ⟨Nat.zero_le _, Nat.zero_le _⟩
  | n + 1, [], a, _, _ => ⟨Nat.zero_le _, Nat.zero_le _⟩
  | n + 1, x :: l, a, ha, hal => by
    have hne : x :: l ≠ [] := by simp
    generalize x :: l = l at *
    unfold framesT
    rw [if_neg hne]
    by_cases hf : (readF l m a).err = 0
    · rw [if_neg (by simpa using hf)]
      obtain ⟨_, hu2, hul, _⟩ := frame_read l m h1 h8 a ha (by omega) hf
      have h := framesT_len m h1 h8 n (l.drop (readU l m a)) (a + readU l m a) (by omega) (by rw [List.length_drop]; omega)
      rw [List.length_drop] at h
      simp only [List.length_cons]
      omega
    · rw [if_pos (by simpa using hf)]
      exact ⟨Nat.zero_le _, Nat.zero_le _⟩
set_option maxRecDepth 100000 in
set_option maxHeartbeats 6400000 in
theorem RecordLonger_any (l : List UInt8) (n : Int) (b : Nat) (w : World) (hl : l.length ≤ maxLen) (hb8 : b < 256) :
    Calls Try.prog 3 #[.string ⟨l.toArray⟩, .int .i64 n, .int .u8 b] w fun e w' => e = .returned (.bool true) ∧ Below w.heap.size w w' := by
  unfold maxLen at hl
  have HA := Lib.hid (fun W => awake23_any W)
  by_cases h60 : 60 < l.length
  · go_enter Try.func3, Try.ntmps3
    go_wp2_with (go_at_call 16; refine (HA.out _).mono ?_; rintro e w1 ⟨rfl, hb1⟩)
    go_ret
    exact ⟨rfl, hb1⟩
  obtain ⟨r, m, hr, hrm, h1, h8⟩ := mod_terms n
  have HM := fun W => Mod_any n 8 W (by decide) (by decide)
  rw [hr] at HM
  have HM' := Lib.hid HM; clear HM hr
  obtain ⟨zs, g1, g2, g3, g4⟩ := framesT_longer m h1 h8 (UInt8.ofNat b) l.length l 0 (Nat.le_refl _) (by decide) (by omega)
  obtain ⟨⟨xs, u, ⟨fe, fa⟩⟩, hX⟩ : ∃ q, framesT m l.length l 0 = q := ⟨_, rfl⟩
  obtain ⟨⟨ys, v, ⟨ge, ga⟩⟩, hY⟩ : ∃ q, framesT m (l.length + 1) (l ++ [UInt8.ofNat b]) 0 = q := ⟨_, rfl⟩
  rw [hX, hY] at g1 g3 g4
  simp only at g1 g3 g4
  subst g1
  have hxl := (framesT_len m h1 h8 l.length l 0 (by decide) (by omega)).1
  rw [hX] at hxl
  simp only at hxl
  have HX := Lib.hid (fun W => Frames_at l m 0 xs u fe fa W h1 h8 (by decide) (by omega) (by omega) hX)
  have HY := Lib.hid (fun W => Frames_at (l ++ [UInt8.ofNat b]) m 0 (xs ++ zs) v ge ga W h1 h8 (by decide) (by rw [List.length_append]; simp; omega) (by rw [List.length_append]; simp; omega) (by rw [List.length_append]; exact hY))
  clear hX hY
  go_enter Try.func3, Try.ntmps3
  go_wp2_with (first
    | (go_at_call 17; refine (HM'.out _).mono ?_; rintro e w1 ⟨rfl, rfl⟩))
  refine (HX.out _).mono ?_
  rintro e w1 ⟨A, cap, rfl, hS1, hB1⟩
  have hb1 := (Below.refl w1.heap.size w1).alloc (Nat.le_refl _) (.cells #[.int .i64 fe, .int .i64 fa] 27)
  have hF1 := Blk.new w1 27 #[.int .i64 fe, .int .i64 fa]
  have hcv := run_byte_str (w1.alloc (.cells #[.int .i64 fe, .int .i64 fa] 27)) b hb8
  rw [show (w1.alloc (.cells #[.int .i64 fe, .int .i64 fa] 27)).heap.size = w1.heap.size + 1 by simp] at hcv
  have hb2 := hb1.alloc (by simp) (.cells #[.int .u8 b] 5)
  have hF2 := hF1.alloc (.cells #[.int .u8 b] 5)
  have HS2 := Lib.hid (hS1.below hb2 (Nat.le_refl _))
  have HB2 := Lib.hid (below_on hB1 hb2 (Nat.le_refl _))
  have HF2 := Lib.hid hF2
  clear hS1 hB1 hF1 hb1 hb2 hF2
  have hz : (l.length : Int) ≤ 60 := by omega
  go_wp2_with fail
  refine (HY.out _).mono ?_
  rintro e w2 ⟨A2, cap2, rfl, hS3, hB3⟩
  clear hcv
  have hF3 := Blk.on HF2.out hB3
  have hb3 := (Below.refl w2.heap.size w2).alloc (Nat.le_refl _) (.cells #[.int .i64 ge, .int .i64 ga] 27)
  have hF4 := hF3.alloc (.cells #[.int .i64 ge, .int .i64 ga] 27)
  have hcap2 := hS3.2.1
  have hS4 := (hS3.take (k := xs.length) (by simp)).below hb3 (Nat.le_refl _)
  rw [tokC_append, List.take_left' (by rw [tokC_len])] at hS4
  have hz2 := hB3.size
  simp only [World.size_alloc] at hz2
  have hS5 := (HS2.out.below hB3 (by simp; omega)).below hb3 (by omega)
  have hB4 := below_on HB2.out hB3 (Nat.le_refl _)
  have hB5 := below_on hB4 hb3 (Nat.le_refl _)
  rw [List.length_append] at hcap2
  have HST := Lib.hid (SameTokens_any A2 A cap2 cap w2.heap.size xs xs _ hS4 (hS5.more (by omega)) (by omega) (by omega))
  have hcapI : (xs.length : Int) ≤ cap2 := by omega
  have d1 : decide ((xs.length : Int) + (zs.length : Int) < xs.length) = false := decide_eq_false (by omega)
  have d2 : decide ((xs.length : Int) + 1 < (xs.length : Int) + (zs.length : Int)) = false := decide_eq_false (by omega)
  have d3 : decide ((v : Int) < u) = false := decide_eq_false (by omega)
  have hxI : (xs.length : Int) ≤ 60 := by omega
  have hzI : (zs.length : Int) ≤ 1 := by omega
  clear hF3 hb3 hcap2 hS3 hS4 hS5 HS2 hB3 HB2 HX HY HM' HF2
  go_wp2_with fail
  refine (HST.out).mono ?_
  rintro e w3 ⟨rfl, hb4⟩
  have hF5 := Blk.on hF4 hb4
  have hG5 := Blk.on (Blk.new w2 27 #[.int .i64 ge, .int .i64 ga]) hb4
  have hB6 := below_on hB5 hb4 (Nat.le_refl _)
  obtain ⟨c0, c1, _, _⟩ := cells2 hF5
  obtain ⟨e0, e1, _, _⟩ := cells2 hG5
  have dT : decide (xs = xs) = true := decide_eq_true rfl
  clear hb4 hF4 hF5 hG5 hB5 HST d1 d2 d3
  rcases g4 with rfl | rfl | ⟨hfg, rfl⟩
  · go_wp2_with (go_at_call 16; refine (HA.out _).mono ?_; rintro e w1 ⟨rfl, hb1⟩)
    go_ret
    exact ⟨rfl, below_on hB6 hb1 (Nat.le_refl _)⟩
  · go_wp2_with (go_at_call 16; refine (HA.out _).mono ?_; rintro e w1 ⟨rfl, hb1⟩)
    go_ret
    exact ⟨rfl, below_on hB6 hb1 (Nat.le_refl _)⟩
  · injection hfg with hf1 hf2
    subst hf1 hf2
    by_cases h0 : fe = 0
    · subst h0
      go_wp2_with (go_at_call 16; refine (HA.out _).mono ?_; rintro e w1 ⟨rfl, hb1⟩)
      go_ret
      exact ⟨rfl, below_on hB6 hb1 (Nat.le_refl _)⟩
    by_cases h5 : fe = 5
    · subst h5
      go_wp2_with (go_at_call 16; refine (HA.out _).mono ?_; rintro e w1 ⟨rfl, hb1⟩)
      go_ret
      exact ⟨rfl, below_on hB6 hb1 (Nat.le_refl _)⟩
    go_wp2_with (go_at_call 16; refine (HA.out _).mono ?_; rintro e w1 ⟨rfl, hb1⟩)
    go_ret
    exact ⟨rfl, below_on hB6 hb1 (Nat.le_refl _)⟩
end Go.Proofs.Ytdndomjmnlpjgaa
