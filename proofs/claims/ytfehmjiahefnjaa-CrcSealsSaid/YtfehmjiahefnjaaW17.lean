/- The walk of the law CrcSeals. -/
import Derived.Test.YtfehmjiahefnjaaW16
namespace Go.Proofs.Ytfehmjiahefnjaa
open Go.RowKit
set_option maxHeartbeats 6400000 in
theorem CrcSeals_big (s t : List UInt8) (A : Option Addr) (cap : Nat) (bs : List Int) (w : World) (h : Sl w w.heap.size 1 A bs.length cap (bs.map intV)) (hw : ∀ i ∈ bs, i ≤ 9223372036854775807) (hn : bs.length ≤ 20)
    (hq : s.length ≤ 200 ∨ (200 < s.length ∧ 20000 < s.length ∧ s.length ≤ 20010)) (hr : t.length ≤ 200 ∨ (200 < t.length ∧ 20000 < t.length ∧ t.length ≤ 20010)) :
    Calls Try.prog 4 #[.string ⟨s.toArray⟩, .string ⟨t.toArray⟩, .slice A bs.length cap] w fun e w' => e = .returned (.bool true) ∧ Below w.heap.size w w' := by
  have hls : s.length ≤ 20010 := by omega
  have hlt : t.length ≤ 20010 := by omega
  have HS1 := Lib.hid (fun W => Seal_any s W (by unfold maxLen; omega))
  have HS2 := Lib.hid (fun W => refSeal_any s W (by unfold maxLen; omega))
  have HO1 := Lib.hid (fun W => Open_any s W (by unfold maxLen; omega))
  have HO2 := Lib.hid (fun W => refOpen_any s W (by unfold maxLen; omega))
  have HI := Lib.hid (fun W (hW : Below w.heap.size w W) => OwnInts_any A cap w.heap.size bs W (h.below hW (Nat.le_refl _)) hW.size (by omega))
  have HF1 := Lib.hid (fun A2 c2 W (hs : Sl W W.heap.size 1 A2 bs.length c2 (bs.map intV)) => Flip_any s A2 c2 W.heap.size bs W hs (Nat.le_refl _) (by omega) (by omega) hw)
  have HF2 := Lib.hid (fun W (hW : Below w.heap.size w W) => refFlip_any s A cap w.heap.size bs W (h.below hW (Nat.le_refl _)) hW.size (by omega) (by omega) hw)
  have HSm := Lib.hid (fun A2 c2 D W (hs : Sl W D 1 A2 bs.length c2 (bs.map intV)) (hD : w.heap.size ≤ D) (hW : Below w.heap.size w W) => SameInts_any A2 A c2 cap D bs bs W hs ((h.below hW (Nat.le_refl _)).more hD) (by omega) (by omega))
  rw [show decide (bs = bs) = true from decide_eq_true rfl] at HSm
  have HB : ∀ (W : World), t.length ≤ 200 → s.length ≤ 200 → (∃ df er, (∀ W, Calls Try.prog 31 #[.string ⟨s.toArray⟩, .string ⟨t.toArray⟩] W fun e w' => (∃ A cap, e = .returned (.tuple #[.slice A (List.length df) cap, .int .i64 er]) ∧ Sl w' w'.heap.size 1 A df.length cap (df.map intV)) ∧ Below W.heap.size W w') ∧ (∀ W, Calls Try.prog 32 #[.string ⟨s.toArray⟩, .string ⟨t.toArray⟩] W fun e w' => (∃ A cap, e = .returned (.tuple #[.slice A df.length cap, .int .i64 er]) ∧ Sl w' w'.heap.size 1 A df.length cap (df.map intV)) ∧ Below W.heap.size W w') ∧ df.length ≤ 1000000) := by
    intro _ ht hs
    by_cases hl : s.length = t.length
    · exact ⟨diffTo s t s.length, 0, fun W => Bits_any s t W hl (by omega), fun W => refBits_any s t W hl (by omega), by have := diffTo_len s t s.length; omega⟩
    · refine ⟨[], 2, fun W => (Bits_ne s t W hl).mono ?_, fun W => (refBits_ne s t W hl).mono ?_, by simp⟩ <;> (rintro e w' ⟨rfl, rfl⟩; exact ⟨⟨none, 0, rfl, Sl.nil _ _ _⟩, Below.refl _ _⟩)
  have HB' := Lib.hid HB; clear HB
  generalize sealS s = ss at *
  generalize sealE s = se at *
  generalize openS s = os at *
  generalize openE s = oe at *
  generalize flipS s bs = fs at *
  generalize flipE s bs = fe at *
  rcases hq with hq | hq <;> rcases hr with hr | hr
  all_goals
    go_enter Try.func4, Try.ntmps4
    go_wp2_with (go_at_call 23; refine (HS1.out _).mono ?_; rintro e w1 ⟨rfl, hb1⟩)
    go_wp2_with (go_at_call 24; refine (HS2.out _).mono ?_; rintro e w2 ⟨rfl, hb2⟩)
    have hB2 := hb1.trans (hb2.mono hb1.size)
    go_wp2_with (go_at_call 25; refine (HO1.out _).mono ?_; rintro e w3 ⟨rfl, hb3⟩)
    have hB3 := hB2.trans (hb3.mono hB2.size)
    go_wp2_with (go_at_call 26; refine (HO2.out _).mono ?_; rintro e w4 ⟨rfl, hb4⟩)
    have hB4 := hB3.trans (hb4.mono hB3.size)
    clear hb1 hb2 hb3 hb4 hB2 hB3 HS1 HS2 HO1 HO2
    go_wp2_with (go_at_call 27; refine (HI.out _ hB4).mono ?_; rintro e w5 ⟨⟨A2, c2, rfl, hsl5⟩, hb5⟩)
    have hB5 := hB4.trans (hb5.mono hB4.size)
    go_wp2_with (go_at_call 28; refine (HF1.out A2 c2 w5 hsl5).mono ?_; rintro e w6 ⟨rfl, hb6⟩)
    have hB6 := hB5.trans (hb6.mono hB5.size)
    have hsl6 := hsl5.below hb6 (Nat.le_refl _)
    go_wp2_with (go_at_call 29; refine (HF2.out _ hB6).mono ?_; rintro e w7 ⟨rfl, hb7⟩)
    have hB7 := hB6.trans (hb7.mono hB6.size)
    have hsl7 := hsl6.below hb7 hb6.size
    have HS7 := Lib.hid (HSm.out A2 c2 _ w7 hsl7 hB5.size hB7)
    go_wp2_with (go_at_call 30; refine HS7.out.mono ?_; rintro e w8 ⟨rfl, n, rfl⟩)
    have hB8 : Below w.heap.size w (w7.drewN n) := hB7.trans ⟨rfl, rfl, rfl, Nat.le_refl _, fun _ _ => rfl⟩
    clear HSm HS7 HF1 HF2 HI hsl5 hsl6 hsl7
    first
    | (go_wp2_with (go_at_call 10; refine (awake_any _).mono ?_; rintro e w9 ⟨rfl, hb9⟩)
       go_ret
       exact ⟨rfl, hB8.trans (hb9.mono hB8.size)⟩)
    | skip
  obtain ⟨df, er, HD1, HD2, hdl⟩ := HB'.out w hr hq
  have HD1' := Lib.hid HD1; clear HD1
  have HD2' := Lib.hid HD2; clear HD2
  refine (HD1'.out _).mono ?_
  rintro e w9 ⟨⟨A3, c3, rfl, hsl9⟩, hb9⟩
  have hB9 := hB8.trans (hb9.mono hB8.size)
  go_wp2_with (go_at_call 32; refine (HD2'.out _).mono ?_; rintro e w10 ⟨⟨A4, c4, rfl, hsl10⟩, hb10⟩)
  have hB10 := hB9.trans (hb10.mono hB9.size)
  have HS11 := Lib.hid (SameInts_any A3 A4 c3 c4 _ df df w10 ((hsl9.below hb10 (Nat.le_refl _)).more hb10.size) hsl10 hdl hdl)
  rw [show decide (df = df) = true from decide_eq_true rfl] at HS11
  clear hsl9 hsl10
  go_wp2_with (first
    | (go_at_call 30; refine HS11.out.mono ?_; rintro e w11 ⟨rfl, n2, rfl⟩)
    | (go_at_call 10; refine (awake_any _).mono ?_; rintro e w12 ⟨rfl, hb12⟩))
  go_ret
  have hB11 : Below w.heap.size w (w10.drewN n2) := hB10.trans ⟨rfl, rfl, rfl, Nat.le_refl _, fun _ _ => rfl⟩
  exact ⟨rfl, hB11.trans (hb12.mono hB11.size)⟩
theorem CrcSeals_any (s t : List UInt8) (A : Option Addr) (cap : Nat) (bs : List Int) (w : World) (h : Sl w w.heap.size 1 A bs.length cap (bs.map intV)) (hw : ∀ i ∈ bs, i ≤ 9223372036854775807) (hs : s.length ≤ maxLen) (ht : t.length ≤ maxLen) (hn : bs.length ≤ maxLen) :
    Calls Try.prog 4 #[.string ⟨s.toArray⟩, .string ⟨t.toArray⟩, .slice A bs.length cap] w fun e w' => e = .returned (.bool true) ∧ Below w.heap.size w w' := by
  by_cases hf : (200 < s.length ∧ s.length ≤ 20000) ∨ 20010 < s.length ∨ (200 < t.length ∧ t.length ≤ 20000) ∨ 20010 < t.length ∨ 20 < bs.length
  · exact CrcSeals_far s t A bs.length cap w hs ht hn hf
  · exact CrcSeals_big s t A cap bs w h hw (by omega) (by omega) (by omega)
end Go.Proofs.Ytfehmjiahefnjaa
