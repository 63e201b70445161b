/- Walks of tokens: Bytes. -/
import Derived.Test.YtdndomjmnlpjgaaT10
namespace Go.Proofs.Ytdndomjmnlpjgaa
open Go.RowKit
/-- The frame of a token; nothing where it is not right. -/
def bytesL (t : Tok) (n : Int) : List UInt8 := if checkE t n = 0 then [UInt8.ofNat t.sym.toNat, UInt8.ofNat t.text.length] ++ t.text else []
theorem check_ok (t : Tok) (n : Int) (h : checkE t n = 0) : ∃ s m : Nat, t.sym = s ∧ n = m ∧ s ≤ m ∧ 1 ≤ m ∧ m ≤ 8 ∧ t.text.length ≤ 24 ∧ 0 ≤ t.at_ ∧ t.at_ ≤ 1099511627776 := by
  rcases checkE_cases t n with ⟨_, h2⟩ | ⟨_, _, h2⟩ | ⟨_, _, _, h2⟩ | ⟨_, _, _, _, h2⟩ | ⟨_, _, _, _, _, h2⟩ | ⟨h1, h2, h3, h4, h5, h6⟩
  any_goals (rw [h] at h2; cases h2)
  unfold rangedB at h1
  unfold countsB at h5
  simp at h1 h5
  exact ⟨t.sym.toNat, n.toNat, by omega, by omega, by omega, by omega, by omega, by omega, by omega, by omega⟩
set_option maxRecDepth 100000 in
set_option maxHeartbeats 3200000 in
theorem Bytes_any (t : Tok) (n : Int) (w : World) (hl : t.text.length ≤ 10000) :
    Calls Try.prog 32 #[t.v, .int .i64 n] w fun e w' => e = .returned (.tuple #[.string ⟨(bytesL t n).toArray⟩, .int .i64 (checkE t n)]) ∧ Below w.heap.size w w' := by
  have H1 := Lib.hid (fun W => check_any t n W (by unfold maxLen; omega))
  have hb := Blk.new w 41 #[.int .i64 t.sym, .string ⟨t.text.toArray⟩, .int .i64 t.at_]
  have hB := (Below.refl w.heap.size w).alloc (Nat.le_refl _) (.cells #[.int .i64 t.sym, .string ⟨t.text.toArray⟩, .int .i64 t.at_] 41)
  by_cases hc : checkE t n = 0
  · rw [show bytesL t n = [UInt8.ofNat t.sym.toNat, UInt8.ofNat t.text.length] ++ t.text from if_pos hc, hc]
    rw [hc] at H1
    obtain ⟨s, m, hs, hm, hsm, _, hm8, ht, _, _⟩ := check_ok t n hc
    have H2 := Lib.hid (fun W => head_any t s hs (by omega) ht W)
    have H3 := Lib.hid (fun W => joined2_any W [UInt8.ofNat s, UInt8.ofNat t.text.length] t.text (by simp) hl)
    clear hc hm
    obtain ⟨sy, x, a⟩ := t
    unfold Tok.v at *
    simp only at *
    subst hs
    rw [Int.toNat_natCast]
    go_enter Try.func32, Try.ntmps32
    go_wp2_with (go_at_call 36; refine (H1.out _).mono ?_; rintro e w1 ⟨rfl, hb1⟩; obtain ⟨c0, c1, c2, f0, f1, f2⟩ := cells3 (hb.below hb1 (by simp)))
    have hb' := (hb.below hb1 (by simp)).drew
    have hB1 := (hB.trans (hb1.mono (by simp))).drew
    have hlt := hb'.lt
    have hsz := hB1.size
    clear hb hB hb1
    go_region_with (first
      | (go_at_call 67; refine (H2.out _).mono ?_; rintro e w2 ⟨rfl, hb2⟩; obtain ⟨d0, d1, d2, k0, k1, k2⟩ := cells3 (hb'.below hb2 hlt))
      | (go_at_call 66; refine (H3.out _).mono ?_; rintro e w3 ⟨rfl, hb3⟩))
    all_goals go_wp2
    all_goals go_ret2
    all_goals exact ⟨rfl, (((hB1.trans (hb2.mono hsz)).alloc (by have := hb2.size; omega) _).trans (hb3.mono (by have := hb2.size; omega)))⟩
  · rw [show bytesL t n = [] from if_neg hc]
    generalize checkE t n = ce at *
    obtain ⟨sy, x, a⟩ := t
    unfold Tok.v at *
    simp only at *
    go_enter Try.func32, Try.ntmps32
    go_wp2_with (go_at_call 36; refine (H1.out _).mono ?_; rintro e w1 ⟨rfl, hb1⟩)
    go_ret2
    exact ⟨rfl, hB.trans (hb1.mono (by simp))⟩
end Go.Proofs.Ytdndomjmnlpjgaa
