/- Walks of tokens: the reference's Bytes. -/
import Derived.Test.YtdndomjmnlpjgaaT11
namespace Go.Proofs.Ytdndomjmnlpjgaa
open Go.RowKit
theorem run_bytes2_str (W : World) (j k : Nat) (hj : j < 256) (hk : k < 256) : (convert 30 9 (.slice (some ⟨W.heap.size, 0, none⟩) 2 2)).run Try.prog (W.alloc (.cells #[.int .u8 j, .int .u8 k] 5)) = .ok (.string ⟨[UInt8.ofNat j, UInt8.ofNat k].toArray⟩) (W.alloc (.cells #[.int .u8 j, .int .u8 k] 5)) := by
  have h := run_bytes_back (P := Try.prog) 30 9 5 Try.underlying30 Try.underlying5 Try.underlying9 (n := 2) (l := [UInt8.ofNat j, UInt8.ofNat k]) rfl (sl_row W #[.int .u8 (UInt8.ofNat j).toNat, .int .u8 (UInt8.ofNat k).toNat] 5 2 rfl (by decide))
  rw [show (UInt8.ofNat j).toNat = j from Nat.mod_eq_of_lt hj, show (UInt8.ofNat k).toNat = k from Nat.mod_eq_of_lt hk] at h
  exact h
set_option maxRecDepth 100000 in
set_option maxHeartbeats 3200000 in
theorem refBytes_any (t : Tok) (n : Int) (w : World) (hl : t.text.length ≤ 10000) :
    Calls Try.prog 35 #[t.v, .int .i64 n] w fun e w' => e = .returned (.tuple #[.string ⟨(bytesL t n).toArray⟩, .int .i64 (checkE t n)]) ∧ Below w.heap.size w w' := by
  have H1 := Lib.hid (fun W => refCheck_any t n W (by unfold maxLen; omega))
  have hb := Blk.new w 41 #[.int .i64 t.sym, .string ⟨t.text.toArray⟩, .int .i64 t.at_]
  have hB := (Below.refl w.heap.size w).alloc (Nat.le_refl _) (.cells #[.int .i64 t.sym, .string ⟨t.text.toArray⟩, .int .i64 t.at_] 41)
  by_cases hc : checkE t n = 0
  · rw [show bytesL t n = [UInt8.ofNat t.sym.toNat, UInt8.ofNat t.text.length] ++ t.text from if_pos hc, hc]
    rw [hc] at H1
    obtain ⟨s, m, hs, hm, hsm, _, hm8, ht, _, _⟩ := check_ok t n hc
    have hs9 : s < 256 := by omega
    clear hc hm
    obtain ⟨sy, x, a⟩ := t
    unfold Tok.v at *
    simp only at *
    subst hs
    rw [Int.toNat_natCast]
    have hcv := fun W => run_bytes2_str W s x.length hs9 (by omega)
    go_enter Try.func35, Try.ntmps35
    go_wp2_with (go_at_call 37; refine (H1.out _).mono ?_; rintro e w1 ⟨rfl, hb1⟩; obtain ⟨c0, c1, c2, f0, f1, f2⟩ := cells3 (hb.below hb1 (by simp)); have hB1 := hB.trans (hb1.mono (by simp)); have c1' := fun o => ((hb.below hb1 (by simp)).alloc o).cell 1)
    go_ret2
    exact ⟨rfl, hB1.alloc hB1.size _⟩
  · rw [show bytesL t n = [] from if_neg hc]
    generalize checkE t n = ce at *
    obtain ⟨sy, x, a⟩ := t
    unfold Tok.v at *
    simp only at *
    go_enter Try.func35, Try.ntmps35
    go_wp2_with (go_at_call 37; refine (H1.out _).mono ?_; rintro e w1 ⟨rfl, hb1⟩)
    go_ret2
    exact ⟨rfl, hB.trans (hb1.mono (by simp))⟩
end Go.Proofs.Ytdndomjmnlpjgaa
