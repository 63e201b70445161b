/- The reference's Take. -/
import Derived.Test.YtfcbbolokhcknaaFa9
namespace Go.Proofs.Ytfcbbolokhcknaa
open Go.RowKit
set_option maxRecDepth 100000 in
set_option maxHeartbeats 3200000 in
theorem refTake_any (n : Int) (l : List UInt8) (b : Nat) (w : World) (hl : l.length ≤ 999) (hb8 : b < 256) :
    Calls Try.prog 14 #[.int .i64 n, .string ⟨l.toArray⟩, .int .u8 b] w fun e w' => e = .returned (.tuple #[.string ⟨(takeS n l b).toArray⟩, (takeT n l b).v, .bool (takeW n l b), .int .i64 (takeE n l b)]) ∧ Below w.heap.size w w' := by
  have HR := Lib.hid (fun W => refcheck_any n l W (by omega))
  have hc := take_cases n l b
  generalize takeE n l b = TE at *
  generalize takeS n l b = TS at *
  generalize takeT n l b = TT at *
  generalize takeW n l b = TW at *
  have hT := Blk.new w 29 #[.int .i64 0, .string ⟨#[]⟩, .int .i64 0]
  have hB := (Below.refl w.heap.size w).alloc (Nat.le_refl _) (.cells #[.int .i64 0, .string ⟨#[]⟩, .int .i64 0] 29)
  rcases hc with ⟨h0, rfl, rfl, rfl, rfl⟩ | ⟨m, rfl, h1, h8, hg, hpe, hpl, hb, rfl, rfl, rfl, rfl⟩ | ⟨m, rfl, h1, h8, hg, hpe, hpl, hb, hw, rfl, rfl, rfl, rfl⟩ | ⟨m, rfl, h1, h8, hg, hpe, hpl, hb, hw, rfl, rfl, rfl, rfl⟩
  · generalize partE n l = PE at *
    have h0' : (PE == 0) = false := by simpa using h0
    clear h0
    go_enter Try.func14, Try.ntmps14
    go_wp2_with (go_at_call 31; refine (HR.out _).mono ?_; rintro e w1 ⟨rfl, rfl⟩)
    exact bodyPost_ret (results_tctt rfl _ _ w.heap.size _ _ _ rfl hT Try.underlying29 rfl tok_size) rfl ⟨rfl, hB⟩
  · have hlz := (okG_len m l hg).1
    have HBd := Lib.hid (fun W => refBad_any m l.length b W h8 hb8 (by omega))
    have h0' : (badN m l.length b == 0) = false := by simpa using hb
    generalize badN m l.length b = PE at *
    rw [hpe] at HR
    clear hb hpe hpl hg
    go_enter Try.func14, Try.ntmps14
    go_wp2_with (first
      | (go_at_call 31; refine (HR.out _).mono ?_; rintro e w1 ⟨rfl, rfl⟩)
      | (go_at_call 35; refine (HBd.out _).mono ?_; rintro e w1 ⟨rfl, rfl⟩))
    exact bodyPost_ret (results_tctt rfl _ _ w.heap.size _ _ _ rfl hT Try.underlying29 rfl tok_size) rfl ⟨rfl, hB⟩
  · have hlz := (okG_len m l hg).1
    have HBd := Lib.hid (fun W => refBad_any m l.length b W h8 hb8 (by omega))
    rw [hb] at HBd
    rw [hpe] at HR
    have hsn := okG_snoc m l (UInt8.ofNat b)
    rw [show (UInt8.ofNat b).toNat = b from Nat.mod_eq_of_lt hb8, hw, hb] at hsn
    have HG := fun W => refgood_any m (l ++ [UInt8.ofNat b]) W h8 (by simp; omega)
    rw [decide_eq_true (hsn.2 ⟨hg, rfl, rfl⟩)] at HG
    have hcv := run_byte_str (w.alloc (.cells #[.int .i64 0, .string ⟨#[]⟩, .int .i64 0] 29)) b hb8
    rw [show (w.alloc (.cells #[.int .i64 0, .string ⟨#[]⟩, .int .i64 0] 29)).heap.size = w.heap.size + 1 by simp] at hcv
    have hT2 := hT.alloc (.cells #[.int .u8 b] 5)
    have hB2 := hB.alloc (by simp) (.cells #[.int .u8 b] 5)
    have hkl : (l ++ [UInt8.ofNat b]).length = l.length + 1 := by simp
    have hkz : (l.length : Int) ≤ 25 := by omega
    clear hw hb hpe hpl hg hsn
    have HG' := Lib.hid HG; clear HG
    go_enter Try.func14, Try.ntmps14
    go_wp2_with (first
      | (go_at_call 31; refine (HR.out _).mono ?_; rintro e w1 ⟨rfl, rfl⟩)
      | (go_at_call 35; refine (HBd.out _).mono ?_; rintro e w1 ⟨rfl, rfl⟩)
      | (go_at_call 30; refine (HG'.out _).mono ?_; rintro e w1 ⟨rfl, rfl⟩))
    exact bodyPost_ret (results_tctt rfl _ _ w.heap.size _ _ _ rfl hT2 Try.underlying29 rfl tok_size) rfl ⟨rfl, hB2⟩
  · have hlz := (okG_len m l hg).1
    have HBd := Lib.hid (fun W => refBad_any m l.length b W h8 hb8 (by omega))
    rw [hb] at HBd
    rw [hpe] at HR
    have hsn := okG_snoc m l (UInt8.ofNat b)
    rw [show (UInt8.ofNat b).toNat = b from Nat.mod_eq_of_lt hb8, hw, hb] at hsn
    have HG := fun W => refgood_any m (l ++ [UInt8.ofNat b]) W h8 (by simp; omega)
    rw [decide_eq_false (fun h => by have := (hsn.1 h).2.2; cases this)] at HG
    have hcv := run_byte_str (w.alloc (.cells #[.int .i64 0, .string ⟨#[]⟩, .int .i64 0] 29)) b hb8
    rw [show (w.alloc (.cells #[.int .i64 0, .string ⟨#[]⟩, .int .i64 0] 29)).heap.size = w.heap.size + 1 by simp] at hcv
    have hT2 := hT.alloc (.cells #[.int .u8 b] 5)
    have hB2 := hB.alloc (by simp) (.cells #[.int .u8 b] 5)
    have hkl : (l ++ [UInt8.ofNat b]).length = l.length + 1 := by simp
    have hkz : (l.length : Int) ≤ 25 := by omega
    clear hkl
    have hk2 : 2 ≤ (l ++ [UInt8.ofNat b]).length := by unfold wholeP at hw; simp at hw ⊢; omega
    have e0 : b0 (l ++ [UInt8.ofNat b]) = (l ++ [UInt8.ofNat b])[0].toNat := by unfold b0; rw [List.getD_eq_getElem?_getD, List.getElem?_eq_getElem (by omega)]; rfl
    have HE0 := Lib.hid e0
    clear hw hb hpe hpl hg hsn e0
    have HG' := Lib.hid HG; clear HG
    go_enter Try.func14, Try.ntmps14
    go_wp2_with (first
      | (go_at_call 31; refine (HR.out _).mono ?_; rintro e w1 ⟨rfl, rfl⟩)
      | (go_at_call 35; refine (HBd.out _).mono ?_; rintro e w1 ⟨rfl, rfl⟩)
      | (go_at_call 30; refine (HG'.out _).mono ?_; rintro e w1 ⟨rfl, rfl⟩))
    clear HR HBd HG' hcv
    have hkz2 : (2 : Int) ≤ (l.length : Int) + 1 := by have := hk2; simp at this; omega
    have htk : (l ++ [UInt8.ofNat b]).take (l.length + 1) = l ++ [UInt8.ofNat b] := List.take_of_length_le (by simp)
    have hkz3 : 0 < (l ++ [UInt8.ofNat b]).length := by omega
    have hy0 : (l ++ [UInt8.ofNat b])[0].toNat < 256 := (l ++ [UInt8.ofNat b])[0].toNat_lt
    have hwb : IntKind.i64.wrap ((l ++ [UInt8.ofNat b])[0].toNat : Int) = (l ++ [UInt8.ofNat b])[0].toNat := Go.IntWalk.i64_in _ (by omega)
    obtain ⟨c0, c1, c2, f0, f1, f2⟩ := cells3 hT2
    go_region
    have hT3 := ((Blk.new w 29 #[.int .i64 ((l ++ [UInt8.ofNat b])[0].toNat), .string ⟨((l ++ [UInt8.ofNat b]).drop 2).toArray⟩, .int .i64 0]).alloc (.cells #[.int .u8 b] 5)).drew
    have hB3 := (((Below.refl w.heap.size w).alloc (Nat.le_refl _) (.cells #[.int .i64 ((l ++ [UInt8.ofNat b])[0].toNat), .string ⟨((l ++ [UInt8.ofNat b]).drop 2).toArray⟩, .int .i64 0] 29)).alloc (by simp) (.cells #[.int .u8 b] 5)).drew
    go_wp2
    refine bodyPost_ret (results_tctt rfl _ _ w.heap.size _ _ _ rfl hT3 Try.underlying29 rfl tok_size) rfl ⟨?_, hB3⟩
    rw [HE0.out]
    rfl
end Go.Proofs.Ytfcbbolokhcknaa
