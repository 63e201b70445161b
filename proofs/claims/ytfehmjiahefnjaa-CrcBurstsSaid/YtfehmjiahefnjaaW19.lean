/- The walk of the law CrcParts. -/
import Derived.Test.YtfehmjiahefnjaaW18
namespace Go.Proofs.Ytfehmjiahefnjaa
open Go.RowKit
theorem of_row (ls : List (List UInt8)) (k : Nat) (cs : Array Value) (w : World) (hk : ls.length = k) (hc : cs.toList = ls.map strV) (hk2 : k ≤ 1000000) (hl : ∀ l ∈ ls, l.length ≤ 30000) :
    Calls Try.prog 16 #[.slice (some ⟨w.heap.size, 0, none⟩) k k] (w.alloc (.cells cs 9)) fun e w' => e = .returned (.int .u32 (endc (ofs 4294967295 ls))) ∧ Below w.heap.size w w' := by
  subst hk
  have hz : cs.size = ls.length := by rw [← Array.length_toList, hc, List.length_map]
  have h := of_any (some ⟨w.heap.size, 0, none⟩) ls.length (w.heap.size + 1) ls _ (by rw [← hc]; exact sl_row w cs 9 ls.length hz (by unfold maxLen; omega)) (by simp) hk2 hl
  exact h.mono fun e w' ⟨he, hb⟩ => ⟨he, ((Below.refl _ w).alloc (Nat.le_refl _) _).trans (hb.mono (by simp))⟩
theorem of_two (a b : List UInt8) (w : World) (ha : a.length ≤ 30000) (hb : b.length ≤ 30000) :
    Calls Try.prog 16 #[.slice (some ⟨w.heap.size, 0, none⟩) 2 2] (w.alloc (.cells #[.string ⟨a.toArray⟩, .string ⟨b.toArray⟩] 9)) fun e w' => e = .returned (.int .u32 (crcL (a ++ b))) ∧ Below w.heap.size w w' := by
  have h := of_row [a, b] 2 #[.string ⟨a.toArray⟩, .string ⟨b.toArray⟩] w rfl rfl (by decide) (by simp; omega)
  have e : endc (ofs 4294967295 [a, b]) = crcL (a ++ b) := by unfold crcL ofs; rw [addc_append]; simp only [List.foldl_cons, List.foldl_nil]
  rw [e] at h
  exact h
theorem of_one (a : List UInt8) (w : World) (ha : a.length ≤ 30000) :
    Calls Try.prog 16 #[.slice (some ⟨w.heap.size, 0, none⟩) 1 1] (w.alloc (.cells #[.string ⟨a.toArray⟩] 9)) fun e w' => e = .returned (.int .u32 (crcL a)) ∧ Below w.heap.size w w' := by
  have h := of_row [a] 1 #[.string ⟨a.toArray⟩] w rfl rfl (by decide) (by simp; omega)
  rw [ofs_one] at h
  exact h
theorem xor_xor_self (k c : Nat) : k ^^^ (k ^^^ c) = c := by rw [← Nat.xor_assoc, Nat.xor_self, Nat.zero_xor]
theorem endc_endc (c : Nat) : endc (endc c) = c := by
  obtain ⟨k, hk⟩ : ∃ k, ∀ c, endc c = k ^^^ c := ⟨4294967295, fun _ => rfl⟩
  rw [hk, hk, xor_xor_self]
theorem endc_lt {c : Nat} (hc : c < 2 ^ 32) : endc c < 2 ^ 32 := Nat.xor_lt_two_pow (n := 32) (by decide) hc
set_option maxHeartbeats 3200000 in
theorem CrcParts_any (c : Nat) (a b : List UInt8) (x : UInt8) (w : World) (hc : c < 4294967296) (ha : a.length ≤ maxLen) (hb : b.length ≤ maxLen) :
    Calls Try.prog 8 #[.int .u32 c, .string ⟨a.toArray⟩, .string ⟨b.toArray⟩, .int .u8 x.toNat] w fun e w' => e = .returned (.bool true) ∧ Below w.heap.size w w' := by
  unfold maxLen at ha hb
  by_cases h1 : 100 < a.length
  · go_enter Try.func8, Try.ntmps8
    go_wp2_with (go_at_call 5; refine (CrcKnown_any _).mono ?_; rintro e w1 ⟨rfl, hb1⟩)
    go_ret
    exact ⟨rfl, hb1⟩
  by_cases h2 : 100 < b.length
  · go_enter Try.func8, Try.ntmps8
    go_wp2_with (go_at_call 5; refine (CrcKnown_any _).mono ?_; rintro e w1 ⟨rfl, hb1⟩)
    go_ret
    exact ⟨rfl, hb1⟩
  have hx := x.toNat_lt
  have hx1 := u32_xor_nat c x.toNat hc (by omega)
  have hj32 : c ^^^ x.toNat < 2 ^ 32 := Nat.xor_lt_two_pow (n := 32) (by omega) (by omega)
  have hand : bits .and .u32 ((c ^^^ x.toNat : Nat) : Int) 255 = (((c ^^^ x.toNat) % 256 : Nat) : Int) := by
    have h := u32_and_nat (c ^^^ x.toNat) 255 (by omega) (by decide)
    rw [show (c ^^^ x.toNat) &&& 255 = (c ^^^ x.toNat) % 256 from Nat.and_two_pow_sub_one_eq_mod _ 8] at h
    exact h
  have hmod : (c ^^^ x.toNat) % 256 = c % 256 ^^^ x.toNat := by
    have := Nat.xor_mod_two_pow (a := c) (b := x.toNat) (n := 8)
    simpa [Nat.mod_eq_of_lt hx] using this
  have hm256 : c % 256 ^^^ x.toNat < 256 := Nat.xor_lt_two_pow (n := 8) (by omega) hx
  rw [hmod] at hand
  clear hmod
  have hT : ∀ W, Calls Try.prog 14 #[.int .i64 (c % 256 ^^^ x.toNat : Nat)] W fun e w' => e = .returned (.tuple #[.int .u32 (s8 (c % 256 ^^^ x.toNat)), .int .i64 0]) ∧ Below W.heap.size W w' := by
    intro W
    have h := Table_any ((c % 256 ^^^ x.toNat : Nat) : Int) W
    have e1 : tabN ((c % 256 ^^^ x.toNat : Nat) : Int) = s8 (c % 256 ^^^ x.toNat) := by
      unfold tabN
      rw [if_neg (by omega), Int.toNat_natCast]
    have e3 : tabE ((c % 256 ^^^ x.toNat : Nat) : Int) = 0 := if_neg (by omega)
    rw [e1, e3] at h
    exact h
  have hA1 : ∀ W, Calls Try.prog 11 #[.int .u32 c, .string ⟨a.toArray⟩] W fun e w' => e = .returned (.int .u32 (addc c a)) ∧ Below W.heap.size W w' := fun W => add_any c a W hc (by omega)
  have hA2 : ∀ W, Calls Try.prog 11 #[.int .u32 (addc c a), .string ⟨b.toArray⟩] W fun e w' => e = .returned (.int .u32 (addc c (a ++ b))) ∧ Below W.heap.size W w' := fun W => by
    have h := add_any (addc c a) b W (addc_lt hc a) (by omega)
    rwa [← addc_append] at h
  have hA3 : ∀ W, Calls Try.prog 11 #[.int .u32 c, .string ⟨(a ++ b).toArray⟩] W fun e w' => e = .returned (.int .u32 (addc c (a ++ b))) ∧ Below W.heap.size W w' := fun W => add_any c (a ++ b) W hc (by simp; omega)
  have hA4 : ∀ W, Calls Try.prog 11 #[.int .u32 c, .string ⟨[x].toArray⟩] W fun e w' => e = .returned (.int .u32 (c / 256 ^^^ s8 (c % 256 ^^^ x.toNat) : Nat)) ∧ Below W.heap.size W w' := fun W => by
    have h := add_any c [x] W hc (by simp)
    have e : addc c [x] = c / 256 ^^^ s8 (c % 256 ^^^ x.toNat) := by unfold addc upd; rfl
    rw [e] at h
    exact h
  have hO1 := fun W => of_two a b W (by omega) (by omega)
  have hO2 := fun W => of_one (a ++ b) W (by simp; omega)
  have hE1 := fun W => end_any c W hc
  have hE2 : ∀ W, Calls Try.prog 19 #[.int .u32 (endc c)] W fun e w' => e = .returned (.int .u32 c) ∧ W = w' := fun W => by
    have h := end_any (endc c) W (endc_lt hc)
    rwa [endc_endc] at h
  have hs8 : s8 (c % 256 ^^^ x.toNat) < 2 ^ 32 := s8_lt (Nat.lt_of_lt_of_le (Nat.xor_lt_two_pow (n := 8) (by omega) hx) (by decide))
  have hy := u32_xor_nat (c / 256) (s8 (c % 256 ^^^ x.toNat)) (by omega) hs8
  have hz : ∀ W : World, Sl (W.alloc (.cells #[.int .u8 x.toNat] 5)) (W.heap.size + 1) 1 (some ⟨W.heap.size, 0, none⟩) 1 1 ([x].map byteV) := fun W => sl_row W #[.int .u8 x.toNat] 5 1 rfl (by decide)
  generalize s8 (c % 256 ^^^ x.toNat) = sj at *
  generalize c / 256 ^^^ sj = r at *
  have hy' : bits .xor .u32 ((c : Int) / 256) (sj : Int) = (r : Int) := by simpa using hy
  generalize c % 256 ^^^ x.toNat = m at *
  generalize c ^^^ x.toNat = j at *
  generalize crcL (a ++ b) = cab at *
  generalize addc c (a ++ b) = aab at *
  generalize addc c a = aa at *
  generalize endc c = ec at *
  have HT := Lib.hid hT; clear hT
  have HA1 := Lib.hid hA1; clear hA1
  have HA2 := Lib.hid hA2; clear hA2
  have HA3 := Lib.hid hA3; clear hA3
  have HA4 := Lib.hid hA4; clear hA4
  have HO1 := Lib.hid hO1; clear hO1
  have HO2 := Lib.hid hO2; clear hO2
  have HE1 := Lib.hid hE1; clear hE1
  have HE2 := Lib.hid hE2; clear hE2
  clear hy hs8
  have HZ := Lib.hid hz; clear hz
  go_enter Try.func8, Try.ntmps8
  go_wp2_with fail
  refine (CrcKnown_any _).mono ?_
  rintro e w1 ⟨rfl, hb1⟩
  go_wp2_with fail
  refine (HT.out _).mono ?_
  rintro e w2 ⟨rfl, hb2⟩
  have hB2 := hb1.trans (hb2.mono hb1.size)
  go_wp2_with (refine wpList_bytes_back rfl 51 9 5 _ rfl Try.underlying51 Try.underlying5 Try.underlying9 (l := [x]) rfl rfl (HZ.out _) ?_)
  have hB3 : Below w.heap.size w (w2.alloc (Obj.cells #[.int .u8 x.toNat] 5)) := hB2.alloc hB2.size _
  generalize w2.alloc (Obj.cells #[.int .u8 x.toNat] 5) = w3 at *
  refine (HA1.out _).mono ?_
  rintro e w4 ⟨rfl, hb4⟩
  have hB4 := hB3.trans (hb4.mono hB3.size)
  go_wp2_with fail
  refine (HA2.out _).mono ?_
  rintro e w5 ⟨rfl, hb5⟩
  have hB5 := hB4.trans (hb5.mono hB4.size)
  go_wp2_with fail
  refine (HA3.out _).mono ?_
  rintro e w6 ⟨rfl, hb6⟩
  have hB6 := hB5.trans (hb6.mono hB5.size)
  go_wp2_with fail
  refine (HO1.out w6).mono ?_
  rintro e w7 ⟨rfl, hb7⟩
  have hB7 := hB6.trans (hb7.mono hB6.size)
  go_wp2_with fail
  refine (HO2.out w7).mono ?_
  rintro e w8 ⟨rfl, hb8⟩
  have hB8 := hB7.trans (hb8.mono hB7.size)
  go_wp2_with fail
  refine (HA4.out _).mono ?_
  rintro e w9 ⟨rfl, hb9⟩
  have hB9 := hB8.trans (hb9.mono hB8.size)
  go_wp2_with fail
  refine (HE1.out _).mono ?_
  rintro e w10 ⟨rfl, rfl⟩
  go_wp2_with fail
  refine (HE2.out _).mono ?_
  rintro e w11 ⟨rfl, rfl⟩
  go_wp2_with fail
  go_ret
  exact ⟨rfl, hB9⟩
theorem CrcParts_nat (c : Nat) (a b : List UInt8) (x : Nat) (w : World) (hc : c < 4294967296) (ha : a.length ≤ maxLen) (hb : b.length ≤ maxLen) (hx : x < 256) :
    Calls Try.prog 8 #[.int .u32 c, .string ⟨a.toArray⟩, .string ⟨b.toArray⟩, .int .u8 x] w fun e w' => e = .returned (.bool true) ∧ Below w.heap.size w w' := by
  have h := CrcParts_any c a b (UInt8.ofNat x) w hc ha hb
  rw [show (UInt8.ofNat x).toNat = x from by rw [UInt8.toNat_ofNat']; exact Nat.mod_eq_of_lt (by omega)] at h
  exact h
end Go.Proofs.Ytfehmjiahefnjaa
