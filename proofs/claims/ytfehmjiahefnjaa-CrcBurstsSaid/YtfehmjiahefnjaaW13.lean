/- Walk: stenotyperef02.Bits. -/
import Derived.Test.YtfehmjiahefnjaaW12
namespace Go.Proofs.Ytfehmjiahefnjaa
open Go.RowKit
set_option maxHeartbeats 3200000 in
theorem refBits_any (a b : List UInt8) (w : World) (hl : a.length = b.length) (h2 : a.length ≤ 30000) :
    Calls Try.prog 32 #[.string ⟨a.toArray⟩, .string ⟨b.toArray⟩] w fun e w' => (∃ A cap, e = .returned (.tuple #[.slice A (diffTo a b a.length).length cap, .int .i64 0]) ∧ Sl w' w'.heap.size 1 A (diffTo a b a.length).length cap ((diffTo a b a.length).map intV)) ∧ Below w.heap.size w w' := by
  have hb : ((a.length : Int) != (b.length : Int)) = false := by rw [hl]; simp
  have HL := Lib.hid hl; clear hl
  obtain ⟨i0, hi0, hz0, hz1, hz2⟩ := info_parts infoI
  go_enter Try.func32, Try.ntmps32
  go_wp2_with fail
  go_loopw [6, 7] (fun v i W => ∃ (k : Nat) (A : Option Addr) (cap : Nat), k ≤ a.length ∧ i = .int .i64 k ∧ v = .slice A (diffTo a b k).length cap ∧ Own W w.heap.size 3 1 A (diffTo a b k).length cap ((diffTo a b k).map intV) ∧ Below w.heap.size w W) (fun _ i _ => a.length - (intOf i).toNat)
  case atStart => exact ⟨0, none, 0, Nat.zero_le _, rfl, rfl, Own.nil _ _ _ _, Below.refl _ _⟩
  case round =>
    obtain ⟨k, A, cap, hk, rfl, rfl, hown, hbel⟩ := hrel
    obtain ⟨wo, rfl⟩ : ∃ wo : World, wo = wr := ⟨_, rfl⟩
    have hm8 := diffTo_len a b k
    by_cases hlt : k < a.length
    · have hlb : k < b.length := by have := HL.out; omega
      have hx := u8_xor_nat a[k].toNat b[k].toNat a[k].toNat_lt b[k].toNat_lt
      have hd : a[k].toNat ^^^ b[k].toNat < 256 := Nat.xor_lt_two_pow (n := 8) a[k].toNat_lt b[k].toNat_lt
      have HD := Lib.hid (show diffTo a b (k + 1) = diffTo a b k ++ (bitsN (a[k].toNat ^^^ b[k].toNat) 8).map fun j => 8 * (k : Int) + j by
        simp [diffTo, hlt, hlb])
      have hxa : a[k].toNat < 256 := a[k].toNat_lt
      have hxb : b[k].toNat < 256 := b[k].toNat_lt
      generalize a[k].toNat ^^^ b[k].toNat = d at *
      go_wp2_with fail
      go_loopw [6, 8] (fun v i W => ∃ (j : Nat) (A : Option Addr) (cap : Nat), j ≤ 8 ∧ i = .int .i64 j ∧ v = .slice A ((diffTo a b k).length + (bitsN d j).length) cap ∧ Own W w.heap.size 3 1 A ((diffTo a b k).length + (bitsN d j).length) cap ((diffTo a b k ++ (bitsN d j).map fun x => 8 * (k : Int) + x).map intV) ∧ Below w.heap.size w W) (fun _ i _ => 8 - (intOf i).toNat)
      case atStart => exact ⟨0, A, cap, Nat.zero_le _, rfl, by simp [bitsN], by simpa [bitsN] using hown, hbel⟩
      case round =>
        obtain ⟨j, A2, cap2, hj, rfl, rfl, hown2, hbel2⟩ := hrel
        have hsz2 := hbel2.size
        by_cases hj8 : j < 8
        · have hbit := bit_u8 d j hd
          have hbl := bitsN_len d j
          by_cases hset : d / 2 ^ j % 2 = 1
          · rw [hset] at hbit
            have HB := Lib.hid (bitsN_hit hset)
            clear hset
            go_wp2_with fail
            go_quiet (fail)
            have hown3 := hown2.drewN nq
            have hbel3 : Below w.heap.size w (wr.drewN nq) := hbel2.trans ⟨rfl, rfl, rfl, Nat.le_refl _, fun _ _ => rfl⟩
            have hsz3 : w.heap.size ≤ (wr.drewN nq).heap.size := hsz2
            clear hown2 hbel2 hsz2
            generalize wr.drewN nq = wq at *
            go_wp2_with (at_builtin; refine wpList_append_new rfl _ _ _ rfl w.heap.size 3 i0 _ 1 8 Try.underlying36 hi0 hz0 hz1 hz2 rfl (by decide) rfl hown3 #[.int .i64 (8 * (k : Int) + j)] rfl rfl (by simp [Value.oneCell']) (by simp only [maxLen]; omega) (by omega) hsz3 ?_; intro A4 cap4 W4 hown4 hg4 hat4)
            go_roundw
            case rel =>
              refine ⟨j + 1, A4, cap4, by omega, by go_num, ?_, ?_, grown_below hbel3 hown3 hg4 hsz3⟩
              · rw [HB.out]; simp [Nat.add_assoc]
              · have hlen : (bitsN d (j + 1)).length = (bitsN d j).length + 1 := by rw [HB.out]; simp
                have hls : (diffTo a b k ++ (bitsN d (j + 1)).map fun x => 8 * (k : Int) + x).map intV = (diffTo a b k ++ (bitsN d j).map fun x => 8 * (k : Int) + x).map intV ++ [Value.int .i64 (8 * (k : Int) + j)] := by
                  rw [HB.out]; simp [intV]
                rw [hlen, hls]; exact hown4
            case measure => simp [intOf]; omega
          · have hz : d / 2 ^ j % 2 = 0 := by omega
            rw [hz] at hbit
            have HM := Lib.hid (bitsN_miss hset); clear hset hz
            go_wp2_with fail
            go_quiet (fail)
            go_wp2
            go_roundw
            case rel => exact ⟨j + 1, A2, cap2, by omega, by go_num, by rw [HM.out], by rw [HM.out]; exact hown2.drewN nq, hbel2.trans ⟨rfl, rfl, rfl, Nat.le_refl _, fun _ _ => rfl⟩⟩
            case measure => simp [intOf]; omega
        · obtain rfl : j = 8 := by omega
          go_wp2
          go_roundw
          case rel => exact ⟨k + 1, A2, cap2, by omega, by go_num, by rw [HD.out]; simp, by rw [HD.out]; simpa using hown2, hbel2⟩
          case measure => simp [intOf]; omega
    · obtain rfl : k = a.length := by omega
      go_wp2
      go_ret2
      exact ⟨⟨A, cap, rfl, hown.sl⟩, hbel⟩
theorem refBits_ne (a b : List UInt8) (w : World) (hl : a.length ≠ b.length) :
    Calls Try.prog 32 #[.string ⟨a.toArray⟩, .string ⟨b.toArray⟩] w fun e w' => e = .returned (.tuple #[.slice none 0 0, .int .i64 2]) ∧ w = w' := by
  have hb : ((a.length : Int) != (b.length : Int)) = true := by rw [bne_iff_ne]; omega
  clear hl
  go_enter Try.func32, Try.ntmps32
  go_wp2
  go_ret2
  exact ⟨rfl, rfl⟩
end Go.Proofs.Ytfehmjiahefnjaa
