/- Walks: crc.Add and stenotyperef02.Add compute the plain register. -/
import Derived.Test.YtfehmjiahefnjaaW2
namespace Go.Proofs.Ytfehmjiahefnjaa
open Go.RowKit

theorem addc_snoc (c : Nat) (l : List UInt8) (k : Nat) (h : k < l.length) : addc c (l.take (k + 1)) = upd (addc c (l.take k)) l[k].toNat := by
  rw [take_snoc l k h, addc_append]; rfl
set_option maxRecDepth 100000 in
set_option maxHeartbeats 800000 in
theorem add_any (c : Nat) (l : List UInt8) (w : World) (hc : c < 4294967296) (hl : l.length ≤ 30000) :
    Calls Try.prog 11 #[.int .u32 c, .string ⟨l.toArray⟩] w fun e w' => e = .returned (.int .u32 (addc c l)) ∧ Below w.heap.size w w' := by
  have kb := fun (w : World) => run_bytes_of_string (P := Try.prog) w 9 51 5 ⟨l.toArray⟩ Try.underlying9 Try.underlying51 Try.underlying5
  go_enter Try.func11, Try.ntmps11
  go_wp2_with fail
  refine (table_any _).mono ?_
  rintro e w1 ⟨rfl, hb1⟩
  go_wp2_with (first
    | (refine wpList_alloc_z rfl 53 rfl _ tab_zero ?_; simp only [Value.cells])
    | (refine wpList_store_row rfl 53 _ _ rfl w1.heap.size rfl (tabK 256) rfl (tabK 0) 53 (Blk.new w1 _ _) (tab_sizeK 256) (by rw [tabK_size, tabK_size]) (tabK_one 256) ?_
       have hT := (Blk.new w1 53 (tabK 0)).row (tabK 256) (by rw [tabK_size, tabK_size])
       have hB : Below w.heap.size w ((w1.alloc (.cells (tabK 0) 53)).setRow w1.heap.size (tabK 256)) := below_setRow (hb1.alloc hb1.size _) hb1.size _
       have hS : ((w1.alloc (.cells (tabK 0) 53)).setRow w1.heap.size (tabK 256)).heap.size = w1.heap.size + 1 := by simp
       generalize (w1.alloc (.cells (tabK 0) 53)).setRow w1.heap.size (tabK 256) = w2 at *
       have HS := Lib.hid hS; clear hS))
  have hT2 := (hT.alloc (.cells (bytesRow ⟨l.toArray⟩ (grownCap w2 l.length 0 5)) 5 ((bytesRow ⟨l.toArray⟩ (grownCap w2 l.length 0 5)).size, (bytesRow ⟨l.toArray⟩ (grownCap w2 l.length 0 5)).size + 1))).drew
  have hY2 := Blk.bytes w2 ⟨l.toArray⟩ (grownCap w2 l.length 0 5) 5
  have hB2 := (hB.alloc hB.size (.cells (bytesRow ⟨l.toArray⟩ (grownCap w2 l.length 0 5)) 5 ((bytesRow ⟨l.toArray⟩ (grownCap w2 l.length 0 5)).size, (bytesRow ⟨l.toArray⟩ (grownCap w2 l.length 0 5)).size + 1))).drew
  generalize (w2.alloc (.cells (bytesRow ⟨l.toArray⟩ (grownCap w2 l.length 0 5)) 5 ((bytesRow ⟨l.toArray⟩ (grownCap w2 l.length 0 5)).size, (bytesRow ⟨l.toArray⟩ (grownCap w2 l.length 0 5)).size + 1))).drew = w3 at *
  clear kb
  go_loop [0, 12] (fun v i => ∃ k : Nat, k ≤ l.length ∧ i = .int .i64 k ∧ v = .int .u32 (addc c (l.take k))) (fun _ i => l.length - (intOf i).toNat)
  case atStart => exact ⟨0, Nat.zero_le _, rfl, rfl⟩
  case round =>
    obtain ⟨k, hk, rfl, rfl⟩ := hrel
    have hm := addc_lt hc (l.take k)
    by_cases hlt : k < l.length
    · have HE := Lib.hid (addc_snoc c l k hlt)
      have hcell : w3.cell? ⟨w2.heap.size, k, none⟩ = some (.int .u8 (l[k].toNat : Int)) := (hY2.cell k).trans (bytesRow_get l _ k hlt)
      have hbl := l[k].toNat_lt
      generalize l[k].toNat = b at *
      generalize addc c (l.take k) = m at *
      have hx := u8_xor_nat (m % 256) b (by omega) (by omega)
      have hj : m % 256 ^^^ b < 256 := Nat.xor_lt_two_pow (n := 8) (by omega) (by omega)
      have hy := u32_xor_nat (m / 256) (s8 (m % 256 ^^^ b)) (by omega) (s8_lt (by omega))
      have HU := Lib.hid (show upd m b = m / 256 ^^^ s8 (m % 256 ^^^ b) from rfl)
      generalize m % 256 ^^^ b = j at *
      have hcj : w3.cell? ⟨w1.heap.size, j, none⟩ = some (.int .u32 (s8 j)) := by
        have := (hT2.cell j).trans (tabK_get 256 j hj)
        rwa [if_pos hj] at this
      generalize s8 j = sj at *
      generalize m / 256 ^^^ sj = r at *
      have hx' : bits .xor .u8 ((m : Int) % 256) (b : Int) = (j : Int) := by simpa using hx
      have hy' : bits .xor .u32 ((m : Int) / 256) (sj : Int) = (r : Int) := by simpa using hy
      clear hx hy
      go_wp2
      go_round
      case rel => exact ⟨k + 1, by omega, by go_num, by rw [HE.out, HU.out]⟩
      case measure => simp [intOf]; omega
    · go_wp2
      go_ret
      refine ⟨ret_int ?_, hB2⟩
      rw [List.take_of_length_le (by omega)]
end Go.Proofs.Ytfehmjiahefnjaa
