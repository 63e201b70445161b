/- Walks: crc.Flip and stenotyperef02.Flip. -/
import Derived.Test.YtfehmjiahefnjaaW13
namespace Go.Proofs.Ytfehmjiahefnjaa
open Go.RowKit
def okBit (n : Nat) (i : Int) : Bool := decide (0 ≤ i) && decide (i / 8 < (n : Int))
/-- One bit is turned. -/
def flip1 (l : List UInt8) (i : Int) : List UInt8 := l.set (i / 8).toNat (UInt8.ofNat ((l.getD (i / 8).toNat 0).toNat ^^^ 2 ^ (i % 8).toNat))
def flips (l : List UInt8) (bs : List Int) : List UInt8 := bs.foldl flip1 l
theorem flip1_len (l : List UInt8) (i : Int) : (flip1 l i).length = l.length := by simp [flip1]
theorem flips_len (bs : List Int) : ∀ l : List UInt8, (flips l bs).length = l.length := by
  induction bs with
  | nil => intro l; rfl
  | cons b bs ih => intro l; show (flips (flip1 l b) bs).length = _; rw [ih, flip1_len]
theorem flips_snoc (l : List UInt8) (bs : List Int) (k : Nat) (h : k < bs.length) : flips l (bs.take (k + 1)) = flip1 (flips l (bs.take k)) bs[k] := by
  unfold flips; rw [take_snoc bs k h, List.foldl_append]; rfl
def flipS (l : List UInt8) (bs : List Int) : List UInt8 := if bs.all (okBit l.length) then flips l bs else []
def flipE (l : List UInt8) (bs : List Int) : Int := if bs.all (okBit l.length) then 0 else 2
theorem bytesRow_set (l : List UInt8) (cap j : Nat) (x : UInt8) (hj : j < l.length) : (bytesRow ⟨l.toArray⟩ cap).setIfInBounds j (.int .u8 (x.toNat : Int)) = bytesRow ⟨(l.set j x).toArray⟩ cap := by
  apply Array.ext'
  simp only [bytesRow, Array.toList_setIfInBounds, Array.toList_append, Array.toList_map, Array.toList_replicate]
  rw [List.set_append_left _ _ (by simpa using hj), List.map_set]
  simp [ByteArray.size]
theorem xor_u8 (x : UInt8) (r : Nat) (h : r < 8) : bits .xor .u8 (x.toNat : Int) (2 ^ r % 256) = ((UInt8.ofNat (x.toNat ^^^ 2 ^ r)).toNat : Int) := by
  have hr : (2 : Int) ^ r % 256 = ((2 ^ r : Nat) : Int) ∧ 2 ^ r < 256 := by
    have : r = 0 ∨ r = 1 ∨ r = 2 ∨ r = 3 ∨ r = 4 ∨ r = 5 ∨ r = 6 ∨ r = 7 := by omega
    rcases this with rfl | rfl | rfl | rfl | rfl | rfl | rfl | rfl <;> decide
  rw [hr.1, u8_xor_nat x.toNat (2 ^ r) x.toNat_lt hr.2]
  have h2 : x.toNat ^^^ 2 ^ r < 256 := Nat.xor_lt_two_pow (n := 8) x.toNat_lt hr.2
  rw [UInt8.toNat_ofNat', Nat.mod_eq_of_lt h2]
theorem flip1_nat (l : List UInt8) (m : Nat) (h : m / 8 < l.length) : flip1 l (m : Int) = l.set (m / 8) (UInt8.ofNat (l[m / 8].toNat ^^^ 2 ^ (m % 8))) := by
  unfold flip1
  have e1 : ((m : Int) / 8).toNat = m / 8 := by omega
  have e2 : ((m : Int) % 8).toNat = m % 8 := by omega
  rw [e1, e2]
  simp [h]
theorem allTake_snoc (bs : List Int) (f : Int → Bool) (k : Nat) (h : k < bs.length) : (bs.take (k + 1)).all f = ((bs.take k).all f && f bs[k]) := by
  rw [take_snoc bs k h, List.all_append]; simp only [List.all_cons, List.all_nil, Bool.and_true]
theorem all_bad {bs : List Int} {f : Int → Bool} {k : Nat} (h : k < bs.length) (hf : f bs[k] = false) : bs.all f = false :=
  List.all_eq_false.2 ⟨bs[k], List.getElem_mem h, by simp [hf]⟩
set_option maxHeartbeats 3200000 in
theorem Flip_any (l : List UInt8) (A : Option Addr) (cap D : Nat) (bs : List Int) (w : World) (h : Sl w D 1 A bs.length cap (bs.map intV)) (hD : D ≤ w.heap.size) (hn : bs.length ≤ 1000000) (hl : l.length ≤ 30000) (hw : ∀ i ∈ bs, i ≤ 9223372036854775807) :
    Calls Try.prog 28 #[.string ⟨l.toArray⟩, .slice A bs.length cap] w fun e w' => e = .returned (.tuple #[.string ⟨(flipS l bs).toArray⟩, .int .i64 (flipE l bs)]) ∧ Below w.heap.size w w' := by
  have kb := fun (w : World) => run_bytes_of_string (P := Try.prog) w 9 51 5 ⟨l.toArray⟩ Try.underlying9 Try.underlying51 Try.underlying5
  have hcapg := grownCap_ge w l.length 0 5
  have hcapm := grownCap_le_maxLen w l.length 0 5 (by unfold maxLen; omega)
  have hblk := Blk.bytes w ⟨l.toArray⟩ (grownCap w l.length 0 5) 5
  have hbel := ((Below.refl w.heap.size w).alloc (Nat.le_refl _) (.cells (bytesRow ⟨l.toArray⟩ (grownCap w l.length 0 5)) 5 ((bytesRow ⟨l.toArray⟩ (grownCap w l.length 0 5)).size, (bytesRow ⟨l.toArray⟩ (grownCap w l.length 0 5)).size + 1))).drew
  go_enter Try.func28, Try.ntmps28
  go_wp2_with fail
  clear kb
  generalize grownCap w l.length 0 5 = gc at *
  go_loopw [13] (fun i W => ∃ (k : Nat), k ≤ bs.length ∧ i = .int .i64 k ∧ (bs.take k).all (okBit l.length) = true ∧ Blk W w.heap.size 5 (bytesRow ⟨(flips l (bs.take k)).toArray⟩ gc) ∧ Below w.heap.size w W) (fun i _ => bs.length - (intOf i).toNat)
  case atStart => exact ⟨0, Nat.zero_le _, rfl, rfl, hblk, hbel⟩
  case round =>
    obtain ⟨k, hk, rfl, hall, hb, hB⟩ := hrel
    clear hblk hbel
    have hlen := flips_len (bs.take k) l
    by_cases hlt : k < bs.length
    · obtain ⟨b, o, rfl, hbD, hc⟩ := sl_int (h.below hB hD) hlt
      have HE := Lib.hid (flips_snoc l bs k hlt)
      have HA := Lib.hid (allTake_snoc bs (okBit l.length) k hlt)
      have hi63 := hw bs[k] (List.getElem_mem hlt)
      have HALL := Lib.hid hall; clear hall
      by_cases hok : okBit l.length bs[k] = true
      · have HOK := Lib.hid hok
        generalize bs[k] = i at *
        unfold okBit at hok
        have hi0 : 0 ≤ i ∧ i / 8 < (l.length : Int) := by simpa using hok
        obtain ⟨m, rfl⟩ := Int.eq_ofNat_of_zero_le hi0.1
        have hm8 : m / 8 < l.length := by omega
        generalize hcu : flips l (bs.take k) = cur at *
        have HC := Lib.hid hcu; clear hcu hok
        have hm8c : m / 8 < cur.length := by omega
        have hcell : wr.cell? ⟨w.heap.size, m / 8, none⟩ = some (.int .u8 (cur[m / 8].toNat : Int)) := (hb.cell _).trans (bytesRow_get cur gc (m / 8) hm8c)
        have hfr : wr.frozen? ⟨w.heap.size, m / 8, none⟩ = false := hb.frozen (by rw [bytesRow_size _ _ (by omega)]; omega)
        have hm63 : (m : Int) ≤ 9223372036854775807 := by omega
        go_wp2_with fail
        go_region
        have hv := xor_u8 cur[m / 8] (m % 8) (by omega)
        rw [hv]
        have hb2 := (hb.set (m / 8) (.int .u8 ((UInt8.ofNat (cur[m / 8].toNat ^^^ 2 ^ (m % 8))).toNat : Int))).drew
        rw [bytesRow_set _ _ _ _ hm8c, ← flip1_nat cur m hm8c] at hb2
        have hB2 := (hB.setCell (p := ⟨w.heap.size, m / 8, none⟩) (Nat.le_refl _) (.int .u8 ((UInt8.ofNat (cur[m / 8].toNat ^^^ 2 ^ (m % 8))).toNat : Int))).drew
        clear hv
        generalize (wr.setCell ⟨w.heap.size, m / 8, none⟩ (.int .u8 ((UInt8.ofNat (cur[m / 8].toNat ^^^ 2 ^ (m % 8))).toNat : Int))).drew = w2 at *
        go_wp2
        go_roundw
        case rel => exact ⟨k + 1, by omega, by go_num, by rw [HA.out, HALL.out, HOK.out]; rfl, by rw [HE.out]; exact hb2, hB2⟩
        case measure => simp [intOf]; omega
      · have hbad : okBit l.length bs[k] = false := by simpa using hok
        have H1 := Lib.hid (show flipS l bs = [] from if_neg (by rw [all_bad hlt hbad]; simp))
        have H2 := Lib.hid (show flipE l bs = 2 from if_neg (by rw [all_bad hlt hbad]; simp))
        clear hok HE HA
        generalize bs[k] = i at *
        unfold okBit at hbad
        by_cases hi0 : i < 0
        · clear hbad
          go_wp2
          go_ret2
          exact ⟨by rw [H1.out, H2.out]; rfl, hB⟩
        · have hi8 : (l.length : Int) ≤ i / 8 := by
            have : ¬ (0 ≤ i ∧ i / 8 < (l.length : Int)) := by simpa using hbad
            omega
          clear hbad
          go_wp2
          go_ret2
          exact ⟨by rw [H1.out, H2.out]; rfl, hB⟩
    · rw [List.take_of_length_le (by omega)] at hall hb hlen
      have H1 := Lib.hid (show flipS l bs = flips l bs from if_pos hall)
      have H2 := Lib.hid (show flipE l bs = 0 from if_pos hall)
      clear hall
      generalize flips l bs = cur at *
      have hsl : Sl wr wr.heap.size 1 (some ⟨w.heap.size, 0, none⟩) l.length gc (cur.map byteV) := by
        refine ⟨by simp [hlen], hcapg, hcapm, fun _ => ⟨w.heap.size, 0, rfl, hb.lt, fun j u hu => ?_⟩⟩
        have hj : j < cur.length := by
          have := (List.getElem?_eq_some_iff.1 hu).1; simpa using this
        rw [Nat.zero_add, hb.cell j, bytesRow_get cur gc j hj, ← hu]
        simp [hj, byteV]
      have HL := Lib.hid hlen.symm; clear hlen
      go_wp2_with (refine wpList_bytes_back rfl 51 9 5 _ rfl Try.underlying51 Try.underlying5 Try.underlying9 rfl HL.out hsl ?_)
      go_ret2
      exact ⟨by rw [H1.out, H2.out]; rfl, hB⟩
end Go.Proofs.Ytfehmjiahefnjaa
