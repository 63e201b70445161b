/- The walks of stenotypelaw02.joined and of the law CrcLinear. -/
import Derived.Test.YtfehmjiahefnjaaW19
namespace Go.Proofs.Ytfehmjiahefnjaa
open Go.RowKit
def jk (a b : List UInt8) (k : Nat) : List UInt8 := xorl (a.take k) (b.take k) ++ a.drop k
theorem xorl_len : ∀ a b : List UInt8, a.length = b.length → (xorl a b).length = a.length
  | [], [], _ => rfl
  | x :: a, y :: b, h => by
    have := xorl_len a b (by simpa using h)
    simp [xorl, this]
theorem xorl_append : ∀ a b c d : List UInt8, a.length = b.length → xorl (a ++ c) (b ++ d) = xorl a b ++ xorl c d
  | [], [], _, _, _ => rfl
  | x :: a, y :: b, c, d, h => by
    have := xorl_append a b c d (by simpa using h)
    simp [xorl, this]
theorem jk_len (a b : List UInt8) (k : Nat) (h : a.length = b.length) : (jk a b k).length = a.length := by
  unfold jk
  rw [List.length_append, xorl_len _ _ (by simp [h]), List.length_take, List.length_drop]
  omega
theorem jk_snoc (a b : List UInt8) (k : Nat) (h : a.length = b.length) (hk : k < a.length) : jk a b (k + 1) = (jk a b k).set k (a[k] ^^^ b[k]'(by omega)) := by
  have hl : (xorl (a.take k) (b.take k)).length = k := by rw [xorl_len _ _ (by simp [h]), List.length_take]; omega
  unfold jk
  rw [take_snoc a k hk, take_snoc b k (by omega), xorl_append _ _ _ _ (by simp [h]), List.set_append_right _ _ (by omega), hl, Nat.sub_self, List.drop_eq_getElem_cons hk, List.set_cons_zero, List.append_assoc]
  rfl
theorem jk_get (a b : List UInt8) (k : Nat) (h : a.length = b.length) (hk : k < a.length) : (jk a b k)[k]? = some a[k] := by
  have hl : (xorl (a.take k) (b.take k)).length = k := by rw [xorl_len _ _ (by simp [h]), List.length_take]; omega
  unfold jk
  rw [List.getElem?_append_right (by omega), hl, Nat.sub_self, List.drop_eq_getElem_cons hk]
  rfl
theorem jk_all (a b : List UInt8) (h : a.length = b.length) : jk a b a.length = xorl a b := by
  unfold jk
  rw [List.take_length, h, List.take_length, ← h, List.drop_length, List.append_nil]
theorem u8_xor_u8 (x y : UInt8) : bits .xor .u8 (x.toNat : Int) (y.toNat : Int) = ((x ^^^ y).toNat : Int) := by
  rw [u8_xor_nat x.toNat y.toNat x.toNat_lt y.toNat_lt, UInt8.toNat_xor]
set_option maxHeartbeats 3200000 in
theorem joined_any (a b : List UInt8) (w : World) (h : a.length = b.length) (hl : a.length ≤ 30000) :
    Calls Try.prog 35 #[.string ⟨a.toArray⟩, .string ⟨b.toArray⟩] w fun e w' => e = .returned (.string ⟨(xorl a b).toArray⟩) ∧ Below w.heap.size w w' := by
  have kb := fun (w : World) => run_bytes_of_string (P := Try.prog) w 9 51 5 ⟨a.toArray⟩ Try.underlying9 Try.underlying51 Try.underlying5
  have hcapg := grownCap_ge w a.length 0 5
  have hcapm := grownCap_le_maxLen w a.length 0 5 (by unfold maxLen; omega)
  have hblk := Blk.bytes w ⟨a.toArray⟩ (grownCap w a.length 0 5) 5
  have hbel := ((Below.refl w.heap.size w).alloc (Nat.le_refl _) (.cells (bytesRow ⟨a.toArray⟩ (grownCap w a.length 0 5)) 5 ((bytesRow ⟨a.toArray⟩ (grownCap w a.length 0 5)).size, (bytesRow ⟨a.toArray⟩ (grownCap w a.length 0 5)).size + 1))).drew
  have HH := Lib.hid h
  have hbl : (b.length : Int) = a.length := by omega
  clear h
  go_enter Try.func35, Try.ntmps35
  go_wp2_with fail
  clear kb
  generalize grownCap w a.length 0 5 = gc at *
  go_loopw [6] (fun i W => ∃ (k : Nat), k ≤ a.length ∧ i = .int .i64 k ∧ Blk W w.heap.size 5 (bytesRow ⟨(jk a b k).toArray⟩ gc) ∧ Below w.heap.size w W) (fun i _ => a.length - (intOf i).toNat)
  case atStart => exact ⟨0, Nat.zero_le _, rfl, by simpa [jk, xorl] using hblk, hbel⟩
  case round =>
    obtain ⟨k, hk, rfl, hb, hB⟩ := hrel
    clear hblk hbel
    have hlen := jk_len a b k HH.out
    by_cases hlt : k < a.length
    · have hltb : k < b.length := by omega
      have HE := Lib.hid (jk_snoc a b k HH.out hlt)
      have hg := jk_get a b k HH.out hlt
      have hkc : k < (jk a b k).length := by omega
      have hcell : wr.cell? ⟨w.heap.size, k, none⟩ = some (.int .u8 (a[k].toNat : Int)) := by
        have := (hb.cell k).trans (bytesRow_get (jk a b k) gc k hkc)
        rw [List.getElem?_eq_getElem hkc] at hg
        rwa [Option.some.inj hg] at this
      have hfr : wr.frozen? ⟨w.heap.size, k, none⟩ = false := hb.frozen (by rw [bytesRow_size _ _ (by omega)]; omega)
      have hxx := u8_xor_u8 a[k] b[k]
      have hsetb := bytesRow_set (jk a b k) gc k (a[k] ^^^ b[k]) hkc
      rw [← HE.out] at hsetb
      generalize hxy : a[k] ^^^ b[k] = xy at *
      clear hg
      go_wp2_with fail
      go_region
      have hb2 := (hb.set k (.int .u8 (xy.toNat : Int))).drew
      rw [hsetb] at hb2
      have hB2 := (hB.setCell (p := ⟨w.heap.size, k, none⟩) (Nat.le_refl _) (.int .u8 (xy.toNat : Int))).drew
      generalize (wr.setCell ⟨w.heap.size, k, none⟩ (.int .u8 (xy.toNat : Int))).drew = w2 at *
      go_wp2
      go_roundw
      case rel => exact ⟨k + 1, by omega, by go_num, hb2, hB2⟩
      case measure => simp [intOf]; omega
    · obtain rfl : k = a.length := by omega
      rw [jk_all a b HH.out] at hb
      have hlx := xorl_len a b HH.out
      generalize hcx : xorl a b = cur at *
      have HC := Lib.hid hcx; clear hcx
      have hsl : Sl wr wr.heap.size 1 (some ⟨w.heap.size, 0, none⟩) a.length gc (cur.map byteV) := by
        refine ⟨by simp [hlx], hcapg, hcapm, fun _ => ⟨w.heap.size, 0, rfl, hb.lt, fun j u hu => ?_⟩⟩
        have hj : j < cur.length := by
          have := (List.getElem?_eq_some_iff.1 hu).1; simpa using this
        rw [Nat.zero_add, hb.cell j, bytesRow_get cur gc j hj, ← hu]
        simp [hj, byteV]
      have HL := Lib.hid hlx.symm; clear hlx hlen
      go_wp2_with (refine wpList_bytes_back rfl 51 9 5 _ rfl Try.underlying51 Try.underlying5 Try.underlying9 rfl HL.out hsl ?_)
      go_ret
      exact ⟨by rw [HC.out]; rfl, hB⟩
end Go.Proofs.Ytfehmjiahefnjaa
