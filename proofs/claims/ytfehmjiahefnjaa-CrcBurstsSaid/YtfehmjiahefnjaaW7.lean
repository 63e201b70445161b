/- Walks: crc.Seal; the law of string(b) for whatever slice reads as bytes. -/
import Derived.Test.YtfehmjiahefnjaaW6
namespace Go.Proofs.Ytfehmjiahefnjaa
open Go.RowKit

def byteV (b : UInt8) : Value := .int .u8 (b.toNat : Int)
theorem byteV_one (l : List UInt8) : ∀ u ∈ l.map byteV, u.oneCell' = true := by
  intro u hu
  obtain ⟨b, _, rfl⟩ := List.mem_map.1 hu
  rfl
theorem infoB : (Try.prog.info? 5).map (fun i => (i.zero, i.size, i.bytes)) = some (some (.int .u8 0), 1, 1) := by kernel_rfl
/-- 'string(b)', b whatever slice that reads as the bytes l. -/
theorem run_bytes_back {P : Program} (src dst e : TypeId) (hs : P.underlying src = some (.slice e)) (he : P.underlying e = some (.int .u8)) (hd : P.underlying dst = some .string)
    {w : World} {D : Nat} {A : Option Addr} {n cap : Nat} {l : List UInt8} (hn : n = l.length) (h : Sl w D 1 A n cap (l.map byteV)) :
    (convert src dst (.slice A n cap)).run P w = .ok (.string ⟨l.toArray⟩) w := by
  subst hn
  rcases Nat.eq_zero_or_pos l.length with h0 | h0
  · obtain rfl : l = [] := List.eq_nil_of_length_eq_zero h0
    rw [run_convert_bytes_string w src dst e A _ cap hs he hd]
    cases A <;> simp [Conv.bytesToString, loadCells, loadCellsFrom] <;> rfl
  · obtain ⟨b, o, rfl, _, hc⟩ := h.2.2.2 h0
    refine run_convert_bytes_back w src dst e ⟨b, o, none⟩ cap l hs he hd fun j hj => ?_
    have hadd : (⟨b, o, none⟩ : Addr).add j = ⟨b, o + j, none⟩ := by unfold Addr.add; split <;> simp_all
    rw [hadd]
    exact hc j _ (by simp [hj, byteV])
theorem wpList_bytes_back {P : Program} {ops : Array Oper} {rest : List Oper} {o : Oper} {a : Act} {w : World} {Q : Exit → Act → World → Prop} (hgd : o.guard = none) (src dst e : TypeId) (x : Operand)
    (ho : o.op = .convert src dst x) (hs : P.underlying src = some (.slice e)) (he : P.underlying e = some (.int .u8)) (hd : P.underlying dst = some .string)
    {D : Nat} {A : Option Addr} {n cap : Nat} {l : List UInt8} (hx : a.eval x = .slice A n cap) (hn : n = l.length) (h : Sl w D 1 A n cap (l.map byteV))
    (hk : wpList P ops Q rest (a.put o.dst (.string ⟨l.toArray⟩)) w) : wpList P ops Q (o :: rest) a w := by
  refine wpList_plain hgd fun _ hK => ?_
  have hK' := hK _ _ hk
  unfold Oper.wp execOp
  simp only [ho, hx, Sem.run_bind, run_bytes_back src dst e hs he hd hn h, Result.andThen_ok, Sem.run_pure]
  exact hK'

def fourL (n : Nat) : List UInt8 := [UInt8.ofNat n, UInt8.ofNat (n / 256), UInt8.ofNat (n / 65536), UInt8.ofNat (n / 16777216)]
def crcL (l : List UInt8) : Nat := endc (addc 4294967295 l)
theorem crcL_lt (l : List UInt8) : crcL l < 2 ^ 32 := Nat.xor_lt_two_pow (n := 32) (by decide) (addc_lt (by decide) l)
def sealL (l : List UInt8) : List UInt8 := l ++ fourL (crcL l)
def sealS (l : List UInt8) : List UInt8 := if 20000 < l.length then [] else sealL l
def sealE (l : List UInt8) : Int := if 20000 < l.length then 4 else 0
theorem ofs_one (l : List UInt8) : endc (ofs 4294967295 [l]) = crcL l := rfl
theorem fourL_val (n : Nat) (hn : n < 2 ^ 32) : (fourL n).map byteV = [.int .u8 ((n : Int) % 256), .int .u8 ((n : Int) / 256 % 256), .int .u8 ((n : Int) / 65536 % 256), .int .u8 ((n : Int) / 16777216)] := by
  have e : (n : Int) / 16777216 % 256 = (n : Int) / 16777216 := by omega
  simp [fourL, byteV, e]
theorem own_bytes (w : World) (B : Nat) (l : List UInt8) (hB : B ≤ w.heap.size) (e : TypeId) (hl : l.length ≤ maxLen) :
    Own (w.alloc (.cells (bytesRow ⟨l.toArray⟩ (grownCap w l.length 0 e)) e ((bytesRow ⟨l.toArray⟩ (grownCap w l.length 0 e)).size, (bytesRow ⟨l.toArray⟩ (grownCap w l.length 0 e)).size + 1))).drew B e 1
      (some ⟨w.heap.size, 0, none⟩) l.length (grownCap w l.length 0 e) (l.map byteV) := by
  have hge := grownCap_ge w l.length 0 e
  have hle := grownCap_le_maxLen w l.length 0 e hl
  refine Own.ofBlk hB (Blk.bytes w ⟨l.toArray⟩ _ e) hge hle ?_ ?_
  · rw [bytesRow_size l _ hge, Nat.mul_one]
  · simp [bytesRow, ByteArray.size]
    intro a _; rfl

set_option maxHeartbeats 1600000 in
theorem Seal_any (l : List UInt8) (w : World) (hl : l.length ≤ maxLen) :
    Calls Try.prog 23 #[.string ⟨l.toArray⟩] w fun e w' => e = .returned (.tuple #[.string ⟨(sealS l).toArray⟩, .int .i64 (sealE l)]) ∧ Below w.heap.size w w' := by
  unfold maxLen at hl
  by_cases hlong : 20000 < l.length
  · have h1 : sealS l = [] := if_pos hlong
    have h2 : sealE l = 4 := if_pos hlong
    rw [h1, h2]
    go_enter Try.func23, Try.ntmps23
    go_wp2
    go_ret2
    exact ⟨rfl, Below.refl _ _⟩
  · have h1 : sealS l = sealL l := if_neg hlong
    have h2 : sealE l = 0 := if_neg hlong
    rw [h1, h2]
    have kb := fun (w : World) => run_bytes_of_string (P := Try.prog) w 9 51 5 ⟨l.toArray⟩ Try.underlying9 Try.underlying51 Try.underlying5
    have hown := own_bytes w w.heap.size l (Nat.le_refl _) 5 (by unfold maxLen; omega)
    have hB := ((Below.refl w.heap.size w).alloc (Nat.le_refl _) (.cells (bytesRow ⟨l.toArray⟩ (grownCap w l.length 0 5)) 5 ((bytesRow ⟨l.toArray⟩ (grownCap w l.length 0 5)).size, (bytesRow ⟨l.toArray⟩ (grownCap w l.length 0 5)).size + 1))).drew
    go_enter Try.func23, Try.ntmps23
    go_wp2_with fail
    clear kb
    generalize Obj.cells (bytesRow ⟨l.toArray⟩ (grownCap w l.length 0 5)) 5 ((bytesRow ⟨l.toArray⟩ (grownCap w l.length 0 5)).size, (bytesRow ⟨l.toArray⟩ (grownCap w l.length 0 5)).size + 1) = X at *
    have hown2 : Own ((w.alloc X).alloc (.cells #[.string ⟨l.toArray⟩] 9)).drew w.heap.size 5 1 (some ⟨w.heap.size, 0, none⟩) l.length (grownCap w l.length 0 5) (l.map byteV) := hown.alloc _
    have hB2 : Below w.heap.size w ((w.alloc X).alloc (.cells #[.string ⟨l.toArray⟩] 9)).drew := (hB.alloc hB.size _)
    have hsl : Sl ((w.alloc X).alloc (.cells #[.string ⟨l.toArray⟩] 9)).drew (w.heap.size + 2) 1 (some ⟨w.heap.size + 1, 0, none⟩) [l].length 1 ([l].map strV) := by
      refine ⟨rfl, Nat.le_refl _, by decide, fun _ => ⟨w.heap.size + 1, 0, rfl, by omega, fun j u hu => ?_⟩⟩
      have hk := (Blk.newAt (w.alloc X) 9 #[.string ⟨l.toArray⟩] (g := w.heap.size + 1) (by simp)).drew.cell j
      rw [Nat.zero_add, hk, ← hu]
      match j with
      | 0 => rfl
      | j + 1 => simp
    have hsz : ((w.alloc X).alloc (.cells #[.string ⟨l.toArray⟩] 9)).drew.heap.size = w.heap.size + 2 := by simp [World.drew]
    clear hown hB
    generalize ((w.alloc X).alloc (.cells #[.string ⟨l.toArray⟩] 9)).drew = w2 at *
    refine (of_any _ 1 (w.heap.size + 2) [l] w2 hsl (by omega) (by simp) (by intro x hx; simp at hx; subst hx; omega)).mono ?_
    rintro e w3 ⟨rfl, hb3⟩
    have hown3 := hown2.below hb3 (Nat.le_refl _)
    have hB3 := hB2.trans (hb3.mono (by omega))
    have hs3 : w.heap.size + 2 ≤ w3.heap.size := by have := hb3.size; omega
    rw [ofs_one]
    have hc := crcL_lt l
    have hF := fourL_val (crcL l) hc
    have HS := Lib.hid (show sealL l = l ++ fourL (crcL l) from rfl)
    generalize crcL l = n at *
    clear hown2 hB2 hsl hsz hb3
    obtain ⟨i0, hi0, hz0, hz1, hz2⟩ := info_parts infoB
    go_wp2_with fail
    go_loopw [4, 6] (fun v i wr => ∃ (k : Nat) (A : Option Addr) (cap : Nat), k ≤ 4 ∧ i = .int .i64 k ∧ v = .slice A (l.length + k) cap ∧ Own wr w.heap.size 5 1 A (l.length + k) cap (l.map byteV ++ ((fourL n).map byteV).take k) ∧ Below w.heap.size w wr) (fun _ i _ => 4 - (intOf i).toNat)
    case atStart => exact ⟨0, _, _, Nat.zero_le _, rfl, rfl, by simpa using hown3, hB3⟩
    case round =>
      obtain ⟨k, A, cap, hk, rfl, rfl, hown, hbel⟩ := hrel
      have hsz := hbel.size
      have hk5 : k = 0 ∨ k = 1 ∨ k = 2 ∨ k = 3 ∨ k = 4 := by omega
      have HF := Lib.hid hF; clear hF
      rcases hk5 with rfl | rfl | rfl | rfl | rfl
      · simp only [Nat.add_zero, List.take_zero, List.append_nil] at hown
        go_wp2_with (at_builtin; refine wpList_append_new rfl _ _ _ rfl w.heap.size 5 i0 _ 1 1 Try.underlying51 hi0 hz0 hz1 hz2 rfl (by decide) rfl hown #[.int .u8 ((n : Int) % 256)] rfl rfl (by simp [Value.oneCell']) (by simp only [maxLen]; omega) (by omega) hsz ?_; intro A2 cap2 w2 hown2 hg2 _)
        go_roundw
        case rel => exact ⟨1, A2, cap2, by omega, by go_num, rfl, by rw [HF.out]; exact hown2, grown_below hbel hown hg2 hsz⟩
        case measure => simp [intOf]
      · rw [HF.out] at hown
        simp only [List.take_succ_cons, List.take_zero] at hown
        go_wp2_with (at_builtin; refine wpList_append_new rfl _ _ _ rfl w.heap.size 5 i0 _ 1 1 Try.underlying51 hi0 hz0 hz1 hz2 rfl (by decide) rfl hown #[.int .u8 ((n : Int) / 256 % 256)] rfl rfl (by simp [Value.oneCell']) (by simp only [maxLen]; omega) (by omega) hsz ?_; intro A2 cap2 w2 hown2 hg2 _)
        go_roundw
        case rel => exact ⟨2, A2, cap2, by omega, by go_num, rfl, by rw [HF.out]; simpa using hown2, grown_below hbel hown hg2 hsz⟩
        case measure => simp [intOf]
      · rw [HF.out] at hown
        simp only [List.take_succ_cons, List.take_zero] at hown
        go_wp2_with (at_builtin; refine wpList_append_new rfl _ _ _ rfl w.heap.size 5 i0 _ 1 1 Try.underlying51 hi0 hz0 hz1 hz2 rfl (by decide) rfl hown #[.int .u8 ((n : Int) / 65536 % 256)] rfl rfl (by simp [Value.oneCell']) (by simp only [maxLen]; omega) (by omega) hsz ?_; intro A2 cap2 w2 hown2 hg2 _)
        go_roundw
        case rel => exact ⟨3, A2, cap2, by omega, by go_num, rfl, by rw [HF.out]; simpa using hown2, grown_below hbel hown hg2 hsz⟩
        case measure => simp [intOf]
      · rw [HF.out] at hown
        simp only [List.take_succ_cons, List.take_zero] at hown
        go_wp2_with (at_builtin; refine wpList_append_new rfl _ _ _ rfl w.heap.size 5 i0 _ 1 1 Try.underlying51 hi0 hz0 hz1 hz2 rfl (by decide) rfl hown #[.int .u8 ((n : Int) / 16777216)] rfl rfl (by simp [Value.oneCell']) (by simp only [maxLen]; omega) (by omega) hsz ?_; intro A2 cap2 w2 hown2 hg2 _)
        go_roundw
        case rel => exact ⟨4, A2, cap2, by omega, by go_num, rfl, by rw [HF.out]; simpa using hown2, grown_below hbel hown hg2 hsz⟩
        case measure => simp [intOf]
      · rw [List.take_of_length_le (by simp [fourL]), ← List.map_append, ← HS.out] at hown
        have hn4 : l.length + 4 = (sealL l).length := by rw [HS.out]; simp [fourL]
        have HN := Lib.hid hn4; clear hn4
        go_wp2_with (refine wpList_bytes_back rfl 51 9 5 _ rfl Try.underlying51 Try.underlying5 Try.underlying9 rfl HN.out hown.sl ?_)
        go_ret2
        exact ⟨rfl, hbel⟩
end Go.Proofs.Ytfehmjiahefnjaa
