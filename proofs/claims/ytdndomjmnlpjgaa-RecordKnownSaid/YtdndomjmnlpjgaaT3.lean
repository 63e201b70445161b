/- Walks of tokens: take, a byte of the text. -/
import Derived.Test.YtdndomjmnlpjgaaT2
namespace Go.Proofs.Ytdndomjmnlpjgaa
open Go.RowKit
def byteV (b : UInt8) : Value := .int .u8 (b.toNat : Int)
/-- 'string(b)', b whatever slice that reads as the bytes l. -/
theorem run_bytes_back {P : Program} (src dst e : TypeId) (hs : P.underlying src = some (.slice e)) (he : P.underlying e = some (.int .u8)) (hd : P.underlying dst = some .string)
    {w : World} {D : Nat} {A : Option Addr} {n cap : Nat} {l : List UInt8} (hn : n = l.length) (h : Sl w D 1 A n cap (l.map byteV)) :
    (convert src dst (.slice A n cap)).run P w = .ok (.string ⟨l.toArray⟩) w := by
  subst hn
  rcases Nat.eq_zero_or_pos l.length with h0 | h0
  · obtain rfl : l = [] := List.eq_nil_of_length_eq_zero h0
    rw [run_convert_bytes_string w src dst e A _ cap hs he hd]
    cases A <;> simp [Conv.bytesToString, loadCells, loadCellsFrom] <;> rfl
  · obtain ⟨b, o, rfl, _, hc⟩ := h.2.2.2 h0
    refine run_convert_bytes_back w src dst e ⟨b, o, none⟩ cap l hs he hd fun j hj => ?_
    have hadd : (⟨b, o, none⟩ : Addr).add j = ⟨b, o + j, none⟩ := by unfold Addr.add; split <;> simp_all
    rw [hadd]
    exact hc j _ (by simp [hj, byteV])
theorem wpList_bytes_back {P : Program} {ops : Array Oper} {rest : List Oper} {o : Oper} {a : Act} {w : World} {Q : Exit → Act → World → Prop} (hgd : o.guard = none) (src dst e : TypeId) (x : Operand)
    (ho : o.op = .convert src dst x) (hs : P.underlying src = some (.slice e)) (he : P.underlying e = some (.int .u8)) (hd : P.underlying dst = some .string)
    {D : Nat} {A : Option Addr} {n cap : Nat} {l : List UInt8} (hx : a.eval x = .slice A n cap) (hn : n = l.length) (h : Sl w D 1 A n cap (l.map byteV))
    (hk : wpList P ops Q rest (a.put o.dst (.string ⟨l.toArray⟩)) w) : wpList P ops Q (o :: rest) a w := by
  refine wpList_plain hgd fun _ hK => ?_
  have hK' := hK _ _ hk
  unfold Oper.wp execOp
  simp only [ho, hx, Sem.run_bind, run_bytes_back src dst e hs he hd hn h, Result.andThen_ok, Sem.run_pure]
  exact hK'
theorem sl_row (w : World) (cs : Array Value) (e : TypeId) (n : Nat) (hn : cs.size = n) (hm : n ≤ maxLen) : Sl (w.alloc (.cells cs e)) (w.heap.size + 1) 1 (some ⟨w.heap.size, 0, none⟩) n n cs.toList :=
  ⟨by simp [hn], Nat.le_refl _, hm, fun _ => ⟨w.heap.size, 0, rfl, by omega, fun j u hu => by
    rw [Nat.zero_add, (Blk.new w e cs).cell j, ← hu, Array.getElem?_toList]⟩⟩
theorem sl_byte (w : World) (b : UInt8) : Sl (w.alloc (.cells #[.int .u8 b.toNat] 5)) (w.heap.size + 1) 1 (some ⟨w.heap.size, 0, none⟩) 1 1 ([b].map byteV) := sl_row w #[.int .u8 b.toNat] 5 1 rfl (by decide)
set_option maxRecDepth 100000 in
set_option maxHeartbeats 1600000 in
theorem take2_any (b : UInt8) (n : Nat) (left : Nat) (sy a : Int) (tx : List UInt8) (g B : Nat) (w : World) (hB : B ≤ g) (hl : 0 < left ∧ left ≤ 24) (ht : tx.length ≤ 100) (h : Blk w g 103 (rdC 2 left sy tx a)) :
    Calls Try.prog 81 #[.pointer (some ⟨g, 0, none⟩), .int .u8 b.toNat, .int .i64 n] w fun e w' =>
      e = .returned (.int .i64 0) ∧ Below B w w' ∧ Blk w' g 103 (rdC (if left = 1 then 3 else 2) ((left - 1 : Nat) : Int) sy (tx ++ [b]) a) := by
  obtain ⟨c0, c1, c2, c3, c4, f0, f1, f2, f3, f4⟩ := rd_cells h
  have hg := h.lt
  have H := Lib.hid h; clear h
  have hcv := run_bytes_back (P := Try.prog) 30 9 5 Try.underlying30 Try.underlying5 Try.underlying9 (n := 1) (l := [b]) rfl ((sl_byte w b).drew)
  have htl : tx.length + 1 ≤ 9223372036854775807 := by omega
  rcases (by omega : left = 1 ∨ 1 < left) with rfl | h1
  · rw [if_pos rfl]
    go_enter Try.func81, Try.ntmps81
    go_wp2_with fail
    go_region
    have H2 : Blk ((w.setCell ⟨g, 3, none⟩ (.string ⟨(tx ++ [b]).toArray⟩)).alloc (.cells #[.int .u8 b.toNat] 5)).drew g 103 (rdC 2 1 sy (tx ++ [b]) a) := ((H.out.set 3 (.string ⟨(tx ++ [b]).toArray⟩)).alloc (.cells #[.int .u8 b.toNat] 5)).drew
    have hB2 : Below B w ((w.setCell ⟨g, 3, none⟩ (.string ⟨(tx ++ [b]).toArray⟩)).alloc (.cells #[.int .u8 b.toNat] 5)).drew := (((Below.refl B w).setCell (p := ⟨g, 3, none⟩) hB _).alloc (by simp; omega) _).drew
    generalize ((w.setCell ⟨g, 3, none⟩ (.string ⟨(tx ++ [b]).toArray⟩)).alloc (.cells #[.int .u8 b.toNat] 5)).drew = w2 at *
    clear c0 c1 c2 c3 c4 f0 f1 f2 f3 f4 hcv hg H
    generalize hy : tx ++ [b] = ty at *
    have HY := Lib.hid hy; clear hy
    obtain ⟨c0, c1, c2, c3, c4, f0, f1, f2, f3, f4⟩ := rd_cells H2
    have HB := Lib.hid H2; clear H2
    go_wp2
    go_ret
    refine ⟨rfl, (hB2.setCell (p := ⟨g, 1, none⟩) hB _).setCell (p := ⟨g, 0, none⟩) hB _, ?_⟩
    rw [HY.out]
    exact (HB.out.set 1 (.int .i64 0)).set 0 (.int .i64 3)
  · rw [if_neg (show ¬ left = 1 by omega)]
    obtain ⟨k, hk⟩ : ∃ k, left - 1 = k := ⟨_, rfl⟩
    have hl1 : (left : Int) - 1 = k := by omega
    have hk1 : 1 ≤ k := by omega
    rw [hk]
    clear hk
    go_enter Try.func81, Try.ntmps81
    go_wp2_with fail
    go_region
    have H2 : Blk ((w.setCell ⟨g, 3, none⟩ (.string ⟨(tx ++ [b]).toArray⟩)).alloc (.cells #[.int .u8 b.toNat] 5)).drew g 103 (rdC 2 left sy (tx ++ [b]) a) := ((H.out.set 3 (.string ⟨(tx ++ [b]).toArray⟩)).alloc (.cells #[.int .u8 b.toNat] 5)).drew
    have hB2 : Below B w ((w.setCell ⟨g, 3, none⟩ (.string ⟨(tx ++ [b]).toArray⟩)).alloc (.cells #[.int .u8 b.toNat] 5)).drew := (((Below.refl B w).setCell (p := ⟨g, 3, none⟩) hB _).alloc (by simp; omega) _).drew
    generalize ((w.setCell ⟨g, 3, none⟩ (.string ⟨(tx ++ [b]).toArray⟩)).alloc (.cells #[.int .u8 b.toNat] 5)).drew = w2 at *
    clear c0 c1 c2 c3 c4 f0 f1 f2 f3 f4 hcv hg H
    generalize hy : tx ++ [b] = ty at *
    have HY := Lib.hid hy; clear hy
    obtain ⟨c0, c1, c2, c3, c4, f0, f1, f2, f3, f4⟩ := rd_cells H2
    have HB := Lib.hid H2; clear H2
    go_wp2
    go_ret
    refine ⟨rfl, hB2.setCell (p := ⟨g, 1, none⟩) hB _, ?_⟩
    rw [HY.out]
    exact HB.out.set 1 (.int .i64 k)
end Go.Proofs.Ytdndomjmnlpjgaa
