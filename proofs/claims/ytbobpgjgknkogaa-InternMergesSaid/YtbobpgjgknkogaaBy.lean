/- Words and laws for bytes and blocks of few cells: strings made of bytes, cells by name, facts carried on. No condition. -/
import Derived.Test.YtbobpgjgknkogaaF0
namespace Go.Proofs.Ytbobpgjgknkogaa
open Go.RowKit
def byteV (b : UInt8) : Value := .int .u8 (b.toNat : Int)
/-- 'string(b)', b whatever slice that reads as the bytes l. -/
theorem run_bytes_back {P : Program} (src dst e : TypeId) (hs : P.underlying src = some (.slice e)) (he : P.underlying e = some (.int .u8)) (hd : P.underlying dst = some .string)
    {w : World} {D : Nat} {A : Option Addr} {n cap : Nat} {l : List UInt8} (hn : n = l.length) (h : Sl w D 1 A n cap (l.map byteV)) :
    (convert src dst (.slice A n cap)).run P w = .ok (.string ⟨l.toArray⟩) w := by
  subst hn
  rcases Nat.eq_zero_or_pos l.length with h0 | h0
  · obtain rfl : l = [] := List.eq_nil_of_length_eq_zero h0
    rw [run_convert_bytes_string w src dst e A _ cap hs he hd]
    cases A <;> simp [Conv.bytesToString, loadCells, loadCellsFrom] <;> rfl
  · obtain ⟨b, o, rfl, _, hc⟩ := h.2.2.2 h0
    refine run_convert_bytes_back w src dst e ⟨b, o, none⟩ cap l hs he hd fun j hj => ?_
    have hadd : (⟨b, o, none⟩ : Addr).add j = ⟨b, o + j, none⟩ := by unfold Addr.add; split <;> simp_all
    rw [hadd]
    exact hc j _ (by simp [hj, byteV])
theorem wpList_bytes_back {P : Program} {ops : Array Oper} {rest : List Oper} {o : Oper} {a : Act} {w : World} {Q : Exit → Act → World → Prop} (hgd : o.guard = none) (src dst e : TypeId) (x : Operand)
    (ho : o.op = .convert src dst x) (hs : P.underlying src = some (.slice e)) (he : P.underlying e = some (.int .u8)) (hd : P.underlying dst = some .string)
    {D : Nat} {A : Option Addr} {n cap : Nat} {l : List UInt8} (hx : a.eval x = .slice A n cap) (hn : n = l.length) (h : Sl w D 1 A n cap (l.map byteV))
    (hk : wpList P ops Q rest (a.put o.dst (.string ⟨l.toArray⟩)) w) : wpList P ops Q (o :: rest) a w := by
  refine wpList_plain hgd fun _ hK => ?_
  have hK' := hK _ _ hk
  unfold Oper.wp execOp
  simp only [ho, hx, Sem.run_bind, run_bytes_back src dst e hs he hd hn h, Result.andThen_ok, Sem.run_pure]
  exact hK'
theorem sl_row (w : World) (cs : Array Value) (e : TypeId) (n : Nat) (hn : cs.size = n) (hm : n ≤ maxLen) : Sl (w.alloc (.cells cs e)) (w.heap.size + 1) 1 (some ⟨w.heap.size, 0, none⟩) n n cs.toList :=
  ⟨by simp [hn], Nat.le_refl _, hm, fun _ => ⟨w.heap.size, 0, rfl, by omega, fun j u hu => by
    rw [Nat.zero_add, (Blk.new w e cs).cell j, ← hu, Array.getElem?_toList]⟩⟩
theorem Blk.on {w w' : World} {g : Nat} {t : TypeId} {cs : Array Value} (h : Blk w g t cs) (hb : Below w.heap.size w w') : Blk w' g t cs := h.below hb h.lt
theorem below_on {B : Nat} {w W W' : World} (hB : Below B w W) (hb : Below W.heap.size W W') (hs : B ≤ w.heap.size) : Below B w W' := hB.trans (hb.mono (Nat.le_trans hs hB.size))
theorem cells2 {w : World} {g : Nat} {T : TypeId} {a b : Value} (h : Blk w g T #[a, b]) : w.cell? ⟨g, 0, none⟩ = some a ∧ w.cell? ⟨g, 1, none⟩ = some b ∧ w.frozen? ⟨g, 0, none⟩ = false ∧ w.frozen? ⟨g, 1, none⟩ = false :=
  ⟨h.cell 0, h.cell 1, h.frozen (by simp), h.frozen (by simp)⟩
theorem cells3 {w : World} {g : Nat} {T : TypeId} {a b c : Value} (h : Blk w g T #[a, b, c]) : w.cell? ⟨g, 0, none⟩ = some a ∧ w.cell? ⟨g, 1, none⟩ = some b ∧ w.cell? ⟨g, 2, none⟩ = some c ∧ w.frozen? ⟨g, 0, none⟩ = false ∧ w.frozen? ⟨g, 1, none⟩ = false ∧ w.frozen? ⟨g, 2, none⟩ = false :=
  ⟨h.cell 0, h.cell 1, h.cell 2, h.frozen (by simp), h.frozen (by simp), h.frozen (by simp)⟩
theorem put_new (w : World) (a b c d e : Value) (T U : TypeId) :
    Blk ((w.alloc (.cells #[a, b, c] T)).alloc (.cells #[d, e] U)) w.heap.size T #[a, b, c] ∧ Blk ((w.alloc (.cells #[a, b, c] T)).alloc (.cells #[d, e] U)) (w.heap.size + 1) U #[d, e] ∧
    Below w.heap.size w ((w.alloc (.cells #[a, b, c] T)).alloc (.cells #[d, e] U)) :=
  ⟨(Blk.new w T #[a, b, c]).alloc _, Blk.newAt (w.alloc (.cells #[a, b, c] T)) U #[d, e] (by simp), ((Below.refl w.heap.size w).alloc (Nat.le_refl _) _).alloc (by simp) _⟩
end Go.Proofs.Ytbobpgjgknkogaa
