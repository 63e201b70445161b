/- intern: Name; SameTexts. No condition. -/
import Derived.Test.YtbobpgjgknkogaaI9
namespace Go.Proofs.Ytbobpgjgknkogaa
open Go.RowKit Go.Maps
/-- What Name answers. -/
def nameR (l : List (List UInt8)) (n : Int) : List UInt8 × Int := if (chkT l).1 ≠ 0 then ([], (chkT l).1) else if n < 0 ∨ (l.length : Int) ≤ n then ([], 2) else (l.getD n.toNat [], 0)
set_option maxRecDepth 100000 in
set_option maxHeartbeats 3200000 in
theorem Name_any (A : Option Addr) (cap D : Nat) (l : List (List UInt8)) (n : Int) (w : World) (hS : Sl w D 1 A l.length cap (l.map strV)) (hD : D ≤ w.heap.size) (hn : l.length ≤ 1000) (hl : ∀ s ∈ l, s.length ≤ maxLen) :
    Calls Try.prog 23 #[.agg #[.slice A l.length cap], .int .i64 n] w fun e w' => e = .returned (.tuple #[.string ⟨(nameR l n).1.toArray⟩, .int .i64 (nameR l n).2]) ∧ Below w.heap.size w w' := by
  have hB0 := (Below.refl w.heap.size w).alloc (Nat.le_refl _) (.cells #[.slice A l.length cap] 24)
  have b0 := Blk.new w 24 #[.slice A l.length cap]
  have HC := Lib.hid (iCheck_any A cap D l _ (hS.below hB0 hD) (Nat.le_trans hD hB0.size) hn hl)
  have hR : nameR l n = if (chkT l).1 ≠ 0 then ([], (chkT l).1) else if n < 0 ∨ (l.length : Int) ≤ n then ([], 2) else (l.getD n.toNat [], 0) := rfl
  generalize nameR l n = R at *
  generalize chkT l = C at *
  have HB0 := Lib.hid (And.intro b0 (And.intro hB0 hS))
  clear hS hl hB0 b0
  by_cases hc : C.1 = 0
  · rw [if_neg (by simpa using hc)] at hR
    by_cases h1 : n < 0
    · rw [if_pos (.inl h1)] at hR
      subst hR
      go_enter Try.func23, Try.ntmps23
      go_wp2_with fail
      refine HC.out.mono ?_
      rintro e w1 ⟨rfl, hb1⟩
      have HB1 := Lib.hid (below_on HB0.out.2.1 hb1 (Nat.le_refl _))
      clear hb1
      go_wp2_with fail
      go_ret2
      exact ⟨rfl, HB1.out⟩
    · by_cases h2 : (l.length : Int) ≤ n
      · rw [if_pos (.inr h2)] at hR
        subst hR
        go_enter Try.func23, Try.ntmps23
        go_wp2_with fail
        refine HC.out.mono ?_
        rintro e w1 ⟨rfl, hb1⟩
        have c0 := (cells1 (Blk.on HB0.out.1 hb1)).1
        have HB1 := Lib.hid (below_on HB0.out.2.1 hb1 (Nat.le_refl _))
        clear hb1
        go_wp2_with fail
        go_ret2
        exact ⟨rfl, HB1.out⟩
      · rw [if_neg (by omega)] at hR
        obtain ⟨k, rfl⟩ := Int.eq_ofNat_of_zero_le (show 0 ≤ n by omega)
        have hk : k < l.length := by omega
        rw [Int.toNat_natCast, List.getD_eq_getElem?_getD, List.getElem?_eq_getElem hk] at hR
        have hR' : R = (l[k], 0) := hR
        clear hR
        subst hR'
        obtain ⟨hSv⟩ : Nonempty (∀ W, Sl W D 1 A l.length cap (l.map strV) → _) := ⟨fun W h => sl_str h hk⟩
        generalize l[k] = s at *
        have HSv := Lib.hid hSv
        clear hSv
        go_enter Try.func23, Try.ntmps23
        go_wp2_with fail
        refine HC.out.mono ?_
        rintro e w1 ⟨rfl, hb1⟩
        have c0 := (cells1 (Blk.on HB0.out.1 hb1)).1
        have hB1 := below_on HB0.out.2.1 hb1 (Nat.le_refl _)
        obtain ⟨b, o, rfl, hb, d0⟩ := HSv.out w1 (HB0.out.2.2.below hB1 hD)
        have HB1 := Lib.hid hB1
        clear hb1 hB1
        go_wp2_with fail
        go_ret2
        exact ⟨rfl, HB1.out⟩
  · rw [if_pos hc] at hR
    subst hR
    have hcb : (C.1 != 0) = true := bne_iff_ne.2 hc
    go_enter Try.func23, Try.ntmps23
    go_wp2_with fail
    refine HC.out.mono ?_
    rintro e w1 ⟨rfl, hb1⟩
    have HB1 := Lib.hid (below_on HB0.out.2.1 hb1 (Nat.le_refl _))
    clear hb1
    go_wp2_with fail
    go_ret2
    exact ⟨rfl, HB1.out⟩
end Go.Proofs.Ytbobpgjgknkogaa
