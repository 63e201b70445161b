/- FrameBack's plain laws: one more frame; a string cut in two. -/
import Derived.Test.YtfcbbolokhcknaaFa22
namespace Go.Proofs.Ytfcbbolokhcknaa
open Go.RowKit
theorem fr_more (m s : Nat) (x : List UInt8) (z : Int) (hs : s ≤ m) (h8 : m ≤ 8) (h24 : x.length ≤ 24) (S : List UInt8) (L : List Tok) (hl : S.length + (2 + x.length) ≤ 1000) (h : stC m [] (ibs 0 S) = ⟨[], L, S.length, S.length, 0⟩) :
    stC m [] (ibs 0 (S ++ frB ⟨s, x, z⟩)) = ⟨[], L ++ [⟨s, x, S.length⟩], (S ++ frB ⟨s, x, z⟩).length, (S ++ frB ⟨s, x, z⟩).length, 0⟩ := by
  have hf : (frB ⟨s, x, z⟩).length = 2 + x.length := frB_len _
  rw [stC_app m [] 0 S _ (by rw [hf]; omega), h, Nat.zero_add, fr_step m s x z hs h8 h24 L S.length S.length hl, List.length_append, hf]
def keyT (t : Tok) : Int × List UInt8 := (t.sym, t.text)
theorem fold_sim (m : Nat) (Lp : List Tok) : ∀ (y : List UInt8) (i j : Nat) (s1 s2 : CS), s1.p = s2.p → s1.err = s2.err → s1.l.map keyT = Lp.map keyT ++ s2.l.map keyT → i + y.length ≤ 1000 → j + y.length ≤ 1000 →
    ((ibs i y).foldl (stepC m) s1).p = ((ibs j y).foldl (stepC m) s2).p ∧ ((ibs i y).foldl (stepC m) s1).err = ((ibs j y).foldl (stepC m) s2).err ∧ ((ibs i y).foldl (stepC m) s1).l.map keyT = Lp.map keyT ++ ((ibs j y).foldl (stepC m) s2).l.map keyT
  | [], _, _, _, _, h1, h2, h3, _, _ => ⟨h1, h2, h3⟩
  | b :: y, i, j, s1, s2, h1, h2, h3, hi, hj => by
    simp only [List.length_cons] at hi hj
    rw [ibs_cons i b y (by omega), ibs_cons j b y (by omega), List.foldl_cons, List.foldl_cons]
    obtain ⟨p1, l1, a1, u1, e1⟩ := s1
    obtain ⟨p2, l2, a2, u2, e2⟩ := s2
    simp only at h1 h2 h3
    subst h1 h2
    refine fold_sim m Lp y (i + 1) (j + 1) _ _ ?_ ?_ ?_ (by omega) (by omega)
    all_goals
      unfold stepC
      by_cases c1 : e1 = 0
      · by_cases c2 : badN m p1.length b.toNat = 0
        · by_cases c3 : wholeP (p1 ++ [b]) = true
          · simp [c1, c2, c3, h3, keyT]
          · simp [c1, c2, c3, h3]
        · simp [c1, c2, h3]
      · simp [c1, h3]
end Go.Proofs.Ytfcbbolokhcknaa
