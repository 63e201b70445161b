/- FrameBack's plain law: a string of whole frames, cut in two. -/
import Derived.Test.YtfcbbolokhcknaaFa23
namespace Go.Proofs.Ytfcbbolokhcknaa
open Go.RowKit
theorem cut_ok (m : Nat) (S : List UInt8) (L : List Tok) (hS : S.length ≤ 1000) (h : stC m [] (ibs 0 S) = ⟨[], L, S.length, S.length, 0⟩) (k : Nat) :
    ∃ (P : List UInt8) (L1 : List Tok) (a1 u1 : Nat) (L2 : List Tok) (a2 u2 : Nat), okG m P ∧ stC m [] (ibs 0 (S.take k)) = ⟨P, L1, a1, u1, 0⟩ ∧ stC m P (ibs 0 (S.drop k)) = ⟨[], L2, a2, u2, 0⟩ ∧ L.map keyT = L1.map keyT ++ L2.map keyT := by
  have hlen : (S.take k).length + (S.drop k).length = S.length := by rw [← List.length_append, List.take_append_drop]
  have e := stC_app m [] 0 (S.take k) (S.drop k) (by omega)
  rw [List.take_append_drop, h] at e
  have hok := (stC_inv m [] (okG_nil m) (ibs 0 (S.take k))).1
  obtain ⟨P, L1, a1, u1, er, hA⟩ : ∃ a b c d e, stC m [] (ibs 0 (S.take k)) = ⟨a, b, c, d, e⟩ := ⟨_, _, _, _, _, rfl⟩
  rw [hA] at e hok
  have her : er = 0 := by
    by_cases h0 : er = 0
    · exact h0
    · rw [stepC_stop m _ _ h0] at e
      exact (CS.mk.inj e).2.2.2.2.symm
  subst her
  obtain ⟨P2, L2, a2, u2, e2, hB⟩ : ∃ a b c d e, stC m P (ibs 0 (S.drop k)) = ⟨a, b, c, d, e⟩ := ⟨_, _, _, _, _, rfl⟩
  have hs := fold_sim m L1 (S.drop k) (0 + (S.take k).length) 0 ⟨P, L1, a1, u1, 0⟩ ⟨P, [], 0, 0, 0⟩ rfl rfl (by simp) (by omega) (by omega)
  rw [← e] at hs
  have hB' : (ibs 0 (S.drop k)).foldl (stepC m) ⟨P, [], 0, 0, 0⟩ = ⟨P2, L2, a2, u2, e2⟩ := hB
  rw [hB'] at hs
  obtain ⟨g1, g2, g3⟩ := hs
  simp only at g1 g2 g3
  subst g1 g2
  exact ⟨P, L1, a1, u1, L2, a2, u2, hok, hA, hB, g3⟩
end Go.Proofs.Ytfcbbolokhcknaa
