/- queue: Put (its answer); events made of numbers. No condition. -/
import Derived.Test.YtogldckkmjbohaaQ8
namespace Go.Proofs.Ytogldckkmjbohaa
open Go.RowKit
def put1E (q : Int) (l : List Ev) (t : Ev) : Int := if chkQ q l = 0 then (if evE t = 0 then (if q - l.length ≤ 0 then 6 else 0) else evE t) else chkQ q l
def put1R (q : Int) (l : List Ev) (t : Ev) : List Ev × Int := if put1E q l t = 0 then (l ++ [t], 0) else ([], put1E q l t)
theorem right1 (t : Ev) : rightE [t] = evE t := by
  show (if evE t = 0 then 0 else evE t) = evE t
  split
  · rename_i h; exact h.symm
  · rfl
/-- What an event made of a number is: right. -/
def evOf (n : Int) : Ev := if n % 3 = 0 then ⟨1, 0, 0, n, n, [], 0⟩ else if n % 3 = 1 then ⟨3, n / 3 % 8, 0, 0, n, [], 0⟩ else ⟨6, 0, 0, n, n, [], 0⟩
theorem evOf_text (n : Int) : (evOf n).text = [] := by
  unfold evOf
  split
  · rfl
  split <;> rfl
theorem evE_of (n : Int) (h0 : 0 ≤ n) (h1 : n < 1048576) : evE (evOf n) = 0 := by
  have hc : countsB n = true := by unfold countsB; simp; omega
  unfold evOf
  split
  · simp [evE, runE, hasF, flds, fieldE, put1, hc]
  split
  · have ht : termB (n / 3 % 8) = true := by unfold termB; simp; omega
    simp [evE, runE, hasF, flds, fieldE, put1, hc, symB, ht]
  · simp [evE, runE, hasF, flds, fieldE, put1, hc, reasonB]
end Go.Proofs.Ytogldckkmjbohaa
