/- law06: finds. No condition. -/
import Derived.Test.YtbobpgjgknkogaaI13
namespace Go.Proofs.Ytbobpgjgknkogaa
open Go.RowKit Go.Maps
set_option maxRecDepth 100000 in
theorem finds_any (s : List UInt8) (w : World) (hs : s.length ≤ maxLen) : Calls Try.prog 34 #[.string ⟨s.toArray⟩] w fun e w' => e = .returned (.int .i64 (findR shownL s).2) ∧ Below w.heap.size w w' := by
  have HS := Lib.hid shown_any
  have HF := Lib.hid (fun A W hS => Find_any A 3 W.heap.size shownL s W hS (Nat.le_refl _) (by decide) (by decide) hs)
  generalize findR shownL s = R at *
  go_enter Try.func34, Try.ntmps34
  go_wp2_with fail
  refine (HS.out _).mono ?_
  rintro e w1 ⟨⟨A, rfl, s1⟩, hb1⟩
  have Q := Lib.hid (HF.out A w1 s1)
  have HB := Lib.hid hb1
  clear s1 hb1 HF HS
  go_wp2_with fail
  refine Q.out.mono ?_
  rintro e w2 ⟨rfl, hb2⟩
  have HB2 := Lib.hid (below_on HB.out hb2 (Nat.le_refl _))
  clear hb2
  go_wp2_with fail
  go_ret
  exact ⟨rfl, HB2.out⟩
end Go.Proofs.Ytbobpgjgknkogaa
