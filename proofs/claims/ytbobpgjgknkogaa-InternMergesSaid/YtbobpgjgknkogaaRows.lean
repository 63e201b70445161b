/-
  No cell of these rows narrows 'for every input' (looked for: loops, veiled, ifaces, maps, wideKeys, modest, calm, conditions, laid).
  DERIVED. THE GIVEN ROWS OF THIS SEAT. 6 by the template 'for every input the law returns true; each argument reads behind the call as it read before'; 0 by the template 'total and deterministic' (their statements: YtbobpgjgknkogaaTotals.lean).
  GIVEN WITH THE SEED: the statements are not yours to turn. If you find one false, say at which input.
  Laid BY PROGRAM, IN A SANDBOX (cutbox-rows.mjs): the forced cells as the released guide's own fill.sh prints them over the translation 8ad2d2471e6fc3c3… (all of the seat's roots in one cut). By AI agents, Wed Nov 11 2026. No macro, syntax, notation, axiom, sorry.
-/
import Derived.Test.YtbobpgjgknkogaaChecked
import GoSem.Claim
import GoSem.ClaimJoined
import GoSem.ClaimMapViews
import Derived.JoinedTies
import Derived.KernelRfl
namespace Go.Proofs.Ytbobpgjgknkogaa
/- THE CELL 'sum', in the pinned program and in every row, IS THE sha256 OF THE DUMP (.gsa) THAT YtbobpgjgknkogaaProg.lean LOADS. Nothing in Lean hashes anything: it is a label: what it is worth is what the hold of that sum in a sandbox is worth. -/
noncomputable def Try.pinned : Pinned := { name := "ytbobpgjgknkogaa", sum := "8ad2d2471e6fc3c3305203fd30086e5c3b2b9338a19b5046109e456719084dc7", checked := Try.checked }
namespace Rows
def none {H : Type} : Left H := { results := [], args := [] }

/-- 'stenotypelaw06.InternNames': WHATEVER THE INPUT: true; the input reads as it did. -/
def internNamesSpec : ChangeSpec := { name := "internNames", fn := fun _ => fun
  | [d1, d2, d3] => { results := [.lit (.bool true)], args := [d1, d2, d3] }
  | _ => none }
def internNamesRow : OpenClaim := { program := "ytbobpgjgknkogaa", sum := "8ad2d2471e6fc3c3305203fd30086e5c3b2b9338a19b5046109e456719084dc7", func := "stenotype/stenotypelaw06.InternNames", spec := "internNames", unfollowed := true, recurses := true, apart := false }
def InternNamesSaid : Prop := internNamesRow.holds Try.pinned (OpenSpec.ofChange internNamesSpec)

/-- ITS FALSE NEIGHBOUR: 'it returns false'. Refute it at one input. -/
def internNamesWrong : ChangeSpec := { name := "internNames", fn := fun _ => fun
  | [d1, d2, d3] => { results := [.lit (.bool false)], args := [d1, d2, d3] }
  | _ => none }
def InternNamesWrongFalsely : Prop := internNamesRow.holds Try.pinned (OpenSpec.ofChange internNamesWrong)

/-- 'stenotypelaw06.InternMerges': WHATEVER THE INPUT: true; the input reads as it did. -/
def internMergesSpec : ChangeSpec := { name := "internMerges", fn := fun _ => fun
  | [d1, d2, d3] => { results := [.lit (.bool true)], args := [d1, d2, d3] }
  | _ => none }
def internMergesRow : OpenClaim := { program := "ytbobpgjgknkogaa", sum := "8ad2d2471e6fc3c3305203fd30086e5c3b2b9338a19b5046109e456719084dc7", func := "stenotype/stenotypelaw06.InternMerges", spec := "internMerges", unfollowed := true, recurses := true, apart := false }
def InternMergesSaid : Prop := internMergesRow.holds Try.pinned (OpenSpec.ofChange internMergesSpec)

/-- ITS FALSE NEIGHBOUR: 'it returns false'. Refute it at one input. -/
def internMergesWrong : ChangeSpec := { name := "internMerges", fn := fun _ => fun
  | [d1, d2, d3] => { results := [.lit (.bool false)], args := [d1, d2, d3] }
  | _ => none }
def InternMergesWrongFalsely : Prop := internMergesRow.holds Try.pinned (OpenSpec.ofChange internMergesWrong)

/-- 'stenotypelaw06.InternKnown': WHATEVER THE INPUT: true; the input reads as it did. -/
def internKnownSpec : ChangeSpec := { name := "internKnown", fn := fun _ => fun
  | [] => { results := [.lit (.bool true)], args := [] }
  | _ => none }
def internKnownRow : OpenClaim := { program := "ytbobpgjgknkogaa", sum := "8ad2d2471e6fc3c3305203fd30086e5c3b2b9338a19b5046109e456719084dc7", func := "stenotype/stenotypelaw06.InternKnown", spec := "internKnown", unfollowed := true, recurses := true, apart := false }
def InternKnownSaid : Prop := internKnownRow.holds Try.pinned (OpenSpec.ofChange internKnownSpec)

/-- ITS FALSE NEIGHBOUR: 'it returns false'. Refute it at one input. -/
def internKnownWrong : ChangeSpec := { name := "internKnown", fn := fun _ => fun
  | [] => { results := [.lit (.bool false)], args := [] }
  | _ => none }
def InternKnownWrongFalsely : Prop := internKnownRow.holds Try.pinned (OpenSpec.ofChange internKnownWrong)

/-- 'stenotypelaw06.InternFinds': WHATEVER THE INPUT: true; the input reads as it did. -/
def internFindsSpec : ChangeSpec := { name := "internFinds", fn := fun _ => fun
  | [d] => { results := [.lit (.bool true)], args := [d] }
  | _ => none }
def internFindsRow : OpenClaim := { program := "ytbobpgjgknkogaa", sum := "8ad2d2471e6fc3c3305203fd30086e5c3b2b9338a19b5046109e456719084dc7", func := "stenotype/stenotypelaw06.InternFinds", spec := "internFinds", unfollowed := true, recurses := true, apart := false }
def InternFindsSaid : Prop := internFindsRow.holds Try.pinned (OpenSpec.ofChange internFindsSpec)

/-- ITS FALSE NEIGHBOUR: 'it returns false'. Refute it at one input. -/
def internFindsWrong : ChangeSpec := { name := "internFinds", fn := fun _ => fun
  | [d] => { results := [.lit (.bool false)], args := [d] }
  | _ => none }
def InternFindsWrongFalsely : Prop := internFindsRow.holds Try.pinned (OpenSpec.ofChange internFindsWrong)

/-- 'stenotypelaw06.InternJoins': WHATEVER THE INPUT: true; the input reads as it did. -/
def internJoinsSpec : ChangeSpec := { name := "internJoins", fn := fun _ => fun
  | [d1, d2, d3] => { results := [.lit (.bool true)], args := [d1, d2, d3] }
  | _ => none }
def internJoinsRow : OpenClaim := { program := "ytbobpgjgknkogaa", sum := "8ad2d2471e6fc3c3305203fd30086e5c3b2b9338a19b5046109e456719084dc7", func := "stenotype/stenotypelaw06.InternJoins", spec := "internJoins", unfollowed := true, recurses := true, apart := false }
def InternJoinsSaid : Prop := internJoinsRow.holds Try.pinned (OpenSpec.ofChange internJoinsSpec)

/-- ITS FALSE NEIGHBOUR: 'it returns false'. Refute it at one input. -/
def internJoinsWrong : ChangeSpec := { name := "internJoins", fn := fun _ => fun
  | [d1, d2, d3] => { results := [.lit (.bool false)], args := [d1, d2, d3] }
  | _ => none }
def InternJoinsWrongFalsely : Prop := internJoinsRow.holds Try.pinned (OpenSpec.ofChange internJoinsWrong)

/-- 'stenotypelaw06.InternKeeps': WHATEVER THE INPUT: true; the input reads as it did. -/
def internKeepsSpec : ChangeSpec := { name := "internKeeps", fn := fun _ => fun
  | [d1, d2] => { results := [.lit (.bool true)], args := [d1, d2] }
  | _ => none }
def internKeepsRow : OpenClaim := { program := "ytbobpgjgknkogaa", sum := "8ad2d2471e6fc3c3305203fd30086e5c3b2b9338a19b5046109e456719084dc7", func := "stenotype/stenotypelaw06.InternKeeps", spec := "internKeeps", unfollowed := true, recurses := true, apart := false }
def InternKeepsSaid : Prop := internKeepsRow.holds Try.pinned (OpenSpec.ofChange internKeepsSpec)

/-- ITS FALSE NEIGHBOUR: 'it returns false'. Refute it at one input. -/
def internKeepsWrong : ChangeSpec := { name := "internKeeps", fn := fun _ => fun
  | [d1, d2] => { results := [.lit (.bool false)], args := [d1, d2] }
  | _ => none }
def InternKeepsWrongFalsely : Prop := internKeepsRow.holds Try.pinned (OpenSpec.ofChange internKeepsWrong)

/- THE SECOND FORM. 'bulk': how many values and letters a reading holds, each counted each time it is reached (what is shared counts as often as it is met; a slice's spare places count too). A statement '..UptoSaid' is the law's where the arguments, and the package variables that the reading takes, are together of bulk at most 1048576: NARROWER than '..Said'. Prove '..Said' where nothing that the law and all that it calls make is longer than what came in: it says more and counts as full. Else prove '..UptoSaid'. A law counts once. -/
mutual
def uptoBulk {H : Type} : DataW H → Nat
  | .lit (.string bytes) => bytes.length + 1
  | .lit _ => 1
  | .nil => 1
  | .ptr d => uptoBulk d + 1
  | .slice elems spare => uptoBulkAll elems + uptoBulkAll spare + 1
  | .agg parts => uptoBulkAll parts + 1
  | .iface _ d => uptoBulk d + 1
  | .map entries => uptoBulkEntries entries + 1
  | .held _ => 1
def uptoBulkAll {H : Type} : List (DataW H) → Nat
  | [] => 0
  | d :: r => uptoBulk d + uptoBulkAll r
def uptoBulkEntries {H : Type} : List (Lit × DataW H) → Nat
  | [] => 0
  | x :: r => uptoBulkEntry x + uptoBulkEntries r
def uptoBulkEntry {H : Type} : Lit × DataW H → Nat
  | (.string bytes, d) => bytes.length + uptoBulk d + 1
  | (_, d) => uptoBulk d + 1
 end
def uptoSmall : (H : Type) → List (DataW H) → Bool := fun _ ds => decide (uptoBulkAll ds ≤ 1048576)
def OpenSpec.upto (s : _root_.Go.ChangeSpec) : _root_.Go.OpenSpec := { _root_.Go.OpenSpec.ofChange s with cond := some uptoSmall }

/-- 'stenotypelaw06.InternNames', WHERE WHAT IT READS IS OF BULK AT MOST 1048576: true; the input reads as it did. -/
def internNamesUptoRow : OpenClaim := { program := "ytbobpgjgknkogaa", sum := "8ad2d2471e6fc3c3305203fd30086e5c3b2b9338a19b5046109e456719084dc7", func := "stenotype/stenotypelaw06.InternNames", spec := "internNames", unfollowed := true, recurses := true, apart := false, narrowed := true }
def InternNamesUptoSaid : Prop := internNamesUptoRow.holds Try.pinned (OpenSpec.upto internNamesSpec)

/-- 'stenotypelaw06.InternMerges', WHERE WHAT IT READS IS OF BULK AT MOST 1048576: true; the input reads as it did. -/
def internMergesUptoRow : OpenClaim := { program := "ytbobpgjgknkogaa", sum := "8ad2d2471e6fc3c3305203fd30086e5c3b2b9338a19b5046109e456719084dc7", func := "stenotype/stenotypelaw06.InternMerges", spec := "internMerges", unfollowed := true, recurses := true, apart := false, narrowed := true }
def InternMergesUptoSaid : Prop := internMergesUptoRow.holds Try.pinned (OpenSpec.upto internMergesSpec)

/-- 'stenotypelaw06.InternKnown', WHERE WHAT IT READS IS OF BULK AT MOST 1048576: true; the input reads as it did. -/
def internKnownUptoRow : OpenClaim := { program := "ytbobpgjgknkogaa", sum := "8ad2d2471e6fc3c3305203fd30086e5c3b2b9338a19b5046109e456719084dc7", func := "stenotype/stenotypelaw06.InternKnown", spec := "internKnown", unfollowed := true, recurses := true, apart := false, narrowed := true }
def InternKnownUptoSaid : Prop := internKnownUptoRow.holds Try.pinned (OpenSpec.upto internKnownSpec)

/-- 'stenotypelaw06.InternFinds', WHERE WHAT IT READS IS OF BULK AT MOST 1048576: true; the input reads as it did. -/
def internFindsUptoRow : OpenClaim := { program := "ytbobpgjgknkogaa", sum := "8ad2d2471e6fc3c3305203fd30086e5c3b2b9338a19b5046109e456719084dc7", func := "stenotype/stenotypelaw06.InternFinds", spec := "internFinds", unfollowed := true, recurses := true, apart := false, narrowed := true }
def InternFindsUptoSaid : Prop := internFindsUptoRow.holds Try.pinned (OpenSpec.upto internFindsSpec)

/-- 'stenotypelaw06.InternJoins', WHERE WHAT IT READS IS OF BULK AT MOST 1048576: true; the input reads as it did. -/
def internJoinsUptoRow : OpenClaim := { program := "ytbobpgjgknkogaa", sum := "8ad2d2471e6fc3c3305203fd30086e5c3b2b9338a19b5046109e456719084dc7", func := "stenotype/stenotypelaw06.InternJoins", spec := "internJoins", unfollowed := true, recurses := true, apart := false, narrowed := true }
def InternJoinsUptoSaid : Prop := internJoinsUptoRow.holds Try.pinned (OpenSpec.upto internJoinsSpec)

/-- 'stenotypelaw06.InternKeeps', WHERE WHAT IT READS IS OF BULK AT MOST 1048576: true; the input reads as it did. -/
def internKeepsUptoRow : OpenClaim := { program := "ytbobpgjgknkogaa", sum := "8ad2d2471e6fc3c3305203fd30086e5c3b2b9338a19b5046109e456719084dc7", func := "stenotype/stenotypelaw06.InternKeeps", spec := "internKeeps", unfollowed := true, recurses := true, apart := false, narrowed := true }
def InternKeepsUptoSaid : Prop := internKeepsUptoRow.holds Try.pinned (OpenSpec.upto internKeepsSpec)

end Rows
end Go.Proofs.Ytbobpgjgknkogaa
