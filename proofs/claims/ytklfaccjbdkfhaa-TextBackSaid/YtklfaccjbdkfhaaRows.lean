/-
  No cell of these rows narrows 'for every input' (looked for: loops, veiled, ifaces, maps, wideKeys, modest, calm, conditions, laid).
  DERIVED. THE GIVEN ROWS OF THIS SEAT. 6 by the template 'for every input the law returns true; each argument reads behind the call as it read before'; 0 by the template 'total and deterministic' (their statements: YtklfaccjbdkfhaaTotals.lean).
  GIVEN WITH THE SEED: the statements are not yours to turn. If you find one false, say at which input.
  Laid BY PROGRAM, IN A SANDBOX (cutbox-rows.mjs): the forced cells as the released guide's own fill.sh prints them over the translation 71fbd7f933837cdd… (all of the seat's roots in one cut). By AI agents, Wed Nov 11 2026. No macro, syntax, notation, axiom, sorry.
-/
import Derived.Test.YtklfaccjbdkfhaaChecked
import GoSem.Claim
import GoSem.ClaimJoined
import GoSem.ClaimMapViews
import Derived.JoinedTies
import Derived.KernelRfl
namespace Go.Proofs.Ytklfaccjbdkfhaa
/- THE CELL 'sum', in the pinned program and in every row, IS THE sha256 OF THE DUMP (.gsa) THAT YtklfaccjbdkfhaaProg.lean LOADS. Nothing in Lean hashes anything: it is a label: what it is worth is what the hold of that sum in a sandbox is worth. -/
noncomputable def Try.pinned : Pinned := { name := "ytklfaccjbdkfhaa", sum := "71fbd7f933837cdd1b41170232b0f2be59e3cac25bddc0d41600cbf2a81e3973", checked := Try.checked }
namespace Rows
def none {H : Type} : Left H := { results := [], args := [] }

/-- 'stenotypelaw04.TextJoins': WHATEVER THE INPUT: true; the input reads as it did. -/
def textJoinsSpec : ChangeSpec := { name := "textJoins", fn := fun _ => fun
  | [d1, d2] => { results := [.lit (.bool true)], args := [d1, d2] }
  | _ => none }
def textJoinsRow : OpenClaim := { program := "ytklfaccjbdkfhaa", sum := "71fbd7f933837cdd1b41170232b0f2be59e3cac25bddc0d41600cbf2a81e3973", func := "stenotype/stenotypelaw04.TextJoins", spec := "textJoins", unfollowed := true, recurses := true, apart := false }
def TextJoinsSaid : Prop := textJoinsRow.holds Try.pinned (OpenSpec.ofChange textJoinsSpec)

/-- ITS FALSE NEIGHBOUR: 'it returns false'. Refute it at one input. -/
def textJoinsWrong : ChangeSpec := { name := "textJoins", fn := fun _ => fun
  | [d1, d2] => { results := [.lit (.bool false)], args := [d1, d2] }
  | _ => none }
def TextJoinsWrongFalsely : Prop := textJoinsRow.holds Try.pinned (OpenSpec.ofChange textJoinsWrong)

/-- 'stenotypelaw04.TextLexemes': WHATEVER THE INPUT: true; the input reads as it did. -/
def textLexemesSpec : ChangeSpec := { name := "textLexemes", fn := fun _ => fun
  | [d1, d2] => { results := [.lit (.bool true)], args := [d1, d2] }
  | _ => none }
def textLexemesRow : OpenClaim := { program := "ytklfaccjbdkfhaa", sum := "71fbd7f933837cdd1b41170232b0f2be59e3cac25bddc0d41600cbf2a81e3973", func := "stenotype/stenotypelaw04.TextLexemes", spec := "textLexemes", unfollowed := true, recurses := true, apart := false }
def TextLexemesSaid : Prop := textLexemesRow.holds Try.pinned (OpenSpec.ofChange textLexemesSpec)

/-- ITS FALSE NEIGHBOUR: 'it returns false'. Refute it at one input. -/
def textLexemesWrong : ChangeSpec := { name := "textLexemes", fn := fun _ => fun
  | [d1, d2] => { results := [.lit (.bool false)], args := [d1, d2] }
  | _ => none }
def TextLexemesWrongFalsely : Prop := textLexemesRow.holds Try.pinned (OpenSpec.ofChange textLexemesWrong)

/-- 'stenotypelaw04.TextPlaces': WHATEVER THE INPUT: true; the input reads as it did. -/
def textPlacesSpec : ChangeSpec := { name := "textPlaces", fn := fun _ => fun
  | [d] => { results := [.lit (.bool true)], args := [d] }
  | _ => none }
def textPlacesRow : OpenClaim := { program := "ytklfaccjbdkfhaa", sum := "71fbd7f933837cdd1b41170232b0f2be59e3cac25bddc0d41600cbf2a81e3973", func := "stenotype/stenotypelaw04.TextPlaces", spec := "textPlaces", unfollowed := true, recurses := true, apart := false }
def TextPlacesSaid : Prop := textPlacesRow.holds Try.pinned (OpenSpec.ofChange textPlacesSpec)

/-- ITS FALSE NEIGHBOUR: 'it returns false'. Refute it at one input. -/
def textPlacesWrong : ChangeSpec := { name := "textPlaces", fn := fun _ => fun
  | [d] => { results := [.lit (.bool false)], args := [d] }
  | _ => none }
def TextPlacesWrongFalsely : Prop := textPlacesRow.holds Try.pinned (OpenSpec.ofChange textPlacesWrong)

/-- 'stenotypelaw04.TextBack': WHATEVER THE INPUT: true; the input reads as it did. -/
def textBackSpec : ChangeSpec := { name := "textBack", fn := fun _ => fun
  | [d1, d2] => { results := [.lit (.bool true)], args := [d1, d2] }
  | _ => none }
def textBackRow : OpenClaim := { program := "ytklfaccjbdkfhaa", sum := "71fbd7f933837cdd1b41170232b0f2be59e3cac25bddc0d41600cbf2a81e3973", func := "stenotype/stenotypelaw04.TextBack", spec := "textBack", inPlace := ["internal/abi.NoEscape", "internal/bytealg.MakeNoZero"], unfollowed := true, recurses := true, apart := false }
def TextBackSaid : Prop := textBackRow.holds Try.pinned (OpenSpec.ofChange textBackSpec)

/-- ITS FALSE NEIGHBOUR: 'it returns false'. Refute it at one input. -/
def textBackWrong : ChangeSpec := { name := "textBack", fn := fun _ => fun
  | [d1, d2] => { results := [.lit (.bool false)], args := [d1, d2] }
  | _ => none }
def TextBackWrongFalsely : Prop := textBackRow.holds Try.pinned (OpenSpec.ofChange textBackWrong)

/-- 'stenotypelaw04.TextKnown': WHATEVER THE INPUT: true; the input reads as it did. -/
def textKnownSpec : ChangeSpec := { name := "textKnown", fn := fun _ => fun
  | [] => { results := [.lit (.bool true)], args := [] }
  | _ => none }
def textKnownRow : OpenClaim := { program := "ytklfaccjbdkfhaa", sum := "71fbd7f933837cdd1b41170232b0f2be59e3cac25bddc0d41600cbf2a81e3973", func := "stenotype/stenotypelaw04.TextKnown", spec := "textKnown", inPlace := ["internal/abi.NoEscape", "internal/bytealg.MakeNoZero"], unfollowed := true, recurses := true, apart := false }
def TextKnownSaid : Prop := textKnownRow.holds Try.pinned (OpenSpec.ofChange textKnownSpec)

/-- ITS FALSE NEIGHBOUR: 'it returns false'. Refute it at one input. -/
def textKnownWrong : ChangeSpec := { name := "textKnown", fn := fun _ => fun
  | [] => { results := [.lit (.bool false)], args := [] }
  | _ => none }
def TextKnownWrongFalsely : Prop := textKnownRow.holds Try.pinned (OpenSpec.ofChange textKnownWrong)

/-- 'stenotypelaw04.TextChecks': WHATEVER THE INPUT: true; the input reads as it did. -/
def textChecksSpec : ChangeSpec := { name := "textChecks", fn := fun _ => fun
  | [d1, d2, d3, d4, d5, d6] => { results := [.lit (.bool true)], args := [d1, d2, d3, d4, d5, d6] }
  | _ => none }
def textChecksRow : OpenClaim := { program := "ytklfaccjbdkfhaa", sum := "71fbd7f933837cdd1b41170232b0f2be59e3cac25bddc0d41600cbf2a81e3973", func := "stenotype/stenotypelaw04.TextChecks", spec := "textChecks", inPlace := ["internal/abi.NoEscape", "internal/bytealg.MakeNoZero"], unfollowed := true, recurses := true, apart := false }
def TextChecksSaid : Prop := textChecksRow.holds Try.pinned (OpenSpec.ofChange textChecksSpec)

/-- ITS FALSE NEIGHBOUR: 'it returns false'. Refute it at one input. -/
def textChecksWrong : ChangeSpec := { name := "textChecks", fn := fun _ => fun
  | [d1, d2, d3, d4, d5, d6] => { results := [.lit (.bool false)], args := [d1, d2, d3, d4, d5, d6] }
  | _ => none }
def TextChecksWrongFalsely : Prop := textChecksRow.holds Try.pinned (OpenSpec.ofChange textChecksWrong)

/- THE SECOND FORM. 'bulk': how many values and letters a reading holds, each counted each time it is reached (what is shared counts as often as it is met; a slice's spare places count too). A statement '..UptoSaid' is the law's where the arguments, and the package variables that the reading takes, are together of bulk at most 1048576: NARROWER than '..Said'. Prove '..Said' where nothing that the law and all that it calls make is longer than what came in: it says more and counts as full. Else prove '..UptoSaid'. A law counts once. -/
mutual
def uptoBulk {H : Type} : DataW H → Nat
  | .lit (.string bytes) => bytes.length + 1
  | .lit _ => 1
  | .nil => 1
  | .ptr d => uptoBulk d + 1
  | .slice elems spare => uptoBulkAll elems + uptoBulkAll spare + 1
  | .agg parts => uptoBulkAll parts + 1
  | .iface _ d => uptoBulk d + 1
  | .map entries => uptoBulkEntries entries + 1
  | .held _ => 1
def uptoBulkAll {H : Type} : List (DataW H) → Nat
  | [] => 0
  | d :: r => uptoBulk d + uptoBulkAll r
def uptoBulkEntries {H : Type} : List (Lit × DataW H) → Nat
  | [] => 0
  | x :: r => uptoBulkEntry x + uptoBulkEntries r
def uptoBulkEntry {H : Type} : Lit × DataW H → Nat
  | (.string bytes, d) => bytes.length + uptoBulk d + 1
  | (_, d) => uptoBulk d + 1
 end
def uptoSmall : (H : Type) → List (DataW H) → Bool := fun _ ds => decide (uptoBulkAll ds ≤ 1048576)
def OpenSpec.upto (s : _root_.Go.ChangeSpec) : _root_.Go.OpenSpec := { _root_.Go.OpenSpec.ofChange s with cond := some uptoSmall }

/-- 'stenotypelaw04.TextJoins', WHERE WHAT IT READS IS OF BULK AT MOST 1048576: true; the input reads as it did. -/
def textJoinsUptoRow : OpenClaim := { program := "ytklfaccjbdkfhaa", sum := "71fbd7f933837cdd1b41170232b0f2be59e3cac25bddc0d41600cbf2a81e3973", func := "stenotype/stenotypelaw04.TextJoins", spec := "textJoins", unfollowed := true, recurses := true, apart := false, narrowed := true }
def TextJoinsUptoSaid : Prop := textJoinsUptoRow.holds Try.pinned (OpenSpec.upto textJoinsSpec)

/-- 'stenotypelaw04.TextLexemes', WHERE WHAT IT READS IS OF BULK AT MOST 1048576: true; the input reads as it did. -/
def textLexemesUptoRow : OpenClaim := { program := "ytklfaccjbdkfhaa", sum := "71fbd7f933837cdd1b41170232b0f2be59e3cac25bddc0d41600cbf2a81e3973", func := "stenotype/stenotypelaw04.TextLexemes", spec := "textLexemes", unfollowed := true, recurses := true, apart := false, narrowed := true }
def TextLexemesUptoSaid : Prop := textLexemesUptoRow.holds Try.pinned (OpenSpec.upto textLexemesSpec)

/-- 'stenotypelaw04.TextPlaces', WHERE WHAT IT READS IS OF BULK AT MOST 1048576: true; the input reads as it did. -/
def textPlacesUptoRow : OpenClaim := { program := "ytklfaccjbdkfhaa", sum := "71fbd7f933837cdd1b41170232b0f2be59e3cac25bddc0d41600cbf2a81e3973", func := "stenotype/stenotypelaw04.TextPlaces", spec := "textPlaces", unfollowed := true, recurses := true, apart := false, narrowed := true }
def TextPlacesUptoSaid : Prop := textPlacesUptoRow.holds Try.pinned (OpenSpec.upto textPlacesSpec)

/-- 'stenotypelaw04.TextBack', WHERE WHAT IT READS IS OF BULK AT MOST 1048576: true; the input reads as it did. -/
def textBackUptoRow : OpenClaim := { program := "ytklfaccjbdkfhaa", sum := "71fbd7f933837cdd1b41170232b0f2be59e3cac25bddc0d41600cbf2a81e3973", func := "stenotype/stenotypelaw04.TextBack", spec := "textBack", inPlace := ["internal/abi.NoEscape", "internal/bytealg.MakeNoZero"], unfollowed := true, recurses := true, apart := false, narrowed := true }
def TextBackUptoSaid : Prop := textBackUptoRow.holds Try.pinned (OpenSpec.upto textBackSpec)

/-- 'stenotypelaw04.TextKnown', WHERE WHAT IT READS IS OF BULK AT MOST 1048576: true; the input reads as it did. -/
def textKnownUptoRow : OpenClaim := { program := "ytklfaccjbdkfhaa", sum := "71fbd7f933837cdd1b41170232b0f2be59e3cac25bddc0d41600cbf2a81e3973", func := "stenotype/stenotypelaw04.TextKnown", spec := "textKnown", inPlace := ["internal/abi.NoEscape", "internal/bytealg.MakeNoZero"], unfollowed := true, recurses := true, apart := false, narrowed := true }
def TextKnownUptoSaid : Prop := textKnownUptoRow.holds Try.pinned (OpenSpec.upto textKnownSpec)

/-- 'stenotypelaw04.TextChecks', WHERE WHAT IT READS IS OF BULK AT MOST 1048576: true; the input reads as it did. -/
def textChecksUptoRow : OpenClaim := { program := "ytklfaccjbdkfhaa", sum := "71fbd7f933837cdd1b41170232b0f2be59e3cac25bddc0d41600cbf2a81e3973", func := "stenotype/stenotypelaw04.TextChecks", spec := "textChecks", inPlace := ["internal/abi.NoEscape", "internal/bytealg.MakeNoZero"], unfollowed := true, recurses := true, apart := false, narrowed := true }
def TextChecksUptoSaid : Prop := textChecksUptoRow.holds Try.pinned (OpenSpec.upto textChecksSpec)

end Rows
end Go.Proofs.Ytklfaccjbdkfhaa
