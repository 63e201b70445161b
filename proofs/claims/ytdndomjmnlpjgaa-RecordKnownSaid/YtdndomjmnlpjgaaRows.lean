/-
  No cell of these rows narrows 'for every input' (looked for: loops, veiled, ifaces, maps, wideKeys, modest, calm, conditions, laid).
  DERIVED. THE GIVEN ROWS OF THIS SEAT. 13 by the template 'for every input the law returns true; each argument reads behind the call as it read before'; 0 by the template 'total and deterministic' (their statements: YtdndomjmnlpjgaaTotals.lean).
  GIVEN WITH THE SEED: the statements are not yours to turn. If you find one false, say at which input.
  Laid BY PROGRAM, IN A SANDBOX (cutbox-rows.mjs): the forced cells as the released guide's own fill.sh prints them over the translation 3620836db7e42f6b… (all of the seat's roots in one cut). By AI agents, Wed Nov 11 2026. No macro, syntax, notation, axiom, sorry.
-/
import Derived.Test.YtdndomjmnlpjgaaChecked
import GoSem.Claim
import GoSem.ClaimJoined
import GoSem.ClaimMapViews
import Derived.JoinedTies
import Derived.KernelRfl
namespace Go.Proofs.Ytdndomjmnlpjgaa
/- THE CELL 'sum', in the pinned program and in every row, IS THE sha256 OF THE DUMP (.gsa) THAT YtdndomjmnlpjgaaProg.lean LOADS. Nothing in Lean hashes anything: it is a label: what it is worth is what the hold of that sum in a sandbox is worth. -/
noncomputable def Try.pinned : Pinned := { name := "ytdndomjmnlpjgaa", sum := "3620836db7e42f6b4a076f0e465223d3e8569dc360e3a0e1541548f7a0c37c1d", checked := Try.checked }
namespace Rows
def none {H : Type} : Left H := { results := [], args := [] }

/-- 'stenotypelaw23.RecordLonger': WHATEVER THE INPUT: true; the input reads as it did. -/
def recordLongerSpec : ChangeSpec := { name := "recordLonger", fn := fun _ => fun
  | [d1, d2, d3] => { results := [.lit (.bool true)], args := [d1, d2, d3] }
  | _ => none }
def recordLongerRow : OpenClaim := { program := "ytdndomjmnlpjgaa", sum := "3620836db7e42f6b4a076f0e465223d3e8569dc360e3a0e1541548f7a0c37c1d", func := "stenotype/stenotypelaw23.RecordLonger", spec := "recordLonger", unfollowed := true, recurses := true, apart := false }
def RecordLongerSaid : Prop := recordLongerRow.holds Try.pinned (OpenSpec.ofChange recordLongerSpec)

/-- ITS FALSE NEIGHBOUR: 'it returns false'. Refute it at one input. -/
def recordLongerWrong : ChangeSpec := { name := "recordLonger", fn := fun _ => fun
  | [d1, d2, d3] => { results := [.lit (.bool false)], args := [d1, d2, d3] }
  | _ => none }
def RecordLongerWrongFalsely : Prop := recordLongerRow.holds Try.pinned (OpenSpec.ofChange recordLongerWrong)

/-- 'stenotypelaw23.RecordCounts': WHATEVER THE INPUT: true; the input reads as it did. -/
def recordCountsSpec : ChangeSpec := { name := "recordCounts", fn := fun _ => fun
  | [d1, d2] => { results := [.lit (.bool true)], args := [d1, d2] }
  | _ => none }
def recordCountsRow : OpenClaim := { program := "ytdndomjmnlpjgaa", sum := "3620836db7e42f6b4a076f0e465223d3e8569dc360e3a0e1541548f7a0c37c1d", func := "stenotype/stenotypelaw23.RecordCounts", spec := "recordCounts", inPlace := ["internal/abi.NoEscape", "internal/bytealg.MakeNoZero"], unfollowed := true, recurses := true, apart := false }
def RecordCountsSaid : Prop := recordCountsRow.holds Try.pinned (OpenSpec.ofChange recordCountsSpec)

/-- ITS FALSE NEIGHBOUR: 'it returns false'. Refute it at one input. -/
def recordCountsWrong : ChangeSpec := { name := "recordCounts", fn := fun _ => fun
  | [d1, d2] => { results := [.lit (.bool false)], args := [d1, d2] }
  | _ => none }
def RecordCountsWrongFalsely : Prop := recordCountsRow.holds Try.pinned (OpenSpec.ofChange recordCountsWrong)

/-- 'stenotypelaw23.RecordReads': WHATEVER THE INPUT: true; the input reads as it did. -/
def recordReadsSpec : ChangeSpec := { name := "recordReads", fn := fun _ => fun
  | [d1, d2, d3] => { results := [.lit (.bool true)], args := [d1, d2, d3] }
  | _ => none }
def recordReadsRow : OpenClaim := { program := "ytdndomjmnlpjgaa", sum := "3620836db7e42f6b4a076f0e465223d3e8569dc360e3a0e1541548f7a0c37c1d", func := "stenotype/stenotypelaw23.RecordReads", spec := "recordReads", unfollowed := true, recurses := true, apart := false }
def RecordReadsSaid : Prop := recordReadsRow.holds Try.pinned (OpenSpec.ofChange recordReadsSpec)

/-- ITS FALSE NEIGHBOUR: 'it returns false'. Refute it at one input. -/
def recordReadsWrong : ChangeSpec := { name := "recordReads", fn := fun _ => fun
  | [d1, d2, d3] => { results := [.lit (.bool false)], args := [d1, d2, d3] }
  | _ => none }
def RecordReadsWrongFalsely : Prop := recordReadsRow.holds Try.pinned (OpenSpec.ofChange recordReadsWrong)

/-- 'stenotypelaw23.RecordKnown': WHATEVER THE INPUT: true; the input reads as it did. -/
def recordKnownSpec : ChangeSpec := { name := "recordKnown", fn := fun _ => fun
  | [] => { results := [.lit (.bool true)], args := [] }
  | _ => none }
def recordKnownRow : OpenClaim := { program := "ytdndomjmnlpjgaa", sum := "3620836db7e42f6b4a076f0e465223d3e8569dc360e3a0e1541548f7a0c37c1d", func := "stenotype/stenotypelaw23.RecordKnown", spec := "recordKnown", inPlace := ["internal/abi.NoEscape", "internal/bytealg.MakeNoZero"], unfollowed := true, recurses := true, apart := false }
def RecordKnownSaid : Prop := recordKnownRow.holds Try.pinned (OpenSpec.ofChange recordKnownSpec)

/-- ITS FALSE NEIGHBOUR: 'it returns false'. Refute it at one input. -/
def recordKnownWrong : ChangeSpec := { name := "recordKnown", fn := fun _ => fun
  | [] => { results := [.lit (.bool false)], args := [] }
  | _ => none }
def RecordKnownWrongFalsely : Prop := recordKnownRow.holds Try.pinned (OpenSpec.ofChange recordKnownWrong)

/-- 'stenotypelaw23.RecordSplits': WHATEVER THE INPUT: true; the input reads as it did. -/
def recordSplitsSpec : ChangeSpec := { name := "recordSplits", fn := fun _ => fun
  | [d1, d2] => { results := [.lit (.bool true)], args := [d1, d2] }
  | _ => none }
def recordSplitsRow : OpenClaim := { program := "ytdndomjmnlpjgaa", sum := "3620836db7e42f6b4a076f0e465223d3e8569dc360e3a0e1541548f7a0c37c1d", func := "stenotype/stenotypelaw23.RecordSplits", spec := "recordSplits", unfollowed := true, recurses := true, apart := false }
def RecordSplitsSaid : Prop := recordSplitsRow.holds Try.pinned (OpenSpec.ofChange recordSplitsSpec)

/-- ITS FALSE NEIGHBOUR: 'it returns false'. Refute it at one input. -/
def recordSplitsWrong : ChangeSpec := { name := "recordSplits", fn := fun _ => fun
  | [d1, d2] => { results := [.lit (.bool false)], args := [d1, d2] }
  | _ => none }
def RecordSplitsWrongFalsely : Prop := recordSplitsRow.holds Try.pinned (OpenSpec.ofChange recordSplitsWrong)

/-- 'stenotypelaw07.TokenBack': WHATEVER THE INPUT: true; the input reads as it did. -/
def tokenBackSpec : ChangeSpec := { name := "tokenBack", fn := fun _ => fun
  | [d1, d2, d3] => { results := [.lit (.bool true)], args := [d1, d2, d3] }
  | _ => none }
def tokenBackRow : OpenClaim := { program := "ytdndomjmnlpjgaa", sum := "3620836db7e42f6b4a076f0e465223d3e8569dc360e3a0e1541548f7a0c37c1d", func := "stenotype/stenotypelaw07.TokenBack", spec := "tokenBack", inPlace := ["internal/abi.NoEscape", "internal/bytealg.MakeNoZero"], apart := false }
def TokenBackSaid : Prop := tokenBackRow.holds Try.pinned (OpenSpec.ofChange tokenBackSpec)

/-- ITS FALSE NEIGHBOUR: 'it returns false'. Refute it at one input. -/
def tokenBackWrong : ChangeSpec := { name := "tokenBack", fn := fun _ => fun
  | [d1, d2, d3] => { results := [.lit (.bool false)], args := [d1, d2, d3] }
  | _ => none }
def TokenBackWrongFalsely : Prop := tokenBackRow.holds Try.pinned (OpenSpec.ofChange tokenBackWrong)

/-- 'stenotypelaw07.TokenFrames': WHATEVER THE INPUT: true; the input reads as it did. -/
def tokenFramesSpec : ChangeSpec := { name := "tokenFrames", fn := fun _ => fun
  | [d1, d2] => { results := [.lit (.bool true)], args := [d1, d2] }
  | _ => none }
def tokenFramesRow : OpenClaim := { program := "ytdndomjmnlpjgaa", sum := "3620836db7e42f6b4a076f0e465223d3e8569dc360e3a0e1541548f7a0c37c1d", func := "stenotype/stenotypelaw07.TokenFrames", spec := "tokenFrames", inPlace := ["internal/abi.NoEscape", "internal/bytealg.MakeNoZero"], apart := false }
def TokenFramesSaid : Prop := tokenFramesRow.holds Try.pinned (OpenSpec.ofChange tokenFramesSpec)

/-- ITS FALSE NEIGHBOUR: 'it returns false'. Refute it at one input. -/
def tokenFramesWrong : ChangeSpec := { name := "tokenFrames", fn := fun _ => fun
  | [d1, d2] => { results := [.lit (.bool false)], args := [d1, d2] }
  | _ => none }
def TokenFramesWrongFalsely : Prop := tokenFramesRow.holds Try.pinned (OpenSpec.ofChange tokenFramesWrong)

/-- 'stenotypelaw07.TokenReads': WHATEVER THE INPUT: true; the input reads as it did. -/
def tokenReadsSpec : ChangeSpec := { name := "tokenReads", fn := fun _ => fun
  | [d1, d2, d3] => { results := [.lit (.bool true)], args := [d1, d2, d3] }
  | _ => none }
def tokenReadsRow : OpenClaim := { program := "ytdndomjmnlpjgaa", sum := "3620836db7e42f6b4a076f0e465223d3e8569dc360e3a0e1541548f7a0c37c1d", func := "stenotype/stenotypelaw07.TokenReads", spec := "tokenReads", inPlace := ["internal/abi.NoEscape", "internal/bytealg.MakeNoZero"], apart := false }
def TokenReadsSaid : Prop := tokenReadsRow.holds Try.pinned (OpenSpec.ofChange tokenReadsSpec)

/-- ITS FALSE NEIGHBOUR: 'it returns false'. Refute it at one input. -/
def tokenReadsWrong : ChangeSpec := { name := "tokenReads", fn := fun _ => fun
  | [d1, d2, d3] => { results := [.lit (.bool false)], args := [d1, d2, d3] }
  | _ => none }
def TokenReadsWrongFalsely : Prop := tokenReadsRow.holds Try.pinned (OpenSpec.ofChange tokenReadsWrong)

/-- 'stenotypelaw07.TokenCuts': WHATEVER THE INPUT: true; the input reads as it did. -/
def tokenCutsSpec : ChangeSpec := { name := "tokenCuts", fn := fun _ => fun
  | [d1, d2, d3, d4] => { results := [.lit (.bool true)], args := [d1, d2, d3, d4] }
  | _ => none }
def tokenCutsRow : OpenClaim := { program := "ytdndomjmnlpjgaa", sum := "3620836db7e42f6b4a076f0e465223d3e8569dc360e3a0e1541548f7a0c37c1d", func := "stenotype/stenotypelaw07.TokenCuts", spec := "tokenCuts", inPlace := ["internal/abi.NoEscape", "internal/bytealg.MakeNoZero"], apart := false }
def TokenCutsSaid : Prop := tokenCutsRow.holds Try.pinned (OpenSpec.ofChange tokenCutsSpec)

/-- ITS FALSE NEIGHBOUR: 'it returns false'. Refute it at one input. -/
def tokenCutsWrong : ChangeSpec := { name := "tokenCuts", fn := fun _ => fun
  | [d1, d2, d3, d4] => { results := [.lit (.bool false)], args := [d1, d2, d3, d4] }
  | _ => none }
def TokenCutsWrongFalsely : Prop := tokenCutsRow.holds Try.pinned (OpenSpec.ofChange tokenCutsWrong)

/-- 'stenotypelaw23.RecordParts': WHATEVER THE INPUT: true; the input reads as it did. -/
def recordPartsSpec : ChangeSpec := { name := "recordParts", fn := fun _ => fun
  | [d1, d2, d3, d4] => { results := [.lit (.bool true)], args := [d1, d2, d3, d4] }
  | _ => none }
def recordPartsRow : OpenClaim := { program := "ytdndomjmnlpjgaa", sum := "3620836db7e42f6b4a076f0e465223d3e8569dc360e3a0e1541548f7a0c37c1d", func := "stenotype/stenotypelaw23.RecordParts", spec := "recordParts", inPlace := ["internal/abi.NoEscape", "internal/bytealg.MakeNoZero"], unfollowed := true, recurses := true, apart := false }
def RecordPartsSaid : Prop := recordPartsRow.holds Try.pinned (OpenSpec.ofChange recordPartsSpec)

/-- ITS FALSE NEIGHBOUR: 'it returns false'. Refute it at one input. -/
def recordPartsWrong : ChangeSpec := { name := "recordParts", fn := fun _ => fun
  | [d1, d2, d3, d4] => { results := [.lit (.bool false)], args := [d1, d2, d3, d4] }
  | _ => none }
def RecordPartsWrongFalsely : Prop := recordPartsRow.holds Try.pinned (OpenSpec.ofChange recordPartsWrong)

/-- 'stenotypelaw07.TokenLists': WHATEVER THE INPUT: true; the input reads as it did. -/
def tokenListsSpec : ChangeSpec := { name := "tokenLists", fn := fun _ => fun
  | [d1, d2, d3] => { results := [.lit (.bool true)], args := [d1, d2, d3] }
  | _ => none }
def tokenListsRow : OpenClaim := { program := "ytdndomjmnlpjgaa", sum := "3620836db7e42f6b4a076f0e465223d3e8569dc360e3a0e1541548f7a0c37c1d", func := "stenotype/stenotypelaw07.TokenLists", spec := "tokenLists", inPlace := ["internal/abi.NoEscape", "internal/bytealg.MakeNoZero"], apart := false }
def TokenListsSaid : Prop := tokenListsRow.holds Try.pinned (OpenSpec.ofChange tokenListsSpec)

/-- ITS FALSE NEIGHBOUR: 'it returns false'. Refute it at one input. -/
def tokenListsWrong : ChangeSpec := { name := "tokenLists", fn := fun _ => fun
  | [d1, d2, d3] => { results := [.lit (.bool false)], args := [d1, d2, d3] }
  | _ => none }
def TokenListsWrongFalsely : Prop := tokenListsRow.holds Try.pinned (OpenSpec.ofChange tokenListsWrong)

/-- 'stenotypelaw07.TokenPlaces': WHATEVER THE INPUT: true; the input reads as it did. -/
def tokenPlacesSpec : ChangeSpec := { name := "tokenPlaces", fn := fun _ => fun
  | [d1, d2, d3, d4] => { results := [.lit (.bool true)], args := [d1, d2, d3, d4] }
  | _ => none }
def tokenPlacesRow : OpenClaim := { program := "ytdndomjmnlpjgaa", sum := "3620836db7e42f6b4a076f0e465223d3e8569dc360e3a0e1541548f7a0c37c1d", func := "stenotype/stenotypelaw07.TokenPlaces", spec := "tokenPlaces", inPlace := ["internal/abi.NoEscape", "internal/bytealg.MakeNoZero"], apart := false }
def TokenPlacesSaid : Prop := tokenPlacesRow.holds Try.pinned (OpenSpec.ofChange tokenPlacesSpec)

/-- ITS FALSE NEIGHBOUR: 'it returns false'. Refute it at one input. -/
def tokenPlacesWrong : ChangeSpec := { name := "tokenPlaces", fn := fun _ => fun
  | [d1, d2, d3, d4] => { results := [.lit (.bool false)], args := [d1, d2, d3, d4] }
  | _ => none }
def TokenPlacesWrongFalsely : Prop := tokenPlacesRow.holds Try.pinned (OpenSpec.ofChange tokenPlacesWrong)

/-- 'stenotypelaw07.TokenKnown': WHATEVER THE INPUT: true; the input reads as it did. -/
def tokenKnownSpec : ChangeSpec := { name := "tokenKnown", fn := fun _ => fun
  | [] => { results := [.lit (.bool true)], args := [] }
  | _ => none }
def tokenKnownRow : OpenClaim := { program := "ytdndomjmnlpjgaa", sum := "3620836db7e42f6b4a076f0e465223d3e8569dc360e3a0e1541548f7a0c37c1d", func := "stenotype/stenotypelaw07.TokenKnown", spec := "tokenKnown", inPlace := ["internal/abi.NoEscape", "internal/bytealg.MakeNoZero"], apart := false }
def TokenKnownSaid : Prop := tokenKnownRow.holds Try.pinned (OpenSpec.ofChange tokenKnownSpec)

/-- ITS FALSE NEIGHBOUR: 'it returns false'. Refute it at one input. -/
def tokenKnownWrong : ChangeSpec := { name := "tokenKnown", fn := fun _ => fun
  | [] => { results := [.lit (.bool false)], args := [] }
  | _ => none }
def TokenKnownWrongFalsely : Prop := tokenKnownRow.holds Try.pinned (OpenSpec.ofChange tokenKnownWrong)

/- THE SECOND FORM. 'bulk': how many values and letters a reading holds, each counted each time it is reached (what is shared counts as often as it is met; a slice's spare places count too). A statement '..UptoSaid' is the law's where the arguments, and the package variables that the reading takes, are together of bulk at most 1048576: NARROWER than '..Said'. Prove '..Said' where nothing that the law and all that it calls make is longer than what came in: it says more and counts as full. Else prove '..UptoSaid'. A law counts once. -/
mutual
def uptoBulk {H : Type} : DataW H → Nat
  | .lit (.string bytes) => bytes.length + 1
  | .lit _ => 1
  | .nil => 1
  | .ptr d => uptoBulk d + 1
  | .slice elems spare => uptoBulkAll elems + uptoBulkAll spare + 1
  | .agg parts => uptoBulkAll parts + 1
  | .iface _ d => uptoBulk d + 1
  | .map entries => uptoBulkEntries entries + 1
  | .held _ => 1
def uptoBulkAll {H : Type} : List (DataW H) → Nat
  | [] => 0
  | d :: r => uptoBulk d + uptoBulkAll r
def uptoBulkEntries {H : Type} : List (Lit × DataW H) → Nat
  | [] => 0
  | x :: r => uptoBulkEntry x + uptoBulkEntries r
def uptoBulkEntry {H : Type} : Lit × DataW H → Nat
  | (.string bytes, d) => bytes.length + uptoBulk d + 1
  | (_, d) => uptoBulk d + 1
 end
def uptoSmall : (H : Type) → List (DataW H) → Bool := fun _ ds => decide (uptoBulkAll ds ≤ 1048576)
def OpenSpec.upto (s : _root_.Go.ChangeSpec) : _root_.Go.OpenSpec := { _root_.Go.OpenSpec.ofChange s with cond := some uptoSmall }

/-- 'stenotypelaw23.RecordLonger', WHERE WHAT IT READS IS OF BULK AT MOST 1048576: true; the input reads as it did. -/
def recordLongerUptoRow : OpenClaim := { program := "ytdndomjmnlpjgaa", sum := "3620836db7e42f6b4a076f0e465223d3e8569dc360e3a0e1541548f7a0c37c1d", func := "stenotype/stenotypelaw23.RecordLonger", spec := "recordLonger", unfollowed := true, recurses := true, apart := false, narrowed := true }
def RecordLongerUptoSaid : Prop := recordLongerUptoRow.holds Try.pinned (OpenSpec.upto recordLongerSpec)

/-- 'stenotypelaw23.RecordCounts', WHERE WHAT IT READS IS OF BULK AT MOST 1048576: true; the input reads as it did. -/
def recordCountsUptoRow : OpenClaim := { program := "ytdndomjmnlpjgaa", sum := "3620836db7e42f6b4a076f0e465223d3e8569dc360e3a0e1541548f7a0c37c1d", func := "stenotype/stenotypelaw23.RecordCounts", spec := "recordCounts", inPlace := ["internal/abi.NoEscape", "internal/bytealg.MakeNoZero"], unfollowed := true, recurses := true, apart := false, narrowed := true }
def RecordCountsUptoSaid : Prop := recordCountsUptoRow.holds Try.pinned (OpenSpec.upto recordCountsSpec)

/-- 'stenotypelaw23.RecordReads', WHERE WHAT IT READS IS OF BULK AT MOST 1048576: true; the input reads as it did. -/
def recordReadsUptoRow : OpenClaim := { program := "ytdndomjmnlpjgaa", sum := "3620836db7e42f6b4a076f0e465223d3e8569dc360e3a0e1541548f7a0c37c1d", func := "stenotype/stenotypelaw23.RecordReads", spec := "recordReads", unfollowed := true, recurses := true, apart := false, narrowed := true }
def RecordReadsUptoSaid : Prop := recordReadsUptoRow.holds Try.pinned (OpenSpec.upto recordReadsSpec)

/-- 'stenotypelaw23.RecordKnown', WHERE WHAT IT READS IS OF BULK AT MOST 1048576: true; the input reads as it did. -/
def recordKnownUptoRow : OpenClaim := { program := "ytdndomjmnlpjgaa", sum := "3620836db7e42f6b4a076f0e465223d3e8569dc360e3a0e1541548f7a0c37c1d", func := "stenotype/stenotypelaw23.RecordKnown", spec := "recordKnown", inPlace := ["internal/abi.NoEscape", "internal/bytealg.MakeNoZero"], unfollowed := true, recurses := true, apart := false, narrowed := true }
def RecordKnownUptoSaid : Prop := recordKnownUptoRow.holds Try.pinned (OpenSpec.upto recordKnownSpec)

/-- 'stenotypelaw23.RecordSplits', WHERE WHAT IT READS IS OF BULK AT MOST 1048576: true; the input reads as it did. -/
def recordSplitsUptoRow : OpenClaim := { program := "ytdndomjmnlpjgaa", sum := "3620836db7e42f6b4a076f0e465223d3e8569dc360e3a0e1541548f7a0c37c1d", func := "stenotype/stenotypelaw23.RecordSplits", spec := "recordSplits", unfollowed := true, recurses := true, apart := false, narrowed := true }
def RecordSplitsUptoSaid : Prop := recordSplitsUptoRow.holds Try.pinned (OpenSpec.upto recordSplitsSpec)

/-- 'stenotypelaw07.TokenBack', WHERE WHAT IT READS IS OF BULK AT MOST 1048576: true; the input reads as it did. -/
def tokenBackUptoRow : OpenClaim := { program := "ytdndomjmnlpjgaa", sum := "3620836db7e42f6b4a076f0e465223d3e8569dc360e3a0e1541548f7a0c37c1d", func := "stenotype/stenotypelaw07.TokenBack", spec := "tokenBack", inPlace := ["internal/abi.NoEscape", "internal/bytealg.MakeNoZero"], apart := false, narrowed := true }
def TokenBackUptoSaid : Prop := tokenBackUptoRow.holds Try.pinned (OpenSpec.upto tokenBackSpec)

/-- 'stenotypelaw07.TokenFrames', WHERE WHAT IT READS IS OF BULK AT MOST 1048576: true; the input reads as it did. -/
def tokenFramesUptoRow : OpenClaim := { program := "ytdndomjmnlpjgaa", sum := "3620836db7e42f6b4a076f0e465223d3e8569dc360e3a0e1541548f7a0c37c1d", func := "stenotype/stenotypelaw07.TokenFrames", spec := "tokenFrames", inPlace := ["internal/abi.NoEscape", "internal/bytealg.MakeNoZero"], apart := false, narrowed := true }
def TokenFramesUptoSaid : Prop := tokenFramesUptoRow.holds Try.pinned (OpenSpec.upto tokenFramesSpec)

/-- 'stenotypelaw07.TokenReads', WHERE WHAT IT READS IS OF BULK AT MOST 1048576: true; the input reads as it did. -/
def tokenReadsUptoRow : OpenClaim := { program := "ytdndomjmnlpjgaa", sum := "3620836db7e42f6b4a076f0e465223d3e8569dc360e3a0e1541548f7a0c37c1d", func := "stenotype/stenotypelaw07.TokenReads", spec := "tokenReads", inPlace := ["internal/abi.NoEscape", "internal/bytealg.MakeNoZero"], apart := false, narrowed := true }
def TokenReadsUptoSaid : Prop := tokenReadsUptoRow.holds Try.pinned (OpenSpec.upto tokenReadsSpec)

/-- 'stenotypelaw07.TokenCuts', WHERE WHAT IT READS IS OF BULK AT MOST 1048576: true; the input reads as it did. -/
def tokenCutsUptoRow : OpenClaim := { program := "ytdndomjmnlpjgaa", sum := "3620836db7e42f6b4a076f0e465223d3e8569dc360e3a0e1541548f7a0c37c1d", func := "stenotype/stenotypelaw07.TokenCuts", spec := "tokenCuts", inPlace := ["internal/abi.NoEscape", "internal/bytealg.MakeNoZero"], apart := false, narrowed := true }
def TokenCutsUptoSaid : Prop := tokenCutsUptoRow.holds Try.pinned (OpenSpec.upto tokenCutsSpec)

/-- 'stenotypelaw23.RecordParts', WHERE WHAT IT READS IS OF BULK AT MOST 1048576: true; the input reads as it did. -/
def recordPartsUptoRow : OpenClaim := { program := "ytdndomjmnlpjgaa", sum := "3620836db7e42f6b4a076f0e465223d3e8569dc360e3a0e1541548f7a0c37c1d", func := "stenotype/stenotypelaw23.RecordParts", spec := "recordParts", inPlace := ["internal/abi.NoEscape", "internal/bytealg.MakeNoZero"], unfollowed := true, recurses := true, apart := false, narrowed := true }
def RecordPartsUptoSaid : Prop := recordPartsUptoRow.holds Try.pinned (OpenSpec.upto recordPartsSpec)

/-- 'stenotypelaw07.TokenLists', WHERE WHAT IT READS IS OF BULK AT MOST 1048576: true; the input reads as it did. -/
def tokenListsUptoRow : OpenClaim := { program := "ytdndomjmnlpjgaa", sum := "3620836db7e42f6b4a076f0e465223d3e8569dc360e3a0e1541548f7a0c37c1d", func := "stenotype/stenotypelaw07.TokenLists", spec := "tokenLists", inPlace := ["internal/abi.NoEscape", "internal/bytealg.MakeNoZero"], apart := false, narrowed := true }
def TokenListsUptoSaid : Prop := tokenListsUptoRow.holds Try.pinned (OpenSpec.upto tokenListsSpec)

/-- 'stenotypelaw07.TokenPlaces', WHERE WHAT IT READS IS OF BULK AT MOST 1048576: true; the input reads as it did. -/
def tokenPlacesUptoRow : OpenClaim := { program := "ytdndomjmnlpjgaa", sum := "3620836db7e42f6b4a076f0e465223d3e8569dc360e3a0e1541548f7a0c37c1d", func := "stenotype/stenotypelaw07.TokenPlaces", spec := "tokenPlaces", inPlace := ["internal/abi.NoEscape", "internal/bytealg.MakeNoZero"], apart := false, narrowed := true }
def TokenPlacesUptoSaid : Prop := tokenPlacesUptoRow.holds Try.pinned (OpenSpec.upto tokenPlacesSpec)

/-- 'stenotypelaw07.TokenKnown', WHERE WHAT IT READS IS OF BULK AT MOST 1048576: true; the input reads as it did. -/
def tokenKnownUptoRow : OpenClaim := { program := "ytdndomjmnlpjgaa", sum := "3620836db7e42f6b4a076f0e465223d3e8569dc360e3a0e1541548f7a0c37c1d", func := "stenotype/stenotypelaw07.TokenKnown", spec := "tokenKnown", inPlace := ["internal/abi.NoEscape", "internal/bytealg.MakeNoZero"], apart := false, narrowed := true }
def TokenKnownUptoSaid : Prop := tokenKnownUptoRow.holds Try.pinned (OpenSpec.upto tokenKnownSpec)

end Rows
end Go.Proofs.Ytdndomjmnlpjgaa
