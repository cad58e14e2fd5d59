/-
  No cell of these rows narrows 'for every input' (looked for: loops, veiled, ifaces, maps, wideKeys, modest, calm, conditions, laid).
  DERIVED. THE GIVEN ROWS OF THIS SEAT. 8 by the template 'for every input the law returns true; each argument reads behind the call as it read before'; 0 by the template 'total and deterministic' (their statements: YtapdacjpmmjlhaaTotals.lean).
  GIVEN WITH THE SEED: the statements are not yours to turn. If you find one false, say at which input.
  Laid BY PROGRAM, IN A SANDBOX (cutbox-rows.mjs): the forced cells as the released guide's own fill.sh prints them over the translation cb603c5b0600e9aa… (all of the seat's roots in one cut). By AI agents, Wed Nov 11 2026. No macro, syntax, notation, axiom, sorry.
-/
import Derived.Test.YtapdacjpmmjlhaaChecked
import GoSem.Claim
import GoSem.ClaimJoined
import GoSem.ClaimMapViews
import Derived.JoinedTies
import Derived.KernelRfl
namespace Go.Proofs.Ytapdacjpmmjlhaa
/- THE CELL 'sum', in the pinned program and in every row, IS THE sha256 OF THE DUMP (.gsa) THAT YtapdacjpmmjlhaaProg.lean LOADS. Nothing in Lean hashes anything: it is a label: what it is worth is what the hold of that sum in a sandbox is worth. -/
noncomputable def Try.pinned : Pinned := { name := "ytapdacjpmmjlhaa", sum := "cb603c5b0600e9aa3684e39f735d617cdbb371bb93b5c341f7460cf8d9b7e34d", checked := Try.checked }
namespace Rows
def none {H : Type} : Left H := { results := [], args := [] }

/-- 'docketlaw05.LogFrames': WHATEVER THE INPUT: true; the input reads as it did. -/
def logFramesSpec : ChangeSpec := { name := "logFrames", fn := fun _ => fun
  | [d1, d2, d3, d4, d5] => { results := [.lit (.bool true)], args := [d1, d2, d3, d4, d5] }
  | _ => none }
def logFramesRow : OpenClaim := { program := "ytapdacjpmmjlhaa", sum := "cb603c5b0600e9aa3684e39f735d617cdbb371bb93b5c341f7460cf8d9b7e34d", func := "docket/docketlaw05.LogFrames", spec := "logFrames", apart := false }
def LogFramesSaid : Prop := logFramesRow.holds Try.pinned (OpenSpec.ofChange logFramesSpec)

/-- ITS FALSE NEIGHBOUR: 'it returns false'. Refute it at one input. -/
def logFramesWrong : ChangeSpec := { name := "logFrames", fn := fun _ => fun
  | [d1, d2, d3, d4, d5] => { results := [.lit (.bool false)], args := [d1, d2, d3, d4, d5] }
  | _ => none }
def LogFramesWrongFalsely : Prop := logFramesRow.holds Try.pinned (OpenSpec.ofChange logFramesWrong)

/-- 'docketlaw05.LogTurns': WHATEVER THE INPUT: true; the input reads as it did. -/
def logTurnsSpec : ChangeSpec := { name := "logTurns", fn := fun _ => fun
  | [d1, d2] => { results := [.lit (.bool true)], args := [d1, d2] }
  | _ => none }
def logTurnsRow : OpenClaim := { program := "ytapdacjpmmjlhaa", sum := "cb603c5b0600e9aa3684e39f735d617cdbb371bb93b5c341f7460cf8d9b7e34d", func := "docket/docketlaw05.LogTurns", spec := "logTurns", apart := false }
def LogTurnsSaid : Prop := logTurnsRow.holds Try.pinned (OpenSpec.ofChange logTurnsSpec)

/-- ITS FALSE NEIGHBOUR: 'it returns false'. Refute it at one input. -/
def logTurnsWrong : ChangeSpec := { name := "logTurns", fn := fun _ => fun
  | [d1, d2] => { results := [.lit (.bool false)], args := [d1, d2] }
  | _ => none }
def LogTurnsWrongFalsely : Prop := logTurnsRow.holds Try.pinned (OpenSpec.ofChange logTurnsWrong)

/-- 'docketlaw05.LogBack': WHATEVER THE INPUT: true; the input reads as it did. -/
def logBackSpec : ChangeSpec := { name := "logBack", fn := fun _ => fun
  | [d1, d2, d3, d4, d5] => { results := [.lit (.bool true)], args := [d1, d2, d3, d4, d5] }
  | _ => none }
def logBackRow : OpenClaim := { program := "ytapdacjpmmjlhaa", sum := "cb603c5b0600e9aa3684e39f735d617cdbb371bb93b5c341f7460cf8d9b7e34d", func := "docket/docketlaw05.LogBack", spec := "logBack", unfollowed := true, recurses := true, apart := false }
def LogBackSaid : Prop := logBackRow.holds Try.pinned (OpenSpec.ofChange logBackSpec)

/-- ITS FALSE NEIGHBOUR: 'it returns false'. Refute it at one input. -/
def logBackWrong : ChangeSpec := { name := "logBack", fn := fun _ => fun
  | [d1, d2, d3, d4, d5] => { results := [.lit (.bool false)], args := [d1, d2, d3, d4, d5] }
  | _ => none }
def LogBackWrongFalsely : Prop := logBackRow.holds Try.pinned (OpenSpec.ofChange logBackWrong)

/-- 'docketlaw05.LogNames': WHATEVER THE INPUT: true; the input reads as it did. -/
def logNamesSpec : ChangeSpec := { name := "logNames", fn := fun _ => fun
  | [] => { results := [.lit (.bool true)], args := [] }
  | _ => none }
def logNamesRow : OpenClaim := { program := "ytapdacjpmmjlhaa", sum := "cb603c5b0600e9aa3684e39f735d617cdbb371bb93b5c341f7460cf8d9b7e34d", func := "docket/docketlaw05.LogNames", spec := "logNames", unfollowed := true, recurses := true, apart := false }
def LogNamesSaid : Prop := logNamesRow.holds Try.pinned (OpenSpec.ofChange logNamesSpec)

/-- ITS FALSE NEIGHBOUR: 'it returns false'. Refute it at one input. -/
def logNamesWrong : ChangeSpec := { name := "logNames", fn := fun _ => fun
  | [] => { results := [.lit (.bool false)], args := [] }
  | _ => none }
def LogNamesWrongFalsely : Prop := logNamesRow.holds Try.pinned (OpenSpec.ofChange logNamesWrong)

/-- 'docketlaw05.LogGrows': WHATEVER THE INPUT: true; the input reads as it did. -/
def logGrowsSpec : ChangeSpec := { name := "logGrows", fn := fun _ => fun
  | [d1, d2] => { results := [.lit (.bool true)], args := [d1, d2] }
  | _ => none }
def logGrowsRow : OpenClaim := { program := "ytapdacjpmmjlhaa", sum := "cb603c5b0600e9aa3684e39f735d617cdbb371bb93b5c341f7460cf8d9b7e34d", func := "docket/docketlaw05.LogGrows", spec := "logGrows", unfollowed := true, recurses := true, apart := false }
def LogGrowsSaid : Prop := logGrowsRow.holds Try.pinned (OpenSpec.ofChange logGrowsSpec)

/-- ITS FALSE NEIGHBOUR: 'it returns false'. Refute it at one input. -/
def logGrowsWrong : ChangeSpec := { name := "logGrows", fn := fun _ => fun
  | [d1, d2] => { results := [.lit (.bool false)], args := [d1, d2] }
  | _ => none }
def LogGrowsWrongFalsely : Prop := logGrowsRow.holds Try.pinned (OpenSpec.ofChange logGrowsWrong)

/-- 'docketlaw05.LogTorn': WHATEVER THE INPUT: true; the input reads as it did. -/
def logTornSpec : ChangeSpec := { name := "logTorn", fn := fun _ => fun
  | [d1, d2, d3, d4, d5] => { results := [.lit (.bool true)], args := [d1, d2, d3, d4, d5] }
  | _ => none }
def logTornRow : OpenClaim := { program := "ytapdacjpmmjlhaa", sum := "cb603c5b0600e9aa3684e39f735d617cdbb371bb93b5c341f7460cf8d9b7e34d", func := "docket/docketlaw05.LogTorn", spec := "logTorn", unfollowed := true, recurses := true, apart := false }
def LogTornSaid : Prop := logTornRow.holds Try.pinned (OpenSpec.ofChange logTornSpec)

/-- ITS FALSE NEIGHBOUR: 'it returns false'. Refute it at one input. -/
def logTornWrong : ChangeSpec := { name := "logTorn", fn := fun _ => fun
  | [d1, d2, d3, d4, d5] => { results := [.lit (.bool false)], args := [d1, d2, d3, d4, d5] }
  | _ => none }
def LogTornWrongFalsely : Prop := logTornRow.holds Try.pinned (OpenSpec.ofChange logTornWrong)

/-- 'docketlaw05.LogAnew': WHATEVER THE INPUT: true; the input reads as it did. -/
def logAnewSpec : ChangeSpec := { name := "logAnew", fn := fun _ => fun
  | [d1, d2, d3, d4, d5] => { results := [.lit (.bool true)], args := [d1, d2, d3, d4, d5] }
  | _ => none }
def logAnewRow : OpenClaim := { program := "ytapdacjpmmjlhaa", sum := "cb603c5b0600e9aa3684e39f735d617cdbb371bb93b5c341f7460cf8d9b7e34d", func := "docket/docketlaw05.LogAnew", spec := "logAnew", unfollowed := true, recurses := true, apart := false }
def LogAnewSaid : Prop := logAnewRow.holds Try.pinned (OpenSpec.ofChange logAnewSpec)

/-- ITS FALSE NEIGHBOUR: 'it returns false'. Refute it at one input. -/
def logAnewWrong : ChangeSpec := { name := "logAnew", fn := fun _ => fun
  | [d1, d2, d3, d4, d5] => { results := [.lit (.bool false)], args := [d1, d2, d3, d4, d5] }
  | _ => none }
def LogAnewWrongFalsely : Prop := logAnewRow.holds Try.pinned (OpenSpec.ofChange logAnewWrong)

/-- 'docketlaw05.LogEmptied': WHATEVER THE INPUT: true; the input reads as it did. -/
def logEmptiedSpec : ChangeSpec := { name := "logEmptied", fn := fun _ => fun
  | [d1, d2, d3] => { results := [.lit (.bool true)], args := [d1, d2, d3] }
  | _ => none }
def logEmptiedRow : OpenClaim := { program := "ytapdacjpmmjlhaa", sum := "cb603c5b0600e9aa3684e39f735d617cdbb371bb93b5c341f7460cf8d9b7e34d", func := "docket/docketlaw05.LogEmptied", spec := "logEmptied", unfollowed := true, recurses := true, apart := false }
def LogEmptiedSaid : Prop := logEmptiedRow.holds Try.pinned (OpenSpec.ofChange logEmptiedSpec)

/-- ITS FALSE NEIGHBOUR: 'it returns false'. Refute it at one input. -/
def logEmptiedWrong : ChangeSpec := { name := "logEmptied", fn := fun _ => fun
  | [d1, d2, d3] => { results := [.lit (.bool false)], args := [d1, d2, d3] }
  | _ => none }
def LogEmptiedWrongFalsely : Prop := logEmptiedRow.holds Try.pinned (OpenSpec.ofChange logEmptiedWrong)

/- THE SECOND FORM. 'bulk': how many values and letters a reading holds, each counted each time it is reached (what is shared counts as often as it is met; a slice's spare places count too). A statement '..UptoSaid' is the law's where the arguments, and the package variables that the reading takes, are together of bulk at most 1048576: NARROWER than '..Said'. Prove '..Said' where nothing that the law and all that it calls make is longer than what came in: it says more and counts as full. Else prove '..UptoSaid'. A law counts once. -/
mutual
def uptoBulk {H : Type} : DataW H → Nat
  | .lit (.string bytes) => bytes.length + 1
  | .lit _ => 1
  | .nil => 1
  | .ptr d => uptoBulk d + 1
  | .slice elems spare => uptoBulkAll elems + uptoBulkAll spare + 1
  | .agg parts => uptoBulkAll parts + 1
  | .iface _ d => uptoBulk d + 1
  | .map entries => uptoBulkEntries entries + 1
  | .held _ => 1
def uptoBulkAll {H : Type} : List (DataW H) → Nat
  | [] => 0
  | d :: r => uptoBulk d + uptoBulkAll r
def uptoBulkEntries {H : Type} : List (Lit × DataW H) → Nat
  | [] => 0
  | x :: r => uptoBulkEntry x + uptoBulkEntries r
def uptoBulkEntry {H : Type} : Lit × DataW H → Nat
  | (.string bytes, d) => bytes.length + uptoBulk d + 1
  | (_, d) => uptoBulk d + 1
 end
def uptoSmall : (H : Type) → List (DataW H) → Bool := fun _ ds => decide (uptoBulkAll ds ≤ 1048576)
def OpenSpec.upto (s : _root_.Go.ChangeSpec) : _root_.Go.OpenSpec := { _root_.Go.OpenSpec.ofChange s with cond := some uptoSmall }

/-- 'docketlaw05.LogFrames', WHERE WHAT IT READS IS OF BULK AT MOST 1048576: true; the input reads as it did. -/
def logFramesUptoRow : OpenClaim := { program := "ytapdacjpmmjlhaa", sum := "cb603c5b0600e9aa3684e39f735d617cdbb371bb93b5c341f7460cf8d9b7e34d", func := "docket/docketlaw05.LogFrames", spec := "logFrames", apart := false, narrowed := true }
def LogFramesUptoSaid : Prop := logFramesUptoRow.holds Try.pinned (OpenSpec.upto logFramesSpec)

/-- 'docketlaw05.LogTurns', WHERE WHAT IT READS IS OF BULK AT MOST 1048576: true; the input reads as it did. -/
def logTurnsUptoRow : OpenClaim := { program := "ytapdacjpmmjlhaa", sum := "cb603c5b0600e9aa3684e39f735d617cdbb371bb93b5c341f7460cf8d9b7e34d", func := "docket/docketlaw05.LogTurns", spec := "logTurns", apart := false, narrowed := true }
def LogTurnsUptoSaid : Prop := logTurnsUptoRow.holds Try.pinned (OpenSpec.upto logTurnsSpec)

/-- 'docketlaw05.LogBack', WHERE WHAT IT READS IS OF BULK AT MOST 1048576: true; the input reads as it did. -/
def logBackUptoRow : OpenClaim := { program := "ytapdacjpmmjlhaa", sum := "cb603c5b0600e9aa3684e39f735d617cdbb371bb93b5c341f7460cf8d9b7e34d", func := "docket/docketlaw05.LogBack", spec := "logBack", unfollowed := true, recurses := true, apart := false, narrowed := true }
def LogBackUptoSaid : Prop := logBackUptoRow.holds Try.pinned (OpenSpec.upto logBackSpec)

/-- 'docketlaw05.LogNames', WHERE WHAT IT READS IS OF BULK AT MOST 1048576: true; the input reads as it did. -/
def logNamesUptoRow : OpenClaim := { program := "ytapdacjpmmjlhaa", sum := "cb603c5b0600e9aa3684e39f735d617cdbb371bb93b5c341f7460cf8d9b7e34d", func := "docket/docketlaw05.LogNames", spec := "logNames", unfollowed := true, recurses := true, apart := false, narrowed := true }
def LogNamesUptoSaid : Prop := logNamesUptoRow.holds Try.pinned (OpenSpec.upto logNamesSpec)

/-- 'docketlaw05.LogGrows', WHERE WHAT IT READS IS OF BULK AT MOST 1048576: true; the input reads as it did. -/
def logGrowsUptoRow : OpenClaim := { program := "ytapdacjpmmjlhaa", sum := "cb603c5b0600e9aa3684e39f735d617cdbb371bb93b5c341f7460cf8d9b7e34d", func := "docket/docketlaw05.LogGrows", spec := "logGrows", unfollowed := true, recurses := true, apart := false, narrowed := true }
def LogGrowsUptoSaid : Prop := logGrowsUptoRow.holds Try.pinned (OpenSpec.upto logGrowsSpec)

/-- 'docketlaw05.LogTorn', WHERE WHAT IT READS IS OF BULK AT MOST 1048576: true; the input reads as it did. -/
def logTornUptoRow : OpenClaim := { program := "ytapdacjpmmjlhaa", sum := "cb603c5b0600e9aa3684e39f735d617cdbb371bb93b5c341f7460cf8d9b7e34d", func := "docket/docketlaw05.LogTorn", spec := "logTorn", unfollowed := true, recurses := true, apart := false, narrowed := true }
def LogTornUptoSaid : Prop := logTornUptoRow.holds Try.pinned (OpenSpec.upto logTornSpec)

/-- 'docketlaw05.LogAnew', WHERE WHAT IT READS IS OF BULK AT MOST 1048576: true; the input reads as it did. -/
def logAnewUptoRow : OpenClaim := { program := "ytapdacjpmmjlhaa", sum := "cb603c5b0600e9aa3684e39f735d617cdbb371bb93b5c341f7460cf8d9b7e34d", func := "docket/docketlaw05.LogAnew", spec := "logAnew", unfollowed := true, recurses := true, apart := false, narrowed := true }
def LogAnewUptoSaid : Prop := logAnewUptoRow.holds Try.pinned (OpenSpec.upto logAnewSpec)

/-- 'docketlaw05.LogEmptied', WHERE WHAT IT READS IS OF BULK AT MOST 1048576: true; the input reads as it did. -/
def logEmptiedUptoRow : OpenClaim := { program := "ytapdacjpmmjlhaa", sum := "cb603c5b0600e9aa3684e39f735d617cdbb371bb93b5c341f7460cf8d9b7e34d", func := "docket/docketlaw05.LogEmptied", spec := "logEmptied", unfollowed := true, recurses := true, apart := false, narrowed := true }
def LogEmptiedUptoSaid : Prop := logEmptiedUptoRow.holds Try.pinned (OpenSpec.upto logEmptiedSpec)

end Rows
end Go.Proofs.Ytapdacjpmmjlhaa
