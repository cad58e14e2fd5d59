/-
  No cell of these rows narrows 'for every input' (looked for: loops, veiled, ifaces, maps, wideKeys, modest, calm, conditions, laid).
  DERIVED. THE GIVEN ROWS OF THIS SEAT. 6 by the template 'for every input the law returns true; each argument reads behind the call as it read before'; 0 by the template 'total and deterministic' (their statements: YtagjfplipknlkaaTotals.lean).
  GIVEN WITH THE SEED: the statements are not yours to turn. If you find one false, say at which input.
  Laid BY PROGRAM, IN A SANDBOX (cutbox-rows.mjs): the forced cells as the released guide's own fill.sh prints them over the translation 842ad78869315606… (all of the seat's roots in one cut). By AI agents, Wed Nov 11 2026. No macro, syntax, notation, axiom, sorry.
-/
import Derived.Test.YtagjfplipknlkaaChecked
import GoSem.Claim
import GoSem.ClaimJoined
import GoSem.ClaimMapViews
import Derived.JoinedTies
import Derived.KernelRfl
namespace Go.Proofs.Ytagjfplipknlkaa
/- THE CELL 'sum', in the pinned program and in every row, IS THE sha256 OF THE DUMP (.gsa) THAT YtagjfplipknlkaaProg.lean LOADS. Nothing in Lean hashes anything: it is a label: what it is worth is what the hold of that sum in a sandbox is worth. -/
noncomputable def Try.pinned : Pinned := { name := "ytagjfplipknlkaa", sum := "842ad78869315606bd2cbab383cb6a1203cd22924a2aa755c33862d4863e6b16", checked := Try.checked }
namespace Rows
def none {H : Type} : Left H := { results := [], args := [] }

/-- 'docketlaw03.RoomWhole': WHATEVER THE INPUT: true; the input reads as it did. -/
def roomWholeSpec : ChangeSpec := { name := "roomWhole", fn := fun _ => fun
  | [d1, d2, d3] => { results := [.lit (.bool true)], args := [d1, d2, d3] }
  | _ => none }
def roomWholeRow : OpenClaim := { program := "ytagjfplipknlkaa", sum := "842ad78869315606bd2cbab383cb6a1203cd22924a2aa755c33862d4863e6b16", func := "docket/docketlaw03.RoomWhole", spec := "roomWhole", unfollowed := true, recurses := true, apart := false }
def RoomWholeSaid : Prop := roomWholeRow.holds Try.pinned (OpenSpec.ofChange roomWholeSpec)

/-- ITS FALSE NEIGHBOUR: 'it returns false'. Refute it at one input. -/
def roomWholeWrong : ChangeSpec := { name := "roomWhole", fn := fun _ => fun
  | [d1, d2, d3] => { results := [.lit (.bool false)], args := [d1, d2, d3] }
  | _ => none }
def RoomWholeWrongFalsely : Prop := roomWholeRow.holds Try.pinned (OpenSpec.ofChange roomWholeWrong)

/-- 'docketlaw03.RoomTells': WHATEVER THE INPUT: true; the input reads as it did. -/
def roomTellsSpec : ChangeSpec := { name := "roomTells", fn := fun _ => fun
  | [d] => { results := [.lit (.bool true)], args := [d] }
  | _ => none }
def roomTellsRow : OpenClaim := { program := "ytagjfplipknlkaa", sum := "842ad78869315606bd2cbab383cb6a1203cd22924a2aa755c33862d4863e6b16", func := "docket/docketlaw03.RoomTells", spec := "roomTells", unfollowed := true, recurses := true, apart := false }
def RoomTellsSaid : Prop := roomTellsRow.holds Try.pinned (OpenSpec.ofChange roomTellsSpec)

/-- ITS FALSE NEIGHBOUR: 'it returns false'. Refute it at one input. -/
def roomTellsWrong : ChangeSpec := { name := "roomTells", fn := fun _ => fun
  | [d] => { results := [.lit (.bool false)], args := [d] }
  | _ => none }
def RoomTellsWrongFalsely : Prop := roomTellsRow.holds Try.pinned (OpenSpec.ofChange roomTellsWrong)

/-- 'docketlaw03.RoomJoined': WHATEVER THE INPUT: true; the input reads as it did. -/
def roomJoinedSpec : ChangeSpec := { name := "roomJoined", fn := fun _ => fun
  | [d] => { results := [.lit (.bool true)], args := [d] }
  | _ => none }
def roomJoinedRow : OpenClaim := { program := "ytagjfplipknlkaa", sum := "842ad78869315606bd2cbab383cb6a1203cd22924a2aa755c33862d4863e6b16", func := "docket/docketlaw03.RoomJoined", spec := "roomJoined", unfollowed := true, recurses := true, apart := false }
def RoomJoinedSaid : Prop := roomJoinedRow.holds Try.pinned (OpenSpec.ofChange roomJoinedSpec)

/-- ITS FALSE NEIGHBOUR: 'it returns false'. Refute it at one input. -/
def roomJoinedWrong : ChangeSpec := { name := "roomJoined", fn := fun _ => fun
  | [d] => { results := [.lit (.bool false)], args := [d] }
  | _ => none }
def RoomJoinedWrongFalsely : Prop := roomJoinedRow.holds Try.pinned (OpenSpec.ofChange roomJoinedWrong)

/-- 'docketlaw03.RoomTakes': WHATEVER THE INPUT: true; the input reads as it did. -/
def roomTakesSpec : ChangeSpec := { name := "roomTakes", fn := fun _ => fun
  | [d1, d2, d3, d4] => { results := [.lit (.bool true)], args := [d1, d2, d3, d4] }
  | _ => none }
def roomTakesRow : OpenClaim := { program := "ytagjfplipknlkaa", sum := "842ad78869315606bd2cbab383cb6a1203cd22924a2aa755c33862d4863e6b16", func := "docket/docketlaw03.RoomTakes", spec := "roomTakes", unfollowed := true, recurses := true, apart := false }
def RoomTakesSaid : Prop := roomTakesRow.holds Try.pinned (OpenSpec.ofChange roomTakesSpec)

/-- ITS FALSE NEIGHBOUR: 'it returns false'. Refute it at one input. -/
def roomTakesWrong : ChangeSpec := { name := "roomTakes", fn := fun _ => fun
  | [d1, d2, d3, d4] => { results := [.lit (.bool false)], args := [d1, d2, d3, d4] }
  | _ => none }
def RoomTakesWrongFalsely : Prop := roomTakesRow.holds Try.pinned (OpenSpec.ofChange roomTakesWrong)

/-- 'docketlaw03.RoomFirst': WHATEVER THE INPUT: true; the input reads as it did. -/
def roomFirstSpec : ChangeSpec := { name := "roomFirst", fn := fun _ => fun
  | [d1, d2, d3, d4] => { results := [.lit (.bool true)], args := [d1, d2, d3, d4] }
  | _ => none }
def roomFirstRow : OpenClaim := { program := "ytagjfplipknlkaa", sum := "842ad78869315606bd2cbab383cb6a1203cd22924a2aa755c33862d4863e6b16", func := "docket/docketlaw03.RoomFirst", spec := "roomFirst", unfollowed := true, recurses := true, apart := false }
def RoomFirstSaid : Prop := roomFirstRow.holds Try.pinned (OpenSpec.ofChange roomFirstSpec)

/-- ITS FALSE NEIGHBOUR: 'it returns false'. Refute it at one input. -/
def roomFirstWrong : ChangeSpec := { name := "roomFirst", fn := fun _ => fun
  | [d1, d2, d3, d4] => { results := [.lit (.bool false)], args := [d1, d2, d3, d4] }
  | _ => none }
def RoomFirstWrongFalsely : Prop := roomFirstRow.holds Try.pinned (OpenSpec.ofChange roomFirstWrong)

/-- 'docketlaw03.RoomNames': WHATEVER THE INPUT: true; the input reads as it did. -/
def roomNamesSpec : ChangeSpec := { name := "roomNames", fn := fun _ => fun
  | [] => { results := [.lit (.bool true)], args := [] }
  | _ => none }
def roomNamesRow : OpenClaim := { program := "ytagjfplipknlkaa", sum := "842ad78869315606bd2cbab383cb6a1203cd22924a2aa755c33862d4863e6b16", func := "docket/docketlaw03.RoomNames", spec := "roomNames", unfollowed := true, recurses := true, apart := false }
def RoomNamesSaid : Prop := roomNamesRow.holds Try.pinned (OpenSpec.ofChange roomNamesSpec)

/-- ITS FALSE NEIGHBOUR: 'it returns false'. Refute it at one input. -/
def roomNamesWrong : ChangeSpec := { name := "roomNames", fn := fun _ => fun
  | [] => { results := [.lit (.bool false)], args := [] }
  | _ => none }
def RoomNamesWrongFalsely : Prop := roomNamesRow.holds Try.pinned (OpenSpec.ofChange roomNamesWrong)

/- THE SECOND FORM. 'bulk': how many values and letters a reading holds, each counted each time it is reached (what is shared counts as often as it is met; a slice's spare places count too). A statement '..UptoSaid' is the law's where the arguments, and the package variables that the reading takes, are together of bulk at most 1048576: NARROWER than '..Said'. Prove '..Said' where nothing that the law and all that it calls make is longer than what came in: it says more and counts as full. Else prove '..UptoSaid'. A law counts once. -/
mutual
def uptoBulk {H : Type} : DataW H → Nat
  | .lit (.string bytes) => bytes.length + 1
  | .lit _ => 1
  | .nil => 1
  | .ptr d => uptoBulk d + 1
  | .slice elems spare => uptoBulkAll elems + uptoBulkAll spare + 1
  | .agg parts => uptoBulkAll parts + 1
  | .iface _ d => uptoBulk d + 1
  | .map entries => uptoBulkEntries entries + 1
  | .held _ => 1
def uptoBulkAll {H : Type} : List (DataW H) → Nat
  | [] => 0
  | d :: r => uptoBulk d + uptoBulkAll r
def uptoBulkEntries {H : Type} : List (Lit × DataW H) → Nat
  | [] => 0
  | x :: r => uptoBulkEntry x + uptoBulkEntries r
def uptoBulkEntry {H : Type} : Lit × DataW H → Nat
  | (.string bytes, d) => bytes.length + uptoBulk d + 1
  | (_, d) => uptoBulk d + 1
 end
def uptoSmall : (H : Type) → List (DataW H) → Bool := fun _ ds => decide (uptoBulkAll ds ≤ 1048576)
def OpenSpec.upto (s : _root_.Go.ChangeSpec) : _root_.Go.OpenSpec := { _root_.Go.OpenSpec.ofChange s with cond := some uptoSmall }

/-- 'docketlaw03.RoomWhole', WHERE WHAT IT READS IS OF BULK AT MOST 1048576: true; the input reads as it did. -/
def roomWholeUptoRow : OpenClaim := { program := "ytagjfplipknlkaa", sum := "842ad78869315606bd2cbab383cb6a1203cd22924a2aa755c33862d4863e6b16", func := "docket/docketlaw03.RoomWhole", spec := "roomWhole", unfollowed := true, recurses := true, apart := false, narrowed := true }
def RoomWholeUptoSaid : Prop := roomWholeUptoRow.holds Try.pinned (OpenSpec.upto roomWholeSpec)

/-- 'docketlaw03.RoomTells', WHERE WHAT IT READS IS OF BULK AT MOST 1048576: true; the input reads as it did. -/
def roomTellsUptoRow : OpenClaim := { program := "ytagjfplipknlkaa", sum := "842ad78869315606bd2cbab383cb6a1203cd22924a2aa755c33862d4863e6b16", func := "docket/docketlaw03.RoomTells", spec := "roomTells", unfollowed := true, recurses := true, apart := false, narrowed := true }
def RoomTellsUptoSaid : Prop := roomTellsUptoRow.holds Try.pinned (OpenSpec.upto roomTellsSpec)

/-- 'docketlaw03.RoomJoined', WHERE WHAT IT READS IS OF BULK AT MOST 1048576: true; the input reads as it did. -/
def roomJoinedUptoRow : OpenClaim := { program := "ytagjfplipknlkaa", sum := "842ad78869315606bd2cbab383cb6a1203cd22924a2aa755c33862d4863e6b16", func := "docket/docketlaw03.RoomJoined", spec := "roomJoined", unfollowed := true, recurses := true, apart := false, narrowed := true }
def RoomJoinedUptoSaid : Prop := roomJoinedUptoRow.holds Try.pinned (OpenSpec.upto roomJoinedSpec)

/-- 'docketlaw03.RoomTakes', WHERE WHAT IT READS IS OF BULK AT MOST 1048576: true; the input reads as it did. -/
def roomTakesUptoRow : OpenClaim := { program := "ytagjfplipknlkaa", sum := "842ad78869315606bd2cbab383cb6a1203cd22924a2aa755c33862d4863e6b16", func := "docket/docketlaw03.RoomTakes", spec := "roomTakes", unfollowed := true, recurses := true, apart := false, narrowed := true }
def RoomTakesUptoSaid : Prop := roomTakesUptoRow.holds Try.pinned (OpenSpec.upto roomTakesSpec)

/-- 'docketlaw03.RoomFirst', WHERE WHAT IT READS IS OF BULK AT MOST 1048576: true; the input reads as it did. -/
def roomFirstUptoRow : OpenClaim := { program := "ytagjfplipknlkaa", sum := "842ad78869315606bd2cbab383cb6a1203cd22924a2aa755c33862d4863e6b16", func := "docket/docketlaw03.RoomFirst", spec := "roomFirst", unfollowed := true, recurses := true, apart := false, narrowed := true }
def RoomFirstUptoSaid : Prop := roomFirstUptoRow.holds Try.pinned (OpenSpec.upto roomFirstSpec)

/-- 'docketlaw03.RoomNames', WHERE WHAT IT READS IS OF BULK AT MOST 1048576: true; the input reads as it did. -/
def roomNamesUptoRow : OpenClaim := { program := "ytagjfplipknlkaa", sum := "842ad78869315606bd2cbab383cb6a1203cd22924a2aa755c33862d4863e6b16", func := "docket/docketlaw03.RoomNames", spec := "roomNames", unfollowed := true, recurses := true, apart := false, narrowed := true }
def RoomNamesUptoSaid : Prop := roomNamesUptoRow.holds Try.pinned (OpenSpec.upto roomNamesSpec)

end Rows
end Go.Proofs.Ytagjfplipknlkaa
