/-
  DERIVED. GIVEN WITH THE SEED: THE CARDS: each row of YthliepcjfnjnoaaGreatDoorRows.lean that lists a variable, with what it lists TIED to the program's text (the seventh form; the later family's looks); each row that meets fmt, with fmt's text TOLD by the authors' own Lean function (tested against real Go, not proved from fmt's source: count such statements apart). THE CARD IS WHAT COUNTS. Prove the row's statement (the work); the ties are given (YthliepcjfnjnoaaGreatDoorTie.lean); close each card by the builder's one call (the guide's Derived/Test/ToyasCard.lean, 'card_holds'). Laid BY PROGRAM, IN A SANDBOX (cutbox-door.mjs). By AI agents, Wed Nov 11 2026. No macro, syntax, notation, axiom, sorry.
-/
import Derived.Test.YthliepcjfnjnoaaGreatDoorRows
import GoSem.ClaimSeven
namespace Go.Proofs.YthliepcjfnjnoaaGreatDoor
namespace Rows

/-- THE TIED CARD OF 'docketlaw12.TreeBack'. -/
def treeBackCard : Claim7 := { stood := { row := treeBackRow, standIns := [], harness := (true, "e82854e8559754b792b9d9d9ef2eba611938a4cf7961bf2ec8d722114d3beb73"), looks := true }, kinds := [], alts := [], laidByText := true, laidKinds := [.data, .data, .data, .data, .handle, .sentinel, .sentinel, .pinned], laidTests := true, laidLooks := .later }
def TreeBackCardSaid : Prop := Claim7.holds Tryz.pinned (.plain (OpenSpec.ofChange treeBackSpec)) treeBackCard

/-- THE TIED CARD OF 'docketlaw13.BatchNames'. -/
def batchNamesCard : Claim7 := { stood := { row := batchNamesRow, standIns := [], harness := (true, "e82854e8559754b792b9d9d9ef2eba611938a4cf7961bf2ec8d722114d3beb73"), looks := true }, kinds := [], alts := [], laidByText := true, laidKinds := [.data, .data, .data, .data, .handle, .sentinel, .sentinel, .pinned], laidTests := true, laidLooks := .later }
def BatchNamesCardSaid : Prop := Claim7.holds Tryz.pinned (.plain (OpenSpec.ofChange batchNamesSpec)) batchNamesCard

/-- THE SECOND FORM's CARD OF 'docketlaw12.TreeBack'. -/
def treeBackUptoCard : Claim7 := { stood := { row := treeBackUptoRow, standIns := [], harness := (true, "e82854e8559754b792b9d9d9ef2eba611938a4cf7961bf2ec8d722114d3beb73"), looks := true }, kinds := [], alts := [], laidByText := true, laidKinds := [.data, .data, .data, .data, .handle, .sentinel, .sentinel, .pinned], laidTests := true, laidLooks := .later }
def TreeBackUptoCardSaid : Prop := Claim7.holds Tryz.pinned (.plain (OpenSpec.upto treeBackSpec)) treeBackUptoCard

/-- THE SECOND FORM's CARD OF 'docketlaw13.BatchNames'. -/
def batchNamesUptoCard : Claim7 := { stood := { row := batchNamesUptoRow, standIns := [], harness := (true, "e82854e8559754b792b9d9d9ef2eba611938a4cf7961bf2ec8d722114d3beb73"), looks := true }, kinds := [], alts := [], laidByText := true, laidKinds := [.data, .data, .data, .data, .handle, .sentinel, .sentinel, .pinned], laidTests := true, laidLooks := .later }
def BatchNamesUptoCardSaid : Prop := Claim7.holds Tryz.pinned (.plain (OpenSpec.upto batchNamesSpec)) batchNamesUptoCard
end Rows
end Go.Proofs.YthliepcjfnjnoaaGreatDoor
