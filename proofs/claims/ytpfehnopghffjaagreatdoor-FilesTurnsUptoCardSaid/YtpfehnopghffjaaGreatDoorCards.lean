/-
  DERIVED. GIVEN WITH THE SEED: THE CARDS: each row of YtpfehnopghffjaaGreatDoorRows.lean that lists a variable, with what it lists TIED to the program's text (the seventh form; the later family's looks); each row that meets fmt, with fmt's text TOLD by the authors' own Lean function (tested against real Go, not proved from fmt's source: count such statements apart). THE CARD IS WHAT COUNTS. Prove the row's statement (the work); the ties are given (YtpfehnopghffjaaGreatDoorTie.lean); close each card by the builder's one call (the guide's Derived/Test/ToyasCard.lean, 'card_holds'). Laid BY PROGRAM, IN A SANDBOX (cutbox-door.mjs). By AI agents, Wed Nov 11 2026. No macro, syntax, notation, axiom, sorry.
-/
import Derived.Test.YtpfehnopghffjaaGreatDoorRows
import GoSem.ClaimSeven
namespace Go.Proofs.YtpfehnopghffjaaGreatDoor
namespace Rows

/-- THE TIED CARD OF 'docketlaw04.FilesDirs'. -/
def filesDirsCard : Claim7 := { stood := { row := filesDirsRow, standIns := [], harness := (true, "3729f27b4b2bf729347265a533c1dd5dcb5fcf5a2dafabf004e5e0cc3189c0fc"), looks := true }, kinds := [], alts := [], laidByText := true, laidKinds := [.data, .handle, .pinned], laidTests := true, laidLooks := .later }
def FilesDirsCardSaid : Prop := Claim7.holds Tryz.pinned (.plain (OpenSpec.ofChange filesDirsSpec)) filesDirsCard

/-- THE TIED CARD OF 'docketlaw04.FilesReads'. -/
def filesReadsCard : Claim7 := { stood := { row := filesReadsRow, standIns := [], harness := (true, "3729f27b4b2bf729347265a533c1dd5dcb5fcf5a2dafabf004e5e0cc3189c0fc"), looks := true }, kinds := [], alts := [], laidByText := true, laidKinds := [.data, .handle, .pinned], laidTests := true, laidLooks := .later }
def FilesReadsCardSaid : Prop := Claim7.holds Tryz.pinned (.plain (OpenSpec.ofChange filesReadsSpec)) filesReadsCard

/-- THE TIED CARD OF 'docketlaw04.FilesTurns'. -/
def filesTurnsCard : Claim7 := { stood := { row := filesTurnsRow, standIns := [], harness := (true, "3729f27b4b2bf729347265a533c1dd5dcb5fcf5a2dafabf004e5e0cc3189c0fc"), looks := true }, kinds := [], alts := [], laidByText := true, laidKinds := [.data, .handle, .pinned], laidTests := true, laidLooks := .later }
def FilesTurnsCardSaid : Prop := Claim7.holds Tryz.pinned (.plain (OpenSpec.ofChange filesTurnsSpec)) filesTurnsCard

/-- THE TIED CARD OF 'docketlaw04.FilesBack'. -/
def filesBackCard : Claim7 := { stood := { row := filesBackRow, standIns := [], harness := (true, "3729f27b4b2bf729347265a533c1dd5dcb5fcf5a2dafabf004e5e0cc3189c0fc"), looks := true }, kinds := [], alts := [], laidByText := true, laidKinds := [.data, .handle, .pinned], laidTests := true, laidLooks := .later }
def FilesBackCardSaid : Prop := Claim7.holds Tryz.pinned (.plain (OpenSpec.ofChange filesBackSpec)) filesBackCard

/-- THE TIED CARD OF 'docketlaw04.FilesDone'. -/
def filesDoneCard : Claim7 := { stood := { row := filesDoneRow, standIns := [], harness := (true, "3729f27b4b2bf729347265a533c1dd5dcb5fcf5a2dafabf004e5e0cc3189c0fc"), looks := true }, kinds := [], alts := [], laidByText := true, laidKinds := [.data, .handle, .pinned], laidTests := true, laidLooks := .later }
def FilesDoneCardSaid : Prop := Claim7.holds Tryz.pinned (.plain (OpenSpec.ofChange filesDoneSpec)) filesDoneCard

/-- THE TIED CARD OF 'docketlaw04.FilesNames'. -/
def filesNamesCard : Claim7 := { stood := { row := filesNamesRow, standIns := [], harness := (true, "3729f27b4b2bf729347265a533c1dd5dcb5fcf5a2dafabf004e5e0cc3189c0fc"), looks := true }, kinds := [], alts := [], laidByText := true, laidKinds := [.data, .handle, .pinned], laidTests := true, laidLooks := .later }
def FilesNamesCardSaid : Prop := Claim7.holds Tryz.pinned (.plain (OpenSpec.ofChange filesNamesSpec)) filesNamesCard

/-- THE TIED CARD OF 'docketlaw04.FilesRoom'. -/
def filesRoomCard : Claim7 := { stood := { row := filesRoomRow, standIns := [], harness := (true, "3729f27b4b2bf729347265a533c1dd5dcb5fcf5a2dafabf004e5e0cc3189c0fc"), looks := true }, kinds := [], alts := [], laidByText := true, laidKinds := [.data, .handle, .pinned], laidTests := true, laidLooks := .later }
def FilesRoomCardSaid : Prop := Claim7.holds Tryz.pinned (.plain (OpenSpec.ofChange filesRoomSpec)) filesRoomCard

/-- THE TIED CARD OF 'docketlaw04.FilesCrash'. -/
def filesCrashCard : Claim7 := { stood := { row := filesCrashRow, standIns := [], harness := (true, "3729f27b4b2bf729347265a533c1dd5dcb5fcf5a2dafabf004e5e0cc3189c0fc"), looks := true }, kinds := [], alts := [], laidByText := true, laidKinds := [.data, .handle, .pinned], laidTests := true, laidLooks := .later }
def FilesCrashCardSaid : Prop := Claim7.holds Tryz.pinned (.plain (OpenSpec.ofChange filesCrashSpec)) filesCrashCard

/-- THE TIED CARD OF 'docketlaw04.FilesTwice'. -/
def filesTwiceCard : Claim7 := { stood := { row := filesTwiceRow, standIns := [], harness := (true, "3729f27b4b2bf729347265a533c1dd5dcb5fcf5a2dafabf004e5e0cc3189c0fc"), looks := true }, kinds := [], alts := [], laidByText := true, laidKinds := [.data, .handle, .pinned], laidTests := true, laidLooks := .later }
def FilesTwiceCardSaid : Prop := Claim7.holds Tryz.pinned (.plain (OpenSpec.ofChange filesTwiceSpec)) filesTwiceCard

/-- THE SECOND FORM's CARD OF 'docketlaw04.FilesDirs'. -/
def filesDirsUptoCard : Claim7 := { stood := { row := filesDirsUptoRow, standIns := [], harness := (true, "3729f27b4b2bf729347265a533c1dd5dcb5fcf5a2dafabf004e5e0cc3189c0fc"), looks := true }, kinds := [], alts := [], laidByText := true, laidKinds := [.data, .handle, .pinned], laidTests := true, laidLooks := .later }
def FilesDirsUptoCardSaid : Prop := Claim7.holds Tryz.pinned (.plain (OpenSpec.upto filesDirsSpec)) filesDirsUptoCard

/-- THE SECOND FORM's CARD OF 'docketlaw04.FilesReads'. -/
def filesReadsUptoCard : Claim7 := { stood := { row := filesReadsUptoRow, standIns := [], harness := (true, "3729f27b4b2bf729347265a533c1dd5dcb5fcf5a2dafabf004e5e0cc3189c0fc"), looks := true }, kinds := [], alts := [], laidByText := true, laidKinds := [.data, .handle, .pinned], laidTests := true, laidLooks := .later }
def FilesReadsUptoCardSaid : Prop := Claim7.holds Tryz.pinned (.plain (OpenSpec.upto filesReadsSpec)) filesReadsUptoCard

/-- THE SECOND FORM's CARD OF 'docketlaw04.FilesTurns'. -/
def filesTurnsUptoCard : Claim7 := { stood := { row := filesTurnsUptoRow, standIns := [], harness := (true, "3729f27b4b2bf729347265a533c1dd5dcb5fcf5a2dafabf004e5e0cc3189c0fc"), looks := true }, kinds := [], alts := [], laidByText := true, laidKinds := [.data, .handle, .pinned], laidTests := true, laidLooks := .later }
def FilesTurnsUptoCardSaid : Prop := Claim7.holds Tryz.pinned (.plain (OpenSpec.upto filesTurnsSpec)) filesTurnsUptoCard

/-- THE SECOND FORM's CARD OF 'docketlaw04.FilesBack'. -/
def filesBackUptoCard : Claim7 := { stood := { row := filesBackUptoRow, standIns := [], harness := (true, "3729f27b4b2bf729347265a533c1dd5dcb5fcf5a2dafabf004e5e0cc3189c0fc"), looks := true }, kinds := [], alts := [], laidByText := true, laidKinds := [.data, .handle, .pinned], laidTests := true, laidLooks := .later }
def FilesBackUptoCardSaid : Prop := Claim7.holds Tryz.pinned (.plain (OpenSpec.upto filesBackSpec)) filesBackUptoCard

/-- THE SECOND FORM's CARD OF 'docketlaw04.FilesDone'. -/
def filesDoneUptoCard : Claim7 := { stood := { row := filesDoneUptoRow, standIns := [], harness := (true, "3729f27b4b2bf729347265a533c1dd5dcb5fcf5a2dafabf004e5e0cc3189c0fc"), looks := true }, kinds := [], alts := [], laidByText := true, laidKinds := [.data, .handle, .pinned], laidTests := true, laidLooks := .later }
def FilesDoneUptoCardSaid : Prop := Claim7.holds Tryz.pinned (.plain (OpenSpec.upto filesDoneSpec)) filesDoneUptoCard

/-- THE SECOND FORM's CARD OF 'docketlaw04.FilesNames'. -/
def filesNamesUptoCard : Claim7 := { stood := { row := filesNamesUptoRow, standIns := [], harness := (true, "3729f27b4b2bf729347265a533c1dd5dcb5fcf5a2dafabf004e5e0cc3189c0fc"), looks := true }, kinds := [], alts := [], laidByText := true, laidKinds := [.data, .handle, .pinned], laidTests := true, laidLooks := .later }
def FilesNamesUptoCardSaid : Prop := Claim7.holds Tryz.pinned (.plain (OpenSpec.upto filesNamesSpec)) filesNamesUptoCard

/-- THE SECOND FORM's CARD OF 'docketlaw04.FilesRoom'. -/
def filesRoomUptoCard : Claim7 := { stood := { row := filesRoomUptoRow, standIns := [], harness := (true, "3729f27b4b2bf729347265a533c1dd5dcb5fcf5a2dafabf004e5e0cc3189c0fc"), looks := true }, kinds := [], alts := [], laidByText := true, laidKinds := [.data, .handle, .pinned], laidTests := true, laidLooks := .later }
def FilesRoomUptoCardSaid : Prop := Claim7.holds Tryz.pinned (.plain (OpenSpec.upto filesRoomSpec)) filesRoomUptoCard

/-- THE SECOND FORM's CARD OF 'docketlaw04.FilesCrash'. -/
def filesCrashUptoCard : Claim7 := { stood := { row := filesCrashUptoRow, standIns := [], harness := (true, "3729f27b4b2bf729347265a533c1dd5dcb5fcf5a2dafabf004e5e0cc3189c0fc"), looks := true }, kinds := [], alts := [], laidByText := true, laidKinds := [.data, .handle, .pinned], laidTests := true, laidLooks := .later }
def FilesCrashUptoCardSaid : Prop := Claim7.holds Tryz.pinned (.plain (OpenSpec.upto filesCrashSpec)) filesCrashUptoCard

/-- THE SECOND FORM's CARD OF 'docketlaw04.FilesTwice'. -/
def filesTwiceUptoCard : Claim7 := { stood := { row := filesTwiceUptoRow, standIns := [], harness := (true, "3729f27b4b2bf729347265a533c1dd5dcb5fcf5a2dafabf004e5e0cc3189c0fc"), looks := true }, kinds := [], alts := [], laidByText := true, laidKinds := [.data, .handle, .pinned], laidTests := true, laidLooks := .later }
def FilesTwiceUptoCardSaid : Prop := Claim7.holds Tryz.pinned (.plain (OpenSpec.upto filesTwiceSpec)) filesTwiceUptoCard
end Rows
end Go.Proofs.YtpfehnopghffjaaGreatDoor
