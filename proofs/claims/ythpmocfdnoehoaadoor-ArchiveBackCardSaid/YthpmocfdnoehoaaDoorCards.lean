/-
  DERIVED. GIVEN WITH THE SEED: THE CARDS: each row of YthpmocfdnoehoaaDoorRows.lean that lists a variable, with what it lists TIED to the program's text (the seventh form; the later family's looks); each row that meets fmt, with fmt's text TOLD by the authors' own Lean function (tested against real Go, not proved from fmt's source: count such statements apart). THE CARD IS WHAT COUNTS. Prove the row's statement (the work); the ties are given (YthpmocfdnoehoaaDoorTie.lean); close each card by the builder's one call (the guide's Derived/Test/ToyasCard.lean, 'card_holds'). Laid BY PROGRAM, IN A SANDBOX (cutbox-door.mjs). By AI agents, Wed Nov 11 2026. No macro, syntax, notation, axiom, sorry.
-/
import Derived.Test.YthpmocfdnoehoaaDoorRows
import GoSem.ClaimSeven
namespace Go.Proofs.YthpmocfdnoehoaaDoor
namespace Rows

/-- THE TIED CARD OF 'stratalaw11.ArchiveBack'. -/
def archiveBackCard : Claim7 := { stood := { row := archiveBackRow, standIns := [], harness := (true, "2b9e67d71498bfb0526d8260d5ebc2a75b1d2ab37aa011e6ae2a4f98a5ff3018"), looks := true }, kinds := [], alts := [], laidByText := true, laidKinds := [.data, .handle, .pinned], laidTests := true, laidLooks := .later }
def ArchiveBackCardSaid : Prop := Claim7.holds Tryd.pinned (.plain (OpenSpec.ofChange archiveBackSpec)) archiveBackCard

/-- THE TIED CARD OF 'stratalaw11.ArchiveCut'. -/
def archiveCutCard : Claim7 := { stood := { row := archiveCutRow, standIns := [], harness := (true, "2b9e67d71498bfb0526d8260d5ebc2a75b1d2ab37aa011e6ae2a4f98a5ff3018"), looks := true }, kinds := [], alts := [], laidByText := true, laidKinds := [.data, .handle, .pinned], laidTests := true, laidLooks := .later }
def ArchiveCutCardSaid : Prop := Claim7.holds Tryd.pinned (.plain (OpenSpec.ofChange archiveCutSpec)) archiveCutCard

/-- THE SECOND FORM's CARD OF 'stratalaw11.ArchiveBack'. -/
def archiveBackUptoCard : Claim7 := { stood := { row := archiveBackUptoRow, standIns := [], harness := (true, "2b9e67d71498bfb0526d8260d5ebc2a75b1d2ab37aa011e6ae2a4f98a5ff3018"), looks := true }, kinds := [], alts := [], laidByText := true, laidKinds := [.data, .handle, .pinned], laidTests := true, laidLooks := .later }
def ArchiveBackUptoCardSaid : Prop := Claim7.holds Tryd.pinned (.plain (OpenSpec.upto archiveBackSpec)) archiveBackUptoCard

/-- THE SECOND FORM's CARD OF 'stratalaw11.ArchiveCut'. -/
def archiveCutUptoCard : Claim7 := { stood := { row := archiveCutUptoRow, standIns := [], harness := (true, "2b9e67d71498bfb0526d8260d5ebc2a75b1d2ab37aa011e6ae2a4f98a5ff3018"), looks := true }, kinds := [], alts := [], laidByText := true, laidKinds := [.data, .handle, .pinned], laidTests := true, laidLooks := .later }
def ArchiveCutUptoCardSaid : Prop := Claim7.holds Tryd.pinned (.plain (OpenSpec.upto archiveCutSpec)) archiveCutUptoCard
end Rows
end Go.Proofs.YthpmocfdnoehoaaDoor
