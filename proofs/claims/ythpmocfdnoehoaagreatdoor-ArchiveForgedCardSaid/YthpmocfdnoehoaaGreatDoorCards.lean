/-
  DERIVED. GIVEN WITH THE SEED: THE CARDS: each row of YthpmocfdnoehoaaGreatDoorRows.lean that lists a variable, with what it lists TIED to the program's text (the seventh form; the later family's looks); each row that meets fmt, with fmt's text TOLD by the authors' own Lean function (tested against real Go, not proved from fmt's source: count such statements apart). THE CARD IS WHAT COUNTS. Prove the row's statement (the work); the ties are given (YthpmocfdnoehoaaGreatDoorTie.lean); close each card by the builder's one call (the guide's Derived/Test/ToyasCard.lean, 'card_holds'). Laid BY PROGRAM, IN A SANDBOX (cutbox-door.mjs). By AI agents, Wed Nov 11 2026. No macro, syntax, notation, axiom, sorry.
-/
import Derived.Test.YthpmocfdnoehoaaGreatDoorRows
import GoSem.ClaimSeven
namespace Go.Proofs.YthpmocfdnoehoaaGreatDoor
namespace Rows

/-- THE TIED CARD OF 'stratalaw11.ArchiveWrite'. -/
def archiveWriteCard : Claim7 := { stood := { row := archiveWriteRow, standIns := [], harness := (true, "c5d2b33c5a76077bde3d15104a4006485d0655795eeb02ba80482055c7c5b1ef"), looks := true }, kinds := [], alts := [], laidByText := true, laidKinds := [.data, .handle, .pinned], laidTests := true, laidLooks := .later }
def ArchiveWriteCardSaid : Prop := Claim7.holds Tryz.pinned (.plain (OpenSpec.ofChange archiveWriteSpec)) archiveWriteCard

/-- THE TIED CARD OF 'stratalaw11.ArchiveRead'. -/
def archiveReadCard : Claim7 := { stood := { row := archiveReadRow, standIns := [], harness := (true, "c5d2b33c5a76077bde3d15104a4006485d0655795eeb02ba80482055c7c5b1ef"), looks := true }, kinds := [], alts := [], laidByText := true, laidKinds := [.data, .handle, .pinned], laidTests := true, laidLooks := .later }
def ArchiveReadCardSaid : Prop := Claim7.holds Tryz.pinned (.plain (OpenSpec.ofChange archiveReadSpec)) archiveReadCard

/-- THE TIED CARD OF 'stratalaw11.ArchiveForged'. -/
def archiveForgedCard : Claim7 := { stood := { row := archiveForgedRow, standIns := [], harness := (true, "c5d2b33c5a76077bde3d15104a4006485d0655795eeb02ba80482055c7c5b1ef"), looks := true }, kinds := [], alts := [], laidByText := true, laidKinds := [.data, .handle, .pinned], laidTests := true, laidLooks := .later }
def ArchiveForgedCardSaid : Prop := Claim7.holds Tryz.pinned (.plain (OpenSpec.ofChange archiveForgedSpec)) archiveForgedCard

/-- THE SECOND FORM's CARD OF 'stratalaw11.ArchiveWrite'. -/
def archiveWriteUptoCard : Claim7 := { stood := { row := archiveWriteUptoRow, standIns := [], harness := (true, "c5d2b33c5a76077bde3d15104a4006485d0655795eeb02ba80482055c7c5b1ef"), looks := true }, kinds := [], alts := [], laidByText := true, laidKinds := [.data, .handle, .pinned], laidTests := true, laidLooks := .later }
def ArchiveWriteUptoCardSaid : Prop := Claim7.holds Tryz.pinned (.plain (OpenSpec.upto archiveWriteSpec)) archiveWriteUptoCard

/-- THE SECOND FORM's CARD OF 'stratalaw11.ArchiveRead'. -/
def archiveReadUptoCard : Claim7 := { stood := { row := archiveReadUptoRow, standIns := [], harness := (true, "c5d2b33c5a76077bde3d15104a4006485d0655795eeb02ba80482055c7c5b1ef"), looks := true }, kinds := [], alts := [], laidByText := true, laidKinds := [.data, .handle, .pinned], laidTests := true, laidLooks := .later }
def ArchiveReadUptoCardSaid : Prop := Claim7.holds Tryz.pinned (.plain (OpenSpec.upto archiveReadSpec)) archiveReadUptoCard

/-- THE SECOND FORM's CARD OF 'stratalaw11.ArchiveForged'. -/
def archiveForgedUptoCard : Claim7 := { stood := { row := archiveForgedUptoRow, standIns := [], harness := (true, "c5d2b33c5a76077bde3d15104a4006485d0655795eeb02ba80482055c7c5b1ef"), looks := true }, kinds := [], alts := [], laidByText := true, laidKinds := [.data, .handle, .pinned], laidTests := true, laidLooks := .later }
def ArchiveForgedUptoCardSaid : Prop := Claim7.holds Tryz.pinned (.plain (OpenSpec.upto archiveForgedSpec)) archiveForgedUptoCard
end Rows
end Go.Proofs.YthpmocfdnoehoaaGreatDoor
