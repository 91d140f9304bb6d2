/-
  DERIVED. GIVEN WITH THE SEED: THE CARDS: each row of YtecgikanophonaaGreatDoorRows.lean that lists a variable, with what it lists TIED to the program's text (the seventh form; the later family's looks); each row that meets fmt, with fmt's text TOLD by the authors' own Lean function (tested against real Go, not proved from fmt's source: count such statements apart). THE CARD IS WHAT COUNTS. Prove the row's statement (the work); the ties are given (YtecgikanophonaaGreatDoorTie.lean); close each card by the builder's one call (the guide's Derived/Test/ToyasCard.lean, 'card_holds'). Laid BY PROGRAM, IN A SANDBOX (cutbox-door.mjs). By AI agents, Wed Nov 11 2026. No macro, syntax, notation, axiom, sorry.
-/
import Derived.Test.YtecgikanophonaaGreatDoorRows
import GoSem.ClaimSeven
namespace Go.Proofs.YtecgikanophonaaGreatDoor
namespace Rows

/-- THE TIED CARD OF 'stratalaw23.BlobsGets'. -/
def blobsGetsCard : Claim7 := { stood := { row := blobsGetsRow, standIns := [], harness := (true, "949dbec6351b8d4f8c0e15bb6748a4a8d165bd38e5353c3e6bf136abb1f2e688"), looks := true }, kinds := [], alts := [], laidByText := true, laidKinds := [.widerDeep, .data, .handle, .data], laidTests := true, laidLooks := .later }
def BlobsGetsCardSaid : Prop := Claim7.holds Tryz.pinned (.plain (OpenSpec.ofChange blobsGetsSpec)) blobsGetsCard

/-- THE TIED CARD OF 'stratalaw23.BlobsKnown'. -/
def blobsKnownCard : Claim7 := { stood := { row := blobsKnownRow, standIns := [], harness := (true, "949dbec6351b8d4f8c0e15bb6748a4a8d165bd38e5353c3e6bf136abb1f2e688"), looks := true }, kinds := [], alts := [], laidByText := true, laidKinds := [.widerDeep, .data, .handle, .data], laidTests := true, laidLooks := .later }
def BlobsKnownCardSaid : Prop := Claim7.holds Tryz.pinned (.plain (OpenSpec.ofChange blobsKnownSpec)) blobsKnownCard

/-- THE TIED CARD OF 'stratalaw23.BlobsSafe'. -/
def blobsSafeCard : Claim7 := { stood := { row := blobsSafeRow, standIns := [], harness := (true, "949dbec6351b8d4f8c0e15bb6748a4a8d165bd38e5353c3e6bf136abb1f2e688"), looks := true }, kinds := [], alts := [], laidByText := true, laidKinds := [.widerDeep, .data, .handle, .data], laidTests := true, laidLooks := .later }
def BlobsSafeCardSaid : Prop := Claim7.holds Tryz.pinned (.plain (OpenSpec.ofChange blobsSafeSpec)) blobsSafeCard

/-- THE TIED CARD OF 'stratalaw23.BlobsPlays'. -/
def blobsPlaysCard : Claim7 := { stood := { row := blobsPlaysRow, standIns := [], harness := (true, "949dbec6351b8d4f8c0e15bb6748a4a8d165bd38e5353c3e6bf136abb1f2e688"), looks := true }, kinds := [], alts := [], laidByText := true, laidKinds := [.widerDeep, .data, .handle, .data], laidTests := true, laidLooks := .later }
def BlobsPlaysCardSaid : Prop := Claim7.holds Tryz.pinned (.plain (OpenSpec.ofChange blobsPlaysSpec)) blobsPlaysCard

/-- THE SECOND FORM's CARD OF 'stratalaw23.BlobsGets'. -/
def blobsGetsUptoCard : Claim7 := { stood := { row := blobsGetsUptoRow, standIns := [], harness := (true, "949dbec6351b8d4f8c0e15bb6748a4a8d165bd38e5353c3e6bf136abb1f2e688"), looks := true }, kinds := [], alts := [], laidByText := true, laidKinds := [.widerDeep, .data, .handle, .data], laidTests := true, laidLooks := .later }
def BlobsGetsUptoCardSaid : Prop := Claim7.holds Tryz.pinned (.plain (OpenSpec.upto blobsGetsSpec)) blobsGetsUptoCard

/-- THE SECOND FORM's CARD OF 'stratalaw23.BlobsKnown'. -/
def blobsKnownUptoCard : Claim7 := { stood := { row := blobsKnownUptoRow, standIns := [], harness := (true, "949dbec6351b8d4f8c0e15bb6748a4a8d165bd38e5353c3e6bf136abb1f2e688"), looks := true }, kinds := [], alts := [], laidByText := true, laidKinds := [.widerDeep, .data, .handle, .data], laidTests := true, laidLooks := .later }
def BlobsKnownUptoCardSaid : Prop := Claim7.holds Tryz.pinned (.plain (OpenSpec.upto blobsKnownSpec)) blobsKnownUptoCard

/-- THE SECOND FORM's CARD OF 'stratalaw23.BlobsSafe'. -/
def blobsSafeUptoCard : Claim7 := { stood := { row := blobsSafeUptoRow, standIns := [], harness := (true, "949dbec6351b8d4f8c0e15bb6748a4a8d165bd38e5353c3e6bf136abb1f2e688"), looks := true }, kinds := [], alts := [], laidByText := true, laidKinds := [.widerDeep, .data, .handle, .data], laidTests := true, laidLooks := .later }
def BlobsSafeUptoCardSaid : Prop := Claim7.holds Tryz.pinned (.plain (OpenSpec.upto blobsSafeSpec)) blobsSafeUptoCard

/-- THE SECOND FORM's CARD OF 'stratalaw23.BlobsPlays'. -/
def blobsPlaysUptoCard : Claim7 := { stood := { row := blobsPlaysUptoRow, standIns := [], harness := (true, "949dbec6351b8d4f8c0e15bb6748a4a8d165bd38e5353c3e6bf136abb1f2e688"), looks := true }, kinds := [], alts := [], laidByText := true, laidKinds := [.widerDeep, .data, .handle, .data], laidTests := true, laidLooks := .later }
def BlobsPlaysUptoCardSaid : Prop := Claim7.holds Tryz.pinned (.plain (OpenSpec.upto blobsPlaysSpec)) blobsPlaysUptoCard
end Rows
end Go.Proofs.YtecgikanophonaaGreatDoor
