/-
  DERIVED. GIVEN WITH THE SEED: THE CARDS: each row of YtlcompihcmhbiaaGreatDoorRows.lean that lists a variable, with what it lists TIED to the program's text (the seventh form; the later family's looks); each row that meets fmt, with fmt's text TOLD by the authors' own Lean function (tested against real Go, not proved from fmt's source: count such statements apart). THE CARD IS WHAT COUNTS. Prove the row's statement (the work); the ties are given (YtlcompihcmhbiaaGreatDoorTie.lean); close each card by the builder's one call (the guide's Derived/Test/ToyasCard.lean, 'card_holds'). Laid BY PROGRAM, IN A SANDBOX (cutbox-door.mjs). By AI agents, Wed Nov 11 2026. No macro, syntax, notation, axiom, sorry.
-/
import Derived.Test.YtlcompihcmhbiaaGreatDoorRows
import GoSem.ClaimSeven
namespace Go.Proofs.YtlcompihcmhbiaaGreatDoor
namespace Rows

/-- THE TIED CARD OF 'stratalaw22.DiskSafe'. -/
def diskSafeCard : Claim7 := { stood := { row := diskSafeRow, standIns := [], harness := (true, "bc6b7daf4a764608b81b7430e8a3f02582d73dce882ea7beee9f245a410d1ee6"), looks := true }, kinds := [], alts := [], laidByText := true, laidKinds := [.handle], laidTests := true, laidLooks := .later }
def DiskSafeCardSaid : Prop := Claim7.holds Tryz.pinned (.plain (OpenSpec.ofChange diskSafeSpec)) diskSafeCard

/-- THE TIED CARD OF 'stratalaw22.DiskStill'. -/
def diskStillCard : Claim7 := { stood := { row := diskStillRow, standIns := [], harness := (true, "bc6b7daf4a764608b81b7430e8a3f02582d73dce882ea7beee9f245a410d1ee6"), looks := true }, kinds := [], alts := [], laidByText := true, laidKinds := [.handle], laidTests := true, laidLooks := .later }
def DiskStillCardSaid : Prop := Claim7.holds Tryz.pinned (.plain (OpenSpec.ofChange diskStillSpec)) diskStillCard

/-- THE TIED CARD OF 'stratalaw22.DiskPlays'. -/
def diskPlaysCard : Claim7 := { stood := { row := diskPlaysRow, standIns := [], harness := (true, "bc6b7daf4a764608b81b7430e8a3f02582d73dce882ea7beee9f245a410d1ee6"), looks := true }, kinds := [], alts := [], laidByText := true, laidKinds := [.handle], laidTests := true, laidLooks := .later }
def DiskPlaysCardSaid : Prop := Claim7.holds Tryz.pinned (.plain (OpenSpec.ofChange diskPlaysSpec)) diskPlaysCard

/-- THE TIED CARD OF 'stratalaw22.DiskStruck'. -/
def diskStruckCard : Claim7 := { stood := { row := diskStruckRow, standIns := [], harness := (true, "bc6b7daf4a764608b81b7430e8a3f02582d73dce882ea7beee9f245a410d1ee6"), looks := true }, kinds := [], alts := [], laidByText := true, laidKinds := [.handle], laidTests := true, laidLooks := .later }
def DiskStruckCardSaid : Prop := Claim7.holds Tryz.pinned (.plain (OpenSpec.ofChange diskStruckSpec)) diskStruckCard

/-- THE TIED CARD OF 'stratalaw22.DiskKnown'. -/
def diskKnownCard : Claim7 := { stood := { row := diskKnownRow, standIns := [], harness := (true, "bc6b7daf4a764608b81b7430e8a3f02582d73dce882ea7beee9f245a410d1ee6"), looks := true }, kinds := [], alts := [], laidByText := true, laidKinds := [.handle], laidTests := true, laidLooks := .later }
def DiskKnownCardSaid : Prop := Claim7.holds Tryz.pinned (.plain (OpenSpec.ofChange diskKnownSpec)) diskKnownCard

/-- THE SECOND FORM's CARD OF 'stratalaw22.DiskSafe'. -/
def diskSafeUptoCard : Claim7 := { stood := { row := diskSafeUptoRow, standIns := [], harness := (true, "bc6b7daf4a764608b81b7430e8a3f02582d73dce882ea7beee9f245a410d1ee6"), looks := true }, kinds := [], alts := [], laidByText := true, laidKinds := [.handle], laidTests := true, laidLooks := .later }
def DiskSafeUptoCardSaid : Prop := Claim7.holds Tryz.pinned (.plain (OpenSpec.upto diskSafeSpec)) diskSafeUptoCard

/-- THE SECOND FORM's CARD OF 'stratalaw22.DiskStill'. -/
def diskStillUptoCard : Claim7 := { stood := { row := diskStillUptoRow, standIns := [], harness := (true, "bc6b7daf4a764608b81b7430e8a3f02582d73dce882ea7beee9f245a410d1ee6"), looks := true }, kinds := [], alts := [], laidByText := true, laidKinds := [.handle], laidTests := true, laidLooks := .later }
def DiskStillUptoCardSaid : Prop := Claim7.holds Tryz.pinned (.plain (OpenSpec.upto diskStillSpec)) diskStillUptoCard

/-- THE SECOND FORM's CARD OF 'stratalaw22.DiskPlays'. -/
def diskPlaysUptoCard : Claim7 := { stood := { row := diskPlaysUptoRow, standIns := [], harness := (true, "bc6b7daf4a764608b81b7430e8a3f02582d73dce882ea7beee9f245a410d1ee6"), looks := true }, kinds := [], alts := [], laidByText := true, laidKinds := [.handle], laidTests := true, laidLooks := .later }
def DiskPlaysUptoCardSaid : Prop := Claim7.holds Tryz.pinned (.plain (OpenSpec.upto diskPlaysSpec)) diskPlaysUptoCard

/-- THE SECOND FORM's CARD OF 'stratalaw22.DiskStruck'. -/
def diskStruckUptoCard : Claim7 := { stood := { row := diskStruckUptoRow, standIns := [], harness := (true, "bc6b7daf4a764608b81b7430e8a3f02582d73dce882ea7beee9f245a410d1ee6"), looks := true }, kinds := [], alts := [], laidByText := true, laidKinds := [.handle], laidTests := true, laidLooks := .later }
def DiskStruckUptoCardSaid : Prop := Claim7.holds Tryz.pinned (.plain (OpenSpec.upto diskStruckSpec)) diskStruckUptoCard

/-- THE SECOND FORM's CARD OF 'stratalaw22.DiskKnown'. -/
def diskKnownUptoCard : Claim7 := { stood := { row := diskKnownUptoRow, standIns := [], harness := (true, "bc6b7daf4a764608b81b7430e8a3f02582d73dce882ea7beee9f245a410d1ee6"), looks := true }, kinds := [], alts := [], laidByText := true, laidKinds := [.handle], laidTests := true, laidLooks := .later }
def DiskKnownUptoCardSaid : Prop := Claim7.holds Tryz.pinned (.plain (OpenSpec.upto diskKnownSpec)) diskKnownUptoCard
end Rows
end Go.Proofs.YtlcompihcmhbiaaGreatDoor
