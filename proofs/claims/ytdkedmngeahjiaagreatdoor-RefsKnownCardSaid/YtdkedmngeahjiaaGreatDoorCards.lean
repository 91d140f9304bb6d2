/-
  DERIVED. GIVEN WITH THE SEED: THE CARDS: each row of YtdkedmngeahjiaaGreatDoorRows.lean that lists a variable, with what it lists TIED to the program's text (the seventh form; the later family's looks); each row that meets fmt, with fmt's text TOLD by the authors' own Lean function (tested against real Go, not proved from fmt's source: count such statements apart). THE CARD IS WHAT COUNTS. Prove the row's statement (the work); the ties are given (YtdkedmngeahjiaaGreatDoorTie.lean); close each card by the builder's one call (the guide's Derived/Test/ToyasCard.lean, 'card_holds'). Laid BY PROGRAM, IN A SANDBOX (cutbox-door.mjs). By AI agents, Wed Nov 11 2026. No macro, syntax, notation, axiom, sorry.
-/
import Derived.Test.YtdkedmngeahjiaaGreatDoorRows
import GoSem.ClaimSeven
namespace Go.Proofs.YtdkedmngeahjiaaGreatDoor
namespace Rows

/-- THE TIED CARD OF 'stratalaw24.RefsFulls'. -/
def refsFullsCard : Claim7 := { stood := { row := refsFullsRow, standIns := [], harness := (true, "46add134d5cc0df516fe009a3d2766586c080c011d9206c41fe9ea5c0928ade0"), looks := true }, kinds := [], alts := [], laidByText := true, laidKinds := [.data, .handle, .pinned], laidTests := true, laidLooks := .later }
def RefsFullsCardSaid : Prop := Claim7.holds Tryz.pinned (.plain (OpenSpec.ofChange refsFullsSpec)) refsFullsCard

/-- THE TIED CARD OF 'stratalaw24.RefsAlone'. -/
def refsAloneCard : Claim7 := { stood := { row := refsAloneRow, standIns := [], harness := (true, "46add134d5cc0df516fe009a3d2766586c080c011d9206c41fe9ea5c0928ade0"), looks := true }, kinds := [], alts := [], laidByText := true, laidKinds := [.data, .handle, .pinned], laidTests := true, laidLooks := .later }
def RefsAloneCardSaid : Prop := Claim7.holds Tryz.pinned (.plain (OpenSpec.ofChange refsAloneSpec)) refsAloneCard

/-- THE TIED CARD OF 'stratalaw24.RefsPlays'. -/
def refsPlaysCard : Claim7 := { stood := { row := refsPlaysRow, standIns := [], harness := (true, "46add134d5cc0df516fe009a3d2766586c080c011d9206c41fe9ea5c0928ade0"), looks := true }, kinds := [], alts := [], laidByText := true, laidKinds := [.data, .handle, .pinned], laidTests := true, laidLooks := .later }
def RefsPlaysCardSaid : Prop := Claim7.holds Tryz.pinned (.plain (OpenSpec.ofChange refsPlaysSpec)) refsPlaysCard

/-- THE TIED CARD OF 'stratalaw24.RefsSafe'. -/
def refsSafeCard : Claim7 := { stood := { row := refsSafeRow, standIns := [], harness := (true, "46add134d5cc0df516fe009a3d2766586c080c011d9206c41fe9ea5c0928ade0"), looks := true }, kinds := [], alts := [], laidByText := true, laidKinds := [.data, .handle, .pinned], laidTests := true, laidLooks := .later }
def RefsSafeCardSaid : Prop := Claim7.holds Tryz.pinned (.plain (OpenSpec.ofChange refsSafeSpec)) refsSafeCard

/-- THE TIED CARD OF 'stratalaw24.RefsKnown'. -/
def refsKnownCard : Claim7 := { stood := { row := refsKnownRow, standIns := [], harness := (true, "46add134d5cc0df516fe009a3d2766586c080c011d9206c41fe9ea5c0928ade0"), looks := true }, kinds := [], alts := [], laidByText := true, laidKinds := [.widerDeep, .data, .data, .handle, .pinned], laidTests := true, laidLooks := .later }
def RefsKnownCardSaid : Prop := Claim7.holds Tryz.pinned (.plain (OpenSpec.ofChange refsKnownSpec)) refsKnownCard

/-- THE SECOND FORM's CARD OF 'stratalaw24.RefsFulls'. -/
def refsFullsUptoCard : Claim7 := { stood := { row := refsFullsUptoRow, standIns := [], harness := (true, "46add134d5cc0df516fe009a3d2766586c080c011d9206c41fe9ea5c0928ade0"), looks := true }, kinds := [], alts := [], laidByText := true, laidKinds := [.data, .handle, .pinned], laidTests := true, laidLooks := .later }
def RefsFullsUptoCardSaid : Prop := Claim7.holds Tryz.pinned (.plain (OpenSpec.upto refsFullsSpec)) refsFullsUptoCard

/-- THE SECOND FORM's CARD OF 'stratalaw24.RefsAlone'. -/
def refsAloneUptoCard : Claim7 := { stood := { row := refsAloneUptoRow, standIns := [], harness := (true, "46add134d5cc0df516fe009a3d2766586c080c011d9206c41fe9ea5c0928ade0"), looks := true }, kinds := [], alts := [], laidByText := true, laidKinds := [.data, .handle, .pinned], laidTests := true, laidLooks := .later }
def RefsAloneUptoCardSaid : Prop := Claim7.holds Tryz.pinned (.plain (OpenSpec.upto refsAloneSpec)) refsAloneUptoCard

/-- THE SECOND FORM's CARD OF 'stratalaw24.RefsPlays'. -/
def refsPlaysUptoCard : Claim7 := { stood := { row := refsPlaysUptoRow, standIns := [], harness := (true, "46add134d5cc0df516fe009a3d2766586c080c011d9206c41fe9ea5c0928ade0"), looks := true }, kinds := [], alts := [], laidByText := true, laidKinds := [.data, .handle, .pinned], laidTests := true, laidLooks := .later }
def RefsPlaysUptoCardSaid : Prop := Claim7.holds Tryz.pinned (.plain (OpenSpec.upto refsPlaysSpec)) refsPlaysUptoCard

/-- THE SECOND FORM's CARD OF 'stratalaw24.RefsSafe'. -/
def refsSafeUptoCard : Claim7 := { stood := { row := refsSafeUptoRow, standIns := [], harness := (true, "46add134d5cc0df516fe009a3d2766586c080c011d9206c41fe9ea5c0928ade0"), looks := true }, kinds := [], alts := [], laidByText := true, laidKinds := [.data, .handle, .pinned], laidTests := true, laidLooks := .later }
def RefsSafeUptoCardSaid : Prop := Claim7.holds Tryz.pinned (.plain (OpenSpec.upto refsSafeSpec)) refsSafeUptoCard

/-- THE SECOND FORM's CARD OF 'stratalaw24.RefsKnown'. -/
def refsKnownUptoCard : Claim7 := { stood := { row := refsKnownUptoRow, standIns := [], harness := (true, "46add134d5cc0df516fe009a3d2766586c080c011d9206c41fe9ea5c0928ade0"), looks := true }, kinds := [], alts := [], laidByText := true, laidKinds := [.widerDeep, .data, .data, .handle, .pinned], laidTests := true, laidLooks := .later }
def RefsKnownUptoCardSaid : Prop := Claim7.holds Tryz.pinned (.plain (OpenSpec.upto refsKnownSpec)) refsKnownUptoCard
end Rows
end Go.Proofs.YtdkedmngeahjiaaGreatDoor
