/-
  DERIVED. GIVEN WITH THE SEED: THE PROGRAM's TIES (one call each: nine closed facts by the kernel) AND EACH ROW's TIE, after the 31st guide's Derived/Test/Toyas{Tie, Card}.lean. No idea stands in it: it is a product of the set-up. Laid BY PROGRAM, IN A SANDBOX (cutbox-door.mjs). By AI agents, Wed Nov 11 2026. No macro, syntax, notation, axiom, sorry.
-/
import Derived.Test.YtecgikanophonaaGreatDoorRows
import Derived.LaidByTextLater
import Derived.SevenTiedAt
import Derived.LaidSub
import Derived.LaidOnce
namespace Go.Proofs.YtecgikanophonaaGreatDoor
open Go
set_option maxRecDepth 100000
theorem seatTie1 : Tryz.prog.laidByTextLater [("strata/strataref03.begin", Rows.laid_strata_strataref03_begin), ("strata/strataref03.rounds", Rows.laid_strata_strataref03_rounds), ("errors.errorType", Rows.laid_errors_errorType), ("strata/digest.rounds", Rows.laid_strata_digest_rounds)] [.widerDeep, .data, .handle, .data] true :=
  Program.laidByTextLater_by_one 31 8 65 (by kernel_rfl) (by kernel_rfl) (by kernel_rfl) (by kernel_rfl) (by kernel_rfl) (by kernel_rfl) (fun _ _ => by kernel_rfl)
theorem noOwnUnsafe : Tryz.pinned.checked.prog.headLifts.contains "ownunsafe" = false := by kernel_rfl
theorem tie : Tryz.prog.laidByTextLater [("strata/strataref03.begin", Rows.laid_strata_strataref03_begin), ("strata/strataref03.rounds", Rows.laid_strata_strataref03_rounds), ("errors.errorType", Rows.laid_errors_errorType), ("strata/digest.rounds", Rows.laid_strata_digest_rounds)] [.widerDeep, .data, .handle, .data] true :=
  Program.laidByTextLater.sub seatTie1 ["strata/strataref03.begin", "strata/strataref03.rounds", "errors.errorType", "strata/digest.rounds"] (by kernel_rfl) (by kernel_rfl)
theorem blobsGets_row_tie : Rows.blobsGetsRow.laidByTextAt .later Tryz.pinned [.widerDeep, .data, .handle, .data] true :=
  OpenClaim.laidByTextAt_later rfl rfl tie noOwnUnsafe
theorem blobsKnown_row_tie : Rows.blobsKnownRow.laidByTextAt .later Tryz.pinned [.widerDeep, .data, .handle, .data] true :=
  OpenClaim.laidByTextAt_later rfl rfl tie noOwnUnsafe
theorem blobsSafe_row_tie : Rows.blobsSafeRow.laidByTextAt .later Tryz.pinned [.widerDeep, .data, .handle, .data] true :=
  OpenClaim.laidByTextAt_later rfl rfl tie noOwnUnsafe
theorem blobsPlays_row_tie : Rows.blobsPlaysRow.laidByTextAt .later Tryz.pinned [.widerDeep, .data, .handle, .data] true :=
  OpenClaim.laidByTextAt_later rfl rfl tie noOwnUnsafe
theorem blobsGetsUpto_row_tie : Rows.blobsGetsUptoRow.laidByTextAt .later Tryz.pinned [.widerDeep, .data, .handle, .data] true :=
  OpenClaim.laidByTextAt_later rfl rfl tie noOwnUnsafe
theorem blobsKnownUpto_row_tie : Rows.blobsKnownUptoRow.laidByTextAt .later Tryz.pinned [.widerDeep, .data, .handle, .data] true :=
  OpenClaim.laidByTextAt_later rfl rfl tie noOwnUnsafe
theorem blobsSafeUpto_row_tie : Rows.blobsSafeUptoRow.laidByTextAt .later Tryz.pinned [.widerDeep, .data, .handle, .data] true :=
  OpenClaim.laidByTextAt_later rfl rfl tie noOwnUnsafe
theorem blobsPlaysUpto_row_tie : Rows.blobsPlaysUptoRow.laidByTextAt .later Tryz.pinned [.widerDeep, .data, .handle, .data] true :=
  OpenClaim.laidByTextAt_later rfl rfl tie noOwnUnsafe
end Go.Proofs.YtecgikanophonaaGreatDoor
