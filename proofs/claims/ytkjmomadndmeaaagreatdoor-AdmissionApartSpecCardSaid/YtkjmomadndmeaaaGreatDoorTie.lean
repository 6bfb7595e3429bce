/-
  DERIVED. GIVEN WITH THE SEED: THE PROGRAM's TIES (one call each: nine closed facts by the kernel) AND EACH ROW's TIE, after the 31st guide's Derived/Test/Toyas{Tie, Card}.lean. No idea stands in it: it is a product of the set-up. Laid BY PROGRAM, IN A SANDBOX (cutbox-door.mjs). By AI agents, Wed Nov 11 2026. No macro, syntax, notation, axiom, sorry.
-/
import Derived.Test.YtkjmomadndmeaaaGreatDoorRows
import Derived.LaidByTextLater
import Derived.SevenTiedAt
import Derived.LaidSub
import Derived.LaidOnce
namespace Go.Proofs.YtkjmomadndmeaaaGreatDoor
open Go
set_option maxRecDepth 100000
theorem seatTie1 : Tryz.prog.laidByTextLater [("errors.errorType", Rows.laid_errors_errorType), ("sizar/rules.kinds", Rows.laid_sizar_rules_kinds)] [.handle, .funcs] true :=
  Program.laidByTextLater_by_one 30 8 2 (by kernel_rfl) (by kernel_rfl) (by kernel_rfl) (by kernel_rfl) (by kernel_rfl) (by kernel_rfl) (fun _ _ => by kernel_rfl)
theorem noOwnUnsafe : Tryz.pinned.checked.prog.headLifts.contains "ownunsafe" = false := by kernel_rfl
theorem tie : Tryz.prog.laidByTextLater [("sizar/rules.kinds", Rows.laid_sizar_rules_kinds)] [.funcs] true :=
  Program.laidByTextLater.sub seatTie1 ["sizar/rules.kinds"] (by kernel_rfl) (by kernel_rfl)
theorem admissionSpec_row_tie : Rows.admissionSpecRow.laidByTextAt .later Tryz.pinned [.funcs] true :=
  OpenClaim.laidByTextAt_later rfl rfl tie noOwnUnsafe
theorem admissionHolds_row_tie : Rows.admissionHoldsRow.laidByTextAt .later Tryz.pinned [.funcs] true :=
  OpenClaim.laidByTextAt_later rfl rfl tie noOwnUnsafe
theorem admissionWhy_row_tie : Rows.admissionWhyRow.laidByTextAt .later Tryz.pinned [.funcs] true :=
  OpenClaim.laidByTextAt_later rfl rfl tie noOwnUnsafe
theorem admissionAlike_row_tie : Rows.admissionAlikeRow.laidByTextAt .later Tryz.pinned [.funcs] true :=
  OpenClaim.laidByTextAt_later rfl rfl tie noOwnUnsafe
theorem admissionPetition_row_tie : Rows.admissionPetitionRow.laidByTextAt .later Tryz.pinned [.funcs] true :=
  OpenClaim.laidByTextAt_later rfl rfl tie noOwnUnsafe
theorem tie2 : Tryz.prog.laidByTextLater [("errors.errorType", Rows.laid_errors_errorType), ("sizar/rules.kinds", Rows.laid_sizar_rules_kinds)] [.handle, .funcs] true :=
  Program.laidByTextLater.sub seatTie1 ["errors.errorType", "sizar/rules.kinds"] (by kernel_rfl) (by kernel_rfl)
theorem admissionApartSpec_row_tie : Rows.admissionApartSpecRow.laidByTextAt .later Tryz.pinned [.handle, .funcs] true :=
  OpenClaim.laidByTextAt_later rfl rfl tie2 noOwnUnsafe
theorem admissionSpecUpto_row_tie : Rows.admissionSpecUptoRow.laidByTextAt .later Tryz.pinned [.funcs] true :=
  OpenClaim.laidByTextAt_later rfl rfl tie noOwnUnsafe
theorem admissionHoldsUpto_row_tie : Rows.admissionHoldsUptoRow.laidByTextAt .later Tryz.pinned [.funcs] true :=
  OpenClaim.laidByTextAt_later rfl rfl tie noOwnUnsafe
theorem admissionWhyUpto_row_tie : Rows.admissionWhyUptoRow.laidByTextAt .later Tryz.pinned [.funcs] true :=
  OpenClaim.laidByTextAt_later rfl rfl tie noOwnUnsafe
theorem admissionAlikeUpto_row_tie : Rows.admissionAlikeUptoRow.laidByTextAt .later Tryz.pinned [.funcs] true :=
  OpenClaim.laidByTextAt_later rfl rfl tie noOwnUnsafe
theorem admissionPetitionUpto_row_tie : Rows.admissionPetitionUptoRow.laidByTextAt .later Tryz.pinned [.funcs] true :=
  OpenClaim.laidByTextAt_later rfl rfl tie noOwnUnsafe
theorem admissionApartSpecUpto_row_tie : Rows.admissionApartSpecUptoRow.laidByTextAt .later Tryz.pinned [.handle, .funcs] true :=
  OpenClaim.laidByTextAt_later rfl rfl tie2 noOwnUnsafe
end Go.Proofs.YtkjmomadndmeaaaGreatDoor
