/-
  DERIVED. GIVEN WITH THE SEED: THE PROGRAM's TIES (one call each: nine closed facts by the kernel) AND EACH ROW's TIE, after the 31st guide's Derived/Test/Toyas{Tie, Card}.lean. No idea stands in it: it is a product of the set-up. Laid BY PROGRAM, IN A SANDBOX (cutbox-door.mjs). By AI agents, Wed Nov 11 2026. No macro, syntax, notation, axiom, sorry.
-/
import Derived.Test.YtknpnhodpgajbaaGreatDoorRows
import Derived.LaidByTextLater
import Derived.SevenTiedAt
import Derived.LaidSub
import Derived.LaidOnce
namespace Go.Proofs.YtknpnhodpgajbaaGreatDoor
open Go
set_option maxRecDepth 100000
theorem seatTie1 : Tryz.prog.laidByTextLater [("novation/observable.shapes", Rows.laid_novation_observable_shapes), ("novation/observable.operations", Rows.laid_novation_observable_operations), ("novation/contract.parts", Rows.laid_novation_contract_parts)] [.mappedDeep, .funcs, .mapped] true :=
  Program.laidByTextLater_by_one 176 8 4 (by kernel_rfl) (by kernel_rfl) (by kernel_rfl) (by kernel_rfl) (by kernel_rfl) (by kernel_rfl) (fun _ _ => by kernel_rfl)
theorem noOwnUnsafe : Tryz.pinned.checked.prog.headLifts.contains "ownunsafe" = false := by kernel_rfl
theorem tie : Tryz.prog.laidByTextLater [("novation/observable.shapes", Rows.laid_novation_observable_shapes), ("novation/observable.operations", Rows.laid_novation_observable_operations), ("novation/contract.parts", Rows.laid_novation_contract_parts)] [.mappedDeep, .funcs, .mapped] true :=
  Program.laidByTextLater.sub seatTie1 ["novation/observable.shapes", "novation/observable.operations", "novation/contract.parts"] (by kernel_rfl) (by kernel_rfl)
theorem meaningFlows_row_tie : Rows.meaningFlowsRow.laidByTextAt .later Tryz.pinned [.mappedDeep, .funcs, .mapped] true :=
  OpenClaim.laidByTextAt_later rfl rfl tie noOwnUnsafe
theorem meaningUnion_row_tie : Rows.meaningUnionRow.laidByTextAt .later Tryz.pinned [.mappedDeep, .funcs, .mapped] true :=
  OpenClaim.laidByTextAt_later rfl rfl tie noOwnUnsafe
theorem meaningScale_row_tie : Rows.meaningScaleRow.laidByTextAt .later Tryz.pinned [.mappedDeep, .funcs, .mapped] true :=
  OpenClaim.laidByTextAt_later rfl rfl tie noOwnUnsafe
theorem meaningPrefix_row_tie : Rows.meaningPrefixRow.laidByTextAt .later Tryz.pinned [.mappedDeep, .funcs, .mapped] true :=
  OpenClaim.laidByTextAt_later rfl rfl tie noOwnUnsafe
theorem meaningChoices_row_tie : Rows.meaningChoicesRow.laidByTextAt .later Tryz.pinned [.mappedDeep, .funcs, .mapped] true :=
  OpenClaim.laidByTextAt_later rfl rfl tie noOwnUnsafe
theorem meaningNames_row_tie : Rows.meaningNamesRow.laidByTextAt .later Tryz.pinned [.mappedDeep, .funcs, .mapped] true :=
  OpenClaim.laidByTextAt_later rfl rfl tie noOwnUnsafe
theorem meaningFlowsUpto_row_tie : Rows.meaningFlowsUptoRow.laidByTextAt .later Tryz.pinned [.mappedDeep, .funcs, .mapped] true :=
  OpenClaim.laidByTextAt_later rfl rfl tie noOwnUnsafe
theorem meaningUnionUpto_row_tie : Rows.meaningUnionUptoRow.laidByTextAt .later Tryz.pinned [.mappedDeep, .funcs, .mapped] true :=
  OpenClaim.laidByTextAt_later rfl rfl tie noOwnUnsafe
theorem meaningScaleUpto_row_tie : Rows.meaningScaleUptoRow.laidByTextAt .later Tryz.pinned [.mappedDeep, .funcs, .mapped] true :=
  OpenClaim.laidByTextAt_later rfl rfl tie noOwnUnsafe
theorem meaningPrefixUpto_row_tie : Rows.meaningPrefixUptoRow.laidByTextAt .later Tryz.pinned [.mappedDeep, .funcs, .mapped] true :=
  OpenClaim.laidByTextAt_later rfl rfl tie noOwnUnsafe
theorem meaningChoicesUpto_row_tie : Rows.meaningChoicesUptoRow.laidByTextAt .later Tryz.pinned [.mappedDeep, .funcs, .mapped] true :=
  OpenClaim.laidByTextAt_later rfl rfl tie noOwnUnsafe
theorem meaningNamesUpto_row_tie : Rows.meaningNamesUptoRow.laidByTextAt .later Tryz.pinned [.mappedDeep, .funcs, .mapped] true :=
  OpenClaim.laidByTextAt_later rfl rfl tie noOwnUnsafe
end Go.Proofs.YtknpnhodpgajbaaGreatDoor
