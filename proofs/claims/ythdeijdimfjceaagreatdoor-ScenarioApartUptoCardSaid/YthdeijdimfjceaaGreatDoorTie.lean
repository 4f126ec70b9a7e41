/-
  DERIVED. GIVEN WITH THE SEED: THE PROGRAM's TIES (one call each: nine closed facts by the kernel) AND EACH ROW's TIE, after the 31st guide's Derived/Test/Toyas{Tie, Card}.lean. No idea stands in it: it is a product of the set-up. Laid BY PROGRAM, IN A SANDBOX (cutbox-door.mjs). By AI agents, Wed Nov 11 2026. No macro, syntax, notation, axiom, sorry.
-/
import Derived.Test.YthdeijdimfjceaaGreatDoorRows
import Derived.LaidByTextLater
import Derived.SevenTiedAt
import Derived.LaidSub
import Derived.LaidOnce
namespace Go.Proofs.YthdeijdimfjceaaGreatDoor
open Go
set_option maxRecDepth 100000
theorem seatTie1 : Tryz.prog.laidByTextLater [("novation/observable.shapes", Rows.laid_novation_observable_shapes), ("novation/observable.operations", Rows.laid_novation_observable_operations), ("novation/contract.parts", Rows.laid_novation_contract_parts)] [.mappedDeep, .funcs, .mapped] true :=
  Program.laidByTextLater_by_one 176 8 4 (by kernel_rfl) (by kernel_rfl) (by kernel_rfl) (by kernel_rfl) (by kernel_rfl) (by kernel_rfl) (fun _ _ => by kernel_rfl)
theorem noOwnUnsafe : Tryz.pinned.checked.prog.headLifts.contains "ownunsafe" = false := by kernel_rfl
theorem tie : Tryz.prog.laidByTextLater [("novation/observable.shapes", Rows.laid_novation_observable_shapes), ("novation/observable.operations", Rows.laid_novation_observable_operations), ("novation/contract.parts", Rows.laid_novation_contract_parts)] [.mappedDeep, .funcs, .mapped] true :=
  Program.laidByTextLater.sub seatTie1 ["novation/observable.shapes", "novation/observable.operations", "novation/contract.parts"] (by kernel_rfl) (by kernel_rfl)
theorem scenarioNames_row_tie : Rows.scenarioNamesRow.laidByTextAt .later Tryz.pinned [.mappedDeep, .funcs, .mapped] true :=
  OpenClaim.laidByTextAt_later rfl rfl tie noOwnUnsafe
theorem scenarioBack_row_tie : Rows.scenarioBackRow.laidByTextAt .later Tryz.pinned [.mappedDeep, .funcs, .mapped] true :=
  OpenClaim.laidByTextAt_later rfl rfl tie noOwnUnsafe
theorem scenarioAdds_row_tie : Rows.scenarioAddsRow.laidByTextAt .later Tryz.pinned [.mappedDeep, .funcs, .mapped] true :=
  OpenClaim.laidByTextAt_later rfl rfl tie noOwnUnsafe
theorem scenarioApart_row_tie : Rows.scenarioApartRow.laidByTextAt .later Tryz.pinned [.mappedDeep, .funcs, .mapped] true :=
  OpenClaim.laidByTextAt_later rfl rfl tie noOwnUnsafe
theorem scenarioBalances_row_tie : Rows.scenarioBalancesRow.laidByTextAt .later Tryz.pinned [.mappedDeep, .funcs, .mapped] true :=
  OpenClaim.laidByTextAt_later rfl rfl tie noOwnUnsafe
theorem scenarioNamesUpto_row_tie : Rows.scenarioNamesUptoRow.laidByTextAt .later Tryz.pinned [.mappedDeep, .funcs, .mapped] true :=
  OpenClaim.laidByTextAt_later rfl rfl tie noOwnUnsafe
theorem scenarioBackUpto_row_tie : Rows.scenarioBackUptoRow.laidByTextAt .later Tryz.pinned [.mappedDeep, .funcs, .mapped] true :=
  OpenClaim.laidByTextAt_later rfl rfl tie noOwnUnsafe
theorem scenarioAddsUpto_row_tie : Rows.scenarioAddsUptoRow.laidByTextAt .later Tryz.pinned [.mappedDeep, .funcs, .mapped] true :=
  OpenClaim.laidByTextAt_later rfl rfl tie noOwnUnsafe
theorem scenarioApartUpto_row_tie : Rows.scenarioApartUptoRow.laidByTextAt .later Tryz.pinned [.mappedDeep, .funcs, .mapped] true :=
  OpenClaim.laidByTextAt_later rfl rfl tie noOwnUnsafe
theorem scenarioBalancesUpto_row_tie : Rows.scenarioBalancesUptoRow.laidByTextAt .later Tryz.pinned [.mappedDeep, .funcs, .mapped] true :=
  OpenClaim.laidByTextAt_later rfl rfl tie noOwnUnsafe
end Go.Proofs.YthdeijdimfjceaaGreatDoor
