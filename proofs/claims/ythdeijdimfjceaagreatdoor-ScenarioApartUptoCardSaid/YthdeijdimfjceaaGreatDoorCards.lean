/-
  DERIVED. GIVEN WITH THE SEED: THE CARDS: each row of YthdeijdimfjceaaGreatDoorRows.lean that lists a variable, with what it lists TIED to the program's text (the seventh form; the later family's looks); each row that meets fmt, with fmt's text TOLD by the authors' own Lean function (tested against real Go, not proved from fmt's source: count such statements apart). THE CARD IS WHAT COUNTS. Prove the row's statement (the work); the ties are given (YthdeijdimfjceaaGreatDoorTie.lean); close each card by the builder's one call (the guide's Derived/Test/ToyasCard.lean, 'card_holds'). Laid BY PROGRAM, IN A SANDBOX (cutbox-door.mjs). By AI agents, Wed Nov 11 2026. No macro, syntax, notation, axiom, sorry.
-/
import Derived.Test.YthdeijdimfjceaaGreatDoorRows
import GoSem.ClaimSeven
namespace Go.Proofs.YthdeijdimfjceaaGreatDoor
namespace Rows

/-- THE TIED CARD OF 'novationlaw32.ScenarioNames'. -/
def scenarioNamesCard : Claim7 := { stood := { row := scenarioNamesRow, standIns := [], harness := (true, "b2dfdbc4aadd16571f19e8222e050b9a43a6d64a9ab162839e8cf901ecec720b"), looks := true }, kinds := [], alts := [], laidByText := true, laidKinds := [.mappedDeep, .funcs, .mapped], laidTests := true, laidLooks := .later }
def ScenarioNamesCardSaid : Prop := Claim7.holds Tryz.pinned (.plain (OpenSpec.ofChange scenarioNamesSpec)) scenarioNamesCard

/-- THE TIED CARD OF 'novationlaw32.ScenarioBack'. -/
def scenarioBackCard : Claim7 := { stood := { row := scenarioBackRow, standIns := [], harness := (true, "b2dfdbc4aadd16571f19e8222e050b9a43a6d64a9ab162839e8cf901ecec720b"), looks := true }, kinds := [], alts := [], laidByText := true, laidKinds := [.mappedDeep, .funcs, .mapped], laidTests := true, laidLooks := .later }
def ScenarioBackCardSaid : Prop := Claim7.holds Tryz.pinned (.plain (OpenSpec.ofChange scenarioBackSpec)) scenarioBackCard

/-- THE TIED CARD OF 'novationlaw32.ScenarioAdds'. -/
def scenarioAddsCard : Claim7 := { stood := { row := scenarioAddsRow, standIns := [], harness := (true, "b2dfdbc4aadd16571f19e8222e050b9a43a6d64a9ab162839e8cf901ecec720b"), looks := true }, kinds := [], alts := [], laidByText := true, laidKinds := [.mappedDeep, .funcs, .mapped], laidTests := true, laidLooks := .later }
def ScenarioAddsCardSaid : Prop := Claim7.holds Tryz.pinned (.plain (OpenSpec.ofChange scenarioAddsSpec)) scenarioAddsCard

/-- THE TIED CARD OF 'novationlaw32.ScenarioApart'. -/
def scenarioApartCard : Claim7 := { stood := { row := scenarioApartRow, standIns := [], harness := (true, "b2dfdbc4aadd16571f19e8222e050b9a43a6d64a9ab162839e8cf901ecec720b"), looks := true }, kinds := [], alts := [], laidByText := true, laidKinds := [.mappedDeep, .funcs, .mapped], laidTests := true, laidLooks := .later }
def ScenarioApartCardSaid : Prop := Claim7.holds Tryz.pinned (.plain (OpenSpec.ofChange scenarioApartSpec)) scenarioApartCard

/-- THE TIED CARD OF 'novationlaw32.ScenarioBalances'. -/
def scenarioBalancesCard : Claim7 := { stood := { row := scenarioBalancesRow, standIns := [], harness := (true, "b2dfdbc4aadd16571f19e8222e050b9a43a6d64a9ab162839e8cf901ecec720b"), looks := true }, kinds := [], alts := [], laidByText := true, laidKinds := [.mappedDeep, .funcs, .mapped], laidTests := true, laidLooks := .later }
def ScenarioBalancesCardSaid : Prop := Claim7.holds Tryz.pinned (.plain (OpenSpec.ofChange scenarioBalancesSpec)) scenarioBalancesCard

/-- THE SECOND FORM's CARD OF 'novationlaw32.ScenarioNames'. -/
def scenarioNamesUptoCard : Claim7 := { stood := { row := scenarioNamesUptoRow, standIns := [], harness := (true, "b2dfdbc4aadd16571f19e8222e050b9a43a6d64a9ab162839e8cf901ecec720b"), looks := true }, kinds := [], alts := [], laidByText := true, laidKinds := [.mappedDeep, .funcs, .mapped], laidTests := true, laidLooks := .later }
def ScenarioNamesUptoCardSaid : Prop := Claim7.holds Tryz.pinned (.plain (OpenSpec.upto scenarioNamesSpec)) scenarioNamesUptoCard

/-- THE SECOND FORM's CARD OF 'novationlaw32.ScenarioBack'. -/
def scenarioBackUptoCard : Claim7 := { stood := { row := scenarioBackUptoRow, standIns := [], harness := (true, "b2dfdbc4aadd16571f19e8222e050b9a43a6d64a9ab162839e8cf901ecec720b"), looks := true }, kinds := [], alts := [], laidByText := true, laidKinds := [.mappedDeep, .funcs, .mapped], laidTests := true, laidLooks := .later }
def ScenarioBackUptoCardSaid : Prop := Claim7.holds Tryz.pinned (.plain (OpenSpec.upto scenarioBackSpec)) scenarioBackUptoCard

/-- THE SECOND FORM's CARD OF 'novationlaw32.ScenarioAdds'. -/
def scenarioAddsUptoCard : Claim7 := { stood := { row := scenarioAddsUptoRow, standIns := [], harness := (true, "b2dfdbc4aadd16571f19e8222e050b9a43a6d64a9ab162839e8cf901ecec720b"), looks := true }, kinds := [], alts := [], laidByText := true, laidKinds := [.mappedDeep, .funcs, .mapped], laidTests := true, laidLooks := .later }
def ScenarioAddsUptoCardSaid : Prop := Claim7.holds Tryz.pinned (.plain (OpenSpec.upto scenarioAddsSpec)) scenarioAddsUptoCard

/-- THE SECOND FORM's CARD OF 'novationlaw32.ScenarioApart'. -/
def scenarioApartUptoCard : Claim7 := { stood := { row := scenarioApartUptoRow, standIns := [], harness := (true, "b2dfdbc4aadd16571f19e8222e050b9a43a6d64a9ab162839e8cf901ecec720b"), looks := true }, kinds := [], alts := [], laidByText := true, laidKinds := [.mappedDeep, .funcs, .mapped], laidTests := true, laidLooks := .later }
def ScenarioApartUptoCardSaid : Prop := Claim7.holds Tryz.pinned (.plain (OpenSpec.upto scenarioApartSpec)) scenarioApartUptoCard

/-- THE SECOND FORM's CARD OF 'novationlaw32.ScenarioBalances'. -/
def scenarioBalancesUptoCard : Claim7 := { stood := { row := scenarioBalancesUptoRow, standIns := [], harness := (true, "b2dfdbc4aadd16571f19e8222e050b9a43a6d64a9ab162839e8cf901ecec720b"), looks := true }, kinds := [], alts := [], laidByText := true, laidKinds := [.mappedDeep, .funcs, .mapped], laidTests := true, laidLooks := .later }
def ScenarioBalancesUptoCardSaid : Prop := Claim7.holds Tryz.pinned (.plain (OpenSpec.upto scenarioBalancesSpec)) scenarioBalancesUptoCard
end Rows
end Go.Proofs.YthdeijdimfjceaaGreatDoor
