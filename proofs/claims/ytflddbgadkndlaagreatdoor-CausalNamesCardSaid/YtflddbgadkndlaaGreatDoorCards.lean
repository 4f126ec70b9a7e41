/-
  DERIVED. GIVEN WITH THE SEED: THE CARDS: each row of YtflddbgadkndlaaGreatDoorRows.lean that lists a variable, with what it lists TIED to the program's text (the seventh form; the later family's looks); each row that meets fmt, with fmt's text TOLD by the authors' own Lean function (tested against real Go, not proved from fmt's source: count such statements apart). THE CARD IS WHAT COUNTS. Prove the row's statement (the work); the ties are given (YtflddbgadkndlaaGreatDoorTie.lean); close each card by the builder's one call (the guide's Derived/Test/ToyasCard.lean, 'card_holds'). Laid BY PROGRAM, IN A SANDBOX (cutbox-door.mjs). By AI agents, Wed Nov 11 2026. No macro, syntax, notation, axiom, sorry.
-/
import Derived.Test.YtflddbgadkndlaaGreatDoorRows
import GoSem.ClaimSeven
namespace Go.Proofs.YtflddbgadkndlaaGreatDoor
namespace Rows

/-- THE TIED CARD OF 'novationlaw15.CausalFinds'. -/
def causalFindsCard : Claim7 := { stood := { row := causalFindsRow, standIns := [], harness := (true, "d7729c20cfef0583e19855e047837faea67e5e7bd7babbc06ed143d3b5c94050"), looks := false }, kinds := [], alts := [], laidByText := true, laidKinds := [.mappedDeep, .mapped], laidTests := true, laidLooks := .later }
def CausalFindsCardSaid : Prop := Claim7.holds Tryz.pinned (.plain (OpenSpec.ofChange causalFindsSpec)) causalFindsCard

/-- THE TIED CARD OF 'novationlaw15.CausalJoins'. -/
def causalJoinsCard : Claim7 := { stood := { row := causalJoinsRow, standIns := [], harness := (true, "d7729c20cfef0583e19855e047837faea67e5e7bd7babbc06ed143d3b5c94050"), looks := false }, kinds := [], alts := [], laidByText := true, laidKinds := [.mappedDeep, .mapped], laidTests := true, laidLooks := .later }
def CausalJoinsCardSaid : Prop := Claim7.holds Tryz.pinned (.plain (OpenSpec.ofChange causalJoinsSpec)) causalJoinsCard

/-- THE TIED CARD OF 'novationlaw15.CausalOrder'. -/
def causalOrderCard : Claim7 := { stood := { row := causalOrderRow, standIns := [], harness := (true, "d7729c20cfef0583e19855e047837faea67e5e7bd7babbc06ed143d3b5c94050"), looks := false }, kinds := [], alts := [], laidByText := true, laidKinds := [.mappedDeep, .mapped], laidTests := true, laidLooks := .later }
def CausalOrderCardSaid : Prop := Claim7.holds Tryz.pinned (.plain (OpenSpec.ofChange causalOrderSpec)) causalOrderCard

/-- THE TIED CARD OF 'novationlaw15.CausalNames'. -/
def causalNamesCard : Claim7 := { stood := { row := causalNamesRow, standIns := [], harness := (true, "d7729c20cfef0583e19855e047837faea67e5e7bd7babbc06ed143d3b5c94050"), looks := false }, kinds := [], alts := [], laidByText := true, laidKinds := [.mappedDeep, .mapped], laidTests := true, laidLooks := .later }
def CausalNamesCardSaid : Prop := Claim7.holds Tryz.pinned (.plain (OpenSpec.ofChange causalNamesSpec)) causalNamesCard

/-- THE SECOND FORM's CARD OF 'novationlaw15.CausalFinds'. -/
def causalFindsUptoCard : Claim7 := { stood := { row := causalFindsUptoRow, standIns := [], harness := (true, "d7729c20cfef0583e19855e047837faea67e5e7bd7babbc06ed143d3b5c94050"), looks := false }, kinds := [], alts := [], laidByText := true, laidKinds := [.mappedDeep, .mapped], laidTests := true, laidLooks := .later }
def CausalFindsUptoCardSaid : Prop := Claim7.holds Tryz.pinned (.plain (OpenSpec.upto causalFindsSpec)) causalFindsUptoCard

/-- THE SECOND FORM's CARD OF 'novationlaw15.CausalJoins'. -/
def causalJoinsUptoCard : Claim7 := { stood := { row := causalJoinsUptoRow, standIns := [], harness := (true, "d7729c20cfef0583e19855e047837faea67e5e7bd7babbc06ed143d3b5c94050"), looks := false }, kinds := [], alts := [], laidByText := true, laidKinds := [.mappedDeep, .mapped], laidTests := true, laidLooks := .later }
def CausalJoinsUptoCardSaid : Prop := Claim7.holds Tryz.pinned (.plain (OpenSpec.upto causalJoinsSpec)) causalJoinsUptoCard

/-- THE SECOND FORM's CARD OF 'novationlaw15.CausalOrder'. -/
def causalOrderUptoCard : Claim7 := { stood := { row := causalOrderUptoRow, standIns := [], harness := (true, "d7729c20cfef0583e19855e047837faea67e5e7bd7babbc06ed143d3b5c94050"), looks := false }, kinds := [], alts := [], laidByText := true, laidKinds := [.mappedDeep, .mapped], laidTests := true, laidLooks := .later }
def CausalOrderUptoCardSaid : Prop := Claim7.holds Tryz.pinned (.plain (OpenSpec.upto causalOrderSpec)) causalOrderUptoCard

/-- THE SECOND FORM's CARD OF 'novationlaw15.CausalNames'. -/
def causalNamesUptoCard : Claim7 := { stood := { row := causalNamesUptoRow, standIns := [], harness := (true, "d7729c20cfef0583e19855e047837faea67e5e7bd7babbc06ed143d3b5c94050"), looks := false }, kinds := [], alts := [], laidByText := true, laidKinds := [.mappedDeep, .mapped], laidTests := true, laidLooks := .later }
def CausalNamesUptoCardSaid : Prop := Claim7.holds Tryz.pinned (.plain (OpenSpec.upto causalNamesSpec)) causalNamesUptoCard
end Rows
end Go.Proofs.YtflddbgadkndlaaGreatDoor
