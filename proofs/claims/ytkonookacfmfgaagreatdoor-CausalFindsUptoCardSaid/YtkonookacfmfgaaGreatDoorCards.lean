/-
  DERIVED. GIVEN WITH THE SEED: THE CARDS: each row of YtkonookacfmfgaaGreatDoorRows.lean that lists a variable, with what it lists TIED to the program's text (the seventh form; the later family's looks); each row that meets fmt, with fmt's text TOLD by the authors' own Lean function (tested against real Go, not proved from fmt's source: count such statements apart). THE CARD IS WHAT COUNTS. Prove the row's statement (the work); the ties are given (YtkonookacfmfgaaGreatDoorTie.lean); close each card by the builder's one call (the guide's Derived/Test/ToyasCard.lean, 'card_holds'). Laid BY PROGRAM, IN A SANDBOX (cutbox-door.mjs). By AI agents, Wed Nov 11 2026. No macro, syntax, notation, axiom, sorry.
-/
import Derived.Test.YtkonookacfmfgaaGreatDoorRows
import GoSem.ClaimSeven
namespace Go.Proofs.YtkonookacfmfgaaGreatDoor
namespace Rows

/-- THE TIED CARD OF 'novationlaw15.CausalFinds'. -/
def causalFindsCard : Claim7 := { stood := { row := causalFindsRow, standIns := [], harness := (true, "cc13f58043e92424de2d2f5f6782ab60f2d64544d6ac85ca10dbc790a232ae10"), looks := false }, kinds := [], alts := [], laidByText := true, laidKinds := [.mappedDeep, .mapped], laidTests := true, laidLooks := .later }
def CausalFindsCardSaid : Prop := Claim7.holds Tryz.pinned (.plain (OpenSpec.ofChange causalFindsSpec)) causalFindsCard

/-- THE SECOND FORM's CARD OF 'novationlaw15.CausalFinds'. -/
def causalFindsUptoCard : Claim7 := { stood := { row := causalFindsUptoRow, standIns := [], harness := (true, "cc13f58043e92424de2d2f5f6782ab60f2d64544d6ac85ca10dbc790a232ae10"), looks := false }, kinds := [], alts := [], laidByText := true, laidKinds := [.mappedDeep, .mapped], laidTests := true, laidLooks := .later }
def CausalFindsUptoCardSaid : Prop := Claim7.holds Tryz.pinned (.plain (OpenSpec.upto causalFindsSpec)) causalFindsUptoCard
end Rows
end Go.Proofs.YtkonookacfmfgaaGreatDoor
