/-
  DERIVED. GIVEN WITH THE SEED: THE CARDS: each row of YtknpnhodpgajbaaGreatDoorRows.lean that lists a variable, with what it lists TIED to the program's text (the seventh form; the later family's looks); each row that meets fmt, with fmt's text TOLD by the authors' own Lean function (tested against real Go, not proved from fmt's source: count such statements apart). THE CARD IS WHAT COUNTS. Prove the row's statement (the work); the ties are given (YtknpnhodpgajbaaGreatDoorTie.lean); close each card by the builder's one call (the guide's Derived/Test/ToyasCard.lean, 'card_holds'). Laid BY PROGRAM, IN A SANDBOX (cutbox-door.mjs). By AI agents, Wed Nov 11 2026. No macro, syntax, notation, axiom, sorry.
-/
import Derived.Test.YtknpnhodpgajbaaGreatDoorRows
import GoSem.ClaimSeven
namespace Go.Proofs.YtknpnhodpgajbaaGreatDoor
namespace Rows

/-- THE TIED CARD OF 'novationlaw10.MeaningFlows'. -/
def meaningFlowsCard : Claim7 := { stood := { row := meaningFlowsRow, standIns := [], harness := (true, "48249de7a8ca264688de9e96a64115224cec715eccaf82a5cabf5cd537c88320"), looks := true }, kinds := [], alts := [], laidByText := true, laidKinds := [.mappedDeep, .funcs, .mapped], laidTests := true, laidLooks := .later }
def MeaningFlowsCardSaid : Prop := Claim7.holds Tryz.pinned (.plain (OpenSpec.ofChange meaningFlowsSpec)) meaningFlowsCard

/-- THE TIED CARD OF 'novationlaw10.MeaningUnion'. -/
def meaningUnionCard : Claim7 := { stood := { row := meaningUnionRow, standIns := [], harness := (true, "48249de7a8ca264688de9e96a64115224cec715eccaf82a5cabf5cd537c88320"), looks := true }, kinds := [], alts := [], laidByText := true, laidKinds := [.mappedDeep, .funcs, .mapped], laidTests := true, laidLooks := .later }
def MeaningUnionCardSaid : Prop := Claim7.holds Tryz.pinned (.plain (OpenSpec.ofChange meaningUnionSpec)) meaningUnionCard

/-- THE TIED CARD OF 'novationlaw10.MeaningScale'. -/
def meaningScaleCard : Claim7 := { stood := { row := meaningScaleRow, standIns := [], harness := (true, "48249de7a8ca264688de9e96a64115224cec715eccaf82a5cabf5cd537c88320"), looks := true }, kinds := [], alts := [], laidByText := true, laidKinds := [.mappedDeep, .funcs, .mapped], laidTests := true, laidLooks := .later }
def MeaningScaleCardSaid : Prop := Claim7.holds Tryz.pinned (.plain (OpenSpec.ofChange meaningScaleSpec)) meaningScaleCard

/-- THE TIED CARD OF 'novationlaw10.MeaningPrefix'. -/
def meaningPrefixCard : Claim7 := { stood := { row := meaningPrefixRow, standIns := [], harness := (true, "48249de7a8ca264688de9e96a64115224cec715eccaf82a5cabf5cd537c88320"), looks := true }, kinds := [], alts := [], laidByText := true, laidKinds := [.mappedDeep, .funcs, .mapped], laidTests := true, laidLooks := .later }
def MeaningPrefixCardSaid : Prop := Claim7.holds Tryz.pinned (.plain (OpenSpec.ofChange meaningPrefixSpec)) meaningPrefixCard

/-- THE TIED CARD OF 'novationlaw10.MeaningChoices'. -/
def meaningChoicesCard : Claim7 := { stood := { row := meaningChoicesRow, standIns := [], harness := (true, "48249de7a8ca264688de9e96a64115224cec715eccaf82a5cabf5cd537c88320"), looks := true }, kinds := [], alts := [], laidByText := true, laidKinds := [.mappedDeep, .funcs, .mapped], laidTests := true, laidLooks := .later }
def MeaningChoicesCardSaid : Prop := Claim7.holds Tryz.pinned (.plain (OpenSpec.ofChange meaningChoicesSpec)) meaningChoicesCard

/-- THE TIED CARD OF 'novationlaw10.MeaningNames'. -/
def meaningNamesCard : Claim7 := { stood := { row := meaningNamesRow, standIns := [], harness := (true, "48249de7a8ca264688de9e96a64115224cec715eccaf82a5cabf5cd537c88320"), looks := true }, kinds := [], alts := [], laidByText := true, laidKinds := [.mappedDeep, .funcs, .mapped], laidTests := true, laidLooks := .later }
def MeaningNamesCardSaid : Prop := Claim7.holds Tryz.pinned (.plain (OpenSpec.ofChange meaningNamesSpec)) meaningNamesCard

/-- THE SECOND FORM's CARD OF 'novationlaw10.MeaningFlows'. -/
def meaningFlowsUptoCard : Claim7 := { stood := { row := meaningFlowsUptoRow, standIns := [], harness := (true, "48249de7a8ca264688de9e96a64115224cec715eccaf82a5cabf5cd537c88320"), looks := true }, kinds := [], alts := [], laidByText := true, laidKinds := [.mappedDeep, .funcs, .mapped], laidTests := true, laidLooks := .later }
def MeaningFlowsUptoCardSaid : Prop := Claim7.holds Tryz.pinned (.plain (OpenSpec.upto meaningFlowsSpec)) meaningFlowsUptoCard

/-- THE SECOND FORM's CARD OF 'novationlaw10.MeaningUnion'. -/
def meaningUnionUptoCard : Claim7 := { stood := { row := meaningUnionUptoRow, standIns := [], harness := (true, "48249de7a8ca264688de9e96a64115224cec715eccaf82a5cabf5cd537c88320"), looks := true }, kinds := [], alts := [], laidByText := true, laidKinds := [.mappedDeep, .funcs, .mapped], laidTests := true, laidLooks := .later }
def MeaningUnionUptoCardSaid : Prop := Claim7.holds Tryz.pinned (.plain (OpenSpec.upto meaningUnionSpec)) meaningUnionUptoCard

/-- THE SECOND FORM's CARD OF 'novationlaw10.MeaningScale'. -/
def meaningScaleUptoCard : Claim7 := { stood := { row := meaningScaleUptoRow, standIns := [], harness := (true, "48249de7a8ca264688de9e96a64115224cec715eccaf82a5cabf5cd537c88320"), looks := true }, kinds := [], alts := [], laidByText := true, laidKinds := [.mappedDeep, .funcs, .mapped], laidTests := true, laidLooks := .later }
def MeaningScaleUptoCardSaid : Prop := Claim7.holds Tryz.pinned (.plain (OpenSpec.upto meaningScaleSpec)) meaningScaleUptoCard

/-- THE SECOND FORM's CARD OF 'novationlaw10.MeaningPrefix'. -/
def meaningPrefixUptoCard : Claim7 := { stood := { row := meaningPrefixUptoRow, standIns := [], harness := (true, "48249de7a8ca264688de9e96a64115224cec715eccaf82a5cabf5cd537c88320"), looks := true }, kinds := [], alts := [], laidByText := true, laidKinds := [.mappedDeep, .funcs, .mapped], laidTests := true, laidLooks := .later }
def MeaningPrefixUptoCardSaid : Prop := Claim7.holds Tryz.pinned (.plain (OpenSpec.upto meaningPrefixSpec)) meaningPrefixUptoCard

/-- THE SECOND FORM's CARD OF 'novationlaw10.MeaningChoices'. -/
def meaningChoicesUptoCard : Claim7 := { stood := { row := meaningChoicesUptoRow, standIns := [], harness := (true, "48249de7a8ca264688de9e96a64115224cec715eccaf82a5cabf5cd537c88320"), looks := true }, kinds := [], alts := [], laidByText := true, laidKinds := [.mappedDeep, .funcs, .mapped], laidTests := true, laidLooks := .later }
def MeaningChoicesUptoCardSaid : Prop := Claim7.holds Tryz.pinned (.plain (OpenSpec.upto meaningChoicesSpec)) meaningChoicesUptoCard

/-- THE SECOND FORM's CARD OF 'novationlaw10.MeaningNames'. -/
def meaningNamesUptoCard : Claim7 := { stood := { row := meaningNamesUptoRow, standIns := [], harness := (true, "48249de7a8ca264688de9e96a64115224cec715eccaf82a5cabf5cd537c88320"), looks := true }, kinds := [], alts := [], laidByText := true, laidKinds := [.mappedDeep, .funcs, .mapped], laidTests := true, laidLooks := .later }
def MeaningNamesUptoCardSaid : Prop := Claim7.holds Tryz.pinned (.plain (OpenSpec.upto meaningNamesSpec)) meaningNamesUptoCard
end Rows
end Go.Proofs.YtknpnhodpgajbaaGreatDoor
