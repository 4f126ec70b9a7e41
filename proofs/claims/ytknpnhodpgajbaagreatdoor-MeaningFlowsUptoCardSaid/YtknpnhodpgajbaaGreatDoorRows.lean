/-
  NARROWER THAN 'FOR EVERY INPUT', by the rows' own cells (each row's printed sentence says how): MeaningFlows: loops, laid · MeaningUnion: loops, laid · MeaningScale: loops, laid · MeaningPrefix: loops, laid · MeaningChoices: loops, laid · MeaningNames: laid.
  DERIVED. THE GIVEN ROWS OF THIS SEAT. 6 by the template 'for every input the law returns true; each argument reads behind the call as it read before'; 0 by the template 'total and deterministic' (their statements: YtknpnhodpgajbaaGreatDoorTotals.lean).
  GIVEN WITH THE SEED: the statements are not yours to turn. If you find one false, say at which input.
  Laid BY PROGRAM, IN A SANDBOX (cutbox-rows.mjs): the forced cells as the released guide's own fill.sh prints them over the translation 5338b94aebef3a97… (all of the seat's roots in one cut). By AI agents, Wed Nov 11 2026. No macro, syntax, notation, axiom, sorry.
-/
import Derived.Test.YtknpnhodpgajbaaGreatDoorChecked
import GoSem.Claim
import GoSem.ClaimJoined
import GoSem.ClaimMapViews
import Derived.JoinedTies
import Derived.KernelRfl
namespace Go.Proofs.YtknpnhodpgajbaaGreatDoor
/- THE CELL 'sum', in the pinned program and in every row, IS THE sha256 OF THE DUMP (.gsa) THAT YtknpnhodpgajbaaGreatDoorProg.lean LOADS. Nothing in Lean hashes anything: it is a label: what it is worth is what the hold of that sum in a sandbox is worth. -/
noncomputable def Tryz.pinned : Pinned := { name := "ytknpnhodpgajbaagreatdoor", sum := "5338b94aebef3a9798c772eb5f98d73cbea8c52338fee71698bcb9de397ea5d7", checked := Tryz.checked }
namespace Rows
def none {H : Type} : Left H := { results := [], args := [] }

/- WHAT THE LISTED PACKAGE-LEVEL VARIABLES READ AS WHEN THE CALL BEGINS. Each datum BY PROGRAM (the guide's laid-datum.mjs) off the statement by which the dump's own 'gosem.cut.vars' lays the variable. In a bare row this is a premise. The card (YtknpnhodpgajbaaGreatDoorCards.lean) ties it to the program's text. -/
def laid_novation_observable_shapes {H : Type} : DataW H := .map [(.int .u8 4, .agg [.slice [.lit (.int .u8 1), .lit (.int .u8 1)] [], .lit (.int .u8 1)]), (.int .u8 5, .agg [.slice [.lit (.int .u8 1), .lit (.int .u8 1)] [], .lit (.int .u8 1)]), (.int .u8 6, .agg [.slice [.lit (.int .u8 1), .lit (.int .u8 1)] [], .lit (.int .u8 1)]), (.int .u8 7, .agg [.slice [.lit (.int .u8 1), .lit (.int .u8 1)] [], .lit (.int .u8 1)]), (.int .u8 8, .agg [.slice [.lit (.int .u8 1), .lit (.int .u8 1)] [], .lit (.int .u8 1)]), (.int .u8 9, .agg [.slice [.lit (.int .u8 2), .lit (.int .u8 1), .lit (.int .u8 1)] [], .lit (.int .u8 1)]), (.int .u8 11, .agg [.slice [.lit (.int .u8 1), .lit (.int .u8 1)] [], .lit (.int .u8 2)]), (.int .u8 12, .agg [.slice [.lit (.int .u8 1), .lit (.int .u8 1)] [], .lit (.int .u8 2)]), (.int .u8 13, .agg [.slice [.lit (.int .u8 2), .lit (.int .u8 2)] [], .lit (.int .u8 2)]), (.int .u8 14, .agg [.slice [.lit (.int .u8 2), .lit (.int .u8 2)] [], .lit (.int .u8 2)]), (.int .u8 15, .agg [.slice [.lit (.int .u8 2)] [], .lit (.int .u8 2)])]
def laid_novation_observable_operations {H : Type} : DataW H := .iface "func table" (.map [(.int .u8 4, .iface "func" (.lit (.string [40, 42, 110, 111, 118, 97, 116, 105, 111, 110, 47, 111, 98, 115, 101, 114, 118, 97, 98, 108, 101, 46, 115, 116, 97, 116, 101, 41, 46, 97, 100, 100]))), (.int .u8 5, .iface "func" (.lit (.string [40, 42, 110, 111, 118, 97, 116, 105, 111, 110, 47, 111, 98, 115, 101, 114, 118, 97, 98, 108, 101, 46, 115, 116, 97, 116, 101, 41, 46, 115, 117, 98]))), (.int .u8 6, .iface "func" (.lit (.string [40, 42, 110, 111, 118, 97, 116, 105, 111, 110, 47, 111, 98, 115, 101, 114, 118, 97, 98, 108, 101, 46, 115, 116, 97, 116, 101, 41, 46, 109, 117, 108]))), (.int .u8 7, .iface "func" (.lit (.string [40, 42, 110, 111, 118, 97, 116, 105, 111, 110, 47, 111, 98, 115, 101, 114, 118, 97, 98, 108, 101, 46, 115, 116, 97, 116, 101, 41, 46, 103, 114, 101, 97, 116, 101, 114]))), (.int .u8 8, .iface "func" (.lit (.string [40, 42, 110, 111, 118, 97, 116, 105, 111, 110, 47, 111, 98, 115, 101, 114, 118, 97, 98, 108, 101, 46, 115, 116, 97, 116, 101, 41, 46, 115, 109, 97, 108, 108, 101, 114])))])
def laid_novation_contract_parts {H : Type} : DataW H := .map [(.int .u8 1, .lit (.int .i64 0)), (.int .u8 2, .lit (.int .i64 15)), (.int .u8 3, .lit (.int .i64 256)), (.int .u8 4, .lit (.int .i64 136)), (.int .u8 5, .lit (.int .i64 272)), (.int .u8 6, .lit (.int .i64 160)), (.int .u8 7, .lit (.int .i64 261)), (.int .u8 8, .lit (.int .i64 197)), (.int .u8 9, .lit (.int .i64 208)), (.int .u8 10, .lit (.int .i64 208))]

/-- 'novationlaw10.MeaningFlows': WHATEVER THE INPUT: true; the input reads as it did. -/
def meaningFlowsSpec : ChangeSpec := { name := "meaningFlows", fn := fun _ => fun
  | [d1, d2, d3, d4] => { results := [.lit (.bool true)], args := [d1, d2, d3, d4] }
  | _ => none }
def meaningFlowsRow : OpenClaim := { program := "ytknpnhodpgajbaagreatdoor", sum := "5338b94aebef3a9798c772eb5f98d73cbea8c52338fee71698bcb9de397ea5d7", func := "novation/novationlaw10.MeaningFlows", spec := "meaningFlows", inPlace := ["internal/bytealg.IndexByteString", "internal/bytealg.IndexString"], unfollowed := true, recurses := true, named := ["novation/contract.parts", "novation/observable.shapes", "internal/bytealg.MaxLen", "novation/observable.operations"], loops := true, apart := false, laid := [("novation/observable.shapes", laid_novation_observable_shapes), ("novation/observable.operations", laid_novation_observable_operations), ("novation/contract.parts", laid_novation_contract_parts)] }
def MeaningFlowsSaid : Prop := meaningFlowsRow.holds Tryz.pinned (OpenSpec.ofChange meaningFlowsSpec)

/-- ITS FALSE NEIGHBOUR: 'it returns false'. Refute it at one input. -/
def meaningFlowsWrong : ChangeSpec := { name := "meaningFlows", fn := fun _ => fun
  | [d1, d2, d3, d4] => { results := [.lit (.bool false)], args := [d1, d2, d3, d4] }
  | _ => none }
def MeaningFlowsWrongFalsely : Prop := meaningFlowsRow.holds Tryz.pinned (OpenSpec.ofChange meaningFlowsWrong)

/-- 'novationlaw10.MeaningUnion': WHATEVER THE INPUT: true; the input reads as it did. -/
def meaningUnionSpec : ChangeSpec := { name := "meaningUnion", fn := fun _ => fun
  | [d1, d2, d3, d4, d5] => { results := [.lit (.bool true)], args := [d1, d2, d3, d4, d5] }
  | _ => none }
def meaningUnionRow : OpenClaim := { program := "ytknpnhodpgajbaagreatdoor", sum := "5338b94aebef3a9798c772eb5f98d73cbea8c52338fee71698bcb9de397ea5d7", func := "novation/novationlaw10.MeaningUnion", spec := "meaningUnion", inPlace := ["internal/bytealg.IndexByteString", "internal/bytealg.IndexString"], unfollowed := true, recurses := true, named := ["novation/contract.parts", "novation/observable.shapes", "internal/bytealg.MaxLen", "novation/observable.operations"], loops := true, apart := false, laid := [("novation/observable.shapes", laid_novation_observable_shapes), ("novation/observable.operations", laid_novation_observable_operations), ("novation/contract.parts", laid_novation_contract_parts)] }
def MeaningUnionSaid : Prop := meaningUnionRow.holds Tryz.pinned (OpenSpec.ofChange meaningUnionSpec)

/-- ITS FALSE NEIGHBOUR: 'it returns false'. Refute it at one input. -/
def meaningUnionWrong : ChangeSpec := { name := "meaningUnion", fn := fun _ => fun
  | [d1, d2, d3, d4, d5] => { results := [.lit (.bool false)], args := [d1, d2, d3, d4, d5] }
  | _ => none }
def MeaningUnionWrongFalsely : Prop := meaningUnionRow.holds Tryz.pinned (OpenSpec.ofChange meaningUnionWrong)

/-- 'novationlaw10.MeaningScale': WHATEVER THE INPUT: true; the input reads as it did. -/
def meaningScaleSpec : ChangeSpec := { name := "meaningScale", fn := fun _ => fun
  | [d1, d2, d3, d4, d5] => { results := [.lit (.bool true)], args := [d1, d2, d3, d4, d5] }
  | _ => none }
def meaningScaleRow : OpenClaim := { program := "ytknpnhodpgajbaagreatdoor", sum := "5338b94aebef3a9798c772eb5f98d73cbea8c52338fee71698bcb9de397ea5d7", func := "novation/novationlaw10.MeaningScale", spec := "meaningScale", inPlace := ["internal/bytealg.IndexByteString", "internal/bytealg.IndexString"], unfollowed := true, recurses := true, named := ["novation/contract.parts", "novation/observable.shapes", "internal/bytealg.MaxLen", "novation/observable.operations"], loops := true, apart := false, laid := [("novation/observable.shapes", laid_novation_observable_shapes), ("novation/observable.operations", laid_novation_observable_operations), ("novation/contract.parts", laid_novation_contract_parts)] }
def MeaningScaleSaid : Prop := meaningScaleRow.holds Tryz.pinned (OpenSpec.ofChange meaningScaleSpec)

/-- ITS FALSE NEIGHBOUR: 'it returns false'. Refute it at one input. -/
def meaningScaleWrong : ChangeSpec := { name := "meaningScale", fn := fun _ => fun
  | [d1, d2, d3, d4, d5] => { results := [.lit (.bool false)], args := [d1, d2, d3, d4, d5] }
  | _ => none }
def MeaningScaleWrongFalsely : Prop := meaningScaleRow.holds Tryz.pinned (OpenSpec.ofChange meaningScaleWrong)

/-- 'novationlaw10.MeaningPrefix': WHATEVER THE INPUT: true; the input reads as it did. -/
def meaningPrefixSpec : ChangeSpec := { name := "meaningPrefix", fn := fun _ => fun
  | [d1, d2, d3, d4, d5] => { results := [.lit (.bool true)], args := [d1, d2, d3, d4, d5] }
  | _ => none }
def meaningPrefixRow : OpenClaim := { program := "ytknpnhodpgajbaagreatdoor", sum := "5338b94aebef3a9798c772eb5f98d73cbea8c52338fee71698bcb9de397ea5d7", func := "novation/novationlaw10.MeaningPrefix", spec := "meaningPrefix", inPlace := ["internal/bytealg.IndexByteString", "internal/bytealg.IndexString"], unfollowed := true, recurses := true, named := ["novation/contract.parts", "novation/observable.shapes", "internal/bytealg.MaxLen", "novation/observable.operations"], loops := true, apart := false, laid := [("novation/observable.shapes", laid_novation_observable_shapes), ("novation/observable.operations", laid_novation_observable_operations), ("novation/contract.parts", laid_novation_contract_parts)] }
def MeaningPrefixSaid : Prop := meaningPrefixRow.holds Tryz.pinned (OpenSpec.ofChange meaningPrefixSpec)

/-- ITS FALSE NEIGHBOUR: 'it returns false'. Refute it at one input. -/
def meaningPrefixWrong : ChangeSpec := { name := "meaningPrefix", fn := fun _ => fun
  | [d1, d2, d3, d4, d5] => { results := [.lit (.bool false)], args := [d1, d2, d3, d4, d5] }
  | _ => none }
def MeaningPrefixWrongFalsely : Prop := meaningPrefixRow.holds Tryz.pinned (OpenSpec.ofChange meaningPrefixWrong)

/-- 'novationlaw10.MeaningChoices': WHATEVER THE INPUT: true; the input reads as it did. -/
def meaningChoicesSpec : ChangeSpec := { name := "meaningChoices", fn := fun _ => fun
  | [d1, d2, d3, d4, d5, d6, d7] => { results := [.lit (.bool true)], args := [d1, d2, d3, d4, d5, d6, d7] }
  | _ => none }
def meaningChoicesRow : OpenClaim := { program := "ytknpnhodpgajbaagreatdoor", sum := "5338b94aebef3a9798c772eb5f98d73cbea8c52338fee71698bcb9de397ea5d7", func := "novation/novationlaw10.MeaningChoices", spec := "meaningChoices", inPlace := ["internal/bytealg.IndexByteString", "internal/bytealg.IndexString"], unfollowed := true, recurses := true, named := ["novation/contract.parts", "novation/observable.shapes", "internal/bytealg.MaxLen", "novation/observable.operations"], loops := true, apart := false, laid := [("novation/observable.shapes", laid_novation_observable_shapes), ("novation/observable.operations", laid_novation_observable_operations), ("novation/contract.parts", laid_novation_contract_parts)] }
def MeaningChoicesSaid : Prop := meaningChoicesRow.holds Tryz.pinned (OpenSpec.ofChange meaningChoicesSpec)

/-- ITS FALSE NEIGHBOUR: 'it returns false'. Refute it at one input. -/
def meaningChoicesWrong : ChangeSpec := { name := "meaningChoices", fn := fun _ => fun
  | [d1, d2, d3, d4, d5, d6, d7] => { results := [.lit (.bool false)], args := [d1, d2, d3, d4, d5, d6, d7] }
  | _ => none }
def MeaningChoicesWrongFalsely : Prop := meaningChoicesRow.holds Tryz.pinned (OpenSpec.ofChange meaningChoicesWrong)

/-- 'novationlaw10.MeaningNames': WHATEVER THE INPUT: true; the input reads as it did. -/
def meaningNamesSpec : ChangeSpec := { name := "meaningNames", fn := fun _ => fun
  | [] => { results := [.lit (.bool true)], args := [] }
  | _ => none }
def meaningNamesRow : OpenClaim := { program := "ytknpnhodpgajbaagreatdoor", sum := "5338b94aebef3a9798c772eb5f98d73cbea8c52338fee71698bcb9de397ea5d7", func := "novation/novationlaw10.MeaningNames", spec := "meaningNames", inPlace := ["internal/bytealg.IndexByteString", "internal/bytealg.IndexString"], unfollowed := true, recurses := true, named := ["novation/contract.parts", "novation/observable.shapes", "internal/bytealg.MaxLen", "novation/observable.operations"], apart := false, laid := [("novation/observable.shapes", laid_novation_observable_shapes), ("novation/observable.operations", laid_novation_observable_operations), ("novation/contract.parts", laid_novation_contract_parts)] }
def MeaningNamesSaid : Prop := meaningNamesRow.holds Tryz.pinned (OpenSpec.ofChange meaningNamesSpec)

/-- ITS FALSE NEIGHBOUR: 'it returns false'. Refute it at one input. -/
def meaningNamesWrong : ChangeSpec := { name := "meaningNames", fn := fun _ => fun
  | [] => { results := [.lit (.bool false)], args := [] }
  | _ => none }
def MeaningNamesWrongFalsely : Prop := meaningNamesRow.holds Tryz.pinned (OpenSpec.ofChange meaningNamesWrong)

/- THE SECOND FORM. 'bulk': how many values and letters a reading holds, each counted each time it is reached (what is shared counts as often as it is met; a slice's spare places count too). A statement '..UptoSaid' is the law's where the arguments, and the package variables that the reading takes, are together of bulk at most 1048576: NARROWER than '..Said'. Prove '..Said' where nothing that the law and all that it calls make is longer than what came in: it says more and counts as full. Else prove '..UptoSaid'. A law counts once. -/
mutual
def uptoBulk {H : Type} : DataW H → Nat
  | .lit (.string bytes) => bytes.length + 1
  | .lit _ => 1
  | .nil => 1
  | .ptr d => uptoBulk d + 1
  | .slice elems spare => uptoBulkAll elems + uptoBulkAll spare + 1
  | .agg parts => uptoBulkAll parts + 1
  | .iface _ d => uptoBulk d + 1
  | .map entries => uptoBulkEntries entries + 1
  | .held _ => 1
def uptoBulkAll {H : Type} : List (DataW H) → Nat
  | [] => 0
  | d :: r => uptoBulk d + uptoBulkAll r
def uptoBulkEntries {H : Type} : List (Lit × DataW H) → Nat
  | [] => 0
  | x :: r => uptoBulkEntry x + uptoBulkEntries r
def uptoBulkEntry {H : Type} : Lit × DataW H → Nat
  | (.string bytes, d) => bytes.length + uptoBulk d + 1
  | (_, d) => uptoBulk d + 1
 end
def uptoSmall : (H : Type) → List (DataW H) → Bool := fun _ ds => decide (uptoBulkAll ds ≤ 1048576)
def OpenSpec.upto (s : _root_.Go.ChangeSpec) : _root_.Go.OpenSpec := { _root_.Go.OpenSpec.ofChange s with cond := some uptoSmall }

/-- 'novationlaw10.MeaningFlows', WHERE WHAT IT READS IS OF BULK AT MOST 1048576: true; the input reads as it did. -/
def meaningFlowsUptoRow : OpenClaim := { program := "ytknpnhodpgajbaagreatdoor", sum := "5338b94aebef3a9798c772eb5f98d73cbea8c52338fee71698bcb9de397ea5d7", func := "novation/novationlaw10.MeaningFlows", spec := "meaningFlows", inPlace := ["internal/bytealg.IndexByteString", "internal/bytealg.IndexString"], unfollowed := true, recurses := true, named := ["novation/contract.parts", "novation/observable.shapes", "internal/bytealg.MaxLen", "novation/observable.operations"], loops := true, apart := false, laid := [("novation/observable.shapes", laid_novation_observable_shapes), ("novation/observable.operations", laid_novation_observable_operations), ("novation/contract.parts", laid_novation_contract_parts)], narrowed := true }
def MeaningFlowsUptoSaid : Prop := meaningFlowsUptoRow.holds Tryz.pinned (OpenSpec.upto meaningFlowsSpec)

/-- 'novationlaw10.MeaningUnion', WHERE WHAT IT READS IS OF BULK AT MOST 1048576: true; the input reads as it did. -/
def meaningUnionUptoRow : OpenClaim := { program := "ytknpnhodpgajbaagreatdoor", sum := "5338b94aebef3a9798c772eb5f98d73cbea8c52338fee71698bcb9de397ea5d7", func := "novation/novationlaw10.MeaningUnion", spec := "meaningUnion", inPlace := ["internal/bytealg.IndexByteString", "internal/bytealg.IndexString"], unfollowed := true, recurses := true, named := ["novation/contract.parts", "novation/observable.shapes", "internal/bytealg.MaxLen", "novation/observable.operations"], loops := true, apart := false, laid := [("novation/observable.shapes", laid_novation_observable_shapes), ("novation/observable.operations", laid_novation_observable_operations), ("novation/contract.parts", laid_novation_contract_parts)], narrowed := true }
def MeaningUnionUptoSaid : Prop := meaningUnionUptoRow.holds Tryz.pinned (OpenSpec.upto meaningUnionSpec)

/-- 'novationlaw10.MeaningScale', WHERE WHAT IT READS IS OF BULK AT MOST 1048576: true; the input reads as it did. -/
def meaningScaleUptoRow : OpenClaim := { program := "ytknpnhodpgajbaagreatdoor", sum := "5338b94aebef3a9798c772eb5f98d73cbea8c52338fee71698bcb9de397ea5d7", func := "novation/novationlaw10.MeaningScale", spec := "meaningScale", inPlace := ["internal/bytealg.IndexByteString", "internal/bytealg.IndexString"], unfollowed := true, recurses := true, named := ["novation/contract.parts", "novation/observable.shapes", "internal/bytealg.MaxLen", "novation/observable.operations"], loops := true, apart := false, laid := [("novation/observable.shapes", laid_novation_observable_shapes), ("novation/observable.operations", laid_novation_observable_operations), ("novation/contract.parts", laid_novation_contract_parts)], narrowed := true }
def MeaningScaleUptoSaid : Prop := meaningScaleUptoRow.holds Tryz.pinned (OpenSpec.upto meaningScaleSpec)

/-- 'novationlaw10.MeaningPrefix', WHERE WHAT IT READS IS OF BULK AT MOST 1048576: true; the input reads as it did. -/
def meaningPrefixUptoRow : OpenClaim := { program := "ytknpnhodpgajbaagreatdoor", sum := "5338b94aebef3a9798c772eb5f98d73cbea8c52338fee71698bcb9de397ea5d7", func := "novation/novationlaw10.MeaningPrefix", spec := "meaningPrefix", inPlace := ["internal/bytealg.IndexByteString", "internal/bytealg.IndexString"], unfollowed := true, recurses := true, named := ["novation/contract.parts", "novation/observable.shapes", "internal/bytealg.MaxLen", "novation/observable.operations"], loops := true, apart := false, laid := [("novation/observable.shapes", laid_novation_observable_shapes), ("novation/observable.operations", laid_novation_observable_operations), ("novation/contract.parts", laid_novation_contract_parts)], narrowed := true }
def MeaningPrefixUptoSaid : Prop := meaningPrefixUptoRow.holds Tryz.pinned (OpenSpec.upto meaningPrefixSpec)

/-- 'novationlaw10.MeaningChoices', WHERE WHAT IT READS IS OF BULK AT MOST 1048576: true; the input reads as it did. -/
def meaningChoicesUptoRow : OpenClaim := { program := "ytknpnhodpgajbaagreatdoor", sum := "5338b94aebef3a9798c772eb5f98d73cbea8c52338fee71698bcb9de397ea5d7", func := "novation/novationlaw10.MeaningChoices", spec := "meaningChoices", inPlace := ["internal/bytealg.IndexByteString", "internal/bytealg.IndexString"], unfollowed := true, recurses := true, named := ["novation/contract.parts", "novation/observable.shapes", "internal/bytealg.MaxLen", "novation/observable.operations"], loops := true, apart := false, laid := [("novation/observable.shapes", laid_novation_observable_shapes), ("novation/observable.operations", laid_novation_observable_operations), ("novation/contract.parts", laid_novation_contract_parts)], narrowed := true }
def MeaningChoicesUptoSaid : Prop := meaningChoicesUptoRow.holds Tryz.pinned (OpenSpec.upto meaningChoicesSpec)

/-- 'novationlaw10.MeaningNames', WHERE WHAT IT READS IS OF BULK AT MOST 1048576: true; the input reads as it did. -/
def meaningNamesUptoRow : OpenClaim := { program := "ytknpnhodpgajbaagreatdoor", sum := "5338b94aebef3a9798c772eb5f98d73cbea8c52338fee71698bcb9de397ea5d7", func := "novation/novationlaw10.MeaningNames", spec := "meaningNames", inPlace := ["internal/bytealg.IndexByteString", "internal/bytealg.IndexString"], unfollowed := true, recurses := true, named := ["novation/contract.parts", "novation/observable.shapes", "internal/bytealg.MaxLen", "novation/observable.operations"], apart := false, laid := [("novation/observable.shapes", laid_novation_observable_shapes), ("novation/observable.operations", laid_novation_observable_operations), ("novation/contract.parts", laid_novation_contract_parts)], narrowed := true }
def MeaningNamesUptoSaid : Prop := meaningNamesUptoRow.holds Tryz.pinned (OpenSpec.upto meaningNamesSpec)

end Rows
end Go.Proofs.YtknpnhodpgajbaaGreatDoor
