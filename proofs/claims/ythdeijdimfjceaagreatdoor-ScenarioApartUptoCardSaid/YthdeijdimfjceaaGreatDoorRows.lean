/-
  NARROWER THAN 'FOR EVERY INPUT', by the rows' own cells (each row's printed sentence says how): ScenarioNames: laid · ScenarioBack: laid · ScenarioAdds: loops, laid · ScenarioApart: loops, laid · ScenarioBalances: loops, laid.
  DERIVED. THE GIVEN ROWS OF THIS SEAT. 5 by the template 'for every input the law returns true; each argument reads behind the call as it read before'; 0 by the template 'total and deterministic' (their statements: YthdeijdimfjceaaGreatDoorTotals.lean).
  GIVEN WITH THE SEED: the statements are not yours to turn. If you find one false, say at which input.
  Laid BY PROGRAM, IN A SANDBOX (cutbox-rows.mjs): the forced cells as the released guide's own fill.sh prints them over the translation c5e726a6376e766d… (all of the seat's roots in one cut). By AI agents, Wed Nov 11 2026. No macro, syntax, notation, axiom, sorry.
-/
import Derived.Test.YthdeijdimfjceaaGreatDoorChecked
import GoSem.Claim
import GoSem.ClaimJoined
import GoSem.ClaimMapViews
import Derived.JoinedTies
import Derived.KernelRfl
namespace Go.Proofs.YthdeijdimfjceaaGreatDoor
/- THE CELL 'sum', in the pinned program and in every row, IS THE sha256 OF THE DUMP (.gsa) THAT YthdeijdimfjceaaGreatDoorProg.lean LOADS. Nothing in Lean hashes anything: it is a label: what it is worth is what the hold of that sum in a sandbox is worth. -/
noncomputable def Tryz.pinned : Pinned := { name := "ythdeijdimfjceaagreatdoor", sum := "c5e726a6376e766dafd698c65427ba0cdedb107de97c01773c7484f6b0258d6b", checked := Tryz.checked }
namespace Rows
def none {H : Type} : Left H := { results := [], args := [] }

/- WHAT THE LISTED PACKAGE-LEVEL VARIABLES READ AS WHEN THE CALL BEGINS. Each datum BY PROGRAM (the guide's laid-datum.mjs) off the statement by which the dump's own 'gosem.cut.vars' lays the variable. In a bare row this is a premise. The card (YthdeijdimfjceaaGreatDoorCards.lean) ties it to the program's text. -/
def laid_novation_observable_shapes {H : Type} : DataW H := .map [(.int .u8 4, .agg [.slice [.lit (.int .u8 1), .lit (.int .u8 1)] [], .lit (.int .u8 1)]), (.int .u8 5, .agg [.slice [.lit (.int .u8 1), .lit (.int .u8 1)] [], .lit (.int .u8 1)]), (.int .u8 6, .agg [.slice [.lit (.int .u8 1), .lit (.int .u8 1)] [], .lit (.int .u8 1)]), (.int .u8 7, .agg [.slice [.lit (.int .u8 1), .lit (.int .u8 1)] [], .lit (.int .u8 1)]), (.int .u8 8, .agg [.slice [.lit (.int .u8 1), .lit (.int .u8 1)] [], .lit (.int .u8 1)]), (.int .u8 9, .agg [.slice [.lit (.int .u8 2), .lit (.int .u8 1), .lit (.int .u8 1)] [], .lit (.int .u8 1)]), (.int .u8 11, .agg [.slice [.lit (.int .u8 1), .lit (.int .u8 1)] [], .lit (.int .u8 2)]), (.int .u8 12, .agg [.slice [.lit (.int .u8 1), .lit (.int .u8 1)] [], .lit (.int .u8 2)]), (.int .u8 13, .agg [.slice [.lit (.int .u8 2), .lit (.int .u8 2)] [], .lit (.int .u8 2)]), (.int .u8 14, .agg [.slice [.lit (.int .u8 2), .lit (.int .u8 2)] [], .lit (.int .u8 2)]), (.int .u8 15, .agg [.slice [.lit (.int .u8 2)] [], .lit (.int .u8 2)])]
def laid_novation_observable_operations {H : Type} : DataW H := .iface "func table" (.map [(.int .u8 4, .iface "func" (.lit (.string [40, 42, 110, 111, 118, 97, 116, 105, 111, 110, 47, 111, 98, 115, 101, 114, 118, 97, 98, 108, 101, 46, 115, 116, 97, 116, 101, 41, 46, 97, 100, 100]))), (.int .u8 5, .iface "func" (.lit (.string [40, 42, 110, 111, 118, 97, 116, 105, 111, 110, 47, 111, 98, 115, 101, 114, 118, 97, 98, 108, 101, 46, 115, 116, 97, 116, 101, 41, 46, 115, 117, 98]))), (.int .u8 6, .iface "func" (.lit (.string [40, 42, 110, 111, 118, 97, 116, 105, 111, 110, 47, 111, 98, 115, 101, 114, 118, 97, 98, 108, 101, 46, 115, 116, 97, 116, 101, 41, 46, 109, 117, 108]))), (.int .u8 7, .iface "func" (.lit (.string [40, 42, 110, 111, 118, 97, 116, 105, 111, 110, 47, 111, 98, 115, 101, 114, 118, 97, 98, 108, 101, 46, 115, 116, 97, 116, 101, 41, 46, 103, 114, 101, 97, 116, 101, 114]))), (.int .u8 8, .iface "func" (.lit (.string [40, 42, 110, 111, 118, 97, 116, 105, 111, 110, 47, 111, 98, 115, 101, 114, 118, 97, 98, 108, 101, 46, 115, 116, 97, 116, 101, 41, 46, 115, 109, 97, 108, 108, 101, 114])))])
def laid_novation_contract_parts {H : Type} : DataW H := .map [(.int .u8 1, .lit (.int .i64 0)), (.int .u8 2, .lit (.int .i64 15)), (.int .u8 3, .lit (.int .i64 256)), (.int .u8 4, .lit (.int .i64 136)), (.int .u8 5, .lit (.int .i64 272)), (.int .u8 6, .lit (.int .i64 160)), (.int .u8 7, .lit (.int .i64 261)), (.int .u8 8, .lit (.int .i64 197)), (.int .u8 9, .lit (.int .i64 208)), (.int .u8 10, .lit (.int .i64 208))]

/-- 'novationlaw32.ScenarioNames': WHATEVER THE INPUT: true; the input reads as it did. -/
def scenarioNamesSpec : ChangeSpec := { name := "scenarioNames", fn := fun _ => fun
  | [] => { results := [.lit (.bool true)], args := [] }
  | _ => none }
def scenarioNamesRow : OpenClaim := { program := "ythdeijdimfjceaagreatdoor", sum := "c5e726a6376e766dafd698c65427ba0cdedb107de97c01773c7484f6b0258d6b", func := "novation/novationlaw32.ScenarioNames", spec := "scenarioNames", inPlace := ["internal/bytealg.IndexByteString", "internal/bytealg.IndexString"], unfollowed := true, recurses := true, named := ["internal/bytealg.MaxLen", "novation/contract.parts", "novation/observable.shapes", "novation/observable.operations"], apart := false, laid := [("novation/observable.shapes", laid_novation_observable_shapes), ("novation/observable.operations", laid_novation_observable_operations), ("novation/contract.parts", laid_novation_contract_parts)] }
def ScenarioNamesSaid : Prop := scenarioNamesRow.holds Tryz.pinned (OpenSpec.ofChange scenarioNamesSpec)

/-- ITS FALSE NEIGHBOUR: 'it returns false'. Refute it at one input. -/
def scenarioNamesWrong : ChangeSpec := { name := "scenarioNames", fn := fun _ => fun
  | [] => { results := [.lit (.bool false)], args := [] }
  | _ => none }
def ScenarioNamesWrongFalsely : Prop := scenarioNamesRow.holds Tryz.pinned (OpenSpec.ofChange scenarioNamesWrong)

/-- 'novationlaw32.ScenarioBack': WHATEVER THE INPUT: true; the input reads as it did. -/
def scenarioBackSpec : ChangeSpec := { name := "scenarioBack", fn := fun _ => fun
  | [d1, d2] => { results := [.lit (.bool true)], args := [d1, d2] }
  | _ => none }
def scenarioBackRow : OpenClaim := { program := "ythdeijdimfjceaagreatdoor", sum := "c5e726a6376e766dafd698c65427ba0cdedb107de97c01773c7484f6b0258d6b", func := "novation/novationlaw32.ScenarioBack", spec := "scenarioBack", inPlace := ["internal/bytealg.IndexByteString", "internal/bytealg.IndexString"], unfollowed := true, recurses := true, named := ["novation/contract.parts", "novation/observable.shapes", "internal/bytealg.MaxLen", "novation/observable.operations"], apart := false, laid := [("novation/observable.shapes", laid_novation_observable_shapes), ("novation/observable.operations", laid_novation_observable_operations), ("novation/contract.parts", laid_novation_contract_parts)] }
def ScenarioBackSaid : Prop := scenarioBackRow.holds Tryz.pinned (OpenSpec.ofChange scenarioBackSpec)

/-- ITS FALSE NEIGHBOUR: 'it returns false'. Refute it at one input. -/
def scenarioBackWrong : ChangeSpec := { name := "scenarioBack", fn := fun _ => fun
  | [d1, d2] => { results := [.lit (.bool false)], args := [d1, d2] }
  | _ => none }
def ScenarioBackWrongFalsely : Prop := scenarioBackRow.holds Tryz.pinned (OpenSpec.ofChange scenarioBackWrong)

/-- 'novationlaw32.ScenarioAdds': WHATEVER THE INPUT: true; the input reads as it did. -/
def scenarioAddsSpec : ChangeSpec := { name := "scenarioAdds", fn := fun _ => fun
  | [d1, d2, d3, d4, d5, d6, d7] => { results := [.lit (.bool true)], args := [d1, d2, d3, d4, d5, d6, d7] }
  | _ => none }
def scenarioAddsRow : OpenClaim := { program := "ythdeijdimfjceaagreatdoor", sum := "c5e726a6376e766dafd698c65427ba0cdedb107de97c01773c7484f6b0258d6b", func := "novation/novationlaw32.ScenarioAdds", spec := "scenarioAdds", inPlace := ["internal/bytealg.IndexByteString", "internal/bytealg.IndexString"], unfollowed := true, recurses := true, named := ["novation/contract.parts", "novation/observable.shapes", "internal/bytealg.MaxLen", "novation/observable.operations"], loops := true, apart := false, laid := [("novation/observable.shapes", laid_novation_observable_shapes), ("novation/observable.operations", laid_novation_observable_operations), ("novation/contract.parts", laid_novation_contract_parts)] }
def ScenarioAddsSaid : Prop := scenarioAddsRow.holds Tryz.pinned (OpenSpec.ofChange scenarioAddsSpec)

/-- ITS FALSE NEIGHBOUR: 'it returns false'. Refute it at one input. -/
def scenarioAddsWrong : ChangeSpec := { name := "scenarioAdds", fn := fun _ => fun
  | [d1, d2, d3, d4, d5, d6, d7] => { results := [.lit (.bool false)], args := [d1, d2, d3, d4, d5, d6, d7] }
  | _ => none }
def ScenarioAddsWrongFalsely : Prop := scenarioAddsRow.holds Tryz.pinned (OpenSpec.ofChange scenarioAddsWrong)

/-- 'novationlaw32.ScenarioApart': WHATEVER THE INPUT: true; the input reads as it did. -/
def scenarioApartSpec : ChangeSpec := { name := "scenarioApart", fn := fun _ => fun
  | [d1, d2, d3, d4, d5, d6] => { results := [.lit (.bool true)], args := [d1, d2, d3, d4, d5, d6] }
  | _ => none }
def scenarioApartRow : OpenClaim := { program := "ythdeijdimfjceaagreatdoor", sum := "c5e726a6376e766dafd698c65427ba0cdedb107de97c01773c7484f6b0258d6b", func := "novation/novationlaw32.ScenarioApart", spec := "scenarioApart", inPlace := ["internal/bytealg.IndexByteString", "internal/bytealg.IndexString"], unfollowed := true, recurses := true, named := ["novation/contract.parts", "novation/observable.shapes", "internal/bytealg.MaxLen", "novation/observable.operations"], loops := true, apart := false, laid := [("novation/observable.shapes", laid_novation_observable_shapes), ("novation/observable.operations", laid_novation_observable_operations), ("novation/contract.parts", laid_novation_contract_parts)] }
def ScenarioApartSaid : Prop := scenarioApartRow.holds Tryz.pinned (OpenSpec.ofChange scenarioApartSpec)

/-- ITS FALSE NEIGHBOUR: 'it returns false'. Refute it at one input. -/
def scenarioApartWrong : ChangeSpec := { name := "scenarioApart", fn := fun _ => fun
  | [d1, d2, d3, d4, d5, d6] => { results := [.lit (.bool false)], args := [d1, d2, d3, d4, d5, d6] }
  | _ => none }
def ScenarioApartWrongFalsely : Prop := scenarioApartRow.holds Tryz.pinned (OpenSpec.ofChange scenarioApartWrong)

/-- 'novationlaw32.ScenarioBalances': WHATEVER THE INPUT: true; the input reads as it did. -/
def scenarioBalancesSpec : ChangeSpec := { name := "scenarioBalances", fn := fun _ => fun
  | [d1, d2, d3, d4, d5] => { results := [.lit (.bool true)], args := [d1, d2, d3, d4, d5] }
  | _ => none }
def scenarioBalancesRow : OpenClaim := { program := "ythdeijdimfjceaagreatdoor", sum := "c5e726a6376e766dafd698c65427ba0cdedb107de97c01773c7484f6b0258d6b", func := "novation/novationlaw32.ScenarioBalances", spec := "scenarioBalances", inPlace := ["internal/bytealg.IndexByteString", "internal/bytealg.IndexString"], unfollowed := true, recurses := true, named := ["novation/contract.parts", "novation/observable.shapes", "internal/bytealg.MaxLen", "novation/observable.operations"], loops := true, apart := false, laid := [("novation/observable.shapes", laid_novation_observable_shapes), ("novation/observable.operations", laid_novation_observable_operations), ("novation/contract.parts", laid_novation_contract_parts)] }
def ScenarioBalancesSaid : Prop := scenarioBalancesRow.holds Tryz.pinned (OpenSpec.ofChange scenarioBalancesSpec)

/-- ITS FALSE NEIGHBOUR: 'it returns false'. Refute it at one input. -/
def scenarioBalancesWrong : ChangeSpec := { name := "scenarioBalances", fn := fun _ => fun
  | [d1, d2, d3, d4, d5] => { results := [.lit (.bool false)], args := [d1, d2, d3, d4, d5] }
  | _ => none }
def ScenarioBalancesWrongFalsely : Prop := scenarioBalancesRow.holds Tryz.pinned (OpenSpec.ofChange scenarioBalancesWrong)

/- THE SECOND FORM. 'bulk': how many values and letters a reading holds, each counted each time it is reached (what is shared counts as often as it is met; a slice's spare places count too). A statement '..UptoSaid' is the law's where the arguments, and the package variables that the reading takes, are together of bulk at most 1048576: NARROWER than '..Said'. Prove '..Said' where nothing that the law and all that it calls make is longer than what came in: it says more and counts as full. Else prove '..UptoSaid'. A law counts once. -/
mutual
def uptoBulk {H : Type} : DataW H → Nat
  | .lit (.string bytes) => bytes.length + 1
  | .lit _ => 1
  | .nil => 1
  | .ptr d => uptoBulk d + 1
  | .slice elems spare => uptoBulkAll elems + uptoBulkAll spare + 1
  | .agg parts => uptoBulkAll parts + 1
  | .iface _ d => uptoBulk d + 1
  | .map entries => uptoBulkEntries entries + 1
  | .held _ => 1
def uptoBulkAll {H : Type} : List (DataW H) → Nat
  | [] => 0
  | d :: r => uptoBulk d + uptoBulkAll r
def uptoBulkEntries {H : Type} : List (Lit × DataW H) → Nat
  | [] => 0
  | x :: r => uptoBulkEntry x + uptoBulkEntries r
def uptoBulkEntry {H : Type} : Lit × DataW H → Nat
  | (.string bytes, d) => bytes.length + uptoBulk d + 1
  | (_, d) => uptoBulk d + 1
 end
def uptoSmall : (H : Type) → List (DataW H) → Bool := fun _ ds => decide (uptoBulkAll ds ≤ 1048576)
def OpenSpec.upto (s : _root_.Go.ChangeSpec) : _root_.Go.OpenSpec := { _root_.Go.OpenSpec.ofChange s with cond := some uptoSmall }

/-- 'novationlaw32.ScenarioNames', WHERE WHAT IT READS IS OF BULK AT MOST 1048576: true; the input reads as it did. -/
def scenarioNamesUptoRow : OpenClaim := { program := "ythdeijdimfjceaagreatdoor", sum := "c5e726a6376e766dafd698c65427ba0cdedb107de97c01773c7484f6b0258d6b", func := "novation/novationlaw32.ScenarioNames", spec := "scenarioNames", inPlace := ["internal/bytealg.IndexByteString", "internal/bytealg.IndexString"], unfollowed := true, recurses := true, named := ["internal/bytealg.MaxLen", "novation/contract.parts", "novation/observable.shapes", "novation/observable.operations"], apart := false, laid := [("novation/observable.shapes", laid_novation_observable_shapes), ("novation/observable.operations", laid_novation_observable_operations), ("novation/contract.parts", laid_novation_contract_parts)], narrowed := true }
def ScenarioNamesUptoSaid : Prop := scenarioNamesUptoRow.holds Tryz.pinned (OpenSpec.upto scenarioNamesSpec)

/-- 'novationlaw32.ScenarioBack', WHERE WHAT IT READS IS OF BULK AT MOST 1048576: true; the input reads as it did. -/
def scenarioBackUptoRow : OpenClaim := { program := "ythdeijdimfjceaagreatdoor", sum := "c5e726a6376e766dafd698c65427ba0cdedb107de97c01773c7484f6b0258d6b", func := "novation/novationlaw32.ScenarioBack", spec := "scenarioBack", inPlace := ["internal/bytealg.IndexByteString", "internal/bytealg.IndexString"], unfollowed := true, recurses := true, named := ["novation/contract.parts", "novation/observable.shapes", "internal/bytealg.MaxLen", "novation/observable.operations"], apart := false, laid := [("novation/observable.shapes", laid_novation_observable_shapes), ("novation/observable.operations", laid_novation_observable_operations), ("novation/contract.parts", laid_novation_contract_parts)], narrowed := true }
def ScenarioBackUptoSaid : Prop := scenarioBackUptoRow.holds Tryz.pinned (OpenSpec.upto scenarioBackSpec)

/-- 'novationlaw32.ScenarioAdds', WHERE WHAT IT READS IS OF BULK AT MOST 1048576: true; the input reads as it did. -/
def scenarioAddsUptoRow : OpenClaim := { program := "ythdeijdimfjceaagreatdoor", sum := "c5e726a6376e766dafd698c65427ba0cdedb107de97c01773c7484f6b0258d6b", func := "novation/novationlaw32.ScenarioAdds", spec := "scenarioAdds", inPlace := ["internal/bytealg.IndexByteString", "internal/bytealg.IndexString"], unfollowed := true, recurses := true, named := ["novation/contract.parts", "novation/observable.shapes", "internal/bytealg.MaxLen", "novation/observable.operations"], loops := true, apart := false, laid := [("novation/observable.shapes", laid_novation_observable_shapes), ("novation/observable.operations", laid_novation_observable_operations), ("novation/contract.parts", laid_novation_contract_parts)], narrowed := true }
def ScenarioAddsUptoSaid : Prop := scenarioAddsUptoRow.holds Tryz.pinned (OpenSpec.upto scenarioAddsSpec)

/-- 'novationlaw32.ScenarioApart', WHERE WHAT IT READS IS OF BULK AT MOST 1048576: true; the input reads as it did. -/
def scenarioApartUptoRow : OpenClaim := { program := "ythdeijdimfjceaagreatdoor", sum := "c5e726a6376e766dafd698c65427ba0cdedb107de97c01773c7484f6b0258d6b", func := "novation/novationlaw32.ScenarioApart", spec := "scenarioApart", inPlace := ["internal/bytealg.IndexByteString", "internal/bytealg.IndexString"], unfollowed := true, recurses := true, named := ["novation/contract.parts", "novation/observable.shapes", "internal/bytealg.MaxLen", "novation/observable.operations"], loops := true, apart := false, laid := [("novation/observable.shapes", laid_novation_observable_shapes), ("novation/observable.operations", laid_novation_observable_operations), ("novation/contract.parts", laid_novation_contract_parts)], narrowed := true }
def ScenarioApartUptoSaid : Prop := scenarioApartUptoRow.holds Tryz.pinned (OpenSpec.upto scenarioApartSpec)

/-- 'novationlaw32.ScenarioBalances', WHERE WHAT IT READS IS OF BULK AT MOST 1048576: true; the input reads as it did. -/
def scenarioBalancesUptoRow : OpenClaim := { program := "ythdeijdimfjceaagreatdoor", sum := "c5e726a6376e766dafd698c65427ba0cdedb107de97c01773c7484f6b0258d6b", func := "novation/novationlaw32.ScenarioBalances", spec := "scenarioBalances", inPlace := ["internal/bytealg.IndexByteString", "internal/bytealg.IndexString"], unfollowed := true, recurses := true, named := ["novation/contract.parts", "novation/observable.shapes", "internal/bytealg.MaxLen", "novation/observable.operations"], loops := true, apart := false, laid := [("novation/observable.shapes", laid_novation_observable_shapes), ("novation/observable.operations", laid_novation_observable_operations), ("novation/contract.parts", laid_novation_contract_parts)], narrowed := true }
def ScenarioBalancesUptoSaid : Prop := scenarioBalancesUptoRow.holds Tryz.pinned (OpenSpec.upto scenarioBalancesSpec)

end Rows
end Go.Proofs.YthdeijdimfjceaaGreatDoor
