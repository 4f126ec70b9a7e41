/-
  NARROWER THAN 'FOR EVERY INPUT', by the rows' own cells (each row's printed sentence says how): MeaningBalances: loops, laid · CausalPaid: loops, laid · CausalPast: loops, laid · CausalNeeded: loops, laid.
  DERIVED. THE GIVEN ROWS OF THIS SEAT. 4 by the template 'for every input the law returns true; each argument reads behind the call as it read before'; 0 by the template 'total and deterministic' (their statements: YtcnpaciljmekcaaGreatDoorTotals.lean).
  GIVEN WITH THE SEED: the statements are not yours to turn. If you find one false, say at which input.
  Laid BY PROGRAM, IN A SANDBOX (cutbox-rows.mjs): the forced cells as the released guide's own fill.sh prints them over the translation 8cf758a79a6727be… (all of the seat's roots in one cut). By AI agents, Wed Nov 11 2026. No macro, syntax, notation, axiom, sorry.
-/
import Derived.Test.YtcnpaciljmekcaaGreatDoorChecked
import GoSem.Claim
import GoSem.ClaimJoined
import GoSem.ClaimMapViews
import Derived.JoinedTies
import Derived.KernelRfl
namespace Go.Proofs.YtcnpaciljmekcaaGreatDoor
/- THE CELL 'sum', in the pinned program and in every row, IS THE sha256 OF THE DUMP (.gsa) THAT YtcnpaciljmekcaaGreatDoorProg.lean LOADS. Nothing in Lean hashes anything: it is a label: what it is worth is what the hold of that sum in a sandbox is worth. -/
noncomputable def Tryz.pinned : Pinned := { name := "ytcnpaciljmekcaagreatdoor", sum := "8cf758a79a6727bee37af0236a8f01ee464d20e80ee64ca62d77890107c3066b", checked := Tryz.checked }
namespace Rows
def none {H : Type} : Left H := { results := [], args := [] }

/- WHAT THE LISTED PACKAGE-LEVEL VARIABLES READ AS WHEN THE CALL BEGINS. Each datum BY PROGRAM (the guide's laid-datum.mjs) off the statement by which the dump's own 'gosem.cut.vars' lays the variable. In a bare row this is a premise. The card (YtcnpaciljmekcaaGreatDoorCards.lean) ties it to the program's text. -/
def laid_novation_observable_shapes {H : Type} : DataW H := .map [(.int .u8 4, .agg [.slice [.lit (.int .u8 1), .lit (.int .u8 1)] [], .lit (.int .u8 1)]), (.int .u8 5, .agg [.slice [.lit (.int .u8 1), .lit (.int .u8 1)] [], .lit (.int .u8 1)]), (.int .u8 6, .agg [.slice [.lit (.int .u8 1), .lit (.int .u8 1)] [], .lit (.int .u8 1)]), (.int .u8 7, .agg [.slice [.lit (.int .u8 1), .lit (.int .u8 1)] [], .lit (.int .u8 1)]), (.int .u8 8, .agg [.slice [.lit (.int .u8 1), .lit (.int .u8 1)] [], .lit (.int .u8 1)]), (.int .u8 9, .agg [.slice [.lit (.int .u8 2), .lit (.int .u8 1), .lit (.int .u8 1)] [], .lit (.int .u8 1)]), (.int .u8 11, .agg [.slice [.lit (.int .u8 1), .lit (.int .u8 1)] [], .lit (.int .u8 2)]), (.int .u8 12, .agg [.slice [.lit (.int .u8 1), .lit (.int .u8 1)] [], .lit (.int .u8 2)]), (.int .u8 13, .agg [.slice [.lit (.int .u8 2), .lit (.int .u8 2)] [], .lit (.int .u8 2)]), (.int .u8 14, .agg [.slice [.lit (.int .u8 2), .lit (.int .u8 2)] [], .lit (.int .u8 2)]), (.int .u8 15, .agg [.slice [.lit (.int .u8 2)] [], .lit (.int .u8 2)])]
def laid_novation_observable_operations {H : Type} : DataW H := .iface "func table" (.map [(.int .u8 4, .iface "func" (.lit (.string [40, 42, 110, 111, 118, 97, 116, 105, 111, 110, 47, 111, 98, 115, 101, 114, 118, 97, 98, 108, 101, 46, 115, 116, 97, 116, 101, 41, 46, 97, 100, 100]))), (.int .u8 5, .iface "func" (.lit (.string [40, 42, 110, 111, 118, 97, 116, 105, 111, 110, 47, 111, 98, 115, 101, 114, 118, 97, 98, 108, 101, 46, 115, 116, 97, 116, 101, 41, 46, 115, 117, 98]))), (.int .u8 6, .iface "func" (.lit (.string [40, 42, 110, 111, 118, 97, 116, 105, 111, 110, 47, 111, 98, 115, 101, 114, 118, 97, 98, 108, 101, 46, 115, 116, 97, 116, 101, 41, 46, 109, 117, 108]))), (.int .u8 7, .iface "func" (.lit (.string [40, 42, 110, 111, 118, 97, 116, 105, 111, 110, 47, 111, 98, 115, 101, 114, 118, 97, 98, 108, 101, 46, 115, 116, 97, 116, 101, 41, 46, 103, 114, 101, 97, 116, 101, 114]))), (.int .u8 8, .iface "func" (.lit (.string [40, 42, 110, 111, 118, 97, 116, 105, 111, 110, 47, 111, 98, 115, 101, 114, 118, 97, 98, 108, 101, 46, 115, 116, 97, 116, 101, 41, 46, 115, 109, 97, 108, 108, 101, 114])))])
def laid_novation_contract_parts {H : Type} : DataW H := .map [(.int .u8 1, .lit (.int .i64 0)), (.int .u8 2, .lit (.int .i64 15)), (.int .u8 3, .lit (.int .i64 256)), (.int .u8 4, .lit (.int .i64 136)), (.int .u8 5, .lit (.int .i64 272)), (.int .u8 6, .lit (.int .i64 160)), (.int .u8 7, .lit (.int .i64 261)), (.int .u8 8, .lit (.int .i64 197)), (.int .u8 9, .lit (.int .i64 208)), (.int .u8 10, .lit (.int .i64 208))]

/-- 'novationlaw10.MeaningBalances': WHATEVER THE INPUT: true; the input reads as it did. -/
def meaningBalancesSpec : ChangeSpec := { name := "meaningBalances", fn := fun _ => fun
  | [d1, d2, d3] => { results := [.lit (.bool true)], args := [d1, d2, d3] }
  | _ => none }
def meaningBalancesRow : OpenClaim := { program := "ytcnpaciljmekcaagreatdoor", sum := "8cf758a79a6727bee37af0236a8f01ee464d20e80ee64ca62d77890107c3066b", func := "novation/novationlaw10.MeaningBalances", spec := "meaningBalances", inPlace := ["internal/bytealg.IndexByteString", "internal/bytealg.IndexString"], unfollowed := true, recurses := true, named := ["novation/contract.parts", "novation/observable.shapes", "internal/bytealg.MaxLen", "novation/observable.operations"], loops := true, plainKeys := false, apart := false, laid := [("novation/observable.shapes", laid_novation_observable_shapes), ("novation/observable.operations", laid_novation_observable_operations), ("novation/contract.parts", laid_novation_contract_parts)] }
def MeaningBalancesSaid : Prop := meaningBalancesRow.holds Tryz.pinned (OpenSpec.ofChange meaningBalancesSpec)

/-- ITS FALSE NEIGHBOUR: 'it returns false'. Refute it at one input. -/
def meaningBalancesWrong : ChangeSpec := { name := "meaningBalances", fn := fun _ => fun
  | [d1, d2, d3] => { results := [.lit (.bool false)], args := [d1, d2, d3] }
  | _ => none }
def MeaningBalancesWrongFalsely : Prop := meaningBalancesRow.holds Tryz.pinned (OpenSpec.ofChange meaningBalancesWrong)

/-- 'novationlaw15.CausalPaid': WHATEVER THE INPUT: true; the input reads as it did. -/
def causalPaidSpec : ChangeSpec := { name := "causalPaid", fn := fun _ => fun
  | [d1, d2, d3] => { results := [.lit (.bool true)], args := [d1, d2, d3] }
  | _ => none }
def causalPaidRow : OpenClaim := { program := "ytcnpaciljmekcaagreatdoor", sum := "8cf758a79a6727bee37af0236a8f01ee464d20e80ee64ca62d77890107c3066b", func := "novation/novationlaw15.CausalPaid", spec := "causalPaid", inPlace := ["internal/bytealg.IndexByteString", "internal/bytealg.IndexString"], unfollowed := true, recurses := true, named := ["novation/contract.parts", "novation/observable.shapes", "internal/bytealg.MaxLen", "novation/observable.operations"], loops := true, plainKeys := false, apart := false, laid := [("novation/observable.shapes", laid_novation_observable_shapes), ("novation/observable.operations", laid_novation_observable_operations), ("novation/contract.parts", laid_novation_contract_parts)] }
def CausalPaidSaid : Prop := causalPaidRow.holds Tryz.pinned (OpenSpec.ofChange causalPaidSpec)

/-- ITS FALSE NEIGHBOUR: 'it returns false'. Refute it at one input. -/
def causalPaidWrong : ChangeSpec := { name := "causalPaid", fn := fun _ => fun
  | [d1, d2, d3] => { results := [.lit (.bool false)], args := [d1, d2, d3] }
  | _ => none }
def CausalPaidWrongFalsely : Prop := causalPaidRow.holds Tryz.pinned (OpenSpec.ofChange causalPaidWrong)

/-- 'novationlaw15.CausalPast': WHATEVER THE INPUT: true; the input reads as it did. -/
def causalPastSpec : ChangeSpec := { name := "causalPast", fn := fun _ => fun
  | [d1, d2, d3, d4] => { results := [.lit (.bool true)], args := [d1, d2, d3, d4] }
  | _ => none }
def causalPastRow : OpenClaim := { program := "ytcnpaciljmekcaagreatdoor", sum := "8cf758a79a6727bee37af0236a8f01ee464d20e80ee64ca62d77890107c3066b", func := "novation/novationlaw15.CausalPast", spec := "causalPast", inPlace := ["internal/bytealg.IndexByteString", "internal/bytealg.IndexString"], unfollowed := true, recurses := true, named := ["novation/contract.parts", "novation/observable.shapes", "internal/bytealg.MaxLen", "novation/observable.operations"], loops := true, plainKeys := false, apart := false, laid := [("novation/observable.shapes", laid_novation_observable_shapes), ("novation/observable.operations", laid_novation_observable_operations), ("novation/contract.parts", laid_novation_contract_parts)] }
def CausalPastSaid : Prop := causalPastRow.holds Tryz.pinned (OpenSpec.ofChange causalPastSpec)

/-- ITS FALSE NEIGHBOUR: 'it returns false'. Refute it at one input. -/
def causalPastWrong : ChangeSpec := { name := "causalPast", fn := fun _ => fun
  | [d1, d2, d3, d4] => { results := [.lit (.bool false)], args := [d1, d2, d3, d4] }
  | _ => none }
def CausalPastWrongFalsely : Prop := causalPastRow.holds Tryz.pinned (OpenSpec.ofChange causalPastWrong)

/-- 'novationlaw15.CausalNeeded': WHATEVER THE INPUT: true; the input reads as it did. -/
def causalNeededSpec : ChangeSpec := { name := "causalNeeded", fn := fun _ => fun
  | [d1, d2, d3] => { results := [.lit (.bool true)], args := [d1, d2, d3] }
  | _ => none }
def causalNeededRow : OpenClaim := { program := "ytcnpaciljmekcaagreatdoor", sum := "8cf758a79a6727bee37af0236a8f01ee464d20e80ee64ca62d77890107c3066b", func := "novation/novationlaw15.CausalNeeded", spec := "causalNeeded", inPlace := ["internal/bytealg.IndexByteString", "internal/bytealg.IndexString"], unfollowed := true, recurses := true, named := ["novation/contract.parts", "novation/observable.shapes", "internal/bytealg.MaxLen", "novation/observable.operations"], loops := true, plainKeys := false, apart := false, laid := [("novation/observable.shapes", laid_novation_observable_shapes), ("novation/observable.operations", laid_novation_observable_operations), ("novation/contract.parts", laid_novation_contract_parts)] }
def CausalNeededSaid : Prop := causalNeededRow.holds Tryz.pinned (OpenSpec.ofChange causalNeededSpec)

/-- ITS FALSE NEIGHBOUR: 'it returns false'. Refute it at one input. -/
def causalNeededWrong : ChangeSpec := { name := "causalNeeded", fn := fun _ => fun
  | [d1, d2, d3] => { results := [.lit (.bool false)], args := [d1, d2, d3] }
  | _ => none }
def CausalNeededWrongFalsely : Prop := causalNeededRow.holds Tryz.pinned (OpenSpec.ofChange causalNeededWrong)

/- THE SECOND FORM. 'bulk': how many values and letters a reading holds, each counted each time it is reached (what is shared counts as often as it is met; a slice's spare places count too). A statement '..UptoSaid' is the law's where the arguments, and the package variables that the reading takes, are together of bulk at most 1048576: NARROWER than '..Said'. Prove '..Said' where nothing that the law and all that it calls make is longer than what came in: it says more and counts as full. Else prove '..UptoSaid'. A law counts once. -/
mutual
def uptoBulk {H : Type} : DataW H → Nat
  | .lit (.string bytes) => bytes.length + 1
  | .lit _ => 1
  | .nil => 1
  | .ptr d => uptoBulk d + 1
  | .slice elems spare => uptoBulkAll elems + uptoBulkAll spare + 1
  | .agg parts => uptoBulkAll parts + 1
  | .iface _ d => uptoBulk d + 1
  | .map entries => uptoBulkEntries entries + 1
  | .held _ => 1
def uptoBulkAll {H : Type} : List (DataW H) → Nat
  | [] => 0
  | d :: r => uptoBulk d + uptoBulkAll r
def uptoBulkEntries {H : Type} : List (Lit × DataW H) → Nat
  | [] => 0
  | x :: r => uptoBulkEntry x + uptoBulkEntries r
def uptoBulkEntry {H : Type} : Lit × DataW H → Nat
  | (.string bytes, d) => bytes.length + uptoBulk d + 1
  | (_, d) => uptoBulk d + 1
 end
def uptoSmall : (H : Type) → List (DataW H) → Bool := fun _ ds => decide (uptoBulkAll ds ≤ 1048576)
def OpenSpec.upto (s : _root_.Go.ChangeSpec) : _root_.Go.OpenSpec := { _root_.Go.OpenSpec.ofChange s with cond := some uptoSmall }

/-- 'novationlaw10.MeaningBalances', WHERE WHAT IT READS IS OF BULK AT MOST 1048576: true; the input reads as it did. -/
def meaningBalancesUptoRow : OpenClaim := { program := "ytcnpaciljmekcaagreatdoor", sum := "8cf758a79a6727bee37af0236a8f01ee464d20e80ee64ca62d77890107c3066b", func := "novation/novationlaw10.MeaningBalances", spec := "meaningBalances", inPlace := ["internal/bytealg.IndexByteString", "internal/bytealg.IndexString"], unfollowed := true, recurses := true, named := ["novation/contract.parts", "novation/observable.shapes", "internal/bytealg.MaxLen", "novation/observable.operations"], loops := true, plainKeys := false, apart := false, laid := [("novation/observable.shapes", laid_novation_observable_shapes), ("novation/observable.operations", laid_novation_observable_operations), ("novation/contract.parts", laid_novation_contract_parts)], narrowed := true }
def MeaningBalancesUptoSaid : Prop := meaningBalancesUptoRow.holds Tryz.pinned (OpenSpec.upto meaningBalancesSpec)

/-- 'novationlaw15.CausalPaid', WHERE WHAT IT READS IS OF BULK AT MOST 1048576: true; the input reads as it did. -/
def causalPaidUptoRow : OpenClaim := { program := "ytcnpaciljmekcaagreatdoor", sum := "8cf758a79a6727bee37af0236a8f01ee464d20e80ee64ca62d77890107c3066b", func := "novation/novationlaw15.CausalPaid", spec := "causalPaid", inPlace := ["internal/bytealg.IndexByteString", "internal/bytealg.IndexString"], unfollowed := true, recurses := true, named := ["novation/contract.parts", "novation/observable.shapes", "internal/bytealg.MaxLen", "novation/observable.operations"], loops := true, plainKeys := false, apart := false, laid := [("novation/observable.shapes", laid_novation_observable_shapes), ("novation/observable.operations", laid_novation_observable_operations), ("novation/contract.parts", laid_novation_contract_parts)], narrowed := true }
def CausalPaidUptoSaid : Prop := causalPaidUptoRow.holds Tryz.pinned (OpenSpec.upto causalPaidSpec)

/-- 'novationlaw15.CausalPast', WHERE WHAT IT READS IS OF BULK AT MOST 1048576: true; the input reads as it did. -/
def causalPastUptoRow : OpenClaim := { program := "ytcnpaciljmekcaagreatdoor", sum := "8cf758a79a6727bee37af0236a8f01ee464d20e80ee64ca62d77890107c3066b", func := "novation/novationlaw15.CausalPast", spec := "causalPast", inPlace := ["internal/bytealg.IndexByteString", "internal/bytealg.IndexString"], unfollowed := true, recurses := true, named := ["novation/contract.parts", "novation/observable.shapes", "internal/bytealg.MaxLen", "novation/observable.operations"], loops := true, plainKeys := false, apart := false, laid := [("novation/observable.shapes", laid_novation_observable_shapes), ("novation/observable.operations", laid_novation_observable_operations), ("novation/contract.parts", laid_novation_contract_parts)], narrowed := true }
def CausalPastUptoSaid : Prop := causalPastUptoRow.holds Tryz.pinned (OpenSpec.upto causalPastSpec)

/-- 'novationlaw15.CausalNeeded', WHERE WHAT IT READS IS OF BULK AT MOST 1048576: true; the input reads as it did. -/
def causalNeededUptoRow : OpenClaim := { program := "ytcnpaciljmekcaagreatdoor", sum := "8cf758a79a6727bee37af0236a8f01ee464d20e80ee64ca62d77890107c3066b", func := "novation/novationlaw15.CausalNeeded", spec := "causalNeeded", inPlace := ["internal/bytealg.IndexByteString", "internal/bytealg.IndexString"], unfollowed := true, recurses := true, named := ["novation/contract.parts", "novation/observable.shapes", "internal/bytealg.MaxLen", "novation/observable.operations"], loops := true, plainKeys := false, apart := false, laid := [("novation/observable.shapes", laid_novation_observable_shapes), ("novation/observable.operations", laid_novation_observable_operations), ("novation/contract.parts", laid_novation_contract_parts)], narrowed := true }
def CausalNeededUptoSaid : Prop := causalNeededUptoRow.holds Tryz.pinned (OpenSpec.upto causalNeededSpec)

end Rows
end Go.Proofs.YtcnpaciljmekcaaGreatDoor
