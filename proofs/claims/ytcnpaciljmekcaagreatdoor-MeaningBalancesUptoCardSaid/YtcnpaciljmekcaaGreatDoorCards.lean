/-
  DERIVED. GIVEN WITH THE SEED: THE CARDS: each row of YtcnpaciljmekcaaGreatDoorRows.lean that lists a variable, with what it lists TIED to the program's text (the seventh form; the later family's looks); each row that meets fmt, with fmt's text TOLD by the authors' own Lean function (tested against real Go, not proved from fmt's source: count such statements apart). THE CARD IS WHAT COUNTS. Prove the row's statement (the work); the ties are given (YtcnpaciljmekcaaGreatDoorTie.lean); close each card by the builder's one call (the guide's Derived/Test/ToyasCard.lean, 'card_holds'). Laid BY PROGRAM, IN A SANDBOX (cutbox-door.mjs). By AI agents, Wed Nov 11 2026. No macro, syntax, notation, axiom, sorry.
-/
import Derived.Test.YtcnpaciljmekcaaGreatDoorRows
import GoSem.ClaimSeven
namespace Go.Proofs.YtcnpaciljmekcaaGreatDoor
namespace Rows

/-- THE TIED CARD OF 'novationlaw10.MeaningBalances'. -/
def meaningBalancesCard : Claim7 := { stood := { row := meaningBalancesRow, standIns := [], harness := (true, "109647b199cf8328799f1e7ac2d99916795c3e30b756b5eff36b744ff0b70807"), looks := true }, kinds := [], alts := [], laidByText := true, laidKinds := [.mappedDeep, .funcs, .mapped], laidTests := true, laidLooks := .later }
def MeaningBalancesCardSaid : Prop := Claim7.holds Tryz.pinned (.plain (OpenSpec.ofChange meaningBalancesSpec)) meaningBalancesCard

/-- THE TIED CARD OF 'novationlaw15.CausalPaid'. -/
def causalPaidCard : Claim7 := { stood := { row := causalPaidRow, standIns := [], harness := (true, "109647b199cf8328799f1e7ac2d99916795c3e30b756b5eff36b744ff0b70807"), looks := true }, kinds := [], alts := [], laidByText := true, laidKinds := [.mappedDeep, .funcs, .mapped], laidTests := true, laidLooks := .later }
def CausalPaidCardSaid : Prop := Claim7.holds Tryz.pinned (.plain (OpenSpec.ofChange causalPaidSpec)) causalPaidCard

/-- THE TIED CARD OF 'novationlaw15.CausalPast'. -/
def causalPastCard : Claim7 := { stood := { row := causalPastRow, standIns := [], harness := (true, "109647b199cf8328799f1e7ac2d99916795c3e30b756b5eff36b744ff0b70807"), looks := true }, kinds := [], alts := [], laidByText := true, laidKinds := [.mappedDeep, .funcs, .mapped], laidTests := true, laidLooks := .later }
def CausalPastCardSaid : Prop := Claim7.holds Tryz.pinned (.plain (OpenSpec.ofChange causalPastSpec)) causalPastCard

/-- THE TIED CARD OF 'novationlaw15.CausalNeeded'. -/
def causalNeededCard : Claim7 := { stood := { row := causalNeededRow, standIns := [], harness := (true, "109647b199cf8328799f1e7ac2d99916795c3e30b756b5eff36b744ff0b70807"), looks := true }, kinds := [], alts := [], laidByText := true, laidKinds := [.mappedDeep, .funcs, .mapped], laidTests := true, laidLooks := .later }
def CausalNeededCardSaid : Prop := Claim7.holds Tryz.pinned (.plain (OpenSpec.ofChange causalNeededSpec)) causalNeededCard

/-- THE SECOND FORM's CARD OF 'novationlaw10.MeaningBalances'. -/
def meaningBalancesUptoCard : Claim7 := { stood := { row := meaningBalancesUptoRow, standIns := [], harness := (true, "109647b199cf8328799f1e7ac2d99916795c3e30b756b5eff36b744ff0b70807"), looks := true }, kinds := [], alts := [], laidByText := true, laidKinds := [.mappedDeep, .funcs, .mapped], laidTests := true, laidLooks := .later }
def MeaningBalancesUptoCardSaid : Prop := Claim7.holds Tryz.pinned (.plain (OpenSpec.upto meaningBalancesSpec)) meaningBalancesUptoCard

/-- THE SECOND FORM's CARD OF 'novationlaw15.CausalPaid'. -/
def causalPaidUptoCard : Claim7 := { stood := { row := causalPaidUptoRow, standIns := [], harness := (true, "109647b199cf8328799f1e7ac2d99916795c3e30b756b5eff36b744ff0b70807"), looks := true }, kinds := [], alts := [], laidByText := true, laidKinds := [.mappedDeep, .funcs, .mapped], laidTests := true, laidLooks := .later }
def CausalPaidUptoCardSaid : Prop := Claim7.holds Tryz.pinned (.plain (OpenSpec.upto causalPaidSpec)) causalPaidUptoCard

/-- THE SECOND FORM's CARD OF 'novationlaw15.CausalPast'. -/
def causalPastUptoCard : Claim7 := { stood := { row := causalPastUptoRow, standIns := [], harness := (true, "109647b199cf8328799f1e7ac2d99916795c3e30b756b5eff36b744ff0b70807"), looks := true }, kinds := [], alts := [], laidByText := true, laidKinds := [.mappedDeep, .funcs, .mapped], laidTests := true, laidLooks := .later }
def CausalPastUptoCardSaid : Prop := Claim7.holds Tryz.pinned (.plain (OpenSpec.upto causalPastSpec)) causalPastUptoCard

/-- THE SECOND FORM's CARD OF 'novationlaw15.CausalNeeded'. -/
def causalNeededUptoCard : Claim7 := { stood := { row := causalNeededUptoRow, standIns := [], harness := (true, "109647b199cf8328799f1e7ac2d99916795c3e30b756b5eff36b744ff0b70807"), looks := true }, kinds := [], alts := [], laidByText := true, laidKinds := [.mappedDeep, .funcs, .mapped], laidTests := true, laidLooks := .later }
def CausalNeededUptoCardSaid : Prop := Claim7.holds Tryz.pinned (.plain (OpenSpec.upto causalNeededSpec)) causalNeededUptoCard
end Rows
end Go.Proofs.YtcnpaciljmekcaaGreatDoor
