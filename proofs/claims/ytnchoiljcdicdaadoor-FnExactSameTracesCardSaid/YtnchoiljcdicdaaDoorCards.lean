/-
  DERIVED. GIVEN WITH THE SEED: THE CARDS: each row of YtnchoiljcdicdaaDoorRows.lean that lists a variable, with what it lists TIED to the program's text (the seventh form; the later family's looks); each row that meets fmt, with fmt's text TOLD by the authors' own Lean function (tested against real Go, not proved from fmt's source: count such statements apart). THE CARD IS WHAT COUNTS. Prove the row's statement (the work); the ties are given (YtnchoiljcdicdaaDoorTie.lean); close each card by the builder's one call (the guide's Derived/Test/ToyasCard.lean, 'card_holds'). Laid BY PROGRAM, IN A SANDBOX (cutbox-door.mjs). By AI agents, Wed Nov 11 2026. No macro, syntax, notation, axiom, sorry.
-/
import Derived.Test.YtnchoiljcdicdaaDoorRows
import GoSem.ClaimSeven
namespace Go.Proofs.YtnchoiljcdicdaaDoor
namespace Rows

/-- THE TIED CARD OF 'laws.FnExactIsDeterministic'. -/
def fnExactIsDeterministicCard : Claim7 := { stood := { row := fnExactIsDeterministicRow, standIns := [], harness := (true, "975c32d71814ca31320e791e0502c28d1af86af838e0c7fb4c822d10200bf047"), looks := false }, kinds := [], alts := [], laidByText := true, laidKinds := [.data, .data], laidTests := true, laidLooks := .later }
def FnExactIsDeterministicCardSaid : Prop := Claim7.holds Tryd.pinned (.plain (OpenSpec.ofChange fnExactIsDeterministicSpec)) fnExactIsDeterministicCard

/-- THE TIED CARD OF 'laws.FnExactFirstTraceOutside'. -/
def fnExactFirstTraceOutsideCard : Claim7 := { stood := { row := fnExactFirstTraceOutsideRow, standIns := [], harness := (true, "975c32d71814ca31320e791e0502c28d1af86af838e0c7fb4c822d10200bf047"), looks := false }, kinds := [], alts := [], laidByText := true, laidKinds := [.data, .data], laidTests := true, laidLooks := .later }
def FnExactFirstTraceOutsideCardSaid : Prop := Claim7.holds Tryd.pinned (.plain (OpenSpec.ofChange fnExactFirstTraceOutsideSpec)) fnExactFirstTraceOutsideCard

/-- THE TIED CARD OF 'laws.FnExactTracesWithin'. -/
def fnExactTracesWithinCard : Claim7 := { stood := { row := fnExactTracesWithinRow, standIns := [], harness := (true, "975c32d71814ca31320e791e0502c28d1af86af838e0c7fb4c822d10200bf047"), looks := false }, kinds := [], alts := [], laidByText := true, laidKinds := [.data, .data], laidTests := true, laidLooks := .later }
def FnExactTracesWithinCardSaid : Prop := Claim7.holds Tryd.pinned (.plain (OpenSpec.ofChange fnExactTracesWithinSpec)) fnExactTracesWithinCard

/-- THE TIED CARD OF 'laws.FnExactSameTraces'. -/
def fnExactSameTracesCard : Claim7 := { stood := { row := fnExactSameTracesRow, standIns := [], harness := (true, "975c32d71814ca31320e791e0502c28d1af86af838e0c7fb4c822d10200bf047"), looks := false }, kinds := [], alts := [], laidByText := true, laidKinds := [.data, .data], laidTests := true, laidLooks := .later }
def FnExactSameTracesCardSaid : Prop := Claim7.holds Tryd.pinned (.plain (OpenSpec.ofChange fnExactSameTracesSpec)) fnExactSameTracesCard

/-- THE SECOND FORM's CARD OF 'laws.FnExactIsDeterministic'. -/
def fnExactIsDeterministicUptoCard : Claim7 := { stood := { row := fnExactIsDeterministicUptoRow, standIns := [], harness := (true, "975c32d71814ca31320e791e0502c28d1af86af838e0c7fb4c822d10200bf047"), looks := false }, kinds := [], alts := [], laidByText := true, laidKinds := [.data, .data], laidTests := true, laidLooks := .later }
def FnExactIsDeterministicUptoCardSaid : Prop := Claim7.holds Tryd.pinned (.plain (OpenSpec.upto fnExactIsDeterministicSpec)) fnExactIsDeterministicUptoCard

/-- THE SECOND FORM's CARD OF 'laws.FnExactFirstTraceOutside'. -/
def fnExactFirstTraceOutsideUptoCard : Claim7 := { stood := { row := fnExactFirstTraceOutsideUptoRow, standIns := [], harness := (true, "975c32d71814ca31320e791e0502c28d1af86af838e0c7fb4c822d10200bf047"), looks := false }, kinds := [], alts := [], laidByText := true, laidKinds := [.data, .data], laidTests := true, laidLooks := .later }
def FnExactFirstTraceOutsideUptoCardSaid : Prop := Claim7.holds Tryd.pinned (.plain (OpenSpec.upto fnExactFirstTraceOutsideSpec)) fnExactFirstTraceOutsideUptoCard

/-- THE SECOND FORM's CARD OF 'laws.FnExactTracesWithin'. -/
def fnExactTracesWithinUptoCard : Claim7 := { stood := { row := fnExactTracesWithinUptoRow, standIns := [], harness := (true, "975c32d71814ca31320e791e0502c28d1af86af838e0c7fb4c822d10200bf047"), looks := false }, kinds := [], alts := [], laidByText := true, laidKinds := [.data, .data], laidTests := true, laidLooks := .later }
def FnExactTracesWithinUptoCardSaid : Prop := Claim7.holds Tryd.pinned (.plain (OpenSpec.upto fnExactTracesWithinSpec)) fnExactTracesWithinUptoCard

/-- THE SECOND FORM's CARD OF 'laws.FnExactSameTraces'. -/
def fnExactSameTracesUptoCard : Claim7 := { stood := { row := fnExactSameTracesUptoRow, standIns := [], harness := (true, "975c32d71814ca31320e791e0502c28d1af86af838e0c7fb4c822d10200bf047"), looks := false }, kinds := [], alts := [], laidByText := true, laidKinds := [.data, .data], laidTests := true, laidLooks := .later }
def FnExactSameTracesUptoCardSaid : Prop := Claim7.holds Tryd.pinned (.plain (OpenSpec.upto fnExactSameTracesSpec)) fnExactSameTracesUptoCard
end Rows
end Go.Proofs.YtnchoiljcdicdaaDoor
