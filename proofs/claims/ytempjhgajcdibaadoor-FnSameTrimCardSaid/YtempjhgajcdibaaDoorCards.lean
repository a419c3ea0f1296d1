/-
  DERIVED. GIVEN WITH THE SEED: THE CARDS: each row of YtempjhgajcdibaaDoorRows.lean that lists a variable, with what it lists TIED to the program's text (the seventh form; the later family's looks); each row that meets fmt, with fmt's text TOLD by the authors' own Lean function (tested against real Go, not proved from fmt's source: count such statements apart). THE CARD IS WHAT COUNTS. Prove the row's statement (the work); the ties are given (YtempjhgajcdibaaDoorTie.lean); close each card by the builder's one call (the guide's Derived/Test/ToyasCard.lean, 'card_holds'). Laid BY PROGRAM, IN A SANDBOX (cutbox-door.mjs). By AI agents, Wed Nov 11 2026. No macro, syntax, notation, axiom, sorry.
-/
import Derived.Test.YtempjhgajcdibaaDoorRows
import GoSem.ClaimSeven
namespace Go.Proofs.YtempjhgajcdibaaDoor
namespace Rows

/-- THE TIED CARD OF 'laws.FnSameTraces'. -/
def fnSameTracesCard : Claim7 := { stood := { row := fnSameTracesRow, standIns := [], harness := (true, "517367086d0a2b3453c963af64ddbf860daae66c3cabbbf7eaeb9bdf6f396206"), looks := false }, kinds := [], alts := [], laidByText := true, laidKinds := [.data, .data], laidTests := true, laidLooks := .later }
def FnSameTracesCardSaid : Prop := Claim7.holds Tryd.pinned (.plain (OpenSpec.ofChange fnSameTracesSpec)) fnSameTracesCard

/-- THE TIED CARD OF 'laws.FnTraceTurned'. -/
def fnTraceTurnedCard : Claim7 := { stood := { row := fnTraceTurnedRow, standIns := [], harness := (true, "517367086d0a2b3453c963af64ddbf860daae66c3cabbbf7eaeb9bdf6f396206"), looks := false }, kinds := [], alts := [], laidByText := true, laidKinds := [.data, .data], laidTests := true, laidLooks := .later }
def FnTraceTurnedCardSaid : Prop := Claim7.holds Tryd.pinned (.plain (OpenSpec.ofChange fnTraceTurnedSpec)) fnTraceTurnedCard

/-- THE TIED CARD OF 'laws.FnTraceFewer'. -/
def fnTraceFewerCard : Claim7 := { stood := { row := fnTraceFewerRow, standIns := [], harness := (true, "517367086d0a2b3453c963af64ddbf860daae66c3cabbbf7eaeb9bdf6f396206"), looks := false }, kinds := [], alts := [], laidByText := true, laidKinds := [.data, .data], laidTests := true, laidLooks := .later }
def FnTraceFewerCardSaid : Prop := Claim7.holds Tryd.pinned (.plain (OpenSpec.ofChange fnTraceFewerSpec)) fnTraceFewerCard

/-- THE TIED CARD OF 'laws.FnTraceOfParts'. -/
def fnTraceOfPartsCard : Claim7 := { stood := { row := fnTraceOfPartsRow, standIns := [], harness := (true, "517367086d0a2b3453c963af64ddbf860daae66c3cabbbf7eaeb9bdf6f396206"), looks := false }, kinds := [], alts := [], laidByText := true, laidKinds := [.data, .data], laidTests := true, laidLooks := .later }
def FnTraceOfPartsCardSaid : Prop := Claim7.holds Tryd.pinned (.plain (OpenSpec.ofChange fnTraceOfPartsSpec)) fnTraceOfPartsCard

/-- THE TIED CARD OF 'laws.FnTraceMerge'. -/
def fnTraceMergeCard : Claim7 := { stood := { row := fnTraceMergeRow, standIns := [], harness := (true, "517367086d0a2b3453c963af64ddbf860daae66c3cabbbf7eaeb9bdf6f396206"), looks := false }, kinds := [], alts := [], laidByText := true, laidKinds := [.data, .data], laidTests := true, laidLooks := .later }
def FnTraceMergeCardSaid : Prop := Claim7.holds Tryd.pinned (.plain (OpenSpec.ofChange fnTraceMergeSpec)) fnTraceMergeCard

/-- THE TIED CARD OF 'laws.FnTraceLeast'. -/
def fnTraceLeastCard : Claim7 := { stood := { row := fnTraceLeastRow, standIns := [], harness := (true, "517367086d0a2b3453c963af64ddbf860daae66c3cabbbf7eaeb9bdf6f396206"), looks := false }, kinds := [], alts := [], laidByText := true, laidKinds := [.data, .data], laidTests := true, laidLooks := .later }
def FnTraceLeastCardSaid : Prop := Claim7.holds Tryd.pinned (.plain (OpenSpec.ofChange fnTraceLeastSpec)) fnTraceLeastCard

/-- THE TIED CARD OF 'laws.FnTracesFewer'. -/
def fnTracesFewerCard : Claim7 := { stood := { row := fnTracesFewerRow, standIns := [], harness := (true, "517367086d0a2b3453c963af64ddbf860daae66c3cabbbf7eaeb9bdf6f396206"), looks := false }, kinds := [], alts := [], laidByText := true, laidKinds := [.data, .data], laidTests := true, laidLooks := .later }
def FnTracesFewerCardSaid : Prop := Claim7.holds Tryd.pinned (.plain (OpenSpec.ofChange fnTracesFewerSpec)) fnTracesFewerCard

/-- THE TIED CARD OF 'laws.FnTraceOutside'. -/
def fnTraceOutsideCard : Claim7 := { stood := { row := fnTraceOutsideRow, standIns := [], harness := (true, "517367086d0a2b3453c963af64ddbf860daae66c3cabbbf7eaeb9bdf6f396206"), looks := false }, kinds := [], alts := [], laidByText := true, laidKinds := [.data, .data], laidTests := true, laidLooks := .later }
def FnTraceOutsideCardSaid : Prop := Claim7.holds Tryd.pinned (.plain (OpenSpec.ofChange fnTraceOutsideSpec)) fnTraceOutsideCard

/-- THE TIED CARD OF 'laws.FnIsDeterministic'. -/
def fnIsDeterministicCard : Claim7 := { stood := { row := fnIsDeterministicRow, standIns := [], harness := (true, "517367086d0a2b3453c963af64ddbf860daae66c3cabbbf7eaeb9bdf6f396206"), looks := false }, kinds := [], alts := [], laidByText := true, laidKinds := [.data, .data], laidTests := true, laidLooks := .later }
def FnIsDeterministicCardSaid : Prop := Claim7.holds Tryd.pinned (.plain (OpenSpec.ofChange fnIsDeterministicSpec)) fnIsDeterministicCard

/-- THE TIED CARD OF 'laws.FnSameTrim'. -/
def fnSameTrimCard : Claim7 := { stood := { row := fnSameTrimRow, standIns := [], harness := (true, "517367086d0a2b3453c963af64ddbf860daae66c3cabbbf7eaeb9bdf6f396206"), looks := false }, kinds := [], alts := [], laidByText := true, laidKinds := [.data, .data], laidTests := true, laidLooks := .later }
def FnSameTrimCardSaid : Prop := Claim7.holds Tryd.pinned (.plain (OpenSpec.ofChange fnSameTrimSpec)) fnSameTrimCard

/-- THE TIED CARD OF 'laws.FnExactDeadlockOf'. -/
def fnExactDeadlockOfCard : Claim7 := { stood := { row := fnExactDeadlockOfRow, standIns := [], harness := (true, "517367086d0a2b3453c963af64ddbf860daae66c3cabbbf7eaeb9bdf6f396206"), looks := false }, kinds := [], alts := [], laidByText := true, laidKinds := [.data, .data], laidTests := true, laidLooks := .later }
def FnExactDeadlockOfCardSaid : Prop := Claim7.holds Tryd.pinned (.plain (OpenSpec.ofChange fnExactDeadlockOfSpec)) fnExactDeadlockOfCard

/-- THE TIED CARD OF 'laws.FnDeadlockOf'. -/
def fnDeadlockOfCard : Claim7 := { stood := { row := fnDeadlockOfRow, standIns := [], harness := (true, "517367086d0a2b3453c963af64ddbf860daae66c3cabbbf7eaeb9bdf6f396206"), looks := false }, kinds := [], alts := [], laidByText := true, laidKinds := [.data, .data], laidTests := true, laidLooks := .later }
def FnDeadlockOfCardSaid : Prop := Claim7.holds Tryd.pinned (.plain (OpenSpec.ofChange fnDeadlockOfSpec)) fnDeadlockOfCard

/-- THE SECOND FORM's CARD OF 'laws.FnSameTraces'. -/
def fnSameTracesUptoCard : Claim7 := { stood := { row := fnSameTracesUptoRow, standIns := [], harness := (true, "517367086d0a2b3453c963af64ddbf860daae66c3cabbbf7eaeb9bdf6f396206"), looks := false }, kinds := [], alts := [], laidByText := true, laidKinds := [.data, .data], laidTests := true, laidLooks := .later }
def FnSameTracesUptoCardSaid : Prop := Claim7.holds Tryd.pinned (.plain (OpenSpec.upto fnSameTracesSpec)) fnSameTracesUptoCard

/-- THE SECOND FORM's CARD OF 'laws.FnTraceTurned'. -/
def fnTraceTurnedUptoCard : Claim7 := { stood := { row := fnTraceTurnedUptoRow, standIns := [], harness := (true, "517367086d0a2b3453c963af64ddbf860daae66c3cabbbf7eaeb9bdf6f396206"), looks := false }, kinds := [], alts := [], laidByText := true, laidKinds := [.data, .data], laidTests := true, laidLooks := .later }
def FnTraceTurnedUptoCardSaid : Prop := Claim7.holds Tryd.pinned (.plain (OpenSpec.upto fnTraceTurnedSpec)) fnTraceTurnedUptoCard

/-- THE SECOND FORM's CARD OF 'laws.FnTraceFewer'. -/
def fnTraceFewerUptoCard : Claim7 := { stood := { row := fnTraceFewerUptoRow, standIns := [], harness := (true, "517367086d0a2b3453c963af64ddbf860daae66c3cabbbf7eaeb9bdf6f396206"), looks := false }, kinds := [], alts := [], laidByText := true, laidKinds := [.data, .data], laidTests := true, laidLooks := .later }
def FnTraceFewerUptoCardSaid : Prop := Claim7.holds Tryd.pinned (.plain (OpenSpec.upto fnTraceFewerSpec)) fnTraceFewerUptoCard

/-- THE SECOND FORM's CARD OF 'laws.FnTraceOfParts'. -/
def fnTraceOfPartsUptoCard : Claim7 := { stood := { row := fnTraceOfPartsUptoRow, standIns := [], harness := (true, "517367086d0a2b3453c963af64ddbf860daae66c3cabbbf7eaeb9bdf6f396206"), looks := false }, kinds := [], alts := [], laidByText := true, laidKinds := [.data, .data], laidTests := true, laidLooks := .later }
def FnTraceOfPartsUptoCardSaid : Prop := Claim7.holds Tryd.pinned (.plain (OpenSpec.upto fnTraceOfPartsSpec)) fnTraceOfPartsUptoCard

/-- THE SECOND FORM's CARD OF 'laws.FnTraceMerge'. -/
def fnTraceMergeUptoCard : Claim7 := { stood := { row := fnTraceMergeUptoRow, standIns := [], harness := (true, "517367086d0a2b3453c963af64ddbf860daae66c3cabbbf7eaeb9bdf6f396206"), looks := false }, kinds := [], alts := [], laidByText := true, laidKinds := [.data, .data], laidTests := true, laidLooks := .later }
def FnTraceMergeUptoCardSaid : Prop := Claim7.holds Tryd.pinned (.plain (OpenSpec.upto fnTraceMergeSpec)) fnTraceMergeUptoCard

/-- THE SECOND FORM's CARD OF 'laws.FnTraceLeast'. -/
def fnTraceLeastUptoCard : Claim7 := { stood := { row := fnTraceLeastUptoRow, standIns := [], harness := (true, "517367086d0a2b3453c963af64ddbf860daae66c3cabbbf7eaeb9bdf6f396206"), looks := false }, kinds := [], alts := [], laidByText := true, laidKinds := [.data, .data], laidTests := true, laidLooks := .later }
def FnTraceLeastUptoCardSaid : Prop := Claim7.holds Tryd.pinned (.plain (OpenSpec.upto fnTraceLeastSpec)) fnTraceLeastUptoCard

/-- THE SECOND FORM's CARD OF 'laws.FnTracesFewer'. -/
def fnTracesFewerUptoCard : Claim7 := { stood := { row := fnTracesFewerUptoRow, standIns := [], harness := (true, "517367086d0a2b3453c963af64ddbf860daae66c3cabbbf7eaeb9bdf6f396206"), looks := false }, kinds := [], alts := [], laidByText := true, laidKinds := [.data, .data], laidTests := true, laidLooks := .later }
def FnTracesFewerUptoCardSaid : Prop := Claim7.holds Tryd.pinned (.plain (OpenSpec.upto fnTracesFewerSpec)) fnTracesFewerUptoCard

/-- THE SECOND FORM's CARD OF 'laws.FnTraceOutside'. -/
def fnTraceOutsideUptoCard : Claim7 := { stood := { row := fnTraceOutsideUptoRow, standIns := [], harness := (true, "517367086d0a2b3453c963af64ddbf860daae66c3cabbbf7eaeb9bdf6f396206"), looks := false }, kinds := [], alts := [], laidByText := true, laidKinds := [.data, .data], laidTests := true, laidLooks := .later }
def FnTraceOutsideUptoCardSaid : Prop := Claim7.holds Tryd.pinned (.plain (OpenSpec.upto fnTraceOutsideSpec)) fnTraceOutsideUptoCard

/-- THE SECOND FORM's CARD OF 'laws.FnIsDeterministic'. -/
def fnIsDeterministicUptoCard : Claim7 := { stood := { row := fnIsDeterministicUptoRow, standIns := [], harness := (true, "517367086d0a2b3453c963af64ddbf860daae66c3cabbbf7eaeb9bdf6f396206"), looks := false }, kinds := [], alts := [], laidByText := true, laidKinds := [.data, .data], laidTests := true, laidLooks := .later }
def FnIsDeterministicUptoCardSaid : Prop := Claim7.holds Tryd.pinned (.plain (OpenSpec.upto fnIsDeterministicSpec)) fnIsDeterministicUptoCard

/-- THE SECOND FORM's CARD OF 'laws.FnSameTrim'. -/
def fnSameTrimUptoCard : Claim7 := { stood := { row := fnSameTrimUptoRow, standIns := [], harness := (true, "517367086d0a2b3453c963af64ddbf860daae66c3cabbbf7eaeb9bdf6f396206"), looks := false }, kinds := [], alts := [], laidByText := true, laidKinds := [.data, .data], laidTests := true, laidLooks := .later }
def FnSameTrimUptoCardSaid : Prop := Claim7.holds Tryd.pinned (.plain (OpenSpec.upto fnSameTrimSpec)) fnSameTrimUptoCard

/-- THE SECOND FORM's CARD OF 'laws.FnExactDeadlockOf'. -/
def fnExactDeadlockOfUptoCard : Claim7 := { stood := { row := fnExactDeadlockOfUptoRow, standIns := [], harness := (true, "517367086d0a2b3453c963af64ddbf860daae66c3cabbbf7eaeb9bdf6f396206"), looks := false }, kinds := [], alts := [], laidByText := true, laidKinds := [.data, .data], laidTests := true, laidLooks := .later }
def FnExactDeadlockOfUptoCardSaid : Prop := Claim7.holds Tryd.pinned (.plain (OpenSpec.upto fnExactDeadlockOfSpec)) fnExactDeadlockOfUptoCard

/-- THE SECOND FORM's CARD OF 'laws.FnDeadlockOf'. -/
def fnDeadlockOfUptoCard : Claim7 := { stood := { row := fnDeadlockOfUptoRow, standIns := [], harness := (true, "517367086d0a2b3453c963af64ddbf860daae66c3cabbbf7eaeb9bdf6f396206"), looks := false }, kinds := [], alts := [], laidByText := true, laidKinds := [.data, .data], laidTests := true, laidLooks := .later }
def FnDeadlockOfUptoCardSaid : Prop := Claim7.holds Tryd.pinned (.plain (OpenSpec.upto fnDeadlockOfSpec)) fnDeadlockOfUptoCard
end Rows
end Go.Proofs.YtempjhgajcdibaaDoor
