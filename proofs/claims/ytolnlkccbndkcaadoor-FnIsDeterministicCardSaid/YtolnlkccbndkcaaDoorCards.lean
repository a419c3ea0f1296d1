/-
  DERIVED. GIVEN WITH THE SEED: THE CARDS: each row of YtolnlkccbndkcaaDoorRows.lean that lists a variable, with what it lists TIED to the program's text (the seventh form; the later family's looks); each row that meets fmt, with fmt's text TOLD by the authors' own Lean function (tested against real Go, not proved from fmt's source: count such statements apart). THE CARD IS WHAT COUNTS. Prove the row's statement (the work); the ties are given (YtolnlkccbndkcaaDoorTie.lean); close each card by the builder's one call (the guide's Derived/Test/ToyasCard.lean, 'card_holds'). Laid BY PROGRAM, IN A SANDBOX (cutbox-door.mjs). By AI agents, Wed Nov 11 2026. No macro, syntax, notation, axiom, sorry.
-/
import Derived.Test.YtolnlkccbndkcaaDoorRows
import GoSem.ClaimSeven
namespace Go.Proofs.YtolnlkccbndkcaaDoor
namespace Rows

/-- THE TIED CARD OF 'laws.FnTracesWithin'. -/
def fnTracesWithinCard : Claim7 := { stood := { row := fnTracesWithinRow, standIns := [], harness := (true, "3e645f5f1c208716662937e57d62697d828c68353130a24519df7daf9e91fd9e"), looks := false }, kinds := [], alts := [], laidByText := true, laidKinds := [.data, .data], laidTests := true, laidLooks := .later }
def FnTracesWithinCardSaid : Prop := Claim7.holds Tryd.pinned (.plain (OpenSpec.ofChange fnTracesWithinSpec)) fnTracesWithinCard

/-- THE TIED CARD OF 'laws.FnExactSystemOf'. -/
def fnExactSystemOfCard : Claim7 := { stood := { row := fnExactSystemOfRow, standIns := [], harness := (true, "3e645f5f1c208716662937e57d62697d828c68353130a24519df7daf9e91fd9e"), looks := false }, kinds := [], alts := [], laidByText := true, laidKinds := [.data, .data], laidTests := true, laidLooks := .later }
def FnExactSystemOfCardSaid : Prop := Claim7.holds Tryd.pinned (.plain (OpenSpec.ofChange fnExactSystemOfSpec)) fnExactSystemOfCard

/-- THE TIED CARD OF 'laws.FnSystemOf'. -/
def fnSystemOfCard : Claim7 := { stood := { row := fnSystemOfRow, standIns := [], harness := (true, "3e645f5f1c208716662937e57d62697d828c68353130a24519df7daf9e91fd9e"), looks := false }, kinds := [], alts := [], laidByText := true, laidKinds := [.data, .data], laidTests := true, laidLooks := .later }
def FnSystemOfCardSaid : Prop := Claim7.holds Tryd.pinned (.plain (OpenSpec.ofChange fnSystemOfSpec)) fnSystemOfCard

/-- THE TIED CARD OF 'laws.FnSystemBack'. -/
def fnSystemBackCard : Claim7 := { stood := { row := fnSystemBackRow, standIns := [], harness := (true, "3e645f5f1c208716662937e57d62697d828c68353130a24519df7daf9e91fd9e"), looks := false }, kinds := [], alts := [], laidByText := true, laidKinds := [.data, .data], laidTests := true, laidLooks := .later }
def FnSystemBackCardSaid : Prop := Claim7.holds Tryd.pinned (.plain (OpenSpec.ofChange fnSystemBackSpec)) fnSystemBackCard

/-- THE TIED CARD OF 'laws.FnIsDeterministic'. -/
def fnIsDeterministicCard : Claim7 := { stood := { row := fnIsDeterministicRow, standIns := [], harness := (true, "3e645f5f1c208716662937e57d62697d828c68353130a24519df7daf9e91fd9e"), looks := false }, kinds := [], alts := [], laidByText := true, laidKinds := [.data, .data], laidTests := true, laidLooks := .later }
def FnIsDeterministicCardSaid : Prop := Claim7.holds Tryd.pinned (.plain (OpenSpec.ofChange fnIsDeterministicSpec)) fnIsDeterministicCard

/-- THE TIED CARD OF 'laws.FnDeterministicStates'. -/
def fnDeterministicStatesCard : Claim7 := { stood := { row := fnDeterministicStatesRow, standIns := [], harness := (true, "3e645f5f1c208716662937e57d62697d828c68353130a24519df7daf9e91fd9e"), looks := false }, kinds := [], alts := [], laidByText := true, laidKinds := [.data, .data], laidTests := true, laidLooks := .later }
def FnDeterministicStatesCardSaid : Prop := Claim7.holds Tryd.pinned (.plain (OpenSpec.ofChange fnDeterministicStatesSpec)) fnDeterministicStatesCard

/-- THE TIED CARD OF 'laws.FnProjectSteps'. -/
def fnProjectStepsCard : Claim7 := { stood := { row := fnProjectStepsRow, standIns := [], harness := (true, "3e645f5f1c208716662937e57d62697d828c68353130a24519df7daf9e91fd9e"), looks := false }, kinds := [], alts := [], laidByText := true, laidKinds := [.data, .data], laidTests := true, laidLooks := .later }
def FnProjectStepsCardSaid : Prop := Claim7.holds Tryd.pinned (.plain (OpenSpec.ofChange fnProjectStepsSpec)) fnProjectStepsCard

/-- THE TIED CARD OF 'laws.FnMinimalOrder'. -/
def fnMinimalOrderCard : Claim7 := { stood := { row := fnMinimalOrderRow, standIns := [], harness := (true, "3e645f5f1c208716662937e57d62697d828c68353130a24519df7daf9e91fd9e"), looks := false }, kinds := [], alts := [], laidByText := true, laidKinds := [.data, .data, .data], laidTests := true, laidLooks := .later }
def FnMinimalOrderCardSaid : Prop := Claim7.holds Tryd.pinned (.plain (OpenSpec.ofChange fnMinimalOrderSpec)) fnMinimalOrderCard

/-- THE TIED CARD OF 'laws.FnMinimalOther'. -/
def fnMinimalOtherCard : Claim7 := { stood := { row := fnMinimalOtherRow, standIns := [], harness := (true, "3e645f5f1c208716662937e57d62697d828c68353130a24519df7daf9e91fd9e"), looks := false }, kinds := [], alts := [], laidByText := true, laidKinds := [.data, .data, .data], laidTests := true, laidLooks := .later }
def FnMinimalOtherCardSaid : Prop := Claim7.holds Tryd.pinned (.plain (OpenSpec.ofChange fnMinimalOtherSpec)) fnMinimalOtherCard

/-- THE TIED CARD OF 'laws.FnIsMinimal'. -/
def fnIsMinimalCard : Claim7 := { stood := { row := fnIsMinimalRow, standIns := [], harness := (true, "3e645f5f1c208716662937e57d62697d828c68353130a24519df7daf9e91fd9e"), looks := false }, kinds := [], alts := [], laidByText := true, laidKinds := [.data, .data, .data], laidTests := true, laidLooks := .later }
def FnIsMinimalCardSaid : Prop := Claim7.holds Tryd.pinned (.plain (OpenSpec.ofChange fnIsMinimalSpec)) fnIsMinimalCard

/-- THE TIED CARD OF 'laws.FnMinimize'. -/
def fnMinimizeCard : Claim7 := { stood := { row := fnMinimizeRow, standIns := [], harness := (true, "3e645f5f1c208716662937e57d62697d828c68353130a24519df7daf9e91fd9e"), looks := false }, kinds := [], alts := [], laidByText := true, laidKinds := [.data, .data, .data], laidTests := true, laidLooks := .later }
def FnMinimizeCardSaid : Prop := Claim7.holds Tryd.pinned (.plain (OpenSpec.ofChange fnMinimizeSpec)) fnMinimizeCard

/-- THE SECOND FORM's CARD OF 'laws.FnTracesWithin'. -/
def fnTracesWithinUptoCard : Claim7 := { stood := { row := fnTracesWithinUptoRow, standIns := [], harness := (true, "3e645f5f1c208716662937e57d62697d828c68353130a24519df7daf9e91fd9e"), looks := false }, kinds := [], alts := [], laidByText := true, laidKinds := [.data, .data], laidTests := true, laidLooks := .later }
def FnTracesWithinUptoCardSaid : Prop := Claim7.holds Tryd.pinned (.plain (OpenSpec.upto fnTracesWithinSpec)) fnTracesWithinUptoCard

/-- THE SECOND FORM's CARD OF 'laws.FnExactSystemOf'. -/
def fnExactSystemOfUptoCard : Claim7 := { stood := { row := fnExactSystemOfUptoRow, standIns := [], harness := (true, "3e645f5f1c208716662937e57d62697d828c68353130a24519df7daf9e91fd9e"), looks := false }, kinds := [], alts := [], laidByText := true, laidKinds := [.data, .data], laidTests := true, laidLooks := .later }
def FnExactSystemOfUptoCardSaid : Prop := Claim7.holds Tryd.pinned (.plain (OpenSpec.upto fnExactSystemOfSpec)) fnExactSystemOfUptoCard

/-- THE SECOND FORM's CARD OF 'laws.FnSystemOf'. -/
def fnSystemOfUptoCard : Claim7 := { stood := { row := fnSystemOfUptoRow, standIns := [], harness := (true, "3e645f5f1c208716662937e57d62697d828c68353130a24519df7daf9e91fd9e"), looks := false }, kinds := [], alts := [], laidByText := true, laidKinds := [.data, .data], laidTests := true, laidLooks := .later }
def FnSystemOfUptoCardSaid : Prop := Claim7.holds Tryd.pinned (.plain (OpenSpec.upto fnSystemOfSpec)) fnSystemOfUptoCard

/-- THE SECOND FORM's CARD OF 'laws.FnSystemBack'. -/
def fnSystemBackUptoCard : Claim7 := { stood := { row := fnSystemBackUptoRow, standIns := [], harness := (true, "3e645f5f1c208716662937e57d62697d828c68353130a24519df7daf9e91fd9e"), looks := false }, kinds := [], alts := [], laidByText := true, laidKinds := [.data, .data], laidTests := true, laidLooks := .later }
def FnSystemBackUptoCardSaid : Prop := Claim7.holds Tryd.pinned (.plain (OpenSpec.upto fnSystemBackSpec)) fnSystemBackUptoCard

/-- THE SECOND FORM's CARD OF 'laws.FnIsDeterministic'. -/
def fnIsDeterministicUptoCard : Claim7 := { stood := { row := fnIsDeterministicUptoRow, standIns := [], harness := (true, "3e645f5f1c208716662937e57d62697d828c68353130a24519df7daf9e91fd9e"), looks := false }, kinds := [], alts := [], laidByText := true, laidKinds := [.data, .data], laidTests := true, laidLooks := .later }
def FnIsDeterministicUptoCardSaid : Prop := Claim7.holds Tryd.pinned (.plain (OpenSpec.upto fnIsDeterministicSpec)) fnIsDeterministicUptoCard

/-- THE SECOND FORM's CARD OF 'laws.FnDeterministicStates'. -/
def fnDeterministicStatesUptoCard : Claim7 := { stood := { row := fnDeterministicStatesUptoRow, standIns := [], harness := (true, "3e645f5f1c208716662937e57d62697d828c68353130a24519df7daf9e91fd9e"), looks := false }, kinds := [], alts := [], laidByText := true, laidKinds := [.data, .data], laidTests := true, laidLooks := .later }
def FnDeterministicStatesUptoCardSaid : Prop := Claim7.holds Tryd.pinned (.plain (OpenSpec.upto fnDeterministicStatesSpec)) fnDeterministicStatesUptoCard

/-- THE SECOND FORM's CARD OF 'laws.FnProjectSteps'. -/
def fnProjectStepsUptoCard : Claim7 := { stood := { row := fnProjectStepsUptoRow, standIns := [], harness := (true, "3e645f5f1c208716662937e57d62697d828c68353130a24519df7daf9e91fd9e"), looks := false }, kinds := [], alts := [], laidByText := true, laidKinds := [.data, .data], laidTests := true, laidLooks := .later }
def FnProjectStepsUptoCardSaid : Prop := Claim7.holds Tryd.pinned (.plain (OpenSpec.upto fnProjectStepsSpec)) fnProjectStepsUptoCard

/-- THE SECOND FORM's CARD OF 'laws.FnMinimalOrder'. -/
def fnMinimalOrderUptoCard : Claim7 := { stood := { row := fnMinimalOrderUptoRow, standIns := [], harness := (true, "3e645f5f1c208716662937e57d62697d828c68353130a24519df7daf9e91fd9e"), looks := false }, kinds := [], alts := [], laidByText := true, laidKinds := [.data, .data, .data], laidTests := true, laidLooks := .later }
def FnMinimalOrderUptoCardSaid : Prop := Claim7.holds Tryd.pinned (.plain (OpenSpec.upto fnMinimalOrderSpec)) fnMinimalOrderUptoCard

/-- THE SECOND FORM's CARD OF 'laws.FnMinimalOther'. -/
def fnMinimalOtherUptoCard : Claim7 := { stood := { row := fnMinimalOtherUptoRow, standIns := [], harness := (true, "3e645f5f1c208716662937e57d62697d828c68353130a24519df7daf9e91fd9e"), looks := false }, kinds := [], alts := [], laidByText := true, laidKinds := [.data, .data, .data], laidTests := true, laidLooks := .later }
def FnMinimalOtherUptoCardSaid : Prop := Claim7.holds Tryd.pinned (.plain (OpenSpec.upto fnMinimalOtherSpec)) fnMinimalOtherUptoCard

/-- THE SECOND FORM's CARD OF 'laws.FnIsMinimal'. -/
def fnIsMinimalUptoCard : Claim7 := { stood := { row := fnIsMinimalUptoRow, standIns := [], harness := (true, "3e645f5f1c208716662937e57d62697d828c68353130a24519df7daf9e91fd9e"), looks := false }, kinds := [], alts := [], laidByText := true, laidKinds := [.data, .data, .data], laidTests := true, laidLooks := .later }
def FnIsMinimalUptoCardSaid : Prop := Claim7.holds Tryd.pinned (.plain (OpenSpec.upto fnIsMinimalSpec)) fnIsMinimalUptoCard

/-- THE SECOND FORM's CARD OF 'laws.FnMinimize'. -/
def fnMinimizeUptoCard : Claim7 := { stood := { row := fnMinimizeUptoRow, standIns := [], harness := (true, "3e645f5f1c208716662937e57d62697d828c68353130a24519df7daf9e91fd9e"), looks := false }, kinds := [], alts := [], laidByText := true, laidKinds := [.data, .data, .data], laidTests := true, laidLooks := .later }
def FnMinimizeUptoCardSaid : Prop := Claim7.holds Tryd.pinned (.plain (OpenSpec.upto fnMinimizeSpec)) fnMinimizeUptoCard
end Rows
end Go.Proofs.YtolnlkccbndkcaaDoor
