/-
  DERIVED. GIVEN WITH THE SEED: THE CARDS: each row of YtbomhfbiaedbiaaDoorRows.lean that lists a variable, with what it lists TIED to the program's text (the seventh form; the later family's looks); each row that meets fmt, with fmt's text TOLD by the authors' own Lean function (tested against real Go, not proved from fmt's source: count such statements apart). THE CARD IS WHAT COUNTS. Prove the row's statement (the work); the ties are given (YtbomhfbiaedbiaaDoorTie.lean); close each card by the builder's one call (the guide's Derived/Test/ToyasCard.lean, 'card_holds'). Laid BY PROGRAM, IN A SANDBOX (cutbox-door.mjs). By AI agents, Wed Nov 11 2026. No macro, syntax, notation, axiom, sorry.
-/
import Derived.Test.YtbomhfbiaedbiaaDoorRows
import GoSem.ClaimSeven
namespace Go.Proofs.YtbomhfbiaedbiaaDoor
namespace Rows

/-- THE TIED CARD OF 'laws.FnExactTraceOfParts'. -/
def fnExactTraceOfPartsCard : Claim7 := { stood := { row := fnExactTraceOfPartsRow, standIns := [], harness := (true, "c152dc570a47531880e767ad0e5b480f3a63b15880b3c1d90093cf5a1b3866de"), looks := false }, kinds := [], alts := [], laidByText := true, laidKinds := [.data, .data], laidTests := true, laidLooks := .later }
def FnExactTraceOfPartsCardSaid : Prop := Claim7.holds Tryd.pinned (.plain (OpenSpec.ofChange fnExactTraceOfPartsSpec)) fnExactTraceOfPartsCard

/-- THE TIED CARD OF 'laws.FnExactSystemOf'. -/
def fnExactSystemOfCard : Claim7 := { stood := { row := fnExactSystemOfRow, standIns := [], harness := (true, "c152dc570a47531880e767ad0e5b480f3a63b15880b3c1d90093cf5a1b3866de"), looks := false }, kinds := [], alts := [], laidByText := true, laidKinds := [.data, .data], laidTests := true, laidLooks := .later }
def FnExactSystemOfCardSaid : Prop := Claim7.holds Tryd.pinned (.plain (OpenSpec.ofChange fnExactSystemOfSpec)) fnExactSystemOfCard

/-- THE TIED CARD OF 'laws.FnExactProjectSystem'. -/
def fnExactProjectSystemCard : Claim7 := { stood := { row := fnExactProjectSystemRow, standIns := [], harness := (true, "c152dc570a47531880e767ad0e5b480f3a63b15880b3c1d90093cf5a1b3866de"), looks := false }, kinds := [], alts := [], laidByText := true, laidKinds := [.data, .data], laidTests := true, laidLooks := .later }
def FnExactProjectSystemCardSaid : Prop := Claim7.holds Tryd.pinned (.plain (OpenSpec.ofChange fnExactProjectSystemSpec)) fnExactProjectSystemCard

/-- THE TIED CARD OF 'laws.FnExactDeterminize'. -/
def fnExactDeterminizeCard : Claim7 := { stood := { row := fnExactDeterminizeRow, standIns := [], harness := (true, "c152dc570a47531880e767ad0e5b480f3a63b15880b3c1d90093cf5a1b3866de"), looks := false }, kinds := [], alts := [], laidByText := true, laidKinds := [.data, .data], laidTests := true, laidLooks := .later }
def FnExactDeterminizeCardSaid : Prop := Claim7.holds Tryd.pinned (.plain (OpenSpec.ofChange fnExactDeterminizeSpec)) fnExactDeterminizeCard

/-- THE TIED CARD OF 'laws.FnProjectAll'. -/
def fnProjectAllCard : Claim7 := { stood := { row := fnProjectAllRow, standIns := [], harness := (true, "c152dc570a47531880e767ad0e5b480f3a63b15880b3c1d90093cf5a1b3866de"), looks := false }, kinds := [], alts := [], laidByText := true, laidKinds := [.data, .data], laidTests := true, laidLooks := .later }
def FnProjectAllCardSaid : Prop := Claim7.holds Tryd.pinned (.plain (OpenSpec.ofChange fnProjectAllSpec)) fnProjectAllCard

/-- THE TIED CARD OF 'laws.FnProjectNone'. -/
def fnProjectNoneCard : Claim7 := { stood := { row := fnProjectNoneRow, standIns := [], harness := (true, "c152dc570a47531880e767ad0e5b480f3a63b15880b3c1d90093cf5a1b3866de"), looks := false }, kinds := [], alts := [], laidByText := true, laidKinds := [.data, .data], laidTests := true, laidLooks := .later }
def FnProjectNoneCardSaid : Prop := Claim7.holds Tryd.pinned (.plain (OpenSpec.ofChange fnProjectNoneSpec)) fnProjectNoneCard

/-- THE TIED CARD OF 'laws.FnSameTraces'. -/
def fnSameTracesCard : Claim7 := { stood := { row := fnSameTracesRow, standIns := [], harness := (true, "c152dc570a47531880e767ad0e5b480f3a63b15880b3c1d90093cf5a1b3866de"), looks := false }, kinds := [], alts := [], laidByText := true, laidKinds := [.data, .data], laidTests := true, laidLooks := .later }
def FnSameTracesCardSaid : Prop := Claim7.holds Tryd.pinned (.plain (OpenSpec.ofChange fnSameTracesSpec)) fnSameTracesCard

/-- THE TIED CARD OF 'laws.FnTraceAlone'. -/
def fnTraceAloneCard : Claim7 := { stood := { row := fnTraceAloneRow, standIns := [], harness := (true, "c152dc570a47531880e767ad0e5b480f3a63b15880b3c1d90093cf5a1b3866de"), looks := false }, kinds := [], alts := [], laidByText := true, laidKinds := [.data, .data], laidTests := true, laidLooks := .later }
def FnTraceAloneCardSaid : Prop := Claim7.holds Tryd.pinned (.plain (OpenSpec.ofChange fnTraceAloneSpec)) fnTraceAloneCard

/-- THE SECOND FORM's CARD OF 'laws.FnExactTraceOfParts'. -/
def fnExactTraceOfPartsUptoCard : Claim7 := { stood := { row := fnExactTraceOfPartsUptoRow, standIns := [], harness := (true, "c152dc570a47531880e767ad0e5b480f3a63b15880b3c1d90093cf5a1b3866de"), looks := false }, kinds := [], alts := [], laidByText := true, laidKinds := [.data, .data], laidTests := true, laidLooks := .later }
def FnExactTraceOfPartsUptoCardSaid : Prop := Claim7.holds Tryd.pinned (.plain (OpenSpec.upto fnExactTraceOfPartsSpec)) fnExactTraceOfPartsUptoCard

/-- THE SECOND FORM's CARD OF 'laws.FnExactSystemOf'. -/
def fnExactSystemOfUptoCard : Claim7 := { stood := { row := fnExactSystemOfUptoRow, standIns := [], harness := (true, "c152dc570a47531880e767ad0e5b480f3a63b15880b3c1d90093cf5a1b3866de"), looks := false }, kinds := [], alts := [], laidByText := true, laidKinds := [.data, .data], laidTests := true, laidLooks := .later }
def FnExactSystemOfUptoCardSaid : Prop := Claim7.holds Tryd.pinned (.plain (OpenSpec.upto fnExactSystemOfSpec)) fnExactSystemOfUptoCard

/-- THE SECOND FORM's CARD OF 'laws.FnExactProjectSystem'. -/
def fnExactProjectSystemUptoCard : Claim7 := { stood := { row := fnExactProjectSystemUptoRow, standIns := [], harness := (true, "c152dc570a47531880e767ad0e5b480f3a63b15880b3c1d90093cf5a1b3866de"), looks := false }, kinds := [], alts := [], laidByText := true, laidKinds := [.data, .data], laidTests := true, laidLooks := .later }
def FnExactProjectSystemUptoCardSaid : Prop := Claim7.holds Tryd.pinned (.plain (OpenSpec.upto fnExactProjectSystemSpec)) fnExactProjectSystemUptoCard

/-- THE SECOND FORM's CARD OF 'laws.FnExactDeterminize'. -/
def fnExactDeterminizeUptoCard : Claim7 := { stood := { row := fnExactDeterminizeUptoRow, standIns := [], harness := (true, "c152dc570a47531880e767ad0e5b480f3a63b15880b3c1d90093cf5a1b3866de"), looks := false }, kinds := [], alts := [], laidByText := true, laidKinds := [.data, .data], laidTests := true, laidLooks := .later }
def FnExactDeterminizeUptoCardSaid : Prop := Claim7.holds Tryd.pinned (.plain (OpenSpec.upto fnExactDeterminizeSpec)) fnExactDeterminizeUptoCard

/-- THE SECOND FORM's CARD OF 'laws.FnProjectAll'. -/
def fnProjectAllUptoCard : Claim7 := { stood := { row := fnProjectAllUptoRow, standIns := [], harness := (true, "c152dc570a47531880e767ad0e5b480f3a63b15880b3c1d90093cf5a1b3866de"), looks := false }, kinds := [], alts := [], laidByText := true, laidKinds := [.data, .data], laidTests := true, laidLooks := .later }
def FnProjectAllUptoCardSaid : Prop := Claim7.holds Tryd.pinned (.plain (OpenSpec.upto fnProjectAllSpec)) fnProjectAllUptoCard

/-- THE SECOND FORM's CARD OF 'laws.FnProjectNone'. -/
def fnProjectNoneUptoCard : Claim7 := { stood := { row := fnProjectNoneUptoRow, standIns := [], harness := (true, "c152dc570a47531880e767ad0e5b480f3a63b15880b3c1d90093cf5a1b3866de"), looks := false }, kinds := [], alts := [], laidByText := true, laidKinds := [.data, .data], laidTests := true, laidLooks := .later }
def FnProjectNoneUptoCardSaid : Prop := Claim7.holds Tryd.pinned (.plain (OpenSpec.upto fnProjectNoneSpec)) fnProjectNoneUptoCard

/-- THE SECOND FORM's CARD OF 'laws.FnSameTraces'. -/
def fnSameTracesUptoCard : Claim7 := { stood := { row := fnSameTracesUptoRow, standIns := [], harness := (true, "c152dc570a47531880e767ad0e5b480f3a63b15880b3c1d90093cf5a1b3866de"), looks := false }, kinds := [], alts := [], laidByText := true, laidKinds := [.data, .data], laidTests := true, laidLooks := .later }
def FnSameTracesUptoCardSaid : Prop := Claim7.holds Tryd.pinned (.plain (OpenSpec.upto fnSameTracesSpec)) fnSameTracesUptoCard

/-- THE SECOND FORM's CARD OF 'laws.FnTraceAlone'. -/
def fnTraceAloneUptoCard : Claim7 := { stood := { row := fnTraceAloneUptoRow, standIns := [], harness := (true, "c152dc570a47531880e767ad0e5b480f3a63b15880b3c1d90093cf5a1b3866de"), looks := false }, kinds := [], alts := [], laidByText := true, laidKinds := [.data, .data], laidTests := true, laidLooks := .later }
def FnTraceAloneUptoCardSaid : Prop := Claim7.holds Tryd.pinned (.plain (OpenSpec.upto fnTraceAloneSpec)) fnTraceAloneUptoCard
end Rows
end Go.Proofs.YtbomhfbiaedbiaaDoor
