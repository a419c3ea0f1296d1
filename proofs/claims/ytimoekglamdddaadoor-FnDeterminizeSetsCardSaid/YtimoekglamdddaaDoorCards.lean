/-
  DERIVED. GIVEN WITH THE SEED: THE CARDS: each row of YtimoekglamdddaaDoorRows.lean that lists a variable, with what it lists TIED to the program's text (the seventh form; the later family's looks); each row that meets fmt, with fmt's text TOLD by the authors' own Lean function (tested against real Go, not proved from fmt's source: count such statements apart). THE CARD IS WHAT COUNTS. Prove the row's statement (the work); the ties are given (YtimoekglamdddaaDoorTie.lean); close each card by the builder's one call (the guide's Derived/Test/ToyasCard.lean, 'card_holds'). Laid BY PROGRAM, IN A SANDBOX (cutbox-door.mjs). By AI agents, Wed Nov 11 2026. No macro, syntax, notation, axiom, sorry.
-/
import Derived.Test.YtimoekglamdddaaDoorRows
import GoSem.ClaimSeven
namespace Go.Proofs.YtimoekglamdddaaDoor
namespace Rows

/-- THE TIED CARD OF 'laws.FnExactDeterminize'. -/
def fnExactDeterminizeCard : Claim7 := { stood := { row := fnExactDeterminizeRow, standIns := [], harness := (true, "1adb265486264ff1a786b28a7257ef57bc0dd3472046484f3998f52955bd0bd5"), looks := false }, kinds := [], alts := [], laidByText := true, laidKinds := [.data, .data], laidTests := true, laidLooks := .later }
def FnExactDeterminizeCardSaid : Prop := Claim7.holds Tryd.pinned (.plain (OpenSpec.ofChange fnExactDeterminizeSpec)) fnExactDeterminizeCard

/-- THE TIED CARD OF 'laws.FnExactProjectSystem'. -/
def fnExactProjectSystemCard : Claim7 := { stood := { row := fnExactProjectSystemRow, standIns := [], harness := (true, "1adb265486264ff1a786b28a7257ef57bc0dd3472046484f3998f52955bd0bd5"), looks := false }, kinds := [], alts := [], laidByText := true, laidKinds := [.data, .data], laidTests := true, laidLooks := .later }
def FnExactProjectSystemCardSaid : Prop := Claim7.holds Tryd.pinned (.plain (OpenSpec.ofChange fnExactProjectSystemSpec)) fnExactProjectSystemCard

/-- THE TIED CARD OF 'laws.FnProjectAll'. -/
def fnProjectAllCard : Claim7 := { stood := { row := fnProjectAllRow, standIns := [], harness := (true, "1adb265486264ff1a786b28a7257ef57bc0dd3472046484f3998f52955bd0bd5"), looks := false }, kinds := [], alts := [], laidByText := true, laidKinds := [.data, .data], laidTests := true, laidLooks := .later }
def FnProjectAllCardSaid : Prop := Claim7.holds Tryd.pinned (.plain (OpenSpec.ofChange fnProjectAllSpec)) fnProjectAllCard

/-- THE TIED CARD OF 'laws.FnProjectNone'. -/
def fnProjectNoneCard : Claim7 := { stood := { row := fnProjectNoneRow, standIns := [], harness := (true, "1adb265486264ff1a786b28a7257ef57bc0dd3472046484f3998f52955bd0bd5"), looks := false }, kinds := [], alts := [], laidByText := true, laidKinds := [.data, .data], laidTests := true, laidLooks := .later }
def FnProjectNoneCardSaid : Prop := Claim7.holds Tryd.pinned (.plain (OpenSpec.ofChange fnProjectNoneSpec)) fnProjectNoneCard

/-- THE TIED CARD OF 'laws.FnDeterminize'. -/
def fnDeterminizeCard : Claim7 := { stood := { row := fnDeterminizeRow, standIns := [], harness := (true, "1adb265486264ff1a786b28a7257ef57bc0dd3472046484f3998f52955bd0bd5"), looks := false }, kinds := [], alts := [], laidByText := true, laidKinds := [.data, .data], laidTests := true, laidLooks := .later }
def FnDeterminizeCardSaid : Prop := Claim7.holds Tryd.pinned (.plain (OpenSpec.ofChange fnDeterminizeSpec)) fnDeterminizeCard

/-- THE TIED CARD OF 'laws.FnProjectTrace'. -/
def fnProjectTraceCard : Claim7 := { stood := { row := fnProjectTraceRow, standIns := [], harness := (true, "1adb265486264ff1a786b28a7257ef57bc0dd3472046484f3998f52955bd0bd5"), looks := false }, kinds := [], alts := [], laidByText := true, laidKinds := [.data, .data], laidTests := true, laidLooks := .later }
def FnProjectTraceCardSaid : Prop := Claim7.holds Tryd.pinned (.plain (OpenSpec.ofChange fnProjectTraceSpec)) fnProjectTraceCard

/-- THE TIED CARD OF 'laws.FnDeterminizeSafe'. -/
def fnDeterminizeSafeCard : Claim7 := { stood := { row := fnDeterminizeSafeRow, standIns := [], harness := (true, "1adb265486264ff1a786b28a7257ef57bc0dd3472046484f3998f52955bd0bd5"), looks := false }, kinds := [], alts := [], laidByText := true, laidKinds := [.data, .data], laidTests := true, laidLooks := .later }
def FnDeterminizeSafeCardSaid : Prop := Claim7.holds Tryd.pinned (.plain (OpenSpec.ofChange fnDeterminizeSafeSpec)) fnDeterminizeSafeCard

/-- THE TIED CARD OF 'laws.FnProjectSafe'. -/
def fnProjectSafeCard : Claim7 := { stood := { row := fnProjectSafeRow, standIns := [], harness := (true, "1adb265486264ff1a786b28a7257ef57bc0dd3472046484f3998f52955bd0bd5"), looks := false }, kinds := [], alts := [], laidByText := true, laidKinds := [.data, .data], laidTests := true, laidLooks := .later }
def FnProjectSafeCardSaid : Prop := Claim7.holds Tryd.pinned (.plain (OpenSpec.ofChange fnProjectSafeSpec)) fnProjectSafeCard

/-- THE TIED CARD OF 'laws.FnDeterminizeCount'. -/
def fnDeterminizeCountCard : Claim7 := { stood := { row := fnDeterminizeCountRow, standIns := [], harness := (true, "1adb265486264ff1a786b28a7257ef57bc0dd3472046484f3998f52955bd0bd5"), looks := false }, kinds := [], alts := [], laidByText := true, laidKinds := [.data, .data], laidTests := true, laidLooks := .later }
def FnDeterminizeCountCardSaid : Prop := Claim7.holds Tryd.pinned (.plain (OpenSpec.ofChange fnDeterminizeCountSpec)) fnDeterminizeCountCard

/-- THE TIED CARD OF 'laws.FnDeterminizeTrim'. -/
def fnDeterminizeTrimCard : Claim7 := { stood := { row := fnDeterminizeTrimRow, standIns := [], harness := (true, "1adb265486264ff1a786b28a7257ef57bc0dd3472046484f3998f52955bd0bd5"), looks := false }, kinds := [], alts := [], laidByText := true, laidKinds := [.data, .data], laidTests := true, laidLooks := .later }
def FnDeterminizeTrimCardSaid : Prop := Claim7.holds Tryd.pinned (.plain (OpenSpec.ofChange fnDeterminizeTrimSpec)) fnDeterminizeTrimCard

/-- THE TIED CARD OF 'laws.FnDeterminizeSets'. -/
def fnDeterminizeSetsCard : Claim7 := { stood := { row := fnDeterminizeSetsRow, standIns := [], harness := (true, "1adb265486264ff1a786b28a7257ef57bc0dd3472046484f3998f52955bd0bd5"), looks := false }, kinds := [], alts := [], laidByText := true, laidKinds := [.data, .data], laidTests := true, laidLooks := .later }
def FnDeterminizeSetsCardSaid : Prop := Claim7.holds Tryd.pinned (.plain (OpenSpec.ofChange fnDeterminizeSetsSpec)) fnDeterminizeSetsCard

/-- THE TIED CARD OF 'laws.FnTracesWithin'. -/
def fnTracesWithinCard : Claim7 := { stood := { row := fnTracesWithinRow, standIns := [], harness := (true, "1adb265486264ff1a786b28a7257ef57bc0dd3472046484f3998f52955bd0bd5"), looks := false }, kinds := [], alts := [], laidByText := true, laidKinds := [.data, .data], laidTests := true, laidLooks := .later }
def FnTracesWithinCardSaid : Prop := Claim7.holds Tryd.pinned (.plain (OpenSpec.ofChange fnTracesWithinSpec)) fnTracesWithinCard

/-- THE SECOND FORM's CARD OF 'laws.FnExactDeterminize'. -/
def fnExactDeterminizeUptoCard : Claim7 := { stood := { row := fnExactDeterminizeUptoRow, standIns := [], harness := (true, "1adb265486264ff1a786b28a7257ef57bc0dd3472046484f3998f52955bd0bd5"), looks := false }, kinds := [], alts := [], laidByText := true, laidKinds := [.data, .data], laidTests := true, laidLooks := .later }
def FnExactDeterminizeUptoCardSaid : Prop := Claim7.holds Tryd.pinned (.plain (OpenSpec.upto fnExactDeterminizeSpec)) fnExactDeterminizeUptoCard

/-- THE SECOND FORM's CARD OF 'laws.FnExactProjectSystem'. -/
def fnExactProjectSystemUptoCard : Claim7 := { stood := { row := fnExactProjectSystemUptoRow, standIns := [], harness := (true, "1adb265486264ff1a786b28a7257ef57bc0dd3472046484f3998f52955bd0bd5"), looks := false }, kinds := [], alts := [], laidByText := true, laidKinds := [.data, .data], laidTests := true, laidLooks := .later }
def FnExactProjectSystemUptoCardSaid : Prop := Claim7.holds Tryd.pinned (.plain (OpenSpec.upto fnExactProjectSystemSpec)) fnExactProjectSystemUptoCard

/-- THE SECOND FORM's CARD OF 'laws.FnProjectAll'. -/
def fnProjectAllUptoCard : Claim7 := { stood := { row := fnProjectAllUptoRow, standIns := [], harness := (true, "1adb265486264ff1a786b28a7257ef57bc0dd3472046484f3998f52955bd0bd5"), looks := false }, kinds := [], alts := [], laidByText := true, laidKinds := [.data, .data], laidTests := true, laidLooks := .later }
def FnProjectAllUptoCardSaid : Prop := Claim7.holds Tryd.pinned (.plain (OpenSpec.upto fnProjectAllSpec)) fnProjectAllUptoCard

/-- THE SECOND FORM's CARD OF 'laws.FnProjectNone'. -/
def fnProjectNoneUptoCard : Claim7 := { stood := { row := fnProjectNoneUptoRow, standIns := [], harness := (true, "1adb265486264ff1a786b28a7257ef57bc0dd3472046484f3998f52955bd0bd5"), looks := false }, kinds := [], alts := [], laidByText := true, laidKinds := [.data, .data], laidTests := true, laidLooks := .later }
def FnProjectNoneUptoCardSaid : Prop := Claim7.holds Tryd.pinned (.plain (OpenSpec.upto fnProjectNoneSpec)) fnProjectNoneUptoCard

/-- THE SECOND FORM's CARD OF 'laws.FnDeterminize'. -/
def fnDeterminizeUptoCard : Claim7 := { stood := { row := fnDeterminizeUptoRow, standIns := [], harness := (true, "1adb265486264ff1a786b28a7257ef57bc0dd3472046484f3998f52955bd0bd5"), looks := false }, kinds := [], alts := [], laidByText := true, laidKinds := [.data, .data], laidTests := true, laidLooks := .later }
def FnDeterminizeUptoCardSaid : Prop := Claim7.holds Tryd.pinned (.plain (OpenSpec.upto fnDeterminizeSpec)) fnDeterminizeUptoCard

/-- THE SECOND FORM's CARD OF 'laws.FnProjectTrace'. -/
def fnProjectTraceUptoCard : Claim7 := { stood := { row := fnProjectTraceUptoRow, standIns := [], harness := (true, "1adb265486264ff1a786b28a7257ef57bc0dd3472046484f3998f52955bd0bd5"), looks := false }, kinds := [], alts := [], laidByText := true, laidKinds := [.data, .data], laidTests := true, laidLooks := .later }
def FnProjectTraceUptoCardSaid : Prop := Claim7.holds Tryd.pinned (.plain (OpenSpec.upto fnProjectTraceSpec)) fnProjectTraceUptoCard

/-- THE SECOND FORM's CARD OF 'laws.FnDeterminizeSafe'. -/
def fnDeterminizeSafeUptoCard : Claim7 := { stood := { row := fnDeterminizeSafeUptoRow, standIns := [], harness := (true, "1adb265486264ff1a786b28a7257ef57bc0dd3472046484f3998f52955bd0bd5"), looks := false }, kinds := [], alts := [], laidByText := true, laidKinds := [.data, .data], laidTests := true, laidLooks := .later }
def FnDeterminizeSafeUptoCardSaid : Prop := Claim7.holds Tryd.pinned (.plain (OpenSpec.upto fnDeterminizeSafeSpec)) fnDeterminizeSafeUptoCard

/-- THE SECOND FORM's CARD OF 'laws.FnProjectSafe'. -/
def fnProjectSafeUptoCard : Claim7 := { stood := { row := fnProjectSafeUptoRow, standIns := [], harness := (true, "1adb265486264ff1a786b28a7257ef57bc0dd3472046484f3998f52955bd0bd5"), looks := false }, kinds := [], alts := [], laidByText := true, laidKinds := [.data, .data], laidTests := true, laidLooks := .later }
def FnProjectSafeUptoCardSaid : Prop := Claim7.holds Tryd.pinned (.plain (OpenSpec.upto fnProjectSafeSpec)) fnProjectSafeUptoCard

/-- THE SECOND FORM's CARD OF 'laws.FnDeterminizeCount'. -/
def fnDeterminizeCountUptoCard : Claim7 := { stood := { row := fnDeterminizeCountUptoRow, standIns := [], harness := (true, "1adb265486264ff1a786b28a7257ef57bc0dd3472046484f3998f52955bd0bd5"), looks := false }, kinds := [], alts := [], laidByText := true, laidKinds := [.data, .data], laidTests := true, laidLooks := .later }
def FnDeterminizeCountUptoCardSaid : Prop := Claim7.holds Tryd.pinned (.plain (OpenSpec.upto fnDeterminizeCountSpec)) fnDeterminizeCountUptoCard

/-- THE SECOND FORM's CARD OF 'laws.FnDeterminizeTrim'. -/
def fnDeterminizeTrimUptoCard : Claim7 := { stood := { row := fnDeterminizeTrimUptoRow, standIns := [], harness := (true, "1adb265486264ff1a786b28a7257ef57bc0dd3472046484f3998f52955bd0bd5"), looks := false }, kinds := [], alts := [], laidByText := true, laidKinds := [.data, .data], laidTests := true, laidLooks := .later }
def FnDeterminizeTrimUptoCardSaid : Prop := Claim7.holds Tryd.pinned (.plain (OpenSpec.upto fnDeterminizeTrimSpec)) fnDeterminizeTrimUptoCard

/-- THE SECOND FORM's CARD OF 'laws.FnDeterminizeSets'. -/
def fnDeterminizeSetsUptoCard : Claim7 := { stood := { row := fnDeterminizeSetsUptoRow, standIns := [], harness := (true, "1adb265486264ff1a786b28a7257ef57bc0dd3472046484f3998f52955bd0bd5"), looks := false }, kinds := [], alts := [], laidByText := true, laidKinds := [.data, .data], laidTests := true, laidLooks := .later }
def FnDeterminizeSetsUptoCardSaid : Prop := Claim7.holds Tryd.pinned (.plain (OpenSpec.upto fnDeterminizeSetsSpec)) fnDeterminizeSetsUptoCard

/-- THE SECOND FORM's CARD OF 'laws.FnTracesWithin'. -/
def fnTracesWithinUptoCard : Claim7 := { stood := { row := fnTracesWithinUptoRow, standIns := [], harness := (true, "1adb265486264ff1a786b28a7257ef57bc0dd3472046484f3998f52955bd0bd5"), looks := false }, kinds := [], alts := [], laidByText := true, laidKinds := [.data, .data], laidTests := true, laidLooks := .later }
def FnTracesWithinUptoCardSaid : Prop := Claim7.holds Tryd.pinned (.plain (OpenSpec.upto fnTracesWithinSpec)) fnTracesWithinUptoCard
end Rows
end Go.Proofs.YtimoekglamdddaaDoor
