/-
  DERIVED. GIVEN WITH THE SEED: THE CARDS: each row of YtjhlbeamfngebaaDoorRows.lean that lists a variable, with what it lists TIED to the program's text (the seventh form; the later family's looks); each row that meets fmt, with fmt's text TOLD by the authors' own Lean function (tested against real Go, not proved from fmt's source: count such statements apart). THE CARD IS WHAT COUNTS. Prove the row's statement (the work); the ties are given (YtjhlbeamfngebaaDoorTie.lean); close each card by the builder's one call (the guide's Derived/Test/ToyasCard.lean, 'card_holds'). Laid BY PROGRAM, IN A SANDBOX (cutbox-door.mjs). By AI agents, Wed Nov 11 2026. No macro, syntax, notation, axiom, sorry.
-/
import Derived.Test.YtjhlbeamfngebaaDoorRows
import GoSem.ClaimSeven
namespace Go.Proofs.YtjhlbeamfngebaaDoor
namespace Rows

/-- THE TIED CARD OF 'laws.FnMinimalLeast'. -/
def fnMinimalLeastCard : Claim7 := { stood := { row := fnMinimalLeastRow, standIns := [], harness := (true, "4fdd64586a0965257d67777d7d14256ce2d4ad469ee4cb6619abf2abf4070920"), looks := false }, kinds := [], alts := [], laidByText := true, laidKinds := [.data, .data, .data], laidTests := true, laidLooks := .later }
def FnMinimalLeastCardSaid : Prop := Claim7.holds Tryd.pinned (.plain (OpenSpec.ofChange fnMinimalLeastSpec)) fnMinimalLeastCard

/-- THE TIED CARD OF 'laws.FnMinimalUnique'. -/
def fnMinimalUniqueCard : Claim7 := { stood := { row := fnMinimalUniqueRow, standIns := [], harness := (true, "4fdd64586a0965257d67777d7d14256ce2d4ad469ee4cb6619abf2abf4070920"), looks := false }, kinds := [], alts := [], laidByText := true, laidKinds := [.data, .data, .data], laidTests := true, laidLooks := .later }
def FnMinimalUniqueCardSaid : Prop := Claim7.holds Tryd.pinned (.plain (OpenSpec.ofChange fnMinimalUniqueSpec)) fnMinimalUniqueCard

/-- THE TIED CARD OF 'laws.FnExactSystemOf'. -/
def fnExactSystemOfCard : Claim7 := { stood := { row := fnExactSystemOfRow, standIns := [], harness := (true, "4fdd64586a0965257d67777d7d14256ce2d4ad469ee4cb6619abf2abf4070920"), looks := false }, kinds := [], alts := [], laidByText := true, laidKinds := [.data, .data], laidTests := true, laidLooks := .later }
def FnExactSystemOfCardSaid : Prop := Claim7.holds Tryd.pinned (.plain (OpenSpec.ofChange fnExactSystemOfSpec)) fnExactSystemOfCard

/-- THE TIED CARD OF 'laws.FnExactDeadlockOf'. -/
def fnExactDeadlockOfCard : Claim7 := { stood := { row := fnExactDeadlockOfRow, standIns := [], harness := (true, "4fdd64586a0965257d67777d7d14256ce2d4ad469ee4cb6619abf2abf4070920"), looks := false }, kinds := [], alts := [], laidByText := true, laidKinds := [.data, .data], laidTests := true, laidLooks := .later }
def FnExactDeadlockOfCardSaid : Prop := Claim7.holds Tryd.pinned (.plain (OpenSpec.ofChange fnExactDeadlockOfSpec)) fnExactDeadlockOfCard

/-- THE TIED CARD OF 'laws.FnDeadlockOf'. -/
def fnDeadlockOfCard : Claim7 := { stood := { row := fnDeadlockOfRow, standIns := [], harness := (true, "4fdd64586a0965257d67777d7d14256ce2d4ad469ee4cb6619abf2abf4070920"), looks := false }, kinds := [], alts := [], laidByText := true, laidKinds := [.data, .data], laidTests := true, laidLooks := .later }
def FnDeadlockOfCardSaid : Prop := Claim7.holds Tryd.pinned (.plain (OpenSpec.ofChange fnDeadlockOfSpec)) fnDeadlockOfCard

/-- THE TIED CARD OF 'laws.FnDeadlockLeast'. -/
def fnDeadlockLeastCard : Claim7 := { stood := { row := fnDeadlockLeastRow, standIns := [], harness := (true, "4fdd64586a0965257d67777d7d14256ce2d4ad469ee4cb6619abf2abf4070920"), looks := false }, kinds := [], alts := [], laidByText := true, laidKinds := [.data, .data], laidTests := true, laidLooks := .later }
def FnDeadlockLeastCardSaid : Prop := Claim7.holds Tryd.pinned (.plain (OpenSpec.ofChange fnDeadlockLeastSpec)) fnDeadlockLeastCard

/-- THE TIED CARD OF 'laws.FnDeadlockStill'. -/
def fnDeadlockStillCard : Claim7 := { stood := { row := fnDeadlockStillRow, standIns := [], harness := (true, "4fdd64586a0965257d67777d7d14256ce2d4ad469ee4cb6619abf2abf4070920"), looks := false }, kinds := [], alts := [], laidByText := true, laidKinds := [.data, .data], laidTests := true, laidLooks := .later }
def FnDeadlockStillCardSaid : Prop := Claim7.holds Tryd.pinned (.plain (OpenSpec.ofChange fnDeadlockStillSpec)) fnDeadlockStillCard

/-- THE TIED CARD OF 'laws.FnTraceOutside'. -/
def fnTraceOutsideCard : Claim7 := { stood := { row := fnTraceOutsideRow, standIns := [], harness := (true, "4fdd64586a0965257d67777d7d14256ce2d4ad469ee4cb6619abf2abf4070920"), looks := false }, kinds := [], alts := [], laidByText := true, laidKinds := [.data, .data], laidTests := true, laidLooks := .later }
def FnTraceOutsideCardSaid : Prop := Claim7.holds Tryd.pinned (.plain (OpenSpec.ofChange fnTraceOutsideSpec)) fnTraceOutsideCard

/-- THE SECOND FORM's CARD OF 'laws.FnMinimalLeast'. -/
def fnMinimalLeastUptoCard : Claim7 := { stood := { row := fnMinimalLeastUptoRow, standIns := [], harness := (true, "4fdd64586a0965257d67777d7d14256ce2d4ad469ee4cb6619abf2abf4070920"), looks := false }, kinds := [], alts := [], laidByText := true, laidKinds := [.data, .data, .data], laidTests := true, laidLooks := .later }
def FnMinimalLeastUptoCardSaid : Prop := Claim7.holds Tryd.pinned (.plain (OpenSpec.upto fnMinimalLeastSpec)) fnMinimalLeastUptoCard

/-- THE SECOND FORM's CARD OF 'laws.FnMinimalUnique'. -/
def fnMinimalUniqueUptoCard : Claim7 := { stood := { row := fnMinimalUniqueUptoRow, standIns := [], harness := (true, "4fdd64586a0965257d67777d7d14256ce2d4ad469ee4cb6619abf2abf4070920"), looks := false }, kinds := [], alts := [], laidByText := true, laidKinds := [.data, .data, .data], laidTests := true, laidLooks := .later }
def FnMinimalUniqueUptoCardSaid : Prop := Claim7.holds Tryd.pinned (.plain (OpenSpec.upto fnMinimalUniqueSpec)) fnMinimalUniqueUptoCard

/-- THE SECOND FORM's CARD OF 'laws.FnExactSystemOf'. -/
def fnExactSystemOfUptoCard : Claim7 := { stood := { row := fnExactSystemOfUptoRow, standIns := [], harness := (true, "4fdd64586a0965257d67777d7d14256ce2d4ad469ee4cb6619abf2abf4070920"), looks := false }, kinds := [], alts := [], laidByText := true, laidKinds := [.data, .data], laidTests := true, laidLooks := .later }
def FnExactSystemOfUptoCardSaid : Prop := Claim7.holds Tryd.pinned (.plain (OpenSpec.upto fnExactSystemOfSpec)) fnExactSystemOfUptoCard

/-- THE SECOND FORM's CARD OF 'laws.FnExactDeadlockOf'. -/
def fnExactDeadlockOfUptoCard : Claim7 := { stood := { row := fnExactDeadlockOfUptoRow, standIns := [], harness := (true, "4fdd64586a0965257d67777d7d14256ce2d4ad469ee4cb6619abf2abf4070920"), looks := false }, kinds := [], alts := [], laidByText := true, laidKinds := [.data, .data], laidTests := true, laidLooks := .later }
def FnExactDeadlockOfUptoCardSaid : Prop := Claim7.holds Tryd.pinned (.plain (OpenSpec.upto fnExactDeadlockOfSpec)) fnExactDeadlockOfUptoCard

/-- THE SECOND FORM's CARD OF 'laws.FnDeadlockOf'. -/
def fnDeadlockOfUptoCard : Claim7 := { stood := { row := fnDeadlockOfUptoRow, standIns := [], harness := (true, "4fdd64586a0965257d67777d7d14256ce2d4ad469ee4cb6619abf2abf4070920"), looks := false }, kinds := [], alts := [], laidByText := true, laidKinds := [.data, .data], laidTests := true, laidLooks := .later }
def FnDeadlockOfUptoCardSaid : Prop := Claim7.holds Tryd.pinned (.plain (OpenSpec.upto fnDeadlockOfSpec)) fnDeadlockOfUptoCard

/-- THE SECOND FORM's CARD OF 'laws.FnDeadlockLeast'. -/
def fnDeadlockLeastUptoCard : Claim7 := { stood := { row := fnDeadlockLeastUptoRow, standIns := [], harness := (true, "4fdd64586a0965257d67777d7d14256ce2d4ad469ee4cb6619abf2abf4070920"), looks := false }, kinds := [], alts := [], laidByText := true, laidKinds := [.data, .data], laidTests := true, laidLooks := .later }
def FnDeadlockLeastUptoCardSaid : Prop := Claim7.holds Tryd.pinned (.plain (OpenSpec.upto fnDeadlockLeastSpec)) fnDeadlockLeastUptoCard

/-- THE SECOND FORM's CARD OF 'laws.FnDeadlockStill'. -/
def fnDeadlockStillUptoCard : Claim7 := { stood := { row := fnDeadlockStillUptoRow, standIns := [], harness := (true, "4fdd64586a0965257d67777d7d14256ce2d4ad469ee4cb6619abf2abf4070920"), looks := false }, kinds := [], alts := [], laidByText := true, laidKinds := [.data, .data], laidTests := true, laidLooks := .later }
def FnDeadlockStillUptoCardSaid : Prop := Claim7.holds Tryd.pinned (.plain (OpenSpec.upto fnDeadlockStillSpec)) fnDeadlockStillUptoCard

/-- THE SECOND FORM's CARD OF 'laws.FnTraceOutside'. -/
def fnTraceOutsideUptoCard : Claim7 := { stood := { row := fnTraceOutsideUptoRow, standIns := [], harness := (true, "4fdd64586a0965257d67777d7d14256ce2d4ad469ee4cb6619abf2abf4070920"), looks := false }, kinds := [], alts := [], laidByText := true, laidKinds := [.data, .data], laidTests := true, laidLooks := .later }
def FnTraceOutsideUptoCardSaid : Prop := Claim7.holds Tryd.pinned (.plain (OpenSpec.upto fnTraceOutsideSpec)) fnTraceOutsideUptoCard
end Rows
end Go.Proofs.YtjhlbeamfngebaaDoor
