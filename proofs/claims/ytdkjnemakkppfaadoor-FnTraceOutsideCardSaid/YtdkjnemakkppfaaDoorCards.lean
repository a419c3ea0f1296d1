/-
  DERIVED. GIVEN WITH THE SEED: THE CARDS: each row of YtdkjnemakkppfaaDoorRows.lean that lists a variable, with what it lists TIED to the program's text (the seventh form; the later family's looks); each row that meets fmt, with fmt's text TOLD by the authors' own Lean function (tested against real Go, not proved from fmt's source: count such statements apart). THE CARD IS WHAT COUNTS. Prove the row's statement (the work); the ties are given (YtdkjnemakkppfaaDoorTie.lean); close each card by the builder's one call (the guide's Derived/Test/ToyasCard.lean, 'card_holds'). Laid BY PROGRAM, IN A SANDBOX (cutbox-door.mjs). By AI agents, Wed Nov 11 2026. No macro, syntax, notation, axiom, sorry.
-/
import Derived.Test.YtdkjnemakkppfaaDoorRows
import GoSem.ClaimSeven
namespace Go.Proofs.YtdkjnemakkppfaaDoor
namespace Rows

/-- THE TIED CARD OF 'laws.FnExactComposeSystems'. -/
def fnExactComposeSystemsCard : Claim7 := { stood := { row := fnExactComposeSystemsRow, standIns := [], harness := (true, "cb249e200af5f167d77e59d3ace26d308eaf04e6617b331acb502b3f4ab89bdf"), looks := false }, kinds := [], alts := [], laidByText := true, laidKinds := [.data, .data], laidTests := true, laidLooks := .later }
def FnExactComposeSystemsCardSaid : Prop := Claim7.holds Tryd.pinned (.plain (OpenSpec.ofChange fnExactComposeSystemsSpec)) fnExactComposeSystemsCard

/-- THE TIED CARD OF 'laws.FnComposeThree'. -/
def fnComposeThreeCard : Claim7 := { stood := { row := fnComposeThreeRow, standIns := [], harness := (true, "cb249e200af5f167d77e59d3ace26d308eaf04e6617b331acb502b3f4ab89bdf"), looks := false }, kinds := [], alts := [], laidByText := true, laidKinds := [.data, .data], laidTests := true, laidLooks := .later }
def FnComposeThreeCardSaid : Prop := Claim7.holds Tryd.pinned (.plain (OpenSpec.ofChange fnComposeThreeSpec)) fnComposeThreeCard

/-- THE TIED CARD OF 'laws.FnComposeDeterministic'. -/
def fnComposeDeterministicCard : Claim7 := { stood := { row := fnComposeDeterministicRow, standIns := [], harness := (true, "cb249e200af5f167d77e59d3ace26d308eaf04e6617b331acb502b3f4ab89bdf"), looks := false }, kinds := [], alts := [], laidByText := true, laidKinds := [.data, .data], laidTests := true, laidLooks := .later }
def FnComposeDeterministicCardSaid : Prop := Claim7.holds Tryd.pinned (.plain (OpenSpec.ofChange fnComposeDeterministicSpec)) fnComposeDeterministicCard

/-- THE TIED CARD OF 'laws.FnComposeStates'. -/
def fnComposeStatesCard : Claim7 := { stood := { row := fnComposeStatesRow, standIns := [], harness := (true, "cb249e200af5f167d77e59d3ace26d308eaf04e6617b331acb502b3f4ab89bdf"), looks := false }, kinds := [], alts := [], laidByText := true, laidKinds := [.data, .data], laidTests := true, laidLooks := .later }
def FnComposeStatesCardSaid : Prop := Claim7.holds Tryd.pinned (.plain (OpenSpec.ofChange fnComposeStatesSpec)) fnComposeStatesCard

/-- THE TIED CARD OF 'laws.FnComposeTrim'. -/
def fnComposeTrimCard : Claim7 := { stood := { row := fnComposeTrimRow, standIns := [], harness := (true, "cb249e200af5f167d77e59d3ace26d308eaf04e6617b331acb502b3f4ab89bdf"), looks := false }, kinds := [], alts := [], laidByText := true, laidKinds := [.data, .data], laidTests := true, laidLooks := .later }
def FnComposeTrimCardSaid : Prop := Claim7.holds Tryd.pinned (.plain (OpenSpec.ofChange fnComposeTrimSpec)) fnComposeTrimCard

/-- THE TIED CARD OF 'laws.FnTraceOutside'. -/
def fnTraceOutsideCard : Claim7 := { stood := { row := fnTraceOutsideRow, standIns := [], harness := (true, "cb249e200af5f167d77e59d3ace26d308eaf04e6617b331acb502b3f4ab89bdf"), looks := false }, kinds := [], alts := [], laidByText := true, laidKinds := [.data, .data], laidTests := true, laidLooks := .later }
def FnTraceOutsideCardSaid : Prop := Claim7.holds Tryd.pinned (.plain (OpenSpec.ofChange fnTraceOutsideSpec)) fnTraceOutsideCard

/-- THE SECOND FORM's CARD OF 'laws.FnExactComposeSystems'. -/
def fnExactComposeSystemsUptoCard : Claim7 := { stood := { row := fnExactComposeSystemsUptoRow, standIns := [], harness := (true, "cb249e200af5f167d77e59d3ace26d308eaf04e6617b331acb502b3f4ab89bdf"), looks := false }, kinds := [], alts := [], laidByText := true, laidKinds := [.data, .data], laidTests := true, laidLooks := .later }
def FnExactComposeSystemsUptoCardSaid : Prop := Claim7.holds Tryd.pinned (.plain (OpenSpec.upto fnExactComposeSystemsSpec)) fnExactComposeSystemsUptoCard

/-- THE SECOND FORM's CARD OF 'laws.FnComposeThree'. -/
def fnComposeThreeUptoCard : Claim7 := { stood := { row := fnComposeThreeUptoRow, standIns := [], harness := (true, "cb249e200af5f167d77e59d3ace26d308eaf04e6617b331acb502b3f4ab89bdf"), looks := false }, kinds := [], alts := [], laidByText := true, laidKinds := [.data, .data], laidTests := true, laidLooks := .later }
def FnComposeThreeUptoCardSaid : Prop := Claim7.holds Tryd.pinned (.plain (OpenSpec.upto fnComposeThreeSpec)) fnComposeThreeUptoCard

/-- THE SECOND FORM's CARD OF 'laws.FnComposeDeterministic'. -/
def fnComposeDeterministicUptoCard : Claim7 := { stood := { row := fnComposeDeterministicUptoRow, standIns := [], harness := (true, "cb249e200af5f167d77e59d3ace26d308eaf04e6617b331acb502b3f4ab89bdf"), looks := false }, kinds := [], alts := [], laidByText := true, laidKinds := [.data, .data], laidTests := true, laidLooks := .later }
def FnComposeDeterministicUptoCardSaid : Prop := Claim7.holds Tryd.pinned (.plain (OpenSpec.upto fnComposeDeterministicSpec)) fnComposeDeterministicUptoCard

/-- THE SECOND FORM's CARD OF 'laws.FnComposeStates'. -/
def fnComposeStatesUptoCard : Claim7 := { stood := { row := fnComposeStatesUptoRow, standIns := [], harness := (true, "cb249e200af5f167d77e59d3ace26d308eaf04e6617b331acb502b3f4ab89bdf"), looks := false }, kinds := [], alts := [], laidByText := true, laidKinds := [.data, .data], laidTests := true, laidLooks := .later }
def FnComposeStatesUptoCardSaid : Prop := Claim7.holds Tryd.pinned (.plain (OpenSpec.upto fnComposeStatesSpec)) fnComposeStatesUptoCard

/-- THE SECOND FORM's CARD OF 'laws.FnComposeTrim'. -/
def fnComposeTrimUptoCard : Claim7 := { stood := { row := fnComposeTrimUptoRow, standIns := [], harness := (true, "cb249e200af5f167d77e59d3ace26d308eaf04e6617b331acb502b3f4ab89bdf"), looks := false }, kinds := [], alts := [], laidByText := true, laidKinds := [.data, .data], laidTests := true, laidLooks := .later }
def FnComposeTrimUptoCardSaid : Prop := Claim7.holds Tryd.pinned (.plain (OpenSpec.upto fnComposeTrimSpec)) fnComposeTrimUptoCard

/-- THE SECOND FORM's CARD OF 'laws.FnTraceOutside'. -/
def fnTraceOutsideUptoCard : Claim7 := { stood := { row := fnTraceOutsideUptoRow, standIns := [], harness := (true, "cb249e200af5f167d77e59d3ace26d308eaf04e6617b331acb502b3f4ab89bdf"), looks := false }, kinds := [], alts := [], laidByText := true, laidKinds := [.data, .data], laidTests := true, laidLooks := .later }
def FnTraceOutsideUptoCardSaid : Prop := Claim7.holds Tryd.pinned (.plain (OpenSpec.upto fnTraceOutsideSpec)) fnTraceOutsideUptoCard
end Rows
end Go.Proofs.YtdkjnemakkppfaaDoor
