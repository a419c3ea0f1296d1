/-
  DERIVED. GIVEN WITH THE SEED: THE CARDS: each row of YtdkjnemakkppfaaGreatDoorRows.lean that lists a variable, with what it lists TIED to the program's text (the seventh form; the later family's looks); each row that meets fmt, with fmt's text TOLD by the authors' own Lean function (tested against real Go, not proved from fmt's source: count such statements apart). THE CARD IS WHAT COUNTS. Prove the row's statement (the work); the ties are given (YtdkjnemakkppfaaGreatDoorTie.lean); close each card by the builder's one call (the guide's Derived/Test/ToyasCard.lean, 'card_holds'). Laid BY PROGRAM, IN A SANDBOX (cutbox-door.mjs). By AI agents, Wed Nov 11 2026. No macro, syntax, notation, axiom, sorry.
-/
import Derived.Test.YtdkjnemakkppfaaGreatDoorRows
import GoSem.ClaimSeven
namespace Go.Proofs.YtdkjnemakkppfaaGreatDoor
namespace Rows

/-- THE TIED CARD OF 'laws.FnComposeTrace'. -/
def fnComposeTraceCard : Claim7 := { stood := { row := fnComposeTraceRow, standIns := [], harness := (true, "a8d5616f33cb047b0314110f8a88859db886d70e78a916db59494e264c3f9ae8"), looks := false }, kinds := [], alts := [], laidByText := true, laidKinds := [.data, .data], laidTests := true, laidLooks := .later }
def FnComposeTraceCardSaid : Prop := Claim7.holds Tryz.pinned (.plain (OpenSpec.ofChange fnComposeTraceSpec)) fnComposeTraceCard

/-- THE TIED CARD OF 'laws.FnComposeApart'. -/
def fnComposeApartCard : Claim7 := { stood := { row := fnComposeApartRow, standIns := [], harness := (true, "a8d5616f33cb047b0314110f8a88859db886d70e78a916db59494e264c3f9ae8"), looks := false }, kinds := [], alts := [], laidByText := true, laidKinds := [.data, .data], laidTests := true, laidLooks := .later }
def FnComposeApartCardSaid : Prop := Claim7.holds Tryz.pinned (.plain (OpenSpec.ofChange fnComposeApartSpec)) fnComposeApartCard

/-- THE TIED CARD OF 'laws.FnComposeWithin'. -/
def fnComposeWithinCard : Claim7 := { stood := { row := fnComposeWithinRow, standIns := [], harness := (true, "a8d5616f33cb047b0314110f8a88859db886d70e78a916db59494e264c3f9ae8"), looks := false }, kinds := [], alts := [], laidByText := true, laidKinds := [.data, .data], laidTests := true, laidLooks := .later }
def FnComposeWithinCardSaid : Prop := Claim7.holds Tryz.pinned (.plain (OpenSpec.ofChange fnComposeWithinSpec)) fnComposeWithinCard

/-- THE TIED CARD OF 'laws.FnComposeNeutral'. -/
def fnComposeNeutralCard : Claim7 := { stood := { row := fnComposeNeutralRow, standIns := [], harness := (true, "a8d5616f33cb047b0314110f8a88859db886d70e78a916db59494e264c3f9ae8"), looks := false }, kinds := [], alts := [], laidByText := true, laidKinds := [.data, .data], laidTests := true, laidLooks := .later }
def FnComposeNeutralCardSaid : Prop := Claim7.holds Tryz.pinned (.plain (OpenSpec.ofChange fnComposeNeutralSpec)) fnComposeNeutralCard

/-- THE TIED CARD OF 'laws.FnComposeSelf'. -/
def fnComposeSelfCard : Claim7 := { stood := { row := fnComposeSelfRow, standIns := [], harness := (true, "a8d5616f33cb047b0314110f8a88859db886d70e78a916db59494e264c3f9ae8"), looks := false }, kinds := [], alts := [], laidByText := true, laidKinds := [.data, .data], laidTests := true, laidLooks := .later }
def FnComposeSelfCardSaid : Prop := Claim7.holds Tryz.pinned (.plain (OpenSpec.ofChange fnComposeSelfSpec)) fnComposeSelfCard

/-- THE TIED CARD OF 'laws.FnComposeTurned'. -/
def fnComposeTurnedCard : Claim7 := { stood := { row := fnComposeTurnedRow, standIns := [], harness := (true, "a8d5616f33cb047b0314110f8a88859db886d70e78a916db59494e264c3f9ae8"), looks := false }, kinds := [], alts := [], laidByText := true, laidKinds := [.data, .data], laidTests := true, laidLooks := .later }
def FnComposeTurnedCardSaid : Prop := Claim7.holds Tryz.pinned (.plain (OpenSpec.ofChange fnComposeTurnedSpec)) fnComposeTurnedCard

/-- THE TIED CARD OF 'laws.FnDeadlockCompose'. -/
def fnDeadlockComposeCard : Claim7 := { stood := { row := fnDeadlockComposeRow, standIns := [], harness := (true, "a8d5616f33cb047b0314110f8a88859db886d70e78a916db59494e264c3f9ae8"), looks := false }, kinds := [], alts := [], laidByText := true, laidKinds := [.data, .data], laidTests := true, laidLooks := .later }
def FnDeadlockComposeCardSaid : Prop := Claim7.holds Tryz.pinned (.plain (OpenSpec.ofChange fnDeadlockComposeSpec)) fnDeadlockComposeCard

/-- THE TIED CARD OF 'laws.FnComposeMeet'. -/
def fnComposeMeetCard : Claim7 := { stood := { row := fnComposeMeetRow, standIns := [], harness := (true, "a8d5616f33cb047b0314110f8a88859db886d70e78a916db59494e264c3f9ae8"), looks := false }, kinds := [], alts := [], laidByText := true, laidKinds := [.data, .data], laidTests := true, laidLooks := .later }
def FnComposeMeetCardSaid : Prop := Claim7.holds Tryz.pinned (.plain (OpenSpec.ofChange fnComposeMeetSpec)) fnComposeMeetCard

/-- THE SECOND FORM's CARD OF 'laws.FnComposeTrace'. -/
def fnComposeTraceUptoCard : Claim7 := { stood := { row := fnComposeTraceUptoRow, standIns := [], harness := (true, "a8d5616f33cb047b0314110f8a88859db886d70e78a916db59494e264c3f9ae8"), looks := false }, kinds := [], alts := [], laidByText := true, laidKinds := [.data, .data], laidTests := true, laidLooks := .later }
def FnComposeTraceUptoCardSaid : Prop := Claim7.holds Tryz.pinned (.plain (OpenSpec.upto fnComposeTraceSpec)) fnComposeTraceUptoCard

/-- THE SECOND FORM's CARD OF 'laws.FnComposeApart'. -/
def fnComposeApartUptoCard : Claim7 := { stood := { row := fnComposeApartUptoRow, standIns := [], harness := (true, "a8d5616f33cb047b0314110f8a88859db886d70e78a916db59494e264c3f9ae8"), looks := false }, kinds := [], alts := [], laidByText := true, laidKinds := [.data, .data], laidTests := true, laidLooks := .later }
def FnComposeApartUptoCardSaid : Prop := Claim7.holds Tryz.pinned (.plain (OpenSpec.upto fnComposeApartSpec)) fnComposeApartUptoCard

/-- THE SECOND FORM's CARD OF 'laws.FnComposeWithin'. -/
def fnComposeWithinUptoCard : Claim7 := { stood := { row := fnComposeWithinUptoRow, standIns := [], harness := (true, "a8d5616f33cb047b0314110f8a88859db886d70e78a916db59494e264c3f9ae8"), looks := false }, kinds := [], alts := [], laidByText := true, laidKinds := [.data, .data], laidTests := true, laidLooks := .later }
def FnComposeWithinUptoCardSaid : Prop := Claim7.holds Tryz.pinned (.plain (OpenSpec.upto fnComposeWithinSpec)) fnComposeWithinUptoCard

/-- THE SECOND FORM's CARD OF 'laws.FnComposeNeutral'. -/
def fnComposeNeutralUptoCard : Claim7 := { stood := { row := fnComposeNeutralUptoRow, standIns := [], harness := (true, "a8d5616f33cb047b0314110f8a88859db886d70e78a916db59494e264c3f9ae8"), looks := false }, kinds := [], alts := [], laidByText := true, laidKinds := [.data, .data], laidTests := true, laidLooks := .later }
def FnComposeNeutralUptoCardSaid : Prop := Claim7.holds Tryz.pinned (.plain (OpenSpec.upto fnComposeNeutralSpec)) fnComposeNeutralUptoCard

/-- THE SECOND FORM's CARD OF 'laws.FnComposeSelf'. -/
def fnComposeSelfUptoCard : Claim7 := { stood := { row := fnComposeSelfUptoRow, standIns := [], harness := (true, "a8d5616f33cb047b0314110f8a88859db886d70e78a916db59494e264c3f9ae8"), looks := false }, kinds := [], alts := [], laidByText := true, laidKinds := [.data, .data], laidTests := true, laidLooks := .later }
def FnComposeSelfUptoCardSaid : Prop := Claim7.holds Tryz.pinned (.plain (OpenSpec.upto fnComposeSelfSpec)) fnComposeSelfUptoCard

/-- THE SECOND FORM's CARD OF 'laws.FnComposeTurned'. -/
def fnComposeTurnedUptoCard : Claim7 := { stood := { row := fnComposeTurnedUptoRow, standIns := [], harness := (true, "a8d5616f33cb047b0314110f8a88859db886d70e78a916db59494e264c3f9ae8"), looks := false }, kinds := [], alts := [], laidByText := true, laidKinds := [.data, .data], laidTests := true, laidLooks := .later }
def FnComposeTurnedUptoCardSaid : Prop := Claim7.holds Tryz.pinned (.plain (OpenSpec.upto fnComposeTurnedSpec)) fnComposeTurnedUptoCard

/-- THE SECOND FORM's CARD OF 'laws.FnDeadlockCompose'. -/
def fnDeadlockComposeUptoCard : Claim7 := { stood := { row := fnDeadlockComposeUptoRow, standIns := [], harness := (true, "a8d5616f33cb047b0314110f8a88859db886d70e78a916db59494e264c3f9ae8"), looks := false }, kinds := [], alts := [], laidByText := true, laidKinds := [.data, .data], laidTests := true, laidLooks := .later }
def FnDeadlockComposeUptoCardSaid : Prop := Claim7.holds Tryz.pinned (.plain (OpenSpec.upto fnDeadlockComposeSpec)) fnDeadlockComposeUptoCard

/-- THE SECOND FORM's CARD OF 'laws.FnComposeMeet'. -/
def fnComposeMeetUptoCard : Claim7 := { stood := { row := fnComposeMeetUptoRow, standIns := [], harness := (true, "a8d5616f33cb047b0314110f8a88859db886d70e78a916db59494e264c3f9ae8"), looks := false }, kinds := [], alts := [], laidByText := true, laidKinds := [.data, .data], laidTests := true, laidLooks := .later }
def FnComposeMeetUptoCardSaid : Prop := Claim7.holds Tryz.pinned (.plain (OpenSpec.upto fnComposeMeetSpec)) fnComposeMeetUptoCard
end Rows
end Go.Proofs.YtdkjnemakkppfaaGreatDoor
