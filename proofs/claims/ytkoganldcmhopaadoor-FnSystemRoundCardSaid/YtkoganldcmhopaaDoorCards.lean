/-
  DERIVED. GIVEN WITH THE SEED: THE CARDS: each row of YtkoganldcmhopaaDoorRows.lean that lists a variable, with what it lists TIED to the program's text (the seventh form; the later family's looks); each row that meets fmt, with fmt's text TOLD by the authors' own Lean function (tested against real Go, not proved from fmt's source: count such statements apart). THE CARD IS WHAT COUNTS. Prove the row's statement (the work); the ties are given (YtkoganldcmhopaaDoorTie.lean); close each card by the builder's one call (the guide's Derived/Test/ToyasCard.lean, 'card_holds'). Laid BY PROGRAM, IN A SANDBOX (cutbox-door.mjs). By AI agents, Wed Nov 11 2026. No macro, syntax, notation, axiom, sorry.
-/
import Derived.Test.YtkoganldcmhopaaDoorRows
import GoSem.ClaimSeven
namespace Go.Proofs.YtkoganldcmhopaaDoor
namespace Rows

/-- THE TIED CARD OF 'laws.FnSystemBack'. -/
def fnSystemBackCard : Claim7 := { stood := { row := fnSystemBackRow, standIns := [], harness := (true, "276d568d3867c0c1c9763d4c1e0dbc7d3ed8cd3f6101e602063b6d65c22cbc58"), looks := false }, kinds := [], alts := [], laidByText := true, laidKinds := [.data, .data], laidTests := true, laidLooks := .later }
def FnSystemBackCardSaid : Prop := Claim7.holds Tryd.pinned (.plain (OpenSpec.ofChange fnSystemBackSpec)) fnSystemBackCard

/-- THE TIED CARD OF 'laws.FnSystemOf'. -/
def fnSystemOfCard : Claim7 := { stood := { row := fnSystemOfRow, standIns := [], harness := (true, "276d568d3867c0c1c9763d4c1e0dbc7d3ed8cd3f6101e602063b6d65c22cbc58"), looks := false }, kinds := [], alts := [], laidByText := true, laidKinds := [.data, .data], laidTests := true, laidLooks := .later }
def FnSystemOfCardSaid : Prop := Claim7.holds Tryd.pinned (.plain (OpenSpec.ofChange fnSystemOfSpec)) fnSystemOfCard

/-- THE TIED CARD OF 'laws.FnExactSystemOf'. -/
def fnExactSystemOfCard : Claim7 := { stood := { row := fnExactSystemOfRow, standIns := [], harness := (true, "276d568d3867c0c1c9763d4c1e0dbc7d3ed8cd3f6101e602063b6d65c22cbc58"), looks := false }, kinds := [], alts := [], laidByText := true, laidKinds := [.data, .data], laidTests := true, laidLooks := .later }
def FnExactSystemOfCardSaid : Prop := Claim7.holds Tryd.pinned (.plain (OpenSpec.ofChange fnExactSystemOfSpec)) fnExactSystemOfCard

/-- THE TIED CARD OF 'laws.FnSystemRound'. -/
def fnSystemRoundCard : Claim7 := { stood := { row := fnSystemRoundRow, standIns := [], harness := (true, "276d568d3867c0c1c9763d4c1e0dbc7d3ed8cd3f6101e602063b6d65c22cbc58"), looks := false }, kinds := [], alts := [], laidByText := true, laidKinds := [.data, .data, .data], laidTests := true, laidLooks := .later }
def FnSystemRoundCardSaid : Prop := Claim7.holds Tryd.pinned (.plain (OpenSpec.ofChange fnSystemRoundSpec)) fnSystemRoundCard

/-- THE TIED CARD OF 'laws.FnMinimalOrder'. -/
def fnMinimalOrderCard : Claim7 := { stood := { row := fnMinimalOrderRow, standIns := [], harness := (true, "276d568d3867c0c1c9763d4c1e0dbc7d3ed8cd3f6101e602063b6d65c22cbc58"), looks := false }, kinds := [], alts := [], laidByText := true, laidKinds := [.data, .data, .data], laidTests := true, laidLooks := .later }
def FnMinimalOrderCardSaid : Prop := Claim7.holds Tryd.pinned (.plain (OpenSpec.ofChange fnMinimalOrderSpec)) fnMinimalOrderCard

/-- THE TIED CARD OF 'laws.FnMinimalOther'. -/
def fnMinimalOtherCard : Claim7 := { stood := { row := fnMinimalOtherRow, standIns := [], harness := (true, "276d568d3867c0c1c9763d4c1e0dbc7d3ed8cd3f6101e602063b6d65c22cbc58"), looks := false }, kinds := [], alts := [], laidByText := true, laidKinds := [.data, .data, .data], laidTests := true, laidLooks := .later }
def FnMinimalOtherCardSaid : Prop := Claim7.holds Tryd.pinned (.plain (OpenSpec.ofChange fnMinimalOtherSpec)) fnMinimalOtherCard

/-- THE TIED CARD OF 'laws.FnIsMinimal'. -/
def fnIsMinimalCard : Claim7 := { stood := { row := fnIsMinimalRow, standIns := [], harness := (true, "276d568d3867c0c1c9763d4c1e0dbc7d3ed8cd3f6101e602063b6d65c22cbc58"), looks := false }, kinds := [], alts := [], laidByText := true, laidKinds := [.data, .data, .data], laidTests := true, laidLooks := .later }
def FnIsMinimalCardSaid : Prop := Claim7.holds Tryd.pinned (.plain (OpenSpec.ofChange fnIsMinimalSpec)) fnIsMinimalCard

/-- THE TIED CARD OF 'laws.FnMinimalSplit'. -/
def fnMinimalSplitCard : Claim7 := { stood := { row := fnMinimalSplitRow, standIns := [], harness := (true, "276d568d3867c0c1c9763d4c1e0dbc7d3ed8cd3f6101e602063b6d65c22cbc58"), looks := false }, kinds := [], alts := [], laidByText := true, laidKinds := [.data, .data, .data], laidTests := true, laidLooks := .later }
def FnMinimalSplitCardSaid : Prop := Claim7.holds Tryd.pinned (.plain (OpenSpec.ofChange fnMinimalSplitSpec)) fnMinimalSplitCard

/-- THE TIED CARD OF 'laws.FnMinimize'. -/
def fnMinimizeCard : Claim7 := { stood := { row := fnMinimizeRow, standIns := [], harness := (true, "276d568d3867c0c1c9763d4c1e0dbc7d3ed8cd3f6101e602063b6d65c22cbc58"), looks := false }, kinds := [], alts := [], laidByText := true, laidKinds := [.data, .data, .data], laidTests := true, laidLooks := .later }
def FnMinimizeCardSaid : Prop := Claim7.holds Tryd.pinned (.plain (OpenSpec.ofChange fnMinimizeSpec)) fnMinimizeCard

/-- THE TIED CARD OF 'laws.FnSameMinimal'. -/
def fnSameMinimalCard : Claim7 := { stood := { row := fnSameMinimalRow, standIns := [], harness := (true, "276d568d3867c0c1c9763d4c1e0dbc7d3ed8cd3f6101e602063b6d65c22cbc58"), looks := false }, kinds := [], alts := [], laidByText := true, laidKinds := [.data, .data, .data], laidTests := true, laidLooks := .later }
def FnSameMinimalCardSaid : Prop := Claim7.holds Tryd.pinned (.plain (OpenSpec.ofChange fnSameMinimalSpec)) fnSameMinimalCard

/-- THE TIED CARD OF 'laws.FnMinimalLeast'. -/
def fnMinimalLeastCard : Claim7 := { stood := { row := fnMinimalLeastRow, standIns := [], harness := (true, "276d568d3867c0c1c9763d4c1e0dbc7d3ed8cd3f6101e602063b6d65c22cbc58"), looks := false }, kinds := [], alts := [], laidByText := true, laidKinds := [.data, .data, .data], laidTests := true, laidLooks := .later }
def FnMinimalLeastCardSaid : Prop := Claim7.holds Tryd.pinned (.plain (OpenSpec.ofChange fnMinimalLeastSpec)) fnMinimalLeastCard

/-- THE TIED CARD OF 'laws.FnMinimalUnique'. -/
def fnMinimalUniqueCard : Claim7 := { stood := { row := fnMinimalUniqueRow, standIns := [], harness := (true, "276d568d3867c0c1c9763d4c1e0dbc7d3ed8cd3f6101e602063b6d65c22cbc58"), looks := false }, kinds := [], alts := [], laidByText := true, laidKinds := [.data, .data, .data], laidTests := true, laidLooks := .later }
def FnMinimalUniqueCardSaid : Prop := Claim7.holds Tryd.pinned (.plain (OpenSpec.ofChange fnMinimalUniqueSpec)) fnMinimalUniqueCard

/-- THE SECOND FORM's CARD OF 'laws.FnSystemBack'. -/
def fnSystemBackUptoCard : Claim7 := { stood := { row := fnSystemBackUptoRow, standIns := [], harness := (true, "276d568d3867c0c1c9763d4c1e0dbc7d3ed8cd3f6101e602063b6d65c22cbc58"), looks := false }, kinds := [], alts := [], laidByText := true, laidKinds := [.data, .data], laidTests := true, laidLooks := .later }
def FnSystemBackUptoCardSaid : Prop := Claim7.holds Tryd.pinned (.plain (OpenSpec.upto fnSystemBackSpec)) fnSystemBackUptoCard

/-- THE SECOND FORM's CARD OF 'laws.FnSystemOf'. -/
def fnSystemOfUptoCard : Claim7 := { stood := { row := fnSystemOfUptoRow, standIns := [], harness := (true, "276d568d3867c0c1c9763d4c1e0dbc7d3ed8cd3f6101e602063b6d65c22cbc58"), looks := false }, kinds := [], alts := [], laidByText := true, laidKinds := [.data, .data], laidTests := true, laidLooks := .later }
def FnSystemOfUptoCardSaid : Prop := Claim7.holds Tryd.pinned (.plain (OpenSpec.upto fnSystemOfSpec)) fnSystemOfUptoCard

/-- THE SECOND FORM's CARD OF 'laws.FnExactSystemOf'. -/
def fnExactSystemOfUptoCard : Claim7 := { stood := { row := fnExactSystemOfUptoRow, standIns := [], harness := (true, "276d568d3867c0c1c9763d4c1e0dbc7d3ed8cd3f6101e602063b6d65c22cbc58"), looks := false }, kinds := [], alts := [], laidByText := true, laidKinds := [.data, .data], laidTests := true, laidLooks := .later }
def FnExactSystemOfUptoCardSaid : Prop := Claim7.holds Tryd.pinned (.plain (OpenSpec.upto fnExactSystemOfSpec)) fnExactSystemOfUptoCard

/-- THE SECOND FORM's CARD OF 'laws.FnSystemRound'. -/
def fnSystemRoundUptoCard : Claim7 := { stood := { row := fnSystemRoundUptoRow, standIns := [], harness := (true, "276d568d3867c0c1c9763d4c1e0dbc7d3ed8cd3f6101e602063b6d65c22cbc58"), looks := false }, kinds := [], alts := [], laidByText := true, laidKinds := [.data, .data, .data], laidTests := true, laidLooks := .later }
def FnSystemRoundUptoCardSaid : Prop := Claim7.holds Tryd.pinned (.plain (OpenSpec.upto fnSystemRoundSpec)) fnSystemRoundUptoCard

/-- THE SECOND FORM's CARD OF 'laws.FnMinimalOrder'. -/
def fnMinimalOrderUptoCard : Claim7 := { stood := { row := fnMinimalOrderUptoRow, standIns := [], harness := (true, "276d568d3867c0c1c9763d4c1e0dbc7d3ed8cd3f6101e602063b6d65c22cbc58"), looks := false }, kinds := [], alts := [], laidByText := true, laidKinds := [.data, .data, .data], laidTests := true, laidLooks := .later }
def FnMinimalOrderUptoCardSaid : Prop := Claim7.holds Tryd.pinned (.plain (OpenSpec.upto fnMinimalOrderSpec)) fnMinimalOrderUptoCard

/-- THE SECOND FORM's CARD OF 'laws.FnMinimalOther'. -/
def fnMinimalOtherUptoCard : Claim7 := { stood := { row := fnMinimalOtherUptoRow, standIns := [], harness := (true, "276d568d3867c0c1c9763d4c1e0dbc7d3ed8cd3f6101e602063b6d65c22cbc58"), looks := false }, kinds := [], alts := [], laidByText := true, laidKinds := [.data, .data, .data], laidTests := true, laidLooks := .later }
def FnMinimalOtherUptoCardSaid : Prop := Claim7.holds Tryd.pinned (.plain (OpenSpec.upto fnMinimalOtherSpec)) fnMinimalOtherUptoCard

/-- THE SECOND FORM's CARD OF 'laws.FnIsMinimal'. -/
def fnIsMinimalUptoCard : Claim7 := { stood := { row := fnIsMinimalUptoRow, standIns := [], harness := (true, "276d568d3867c0c1c9763d4c1e0dbc7d3ed8cd3f6101e602063b6d65c22cbc58"), looks := false }, kinds := [], alts := [], laidByText := true, laidKinds := [.data, .data, .data], laidTests := true, laidLooks := .later }
def FnIsMinimalUptoCardSaid : Prop := Claim7.holds Tryd.pinned (.plain (OpenSpec.upto fnIsMinimalSpec)) fnIsMinimalUptoCard

/-- THE SECOND FORM's CARD OF 'laws.FnMinimalSplit'. -/
def fnMinimalSplitUptoCard : Claim7 := { stood := { row := fnMinimalSplitUptoRow, standIns := [], harness := (true, "276d568d3867c0c1c9763d4c1e0dbc7d3ed8cd3f6101e602063b6d65c22cbc58"), looks := false }, kinds := [], alts := [], laidByText := true, laidKinds := [.data, .data, .data], laidTests := true, laidLooks := .later }
def FnMinimalSplitUptoCardSaid : Prop := Claim7.holds Tryd.pinned (.plain (OpenSpec.upto fnMinimalSplitSpec)) fnMinimalSplitUptoCard

/-- THE SECOND FORM's CARD OF 'laws.FnMinimize'. -/
def fnMinimizeUptoCard : Claim7 := { stood := { row := fnMinimizeUptoRow, standIns := [], harness := (true, "276d568d3867c0c1c9763d4c1e0dbc7d3ed8cd3f6101e602063b6d65c22cbc58"), looks := false }, kinds := [], alts := [], laidByText := true, laidKinds := [.data, .data, .data], laidTests := true, laidLooks := .later }
def FnMinimizeUptoCardSaid : Prop := Claim7.holds Tryd.pinned (.plain (OpenSpec.upto fnMinimizeSpec)) fnMinimizeUptoCard

/-- THE SECOND FORM's CARD OF 'laws.FnSameMinimal'. -/
def fnSameMinimalUptoCard : Claim7 := { stood := { row := fnSameMinimalUptoRow, standIns := [], harness := (true, "276d568d3867c0c1c9763d4c1e0dbc7d3ed8cd3f6101e602063b6d65c22cbc58"), looks := false }, kinds := [], alts := [], laidByText := true, laidKinds := [.data, .data, .data], laidTests := true, laidLooks := .later }
def FnSameMinimalUptoCardSaid : Prop := Claim7.holds Tryd.pinned (.plain (OpenSpec.upto fnSameMinimalSpec)) fnSameMinimalUptoCard

/-- THE SECOND FORM's CARD OF 'laws.FnMinimalLeast'. -/
def fnMinimalLeastUptoCard : Claim7 := { stood := { row := fnMinimalLeastUptoRow, standIns := [], harness := (true, "276d568d3867c0c1c9763d4c1e0dbc7d3ed8cd3f6101e602063b6d65c22cbc58"), looks := false }, kinds := [], alts := [], laidByText := true, laidKinds := [.data, .data, .data], laidTests := true, laidLooks := .later }
def FnMinimalLeastUptoCardSaid : Prop := Claim7.holds Tryd.pinned (.plain (OpenSpec.upto fnMinimalLeastSpec)) fnMinimalLeastUptoCard

/-- THE SECOND FORM's CARD OF 'laws.FnMinimalUnique'. -/
def fnMinimalUniqueUptoCard : Claim7 := { stood := { row := fnMinimalUniqueUptoRow, standIns := [], harness := (true, "276d568d3867c0c1c9763d4c1e0dbc7d3ed8cd3f6101e602063b6d65c22cbc58"), looks := false }, kinds := [], alts := [], laidByText := true, laidKinds := [.data, .data, .data], laidTests := true, laidLooks := .later }
def FnMinimalUniqueUptoCardSaid : Prop := Claim7.holds Tryd.pinned (.plain (OpenSpec.upto fnMinimalUniqueSpec)) fnMinimalUniqueUptoCard
end Rows
end Go.Proofs.YtkoganldcmhopaaDoor
