/-
  DERIVED. GIVEN WITH THE SEED: THE CARDS: each row of YtlidpghnlloinaaGreatDoorRows.lean that lists a variable, with what it lists TIED to the program's text (the seventh form; the later family's looks); each row that meets fmt, with fmt's text TOLD by the authors' own Lean function (tested against real Go, not proved from fmt's source: count such statements apart). THE CARD IS WHAT COUNTS. Prove the row's statement (the work); the ties are given (YtlidpghnlloinaaGreatDoorTie.lean); close each card by the builder's one call (the guide's Derived/Test/ToyasCard.lean, 'card_holds'). Laid BY PROGRAM, IN A SANDBOX (cutbox-door.mjs). By AI agents, Wed Nov 11 2026. No macro, syntax, notation, axiom, sorry.
-/
import Derived.Test.YtlidpghnlloinaaGreatDoorRows
import GoSem.ClaimSeven
namespace Go.Proofs.YtlidpghnlloinaaGreatDoor
namespace Rows

/-- THE TIED CARD OF 'annuitantlaw17.DiagramTells'. -/
def diagramTellsCard : Claim7 := { stood := { row := diagramTellsRow, standIns := [], harness := (true, "10c545e2199c8d845f3207da3d958bbf3cddeb4d3fc49d0f637c60022fd0eaa7"), looks := false }, kinds := [], alts := [], laidByText := true, laidKinds := [.data, .data, .data], laidTests := true, laidLooks := .later }
def DiagramTellsCardSaid : Prop := Claim7.holds Tryz.pinned (.plain (OpenSpec.ofChange diagramTellsSpec)) diagramTellsCard

/-- THE TIED CARD OF 'annuitantlaw17.DiagramReduced'. -/
def diagramReducedCard : Claim7 := { stood := { row := diagramReducedRow, standIns := [], harness := (true, "10c545e2199c8d845f3207da3d958bbf3cddeb4d3fc49d0f637c60022fd0eaa7"), looks := false }, kinds := [], alts := [], laidByText := true, laidKinds := [.data, .data, .data], laidTests := true, laidLooks := .later }
def DiagramReducedCardSaid : Prop := Claim7.holds Tryz.pinned (.plain (OpenSpec.ofChange diagramReducedSpec)) diagramReducedCard

/-- THE TIED CARD OF 'annuitantlaw17.DiagramWalks'. -/
def diagramWalksCard : Claim7 := { stood := { row := diagramWalksRow, standIns := [], harness := (true, "10c545e2199c8d845f3207da3d958bbf3cddeb4d3fc49d0f637c60022fd0eaa7"), looks := false }, kinds := [], alts := [], laidByText := true, laidKinds := [.data, .data, .data], laidTests := true, laidLooks := .later }
def DiagramWalksCardSaid : Prop := Claim7.holds Tryz.pinned (.plain (OpenSpec.ofChange diagramWalksSpec)) diagramWalksCard

/-- THE TIED CARD OF 'annuitantlaw17.DiagramComplete'. -/
def diagramCompleteCard : Claim7 := { stood := { row := diagramCompleteRow, standIns := [], harness := (true, "10c545e2199c8d845f3207da3d958bbf3cddeb4d3fc49d0f637c60022fd0eaa7"), looks := false }, kinds := [], alts := [], laidByText := true, laidKinds := [.data, .data, .data], laidTests := true, laidLooks := .later }
def DiagramCompleteCardSaid : Prop := Claim7.holds Tryz.pinned (.plain (OpenSpec.ofChange diagramCompleteSpec)) diagramCompleteCard

/-- THE TIED CARD OF 'annuitantlaw17.DiagramSame'. -/
def diagramSameCard : Claim7 := { stood := { row := diagramSameRow, standIns := [], harness := (true, "10c545e2199c8d845f3207da3d958bbf3cddeb4d3fc49d0f637c60022fd0eaa7"), looks := false }, kinds := [], alts := [], laidByText := true, laidKinds := [.data, .data, .data], laidTests := true, laidLooks := .later }
def DiagramSameCardSaid : Prop := Claim7.holds Tryz.pinned (.plain (OpenSpec.ofChange diagramSameSpec)) diagramSameCard

/-- THE TIED CARD OF 'annuitantlaw17.DiagramSamples'. -/
def diagramSamplesCard : Claim7 := { stood := { row := diagramSamplesRow, standIns := [], harness := (true, "10c545e2199c8d845f3207da3d958bbf3cddeb4d3fc49d0f637c60022fd0eaa7"), looks := false }, kinds := [], alts := [], laidByText := true, laidKinds := [.data, .data, .data], laidTests := true, laidLooks := .later }
def DiagramSamplesCardSaid : Prop := Claim7.holds Tryz.pinned (.plain (OpenSpec.ofChange diagramSamplesSpec)) diagramSamplesCard

/-- THE TIED CARD OF 'annuitantlaw17.DiagramDecides'. -/
def diagramDecidesCard : Claim7 := { stood := { row := diagramDecidesRow, standIns := [], harness := (true, "10c545e2199c8d845f3207da3d958bbf3cddeb4d3fc49d0f637c60022fd0eaa7"), looks := false }, kinds := [], alts := [], laidByText := true, laidKinds := [.data, .data, .data], laidTests := true, laidLooks := .later }
def DiagramDecidesCardSaid : Prop := Claim7.holds Tryz.pinned (.plain (OpenSpec.ofChange diagramDecidesSpec)) diagramDecidesCard

/-- THE TIED CARD OF 'annuitantlaw17.DiagramOf'. -/
def diagramOfCard : Claim7 := { stood := { row := diagramOfRow, standIns := [], harness := (true, "10c545e2199c8d845f3207da3d958bbf3cddeb4d3fc49d0f637c60022fd0eaa7"), looks := false }, kinds := [], alts := [], laidByText := true, laidKinds := [.data, .data, .data], laidTests := true, laidLooks := .later }
def DiagramOfCardSaid : Prop := Claim7.holds Tryz.pinned (.plain (OpenSpec.ofChange diagramOfSpec)) diagramOfCard

/-- THE SECOND FORM's CARD OF 'annuitantlaw17.DiagramTells'. -/
def diagramTellsUptoCard : Claim7 := { stood := { row := diagramTellsUptoRow, standIns := [], harness := (true, "10c545e2199c8d845f3207da3d958bbf3cddeb4d3fc49d0f637c60022fd0eaa7"), looks := false }, kinds := [], alts := [], laidByText := true, laidKinds := [.data, .data, .data], laidTests := true, laidLooks := .later }
def DiagramTellsUptoCardSaid : Prop := Claim7.holds Tryz.pinned (.plain (OpenSpec.upto diagramTellsSpec)) diagramTellsUptoCard

/-- THE SECOND FORM's CARD OF 'annuitantlaw17.DiagramReduced'. -/
def diagramReducedUptoCard : Claim7 := { stood := { row := diagramReducedUptoRow, standIns := [], harness := (true, "10c545e2199c8d845f3207da3d958bbf3cddeb4d3fc49d0f637c60022fd0eaa7"), looks := false }, kinds := [], alts := [], laidByText := true, laidKinds := [.data, .data, .data], laidTests := true, laidLooks := .later }
def DiagramReducedUptoCardSaid : Prop := Claim7.holds Tryz.pinned (.plain (OpenSpec.upto diagramReducedSpec)) diagramReducedUptoCard

/-- THE SECOND FORM's CARD OF 'annuitantlaw17.DiagramWalks'. -/
def diagramWalksUptoCard : Claim7 := { stood := { row := diagramWalksUptoRow, standIns := [], harness := (true, "10c545e2199c8d845f3207da3d958bbf3cddeb4d3fc49d0f637c60022fd0eaa7"), looks := false }, kinds := [], alts := [], laidByText := true, laidKinds := [.data, .data, .data], laidTests := true, laidLooks := .later }
def DiagramWalksUptoCardSaid : Prop := Claim7.holds Tryz.pinned (.plain (OpenSpec.upto diagramWalksSpec)) diagramWalksUptoCard

/-- THE SECOND FORM's CARD OF 'annuitantlaw17.DiagramComplete'. -/
def diagramCompleteUptoCard : Claim7 := { stood := { row := diagramCompleteUptoRow, standIns := [], harness := (true, "10c545e2199c8d845f3207da3d958bbf3cddeb4d3fc49d0f637c60022fd0eaa7"), looks := false }, kinds := [], alts := [], laidByText := true, laidKinds := [.data, .data, .data], laidTests := true, laidLooks := .later }
def DiagramCompleteUptoCardSaid : Prop := Claim7.holds Tryz.pinned (.plain (OpenSpec.upto diagramCompleteSpec)) diagramCompleteUptoCard

/-- THE SECOND FORM's CARD OF 'annuitantlaw17.DiagramSame'. -/
def diagramSameUptoCard : Claim7 := { stood := { row := diagramSameUptoRow, standIns := [], harness := (true, "10c545e2199c8d845f3207da3d958bbf3cddeb4d3fc49d0f637c60022fd0eaa7"), looks := false }, kinds := [], alts := [], laidByText := true, laidKinds := [.data, .data, .data], laidTests := true, laidLooks := .later }
def DiagramSameUptoCardSaid : Prop := Claim7.holds Tryz.pinned (.plain (OpenSpec.upto diagramSameSpec)) diagramSameUptoCard

/-- THE SECOND FORM's CARD OF 'annuitantlaw17.DiagramSamples'. -/
def diagramSamplesUptoCard : Claim7 := { stood := { row := diagramSamplesUptoRow, standIns := [], harness := (true, "10c545e2199c8d845f3207da3d958bbf3cddeb4d3fc49d0f637c60022fd0eaa7"), looks := false }, kinds := [], alts := [], laidByText := true, laidKinds := [.data, .data, .data], laidTests := true, laidLooks := .later }
def DiagramSamplesUptoCardSaid : Prop := Claim7.holds Tryz.pinned (.plain (OpenSpec.upto diagramSamplesSpec)) diagramSamplesUptoCard

/-- THE SECOND FORM's CARD OF 'annuitantlaw17.DiagramDecides'. -/
def diagramDecidesUptoCard : Claim7 := { stood := { row := diagramDecidesUptoRow, standIns := [], harness := (true, "10c545e2199c8d845f3207da3d958bbf3cddeb4d3fc49d0f637c60022fd0eaa7"), looks := false }, kinds := [], alts := [], laidByText := true, laidKinds := [.data, .data, .data], laidTests := true, laidLooks := .later }
def DiagramDecidesUptoCardSaid : Prop := Claim7.holds Tryz.pinned (.plain (OpenSpec.upto diagramDecidesSpec)) diagramDecidesUptoCard

/-- THE SECOND FORM's CARD OF 'annuitantlaw17.DiagramOf'. -/
def diagramOfUptoCard : Claim7 := { stood := { row := diagramOfUptoRow, standIns := [], harness := (true, "10c545e2199c8d845f3207da3d958bbf3cddeb4d3fc49d0f637c60022fd0eaa7"), looks := false }, kinds := [], alts := [], laidByText := true, laidKinds := [.data, .data, .data], laidTests := true, laidLooks := .later }
def DiagramOfUptoCardSaid : Prop := Claim7.holds Tryz.pinned (.plain (OpenSpec.upto diagramOfSpec)) diagramOfUptoCard
end Rows
end Go.Proofs.YtlidpghnlloinaaGreatDoor
