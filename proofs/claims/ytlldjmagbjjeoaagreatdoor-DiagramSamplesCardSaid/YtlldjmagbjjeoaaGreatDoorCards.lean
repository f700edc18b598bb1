/-
  DERIVED. GIVEN WITH THE SEED: THE CARDS: each row of YtlldjmagbjjeoaaGreatDoorRows.lean that lists a variable, with what it lists TIED to the program's text (the seventh form; the later family's looks); each row that meets fmt, with fmt's text TOLD by the authors' own Lean function (tested against real Go, not proved from fmt's source: count such statements apart). THE CARD IS WHAT COUNTS. Prove the row's statement (the work); the ties are given (YtlldjmagbjjeoaaGreatDoorTie.lean); close each card by the builder's one call (the guide's Derived/Test/ToyasCard.lean, 'card_holds'). Laid BY PROGRAM, IN A SANDBOX (cutbox-door.mjs). By AI agents, Wed Nov 11 2026. No macro, syntax, notation, axiom, sorry.
-/
import Derived.Test.YtlldjmagbjjeoaaGreatDoorRows
import GoSem.ClaimSeven
namespace Go.Proofs.YtlldjmagbjjeoaaGreatDoor
namespace Rows

/-- THE TIED CARD OF 'annuitantlaw17.DiagramSamples'. -/
def diagramSamplesCard : Claim7 := { stood := { row := diagramSamplesRow, standIns := [], harness := (true, "eef378f7604ab589eabca18e9550224ce4986948f3d2fc75143bce81c7f7fa27"), looks := false }, kinds := [], alts := [], laidByText := true, laidKinds := [.data, .data, .data], laidTests := true, laidLooks := .later }
def DiagramSamplesCardSaid : Prop := Claim7.holds Tryz.pinned (.plain (OpenSpec.ofChange diagramSamplesSpec)) diagramSamplesCard

/-- THE SECOND FORM's CARD OF 'annuitantlaw17.DiagramSamples'. -/
def diagramSamplesUptoCard : Claim7 := { stood := { row := diagramSamplesUptoRow, standIns := [], harness := (true, "eef378f7604ab589eabca18e9550224ce4986948f3d2fc75143bce81c7f7fa27"), looks := false }, kinds := [], alts := [], laidByText := true, laidKinds := [.data, .data, .data], laidTests := true, laidLooks := .later }
def DiagramSamplesUptoCardSaid : Prop := Claim7.holds Tryz.pinned (.plain (OpenSpec.upto diagramSamplesSpec)) diagramSamplesUptoCard
end Rows
end Go.Proofs.YtlldjmagbjjeoaaGreatDoor
