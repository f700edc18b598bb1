/-
  DERIVED. GIVEN WITH THE SEED: THE CARDS: each row of YtaccaebdmndkiaaGreatDoorRows.lean that lists a variable, with what it lists TIED to the program's text (the seventh form; the later family's looks); each row that meets fmt, with fmt's text TOLD by the authors' own Lean function (tested against real Go, not proved from fmt's source: count such statements apart). THE CARD IS WHAT COUNTS. Prove the row's statement (the work); the ties are given (YtaccaebdmndkiaaGreatDoorTie.lean); close each card by the builder's one call (the guide's Derived/Test/ToyasCard.lean, 'card_holds'). Laid BY PROGRAM, IN A SANDBOX (cutbox-door.mjs). By AI agents, Wed Nov 11 2026. No macro, syntax, notation, axiom, sorry.
-/
import Derived.Test.YtaccaebdmndkiaaGreatDoorRows
import GoSem.ClaimSeven
namespace Go.Proofs.YtaccaebdmndkiaaGreatDoor
namespace Rows

/-- THE TIED CARD OF 'annuitantlaw36.BankReads'. -/
def bankReadsCard : Claim7 := { stood := { row := bankReadsRow, standIns := [], harness := (true, "60787be3dcc1fc3e0c3e8b6f2480a4b17377b991f7a1fee127de7d320a0ee717"), looks := false }, kinds := [], alts := [], laidByText := true, laidKinds := [.data, .data, .data, .data, .pinned], laidTests := true, laidLooks := .later }
def BankReadsCardSaid : Prop := Claim7.holds Tryz.pinned (.plain (OpenSpec.ofChange bankReadsSpec)) bankReadsCard

/-- THE TIED CARD OF 'annuitantlaw36.BankSmall'. -/
def bankSmallCard : Claim7 := { stood := { row := bankSmallRow, standIns := [], harness := (true, "60787be3dcc1fc3e0c3e8b6f2480a4b17377b991f7a1fee127de7d320a0ee717"), looks := false }, kinds := [], alts := [], laidByText := true, laidKinds := [.data, .data, .data, .data, .pinned], laidTests := true, laidLooks := .later }
def BankSmallCardSaid : Prop := Claim7.holds Tryz.pinned (.plain (OpenSpec.ofChange bankSmallSpec)) bankSmallCard

/-- THE SECOND FORM's CARD OF 'annuitantlaw36.BankReads'. -/
def bankReadsUptoCard : Claim7 := { stood := { row := bankReadsUptoRow, standIns := [], harness := (true, "60787be3dcc1fc3e0c3e8b6f2480a4b17377b991f7a1fee127de7d320a0ee717"), looks := false }, kinds := [], alts := [], laidByText := true, laidKinds := [.data, .data, .data, .data, .pinned], laidTests := true, laidLooks := .later }
def BankReadsUptoCardSaid : Prop := Claim7.holds Tryz.pinned (.plain (OpenSpec.upto bankReadsSpec)) bankReadsUptoCard

/-- THE SECOND FORM's CARD OF 'annuitantlaw36.BankSmall'. -/
def bankSmallUptoCard : Claim7 := { stood := { row := bankSmallUptoRow, standIns := [], harness := (true, "60787be3dcc1fc3e0c3e8b6f2480a4b17377b991f7a1fee127de7d320a0ee717"), looks := false }, kinds := [], alts := [], laidByText := true, laidKinds := [.data, .data, .data, .data, .pinned], laidTests := true, laidLooks := .later }
def BankSmallUptoCardSaid : Prop := Claim7.holds Tryz.pinned (.plain (OpenSpec.upto bankSmallSpec)) bankSmallUptoCard
end Rows
end Go.Proofs.YtaccaebdmndkiaaGreatDoor
