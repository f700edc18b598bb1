/-
  DERIVED. GIVEN WITH THE SEED: THE CARDS: each row of YtaccaebdmndkiaaDoorRows.lean that lists a variable, with what it lists TIED to the program's text (the seventh form; the later family's looks); each row that meets fmt, with fmt's text TOLD by the authors' own Lean function (tested against real Go, not proved from fmt's source: count such statements apart). THE CARD IS WHAT COUNTS. Prove the row's statement (the work); the ties are given (YtaccaebdmndkiaaDoorTie.lean); close each card by the builder's one call (the guide's Derived/Test/ToyasCard.lean, 'card_holds'). Laid BY PROGRAM, IN A SANDBOX (cutbox-door.mjs). By AI agents, Wed Nov 11 2026. No macro, syntax, notation, axiom, sorry.
-/
import Derived.Test.YtaccaebdmndkiaaDoorRows
import GoSem.ClaimSeven
namespace Go.Proofs.YtaccaebdmndkiaaDoor
namespace Rows

/-- THE TIED CARD OF 'annuitantlaw36.BankTells'. -/
def bankTellsCard : Claim7 := { stood := { row := bankTellsRow, standIns := [], harness := (true, "523fb915476dfe5b31e8c5f1db5b282d378102cceabf3fd5a549193ace2e2012"), looks := false }, kinds := [], alts := [], laidByText := true, laidKinds := [.data, .data, .data], laidTests := true, laidLooks := .later }
def BankTellsCardSaid : Prop := Claim7.holds Tryd.pinned (.plain (OpenSpec.ofChange bankTellsSpec)) bankTellsCard

/-- THE TIED CARD OF 'annuitantlaw36.BankMatch'. -/
def bankMatchCard : Claim7 := { stood := { row := bankMatchRow, standIns := [], harness := (true, "523fb915476dfe5b31e8c5f1db5b282d378102cceabf3fd5a549193ace2e2012"), looks := false }, kinds := [], alts := [], laidByText := true, laidKinds := [.data, .data, .data], laidTests := true, laidLooks := .later }
def BankMatchCardSaid : Prop := Claim7.holds Tryd.pinned (.plain (OpenSpec.ofChange bankMatchSpec)) bankMatchCard

/-- THE TIED CARD OF 'annuitantlaw36.BankChanged'. -/
def bankChangedCard : Claim7 := { stood := { row := bankChangedRow, standIns := [], harness := (true, "523fb915476dfe5b31e8c5f1db5b282d378102cceabf3fd5a549193ace2e2012"), looks := false }, kinds := [], alts := [], laidByText := true, laidKinds := [.data, .data, .data, .data, .pinned], laidTests := true, laidLooks := .later }
def BankChangedCardSaid : Prop := Claim7.holds Tryd.pinned (.plain (OpenSpec.ofChange bankChangedSpec)) bankChangedCard

/-- THE TIED CARD OF 'annuitantlaw36.BankSwapped'. -/
def bankSwappedCard : Claim7 := { stood := { row := bankSwappedRow, standIns := [], harness := (true, "523fb915476dfe5b31e8c5f1db5b282d378102cceabf3fd5a549193ace2e2012"), looks := false }, kinds := [], alts := [], laidByText := true, laidKinds := [.data, .data, .data, .data, .pinned], laidTests := true, laidLooks := .later }
def BankSwappedCardSaid : Prop := Claim7.holds Tryd.pinned (.plain (OpenSpec.ofChange bankSwappedSpec)) bankSwappedCard

/-- THE TIED CARD OF 'annuitantlaw36.BankBack'. -/
def bankBackCard : Claim7 := { stood := { row := bankBackRow, standIns := [], harness := (true, "523fb915476dfe5b31e8c5f1db5b282d378102cceabf3fd5a549193ace2e2012"), looks := false }, kinds := [], alts := [], laidByText := true, laidKinds := [.data, .data, .data, .data, .pinned], laidTests := true, laidLooks := .later }
def BankBackCardSaid : Prop := Claim7.holds Tryd.pinned (.plain (OpenSpec.ofChange bankBackSpec)) bankBackCard

/-- THE TIED CARD OF 'annuitantlaw36.BankOnly'. -/
def bankOnlyCard : Claim7 := { stood := { row := bankOnlyRow, standIns := [], harness := (true, "523fb915476dfe5b31e8c5f1db5b282d378102cceabf3fd5a549193ace2e2012"), looks := false }, kinds := [], alts := [], laidByText := true, laidKinds := [.data, .data, .data, .data, .pinned], laidTests := true, laidLooks := .later }
def BankOnlyCardSaid : Prop := Claim7.holds Tryd.pinned (.plain (OpenSpec.ofChange bankOnlySpec)) bankOnlyCard

/-- THE SECOND FORM's CARD OF 'annuitantlaw36.BankTells'. -/
def bankTellsUptoCard : Claim7 := { stood := { row := bankTellsUptoRow, standIns := [], harness := (true, "523fb915476dfe5b31e8c5f1db5b282d378102cceabf3fd5a549193ace2e2012"), looks := false }, kinds := [], alts := [], laidByText := true, laidKinds := [.data, .data, .data], laidTests := true, laidLooks := .later }
def BankTellsUptoCardSaid : Prop := Claim7.holds Tryd.pinned (.plain (OpenSpec.upto bankTellsSpec)) bankTellsUptoCard

/-- THE SECOND FORM's CARD OF 'annuitantlaw36.BankMatch'. -/
def bankMatchUptoCard : Claim7 := { stood := { row := bankMatchUptoRow, standIns := [], harness := (true, "523fb915476dfe5b31e8c5f1db5b282d378102cceabf3fd5a549193ace2e2012"), looks := false }, kinds := [], alts := [], laidByText := true, laidKinds := [.data, .data, .data], laidTests := true, laidLooks := .later }
def BankMatchUptoCardSaid : Prop := Claim7.holds Tryd.pinned (.plain (OpenSpec.upto bankMatchSpec)) bankMatchUptoCard

/-- THE SECOND FORM's CARD OF 'annuitantlaw36.BankChanged'. -/
def bankChangedUptoCard : Claim7 := { stood := { row := bankChangedUptoRow, standIns := [], harness := (true, "523fb915476dfe5b31e8c5f1db5b282d378102cceabf3fd5a549193ace2e2012"), looks := false }, kinds := [], alts := [], laidByText := true, laidKinds := [.data, .data, .data, .data, .pinned], laidTests := true, laidLooks := .later }
def BankChangedUptoCardSaid : Prop := Claim7.holds Tryd.pinned (.plain (OpenSpec.upto bankChangedSpec)) bankChangedUptoCard

/-- THE SECOND FORM's CARD OF 'annuitantlaw36.BankSwapped'. -/
def bankSwappedUptoCard : Claim7 := { stood := { row := bankSwappedUptoRow, standIns := [], harness := (true, "523fb915476dfe5b31e8c5f1db5b282d378102cceabf3fd5a549193ace2e2012"), looks := false }, kinds := [], alts := [], laidByText := true, laidKinds := [.data, .data, .data, .data, .pinned], laidTests := true, laidLooks := .later }
def BankSwappedUptoCardSaid : Prop := Claim7.holds Tryd.pinned (.plain (OpenSpec.upto bankSwappedSpec)) bankSwappedUptoCard

/-- THE SECOND FORM's CARD OF 'annuitantlaw36.BankBack'. -/
def bankBackUptoCard : Claim7 := { stood := { row := bankBackUptoRow, standIns := [], harness := (true, "523fb915476dfe5b31e8c5f1db5b282d378102cceabf3fd5a549193ace2e2012"), looks := false }, kinds := [], alts := [], laidByText := true, laidKinds := [.data, .data, .data, .data, .pinned], laidTests := true, laidLooks := .later }
def BankBackUptoCardSaid : Prop := Claim7.holds Tryd.pinned (.plain (OpenSpec.upto bankBackSpec)) bankBackUptoCard

/-- THE SECOND FORM's CARD OF 'annuitantlaw36.BankOnly'. -/
def bankOnlyUptoCard : Claim7 := { stood := { row := bankOnlyUptoRow, standIns := [], harness := (true, "523fb915476dfe5b31e8c5f1db5b282d378102cceabf3fd5a549193ace2e2012"), looks := false }, kinds := [], alts := [], laidByText := true, laidKinds := [.data, .data, .data, .data, .pinned], laidTests := true, laidLooks := .later }
def BankOnlyUptoCardSaid : Prop := Claim7.holds Tryd.pinned (.plain (OpenSpec.upto bankOnlySpec)) bankOnlyUptoCard
end Rows
end Go.Proofs.YtaccaebdmndkiaaDoor
