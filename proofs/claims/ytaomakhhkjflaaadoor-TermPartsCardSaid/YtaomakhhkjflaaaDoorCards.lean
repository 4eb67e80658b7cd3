/-
  DERIVED. GIVEN WITH THE SEED: THE CARDS: each row of YtaomakhhkjflaaaDoorRows.lean that lists a variable, with what it lists TIED to the program's text (the seventh form; the later family's looks); each row that meets fmt, with fmt's text TOLD by the authors' own Lean function (tested against real Go, not proved from fmt's source: count such statements apart). THE CARD IS WHAT COUNTS. Prove the row's statement (the work); the ties are given (YtaomakhhkjflaaaDoorTie.lean); close each card by the builder's one call (the guide's Derived/Test/ToyasCard.lean, 'card_holds'). Laid BY PROGRAM, IN A SANDBOX (cutbox-door.mjs). By AI agents, Wed Nov 11 2026. No macro, syntax, notation, axiom, sorry.
-/
import Derived.Test.YtaomakhhkjflaaaDoorRows
import GoSem.ClaimSeven
namespace Go.Proofs.YtaomakhhkjflaaaDoor
namespace Rows

/-- THE TIED CARD OF 'pleachlaw03.TermOne'. -/
def termOneCard : Claim7 := { stood := { row := termOneRow, standIns := [], harness := (true, "aae273ff367840fc9c9b1dea064cf116d6205a244cb803672cf07128e6e21f0e"), looks := true }, kinds := [], alts := [], laidByText := true, laidKinds := [.data, .data, .data, .sentinel, .sentinel, .widerDeep], laidTests := true, laidLooks := .later }
def TermOneCardSaid : Prop := Claim7.holds Tryd.pinned (.plain (OpenSpec.ofChange termOneSpec)) termOneCard

/-- THE TIED CARD OF 'pleachlaw03.TermParts'. -/
def termPartsCard : Claim7 := { stood := { row := termPartsRow, standIns := [], harness := (true, "aae273ff367840fc9c9b1dea064cf116d6205a244cb803672cf07128e6e21f0e"), looks := true }, kinds := [], alts := [], laidByText := true, laidKinds := [.data, .data, .data, .sentinel, .sentinel, .widerDeep], laidTests := true, laidLooks := .later }
def TermPartsCardSaid : Prop := Claim7.holds Tryd.pinned (.plain (OpenSpec.ofChange termPartsSpec)) termPartsCard

/-- THE TIED CARD OF 'pleachlaw03.TermOrder'. -/
def termOrderCard : Claim7 := { stood := { row := termOrderRow, standIns := [], harness := (true, "aae273ff367840fc9c9b1dea064cf116d6205a244cb803672cf07128e6e21f0e"), looks := true }, kinds := [], alts := [], laidByText := true, laidKinds := [.data, .data, .data, .sentinel, .sentinel, .widerDeep], laidTests := true, laidLooks := .later }
def TermOrderCardSaid : Prop := Claim7.holds Tryd.pinned (.plain (OpenSpec.ofChange termOrderSpec)) termOrderCard

/-- THE SECOND FORM's CARD OF 'pleachlaw03.TermOne'. -/
def termOneUptoCard : Claim7 := { stood := { row := termOneUptoRow, standIns := [], harness := (true, "aae273ff367840fc9c9b1dea064cf116d6205a244cb803672cf07128e6e21f0e"), looks := true }, kinds := [], alts := [], laidByText := true, laidKinds := [.data, .data, .data, .sentinel, .sentinel, .widerDeep], laidTests := true, laidLooks := .later }
def TermOneUptoCardSaid : Prop := Claim7.holds Tryd.pinned (.plain (OpenSpec.upto termOneSpec)) termOneUptoCard

/-- THE SECOND FORM's CARD OF 'pleachlaw03.TermParts'. -/
def termPartsUptoCard : Claim7 := { stood := { row := termPartsUptoRow, standIns := [], harness := (true, "aae273ff367840fc9c9b1dea064cf116d6205a244cb803672cf07128e6e21f0e"), looks := true }, kinds := [], alts := [], laidByText := true, laidKinds := [.data, .data, .data, .sentinel, .sentinel, .widerDeep], laidTests := true, laidLooks := .later }
def TermPartsUptoCardSaid : Prop := Claim7.holds Tryd.pinned (.plain (OpenSpec.upto termPartsSpec)) termPartsUptoCard

/-- THE SECOND FORM's CARD OF 'pleachlaw03.TermOrder'. -/
def termOrderUptoCard : Claim7 := { stood := { row := termOrderUptoRow, standIns := [], harness := (true, "aae273ff367840fc9c9b1dea064cf116d6205a244cb803672cf07128e6e21f0e"), looks := true }, kinds := [], alts := [], laidByText := true, laidKinds := [.data, .data, .data, .sentinel, .sentinel, .widerDeep], laidTests := true, laidLooks := .later }
def TermOrderUptoCardSaid : Prop := Claim7.holds Tryd.pinned (.plain (OpenSpec.upto termOrderSpec)) termOrderUptoCard
end Rows
end Go.Proofs.YtaomakhhkjflaaaDoor
