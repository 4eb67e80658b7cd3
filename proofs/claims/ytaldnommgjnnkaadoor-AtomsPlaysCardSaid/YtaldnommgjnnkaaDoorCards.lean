/-
  DERIVED. GIVEN WITH THE SEED: THE CARDS: each row of YtaldnommgjnnkaaDoorRows.lean that lists a variable, with what it lists TIED to the program's text (the seventh form; the later family's looks); each row that meets fmt, with fmt's text TOLD by the authors' own Lean function (tested against real Go, not proved from fmt's source: count such statements apart). THE CARD IS WHAT COUNTS. Prove the row's statement (the work); the ties are given (YtaldnommgjnnkaaDoorTie.lean); close each card by the builder's one call (the guide's Derived/Test/ToyasCard.lean, 'card_holds'). Laid BY PROGRAM, IN A SANDBOX (cutbox-door.mjs). By AI agents, Wed Nov 11 2026. No macro, syntax, notation, axiom, sorry.
-/
import Derived.Test.YtaldnommgjnnkaaDoorRows
import GoSem.ClaimSeven
namespace Go.Proofs.YtaldnommgjnnkaaDoor
namespace Rows

/-- THE TIED CARD OF 'pleachlaw02.AtomsMay'. -/
def atomsMayCard : Claim7 := { stood := { row := atomsMayRow, standIns := [], harness := (true, "9b9ed8cc87d81b03b7afb723b8a973d5ffbca0fec9b5acf4e85e29e6f14a1dc7"), looks := false }, kinds := [], alts := [], laidByText := true, laidKinds := [.widerDeep], laidTests := true, laidLooks := .later }
def AtomsMayCardSaid : Prop := Claim7.holds Tryd.pinned (.plain (OpenSpec.ofChange atomsMaySpec)) atomsMayCard

/-- THE TIED CARD OF 'pleachlaw02.AtomsBack'. -/
def atomsBackCard : Claim7 := { stood := { row := atomsBackRow, standIns := [], harness := (true, "9b9ed8cc87d81b03b7afb723b8a973d5ffbca0fec9b5acf4e85e29e6f14a1dc7"), looks := false }, kinds := [], alts := [], laidByText := true, laidKinds := [.widerDeep], laidTests := true, laidLooks := .later }
def AtomsBackCardSaid : Prop := Claim7.holds Tryd.pinned (.plain (OpenSpec.ofChange atomsBackSpec)) atomsBackCard

/-- THE TIED CARD OF 'pleachlaw02.AtomsOrder'. -/
def atomsOrderCard : Claim7 := { stood := { row := atomsOrderRow, standIns := [], harness := (true, "9b9ed8cc87d81b03b7afb723b8a973d5ffbca0fec9b5acf4e85e29e6f14a1dc7"), looks := false }, kinds := [], alts := [], laidByText := true, laidKinds := [.widerDeep], laidTests := true, laidLooks := .later }
def AtomsOrderCardSaid : Prop := Claim7.holds Tryd.pinned (.plain (OpenSpec.ofChange atomsOrderSpec)) atomsOrderCard

/-- THE TIED CARD OF 'pleachlaw02.AtomsPlays'. -/
def atomsPlaysCard : Claim7 := { stood := { row := atomsPlaysRow, standIns := [], harness := (true, "9b9ed8cc87d81b03b7afb723b8a973d5ffbca0fec9b5acf4e85e29e6f14a1dc7"), looks := false }, kinds := [], alts := [], laidByText := true, laidKinds := [.widerDeep], laidTests := true, laidLooks := .later }
def AtomsPlaysCardSaid : Prop := Claim7.holds Tryd.pinned (.plain (OpenSpec.ofChange atomsPlaysSpec)) atomsPlaysCard

/-- THE SECOND FORM's CARD OF 'pleachlaw02.AtomsMay'. -/
def atomsMayUptoCard : Claim7 := { stood := { row := atomsMayUptoRow, standIns := [], harness := (true, "9b9ed8cc87d81b03b7afb723b8a973d5ffbca0fec9b5acf4e85e29e6f14a1dc7"), looks := false }, kinds := [], alts := [], laidByText := true, laidKinds := [.widerDeep], laidTests := true, laidLooks := .later }
def AtomsMayUptoCardSaid : Prop := Claim7.holds Tryd.pinned (.plain (OpenSpec.upto atomsMaySpec)) atomsMayUptoCard

/-- THE SECOND FORM's CARD OF 'pleachlaw02.AtomsBack'. -/
def atomsBackUptoCard : Claim7 := { stood := { row := atomsBackUptoRow, standIns := [], harness := (true, "9b9ed8cc87d81b03b7afb723b8a973d5ffbca0fec9b5acf4e85e29e6f14a1dc7"), looks := false }, kinds := [], alts := [], laidByText := true, laidKinds := [.widerDeep], laidTests := true, laidLooks := .later }
def AtomsBackUptoCardSaid : Prop := Claim7.holds Tryd.pinned (.plain (OpenSpec.upto atomsBackSpec)) atomsBackUptoCard

/-- THE SECOND FORM's CARD OF 'pleachlaw02.AtomsOrder'. -/
def atomsOrderUptoCard : Claim7 := { stood := { row := atomsOrderUptoRow, standIns := [], harness := (true, "9b9ed8cc87d81b03b7afb723b8a973d5ffbca0fec9b5acf4e85e29e6f14a1dc7"), looks := false }, kinds := [], alts := [], laidByText := true, laidKinds := [.widerDeep], laidTests := true, laidLooks := .later }
def AtomsOrderUptoCardSaid : Prop := Claim7.holds Tryd.pinned (.plain (OpenSpec.upto atomsOrderSpec)) atomsOrderUptoCard

/-- THE SECOND FORM's CARD OF 'pleachlaw02.AtomsPlays'. -/
def atomsPlaysUptoCard : Claim7 := { stood := { row := atomsPlaysUptoRow, standIns := [], harness := (true, "9b9ed8cc87d81b03b7afb723b8a973d5ffbca0fec9b5acf4e85e29e6f14a1dc7"), looks := false }, kinds := [], alts := [], laidByText := true, laidKinds := [.widerDeep], laidTests := true, laidLooks := .later }
def AtomsPlaysUptoCardSaid : Prop := Claim7.holds Tryd.pinned (.plain (OpenSpec.upto atomsPlaysSpec)) atomsPlaysUptoCard
end Rows
end Go.Proofs.YtaldnommgjnnkaaDoor
