/-
  DERIVED. GIVEN WITH THE SEED: THE CARDS: each row of YthpmdeofdlcccaaGreatDoorRows.lean that lists a variable, with what it lists TIED to the program's text (the seventh form; the later family's looks); each row that meets fmt, with fmt's text TOLD by the authors' own Lean function (tested against real Go, not proved from fmt's source: count such statements apart). THE CARD IS WHAT COUNTS. Prove the row's statement (the work); the ties are given (YthpmdeofdlcccaaGreatDoorTie.lean); close each card by the builder's one call (the guide's Derived/Test/ToyasCard.lean, 'card_holds'). Laid BY PROGRAM, IN A SANDBOX (cutbox-door.mjs). By AI agents, Wed Nov 11 2026. No macro, syntax, notation, axiom, sorry.
-/
import Derived.Test.YthpmdeofdlcccaaGreatDoorRows
import GoSem.ClaimSeven
namespace Go.Proofs.YthpmdeofdlcccaaGreatDoor
namespace Rows

/-- THE TIED CARD OF 'pleachlaw24.ServerSays'. -/
def serverSaysCard : Claim7 := { stood := { row := serverSaysRow, standIns := [], harness := (true, "4cedfc3c56f97de10f043ed902706ecde3a1365b55c387537edea47ddc524fd7"), looks := true }, kinds := [], alts := [], laidByText := true, laidKinds := [.widerDeep], laidTests := true, laidLooks := .later }
def ServerSaysCardSaid : Prop := Claim7.holds Tryz.pinned (.plain (OpenSpec.ofChange serverSaysSpec)) serverSaysCard

/-- THE SECOND FORM's CARD OF 'pleachlaw24.ServerSays'. -/
def serverSaysUptoCard : Claim7 := { stood := { row := serverSaysUptoRow, standIns := [], harness := (true, "4cedfc3c56f97de10f043ed902706ecde3a1365b55c387537edea47ddc524fd7"), looks := true }, kinds := [], alts := [], laidByText := true, laidKinds := [.widerDeep], laidTests := true, laidLooks := .later }
def ServerSaysUptoCardSaid : Prop := Claim7.holds Tryz.pinned (.plain (OpenSpec.upto serverSaysSpec)) serverSaysUptoCard
end Rows
end Go.Proofs.YthpmdeofdlcccaaGreatDoor
