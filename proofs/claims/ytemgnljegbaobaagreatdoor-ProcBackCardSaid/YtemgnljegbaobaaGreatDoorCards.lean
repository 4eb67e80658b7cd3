/-
  DERIVED. GIVEN WITH THE SEED: THE CARDS: each row of YtemgnljegbaobaaGreatDoorRows.lean that lists a variable, with what it lists TIED to the program's text (the seventh form; the later family's looks); each row that meets fmt, with fmt's text TOLD by the authors' own Lean function (tested against real Go, not proved from fmt's source: count such statements apart). THE CARD IS WHAT COUNTS. Prove the row's statement (the work); the ties are given (YtemgnljegbaobaaGreatDoorTie.lean); close each card by the builder's one call (the guide's Derived/Test/ToyasCard.lean, 'card_holds'). Laid BY PROGRAM, IN A SANDBOX (cutbox-door.mjs). By AI agents, Wed Nov 11 2026. No macro, syntax, notation, axiom, sorry.
-/
import Derived.Test.YtemgnljegbaobaaGreatDoorRows
import GoSem.ClaimSeven
namespace Go.Proofs.YtemgnljegbaobaaGreatDoor
namespace Rows

/-- THE TIED CARD OF 'pleachlaw19.ProcBack'. -/
def procBackCard : Claim7 := { stood := { row := procBackRow, standIns := [], harness := (true, "3f93dc23af6d755fdd77c8105e93d7ad9b68448411ef715b6ac1365dc22039e2"), looks := true }, kinds := [], alts := [], laidByText := true, laidKinds := [.data, .data, .data, .widerDeep], laidTests := true, laidLooks := .later }
def ProcBackCardSaid : Prop := Claim7.holds Tryz.pinned (.plain (OpenSpec.ofChange procBackSpec)) procBackCard

/-- THE SECOND FORM's CARD OF 'pleachlaw19.ProcBack'. -/
def procBackUptoCard : Claim7 := { stood := { row := procBackUptoRow, standIns := [], harness := (true, "3f93dc23af6d755fdd77c8105e93d7ad9b68448411ef715b6ac1365dc22039e2"), looks := true }, kinds := [], alts := [], laidByText := true, laidKinds := [.data, .data, .data, .widerDeep], laidTests := true, laidLooks := .later }
def ProcBackUptoCardSaid : Prop := Claim7.holds Tryz.pinned (.plain (OpenSpec.upto procBackSpec)) procBackUptoCard
end Rows
end Go.Proofs.YtemgnljegbaobaaGreatDoor
