/-
  DERIVED. GIVEN WITH THE SEED: THE CARDS: each row of YtepfmanbllegiaaDoorRows.lean that lists a variable, with what it lists TIED to the program's text (the seventh form; the later family's looks); each row that meets fmt, with fmt's text TOLD by the authors' own Lean function (tested against real Go, not proved from fmt's source: count such statements apart). THE CARD IS WHAT COUNTS. Prove the row's statement (the work); the ties are given (YtepfmanbllegiaaDoorTie.lean); close each card by the builder's one call (the guide's Derived/Test/ToyasCard.lean, 'card_holds'). Laid BY PROGRAM, IN A SANDBOX (cutbox-door.mjs). By AI agents, Wed Nov 11 2026. No macro, syntax, notation, axiom, sorry.
-/
import Derived.Test.YtepfmanbllegiaaDoorRows
import GoSem.ClaimSeven
namespace Go.Proofs.YtepfmanbllegiaaDoor
namespace Rows

/-- THE TIED CARD OF 'pleachlaw28.StartTold'. -/
def startToldCard : Claim7 := { stood := { row := startToldRow, standIns := [], harness := (true, "dab0f5c1e9bab9d9f26ad11bb42359dd9d27eb89457142b9bb2122ee98fa66b9"), looks := true }, kinds := [], alts := [], laidByText := true, laidKinds := [.data, .data, .data, .widerDeep], laidTests := true, laidLooks := .later }
def StartToldCardSaid : Prop := Claim7.holds Tryd.pinned (.plain (OpenSpec.ofChange startToldSpec)) startToldCard

/-- THE SECOND FORM's CARD OF 'pleachlaw28.StartTold'. -/
def startToldUptoCard : Claim7 := { stood := { row := startToldUptoRow, standIns := [], harness := (true, "dab0f5c1e9bab9d9f26ad11bb42359dd9d27eb89457142b9bb2122ee98fa66b9"), looks := true }, kinds := [], alts := [], laidByText := true, laidKinds := [.data, .data, .data, .widerDeep], laidTests := true, laidLooks := .later }
def StartToldUptoCardSaid : Prop := Claim7.holds Tryd.pinned (.plain (OpenSpec.upto startToldSpec)) startToldUptoCard
end Rows
end Go.Proofs.YtepfmanbllegiaaDoor
