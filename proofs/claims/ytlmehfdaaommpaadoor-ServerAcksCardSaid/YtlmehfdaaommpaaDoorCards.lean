/-
  DERIVED. GIVEN WITH THE SEED: THE CARDS: each row of YtlmehfdaaommpaaDoorRows.lean that lists a variable, with what it lists TIED to the program's text (the seventh form; the later family's looks); each row that meets fmt, with fmt's text TOLD by the authors' own Lean function (tested against real Go, not proved from fmt's source: count such statements apart). THE CARD IS WHAT COUNTS. Prove the row's statement (the work); the ties are given (YtlmehfdaaommpaaDoorTie.lean); close each card by the builder's one call (the guide's Derived/Test/ToyasCard.lean, 'card_holds'). Laid BY PROGRAM, IN A SANDBOX (cutbox-door.mjs). By AI agents, Wed Nov 11 2026. No macro, syntax, notation, axiom, sorry.
-/
import Derived.Test.YtlmehfdaaommpaaDoorRows
import GoSem.ClaimSeven
namespace Go.Proofs.YtlmehfdaaommpaaDoor
namespace Rows

/-- THE TIED CARD OF 'pleachlaw24.ServerTakes'. -/
def serverTakesCard : Claim7 := { stood := { row := serverTakesRow, standIns := [], harness := (true, "4254b20cd5cb3aa653412f8bc82d1a2af0d36db0595b8b841b3c91d27f3b749c"), looks := true }, kinds := [], alts := [], laidByText := true, laidKinds := [.widerDeep], laidTests := true, laidLooks := .later }
def ServerTakesCardSaid : Prop := Claim7.holds Tryd.pinned (.plain (OpenSpec.ofChange serverTakesSpec)) serverTakesCard

/-- THE TIED CARD OF 'pleachlaw24.ServerAcks'. -/
def serverAcksCard : Claim7 := { stood := { row := serverAcksRow, standIns := [], harness := (true, "4254b20cd5cb3aa653412f8bc82d1a2af0d36db0595b8b841b3c91d27f3b749c"), looks := true }, kinds := [], alts := [], laidByText := true, laidKinds := [.widerDeep], laidTests := true, laidLooks := .later }
def ServerAcksCardSaid : Prop := Claim7.holds Tryd.pinned (.plain (OpenSpec.ofChange serverAcksSpec)) serverAcksCard

/-- THE SECOND FORM's CARD OF 'pleachlaw24.ServerTakes'. -/
def serverTakesUptoCard : Claim7 := { stood := { row := serverTakesUptoRow, standIns := [], harness := (true, "4254b20cd5cb3aa653412f8bc82d1a2af0d36db0595b8b841b3c91d27f3b749c"), looks := true }, kinds := [], alts := [], laidByText := true, laidKinds := [.widerDeep], laidTests := true, laidLooks := .later }
def ServerTakesUptoCardSaid : Prop := Claim7.holds Tryd.pinned (.plain (OpenSpec.upto serverTakesSpec)) serverTakesUptoCard

/-- THE SECOND FORM's CARD OF 'pleachlaw24.ServerAcks'. -/
def serverAcksUptoCard : Claim7 := { stood := { row := serverAcksUptoRow, standIns := [], harness := (true, "4254b20cd5cb3aa653412f8bc82d1a2af0d36db0595b8b841b3c91d27f3b749c"), looks := true }, kinds := [], alts := [], laidByText := true, laidKinds := [.widerDeep], laidTests := true, laidLooks := .later }
def ServerAcksUptoCardSaid : Prop := Claim7.holds Tryd.pinned (.plain (OpenSpec.upto serverAcksSpec)) serverAcksUptoCard
end Rows
end Go.Proofs.YtlmehfdaaommpaaDoor
