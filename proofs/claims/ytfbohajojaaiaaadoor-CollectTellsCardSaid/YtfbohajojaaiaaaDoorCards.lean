/-
  DERIVED. GIVEN WITH THE SEED: THE CARDS: each row of YtfbohajojaaiaaaDoorRows.lean that lists a variable, with what it lists TIED to the program's text (the seventh form; the later family's looks); each row that meets fmt, with fmt's text TOLD by the authors' own Lean function (tested against real Go, not proved from fmt's source: count such statements apart). THE CARD IS WHAT COUNTS. Prove the row's statement (the work); the ties are given (YtfbohajojaaiaaaDoorTie.lean); close each card by the builder's one call (the guide's Derived/Test/ToyasCard.lean, 'card_holds'). Laid BY PROGRAM, IN A SANDBOX (cutbox-door.mjs). By AI agents, Wed Nov 11 2026. No macro, syntax, notation, axiom, sorry.
-/
import Derived.Test.YtfbohajojaaiaaaDoorRows
import GoSem.ClaimSeven
namespace Go.Proofs.YtfbohajojaaiaaaDoor
namespace Rows

/-- THE TIED CARD OF 'pleachlaw05.CollectNil'. -/
def collectNilCard : Claim7 := { stood := { row := collectNilRow, standIns := [], harness := (true, "ae6fb0408588ef5019b2dde499d8d9e88052b0b984565415ba5c3f5cf720339b"), looks := true }, kinds := [], alts := [], laidByText := true, laidKinds := [.widerDeep], laidTests := true, laidLooks := .later }
def CollectNilCardSaid : Prop := Claim7.holds Tryd.pinned (.plain (OpenSpec.ofChange collectNilSpec)) collectNilCard

/-- THE TIED CARD OF 'pleachlaw05.CollectMore'. -/
def collectMoreCard : Claim7 := { stood := { row := collectMoreRow, standIns := [], harness := (true, "ae6fb0408588ef5019b2dde499d8d9e88052b0b984565415ba5c3f5cf720339b"), looks := true }, kinds := [], alts := [], laidByText := true, laidKinds := [.widerDeep], laidTests := true, laidLooks := .later }
def CollectMoreCardSaid : Prop := Claim7.holds Tryd.pinned (.plain (OpenSpec.ofChange collectMoreSpec)) collectMoreCard

/-- THE TIED CARD OF 'pleachlaw05.CollectTells'. -/
def collectTellsCard : Claim7 := { stood := { row := collectTellsRow, standIns := [], harness := (true, "ae6fb0408588ef5019b2dde499d8d9e88052b0b984565415ba5c3f5cf720339b"), looks := true }, kinds := [], alts := [], laidByText := true, laidKinds := [.widerDeep], laidTests := true, laidLooks := .later }
def CollectTellsCardSaid : Prop := Claim7.holds Tryd.pinned (.plain (OpenSpec.ofChange collectTellsSpec)) collectTellsCard

/-- THE TIED CARD OF 'pleachlaw05.CollectKeeps'. -/
def collectKeepsCard : Claim7 := { stood := { row := collectKeepsRow, standIns := [], harness := (true, "ae6fb0408588ef5019b2dde499d8d9e88052b0b984565415ba5c3f5cf720339b"), looks := true }, kinds := [], alts := [], laidByText := true, laidKinds := [.widerDeep], laidTests := true, laidLooks := .later }
def CollectKeepsCardSaid : Prop := Claim7.holds Tryd.pinned (.plain (OpenSpec.ofChange collectKeepsSpec)) collectKeepsCard

/-- THE SECOND FORM's CARD OF 'pleachlaw05.CollectNil'. -/
def collectNilUptoCard : Claim7 := { stood := { row := collectNilUptoRow, standIns := [], harness := (true, "ae6fb0408588ef5019b2dde499d8d9e88052b0b984565415ba5c3f5cf720339b"), looks := true }, kinds := [], alts := [], laidByText := true, laidKinds := [.widerDeep], laidTests := true, laidLooks := .later }
def CollectNilUptoCardSaid : Prop := Claim7.holds Tryd.pinned (.plain (OpenSpec.upto collectNilSpec)) collectNilUptoCard

/-- THE SECOND FORM's CARD OF 'pleachlaw05.CollectMore'. -/
def collectMoreUptoCard : Claim7 := { stood := { row := collectMoreUptoRow, standIns := [], harness := (true, "ae6fb0408588ef5019b2dde499d8d9e88052b0b984565415ba5c3f5cf720339b"), looks := true }, kinds := [], alts := [], laidByText := true, laidKinds := [.widerDeep], laidTests := true, laidLooks := .later }
def CollectMoreUptoCardSaid : Prop := Claim7.holds Tryd.pinned (.plain (OpenSpec.upto collectMoreSpec)) collectMoreUptoCard

/-- THE SECOND FORM's CARD OF 'pleachlaw05.CollectTells'. -/
def collectTellsUptoCard : Claim7 := { stood := { row := collectTellsUptoRow, standIns := [], harness := (true, "ae6fb0408588ef5019b2dde499d8d9e88052b0b984565415ba5c3f5cf720339b"), looks := true }, kinds := [], alts := [], laidByText := true, laidKinds := [.widerDeep], laidTests := true, laidLooks := .later }
def CollectTellsUptoCardSaid : Prop := Claim7.holds Tryd.pinned (.plain (OpenSpec.upto collectTellsSpec)) collectTellsUptoCard

/-- THE SECOND FORM's CARD OF 'pleachlaw05.CollectKeeps'. -/
def collectKeepsUptoCard : Claim7 := { stood := { row := collectKeepsUptoRow, standIns := [], harness := (true, "ae6fb0408588ef5019b2dde499d8d9e88052b0b984565415ba5c3f5cf720339b"), looks := true }, kinds := [], alts := [], laidByText := true, laidKinds := [.widerDeep], laidTests := true, laidLooks := .later }
def CollectKeepsUptoCardSaid : Prop := Claim7.holds Tryd.pinned (.plain (OpenSpec.upto collectKeepsSpec)) collectKeepsUptoCard
end Rows
end Go.Proofs.YtfbohajojaaiaaaDoor
