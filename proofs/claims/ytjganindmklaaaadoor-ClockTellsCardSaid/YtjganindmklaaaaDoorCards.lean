/-
  DERIVED. GIVEN WITH THE SEED: THE CARDS: each row of YtjganindmklaaaaDoorRows.lean that lists a variable, with what it lists TIED to the program's text (the seventh form; the later family's looks); each row that meets fmt, with fmt's text TOLD by the authors' own Lean function (tested against real Go, not proved from fmt's source: count such statements apart). THE CARD IS WHAT COUNTS. Prove the row's statement (the work); the ties are given (YtjganindmklaaaaDoorTie.lean); close each card by the builder's one call (the guide's Derived/Test/ToyasCard.lean, 'card_holds'). Laid BY PROGRAM, IN A SANDBOX (cutbox-door.mjs). By AI agents, Wed Nov 11 2026. No macro, syntax, notation, axiom, sorry.
-/
import Derived.Test.YtjganindmklaaaaDoorRows
import GoSem.ClaimSeven
namespace Go.Proofs.YtjganindmklaaaaDoor
namespace Rows

/-- THE TIED CARD OF 'pleachlaw16.ClockSums'. -/
def clockSumsCard : Claim7 := { stood := { row := clockSumsRow, standIns := [], harness := (true, "cc6ffae914e6bd05fd2575a43b285fef9013630490e79750fe22c2d48ad5ba10"), looks := true }, kinds := [], alts := [], laidByText := true, laidKinds := [.widerDeep], laidTests := true, laidLooks := .later }
def ClockSumsCardSaid : Prop := Claim7.holds Tryd.pinned (.plain (OpenSpec.ofChange clockSumsSpec)) clockSumsCard

/-- THE TIED CARD OF 'pleachlaw16.ClockDue'. -/
def clockDueCard : Claim7 := { stood := { row := clockDueRow, standIns := [], harness := (true, "cc6ffae914e6bd05fd2575a43b285fef9013630490e79750fe22c2d48ad5ba10"), looks := true }, kinds := [], alts := [], laidByText := true, laidKinds := [.widerDeep], laidTests := true, laidLooks := .later }
def ClockDueCardSaid : Prop := Claim7.holds Tryd.pinned (.plain (OpenSpec.ofChange clockDueSpec)) clockDueCard

/-- THE TIED CARD OF 'pleachlaw16.ClockNext'. -/
def clockNextCard : Claim7 := { stood := { row := clockNextRow, standIns := [], harness := (true, "cc6ffae914e6bd05fd2575a43b285fef9013630490e79750fe22c2d48ad5ba10"), looks := true }, kinds := [], alts := [], laidByText := true, laidKinds := [.widerDeep], laidTests := true, laidLooks := .later }
def ClockNextCardSaid : Prop := Claim7.holds Tryd.pinned (.plain (OpenSpec.ofChange clockNextSpec)) clockNextCard

/-- THE TIED CARD OF 'pleachlaw16.ClockTells'. -/
def clockTellsCard : Claim7 := { stood := { row := clockTellsRow, standIns := [], harness := (true, "cc6ffae914e6bd05fd2575a43b285fef9013630490e79750fe22c2d48ad5ba10"), looks := true }, kinds := [], alts := [], laidByText := true, laidKinds := [.widerDeep], laidTests := true, laidLooks := .later }
def ClockTellsCardSaid : Prop := Claim7.holds Tryd.pinned (.plain (OpenSpec.ofChange clockTellsSpec)) clockTellsCard

/-- THE SECOND FORM's CARD OF 'pleachlaw16.ClockSums'. -/
def clockSumsUptoCard : Claim7 := { stood := { row := clockSumsUptoRow, standIns := [], harness := (true, "cc6ffae914e6bd05fd2575a43b285fef9013630490e79750fe22c2d48ad5ba10"), looks := true }, kinds := [], alts := [], laidByText := true, laidKinds := [.widerDeep], laidTests := true, laidLooks := .later }
def ClockSumsUptoCardSaid : Prop := Claim7.holds Tryd.pinned (.plain (OpenSpec.upto clockSumsSpec)) clockSumsUptoCard

/-- THE SECOND FORM's CARD OF 'pleachlaw16.ClockDue'. -/
def clockDueUptoCard : Claim7 := { stood := { row := clockDueUptoRow, standIns := [], harness := (true, "cc6ffae914e6bd05fd2575a43b285fef9013630490e79750fe22c2d48ad5ba10"), looks := true }, kinds := [], alts := [], laidByText := true, laidKinds := [.widerDeep], laidTests := true, laidLooks := .later }
def ClockDueUptoCardSaid : Prop := Claim7.holds Tryd.pinned (.plain (OpenSpec.upto clockDueSpec)) clockDueUptoCard

/-- THE SECOND FORM's CARD OF 'pleachlaw16.ClockNext'. -/
def clockNextUptoCard : Claim7 := { stood := { row := clockNextUptoRow, standIns := [], harness := (true, "cc6ffae914e6bd05fd2575a43b285fef9013630490e79750fe22c2d48ad5ba10"), looks := true }, kinds := [], alts := [], laidByText := true, laidKinds := [.widerDeep], laidTests := true, laidLooks := .later }
def ClockNextUptoCardSaid : Prop := Claim7.holds Tryd.pinned (.plain (OpenSpec.upto clockNextSpec)) clockNextUptoCard

/-- THE SECOND FORM's CARD OF 'pleachlaw16.ClockTells'. -/
def clockTellsUptoCard : Claim7 := { stood := { row := clockTellsUptoRow, standIns := [], harness := (true, "cc6ffae914e6bd05fd2575a43b285fef9013630490e79750fe22c2d48ad5ba10"), looks := true }, kinds := [], alts := [], laidByText := true, laidKinds := [.widerDeep], laidTests := true, laidLooks := .later }
def ClockTellsUptoCardSaid : Prop := Claim7.holds Tryd.pinned (.plain (OpenSpec.upto clockTellsSpec)) clockTellsUptoCard
end Rows
end Go.Proofs.YtjganindmklaaaaDoor
