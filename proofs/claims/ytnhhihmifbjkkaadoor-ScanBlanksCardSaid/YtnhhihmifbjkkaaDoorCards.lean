/-
  DERIVED. GIVEN WITH THE SEED: THE CARDS: each row of YtnhhihmifbjkkaaDoorRows.lean that lists a variable, with what it lists TIED to the program's text (the seventh form; the later family's looks); each row that meets fmt, with fmt's text TOLD by the authors' own Lean function (tested against real Go, not proved from fmt's source: count such statements apart). THE CARD IS WHAT COUNTS. Prove the row's statement (the work); the ties are given (YtnhhihmifbjkkaaDoorTie.lean); close each card by the builder's one call (the guide's Derived/Test/ToyasCard.lean, 'card_holds'). Laid BY PROGRAM, IN A SANDBOX (cutbox-door.mjs). By AI agents, Wed Nov 11 2026. No macro, syntax, notation, axiom, sorry.
-/
import Derived.Test.YtnhhihmifbjkkaaDoorRows
import GoSem.ClaimSeven
namespace Go.Proofs.YtnhhihmifbjkkaaDoor
namespace Rows

/-- THE TIED CARD OF 'pleachlaw06.ScanNext'. -/
def scanNextCard : Claim7 := { stood := { row := scanNextRow, standIns := [], harness := (true, "7f103f77a58454e5d0ebdab7edd82efbc9fd05df1e8e726463be5c9cfbc0d59a"), looks := false }, kinds := [], alts := [], laidByText := true, laidKinds := [.widerDeep, .data, .data], laidTests := true, laidLooks := .later }
def ScanNextCardSaid : Prop := Claim7.holds Tryd.pinned (.plain (OpenSpec.ofChange scanNextSpec)) scanNextCard

/-- THE TIED CARD OF 'pleachlaw06.ScanBlanks'. -/
def scanBlanksCard : Claim7 := { stood := { row := scanBlanksRow, standIns := [], harness := (true, "7f103f77a58454e5d0ebdab7edd82efbc9fd05df1e8e726463be5c9cfbc0d59a"), looks := false }, kinds := [], alts := [], laidByText := true, laidKinds := [.widerDeep, .data, .data], laidTests := true, laidLooks := .later }
def ScanBlanksCardSaid : Prop := Claim7.holds Tryd.pinned (.plain (OpenSpec.ofChange scanBlanksSpec)) scanBlanksCard

/-- THE TIED CARD OF 'pleachlaw06.ScanJoin'. -/
def scanJoinCard : Claim7 := { stood := { row := scanJoinRow, standIns := [], harness := (true, "7f103f77a58454e5d0ebdab7edd82efbc9fd05df1e8e726463be5c9cfbc0d59a"), looks := false }, kinds := [], alts := [], laidByText := true, laidKinds := [.widerDeep, .data, .data], laidTests := true, laidLooks := .later }
def ScanJoinCardSaid : Prop := Claim7.holds Tryd.pinned (.plain (OpenSpec.ofChange scanJoinSpec)) scanJoinCard

/-- THE SECOND FORM's CARD OF 'pleachlaw06.ScanNext'. -/
def scanNextUptoCard : Claim7 := { stood := { row := scanNextUptoRow, standIns := [], harness := (true, "7f103f77a58454e5d0ebdab7edd82efbc9fd05df1e8e726463be5c9cfbc0d59a"), looks := false }, kinds := [], alts := [], laidByText := true, laidKinds := [.widerDeep, .data, .data], laidTests := true, laidLooks := .later }
def ScanNextUptoCardSaid : Prop := Claim7.holds Tryd.pinned (.plain (OpenSpec.upto scanNextSpec)) scanNextUptoCard

/-- THE SECOND FORM's CARD OF 'pleachlaw06.ScanBlanks'. -/
def scanBlanksUptoCard : Claim7 := { stood := { row := scanBlanksUptoRow, standIns := [], harness := (true, "7f103f77a58454e5d0ebdab7edd82efbc9fd05df1e8e726463be5c9cfbc0d59a"), looks := false }, kinds := [], alts := [], laidByText := true, laidKinds := [.widerDeep, .data, .data], laidTests := true, laidLooks := .later }
def ScanBlanksUptoCardSaid : Prop := Claim7.holds Tryd.pinned (.plain (OpenSpec.upto scanBlanksSpec)) scanBlanksUptoCard

/-- THE SECOND FORM's CARD OF 'pleachlaw06.ScanJoin'. -/
def scanJoinUptoCard : Claim7 := { stood := { row := scanJoinUptoRow, standIns := [], harness := (true, "7f103f77a58454e5d0ebdab7edd82efbc9fd05df1e8e726463be5c9cfbc0d59a"), looks := false }, kinds := [], alts := [], laidByText := true, laidKinds := [.widerDeep, .data, .data], laidTests := true, laidLooks := .later }
def ScanJoinUptoCardSaid : Prop := Claim7.holds Tryd.pinned (.plain (OpenSpec.upto scanJoinSpec)) scanJoinUptoCard
end Rows
end Go.Proofs.YtnhhihmifbjkkaaDoor
