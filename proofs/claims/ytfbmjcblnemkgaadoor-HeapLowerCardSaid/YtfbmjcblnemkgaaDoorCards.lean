/-
  DERIVED. GIVEN WITH THE SEED: THE CARDS: each row of YtfbmjcblnemkgaaDoorRows.lean that lists a variable, with what it lists TIED to the program's text (the seventh form; the later family's looks); each row that meets fmt, with fmt's text TOLD by the authors' own Lean function (tested against real Go, not proved from fmt's source: count such statements apart). THE CARD IS WHAT COUNTS. Prove the row's statement (the work); the ties are given (YtfbmjcblnemkgaaDoorTie.lean); close each card by the builder's one call (the guide's Derived/Test/ToyasCard.lean, 'card_holds'). Laid BY PROGRAM, IN A SANDBOX (cutbox-door.mjs). By AI agents, Wed Nov 11 2026. No macro, syntax, notation, axiom, sorry.
-/
import Derived.Test.YtfbmjcblnemkgaaDoorRows
import GoSem.ClaimSeven
namespace Go.Proofs.YtfbmjcblnemkgaaDoor
namespace Rows

/-- THE TIED CARD OF 'pleachlaw04.HeapBack'. -/
def heapBackCard : Claim7 := { stood := { row := heapBackRow, standIns := [], harness := (true, "746794630f8a1807a279adcac10acc98dd452b5cee1a537c29771f6825585d2f"), looks := true }, kinds := [], alts := [], laidByText := true, laidKinds := [.data, .data, .data, .widerDeep], laidTests := true, laidLooks := .later }
def HeapBackCardSaid : Prop := Claim7.holds Tryd.pinned (.plain (OpenSpec.ofChange heapBackSpec)) heapBackCard

/-- THE TIED CARD OF 'pleachlaw04.HeapNil'. -/
def heapNilCard : Claim7 := { stood := { row := heapNilRow, standIns := [], harness := (true, "746794630f8a1807a279adcac10acc98dd452b5cee1a537c29771f6825585d2f"), looks := true }, kinds := [], alts := [], laidByText := true, laidKinds := [.data, .data, .data, .widerDeep], laidTests := true, laidLooks := .later }
def HeapNilCardSaid : Prop := Claim7.holds Tryd.pinned (.plain (OpenSpec.ofChange heapNilSpec)) heapNilCard

/-- THE TIED CARD OF 'pleachlaw04.HeapLower'. -/
def heapLowerCard : Claim7 := { stood := { row := heapLowerRow, standIns := [], harness := (true, "746794630f8a1807a279adcac10acc98dd452b5cee1a537c29771f6825585d2f"), looks := true }, kinds := [], alts := [], laidByText := true, laidKinds := [.data, .data, .data, .widerDeep], laidTests := true, laidLooks := .later }
def HeapLowerCardSaid : Prop := Claim7.holds Tryd.pinned (.plain (OpenSpec.ofChange heapLowerSpec)) heapLowerCard

/-- THE SECOND FORM's CARD OF 'pleachlaw04.HeapBack'. -/
def heapBackUptoCard : Claim7 := { stood := { row := heapBackUptoRow, standIns := [], harness := (true, "746794630f8a1807a279adcac10acc98dd452b5cee1a537c29771f6825585d2f"), looks := true }, kinds := [], alts := [], laidByText := true, laidKinds := [.data, .data, .data, .widerDeep], laidTests := true, laidLooks := .later }
def HeapBackUptoCardSaid : Prop := Claim7.holds Tryd.pinned (.plain (OpenSpec.upto heapBackSpec)) heapBackUptoCard

/-- THE SECOND FORM's CARD OF 'pleachlaw04.HeapNil'. -/
def heapNilUptoCard : Claim7 := { stood := { row := heapNilUptoRow, standIns := [], harness := (true, "746794630f8a1807a279adcac10acc98dd452b5cee1a537c29771f6825585d2f"), looks := true }, kinds := [], alts := [], laidByText := true, laidKinds := [.data, .data, .data, .widerDeep], laidTests := true, laidLooks := .later }
def HeapNilUptoCardSaid : Prop := Claim7.holds Tryd.pinned (.plain (OpenSpec.upto heapNilSpec)) heapNilUptoCard

/-- THE SECOND FORM's CARD OF 'pleachlaw04.HeapLower'. -/
def heapLowerUptoCard : Claim7 := { stood := { row := heapLowerUptoRow, standIns := [], harness := (true, "746794630f8a1807a279adcac10acc98dd452b5cee1a537c29771f6825585d2f"), looks := true }, kinds := [], alts := [], laidByText := true, laidKinds := [.data, .data, .data, .widerDeep], laidTests := true, laidLooks := .later }
def HeapLowerUptoCardSaid : Prop := Claim7.holds Tryd.pinned (.plain (OpenSpec.upto heapLowerSpec)) heapLowerUptoCard
end Rows
end Go.Proofs.YtfbmjcblnemkgaaDoor
