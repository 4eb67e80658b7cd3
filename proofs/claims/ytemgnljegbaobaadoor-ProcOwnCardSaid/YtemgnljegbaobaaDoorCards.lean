/-
  DERIVED. GIVEN WITH THE SEED: THE CARDS: each row of YtemgnljegbaobaaDoorRows.lean that lists a variable, with what it lists TIED to the program's text (the seventh form; the later family's looks); each row that meets fmt, with fmt's text TOLD by the authors' own Lean function (tested against real Go, not proved from fmt's source: count such statements apart). THE CARD IS WHAT COUNTS. Prove the row's statement (the work); the ties are given (YtemgnljegbaobaaDoorTie.lean); close each card by the builder's one call (the guide's Derived/Test/ToyasCard.lean, 'card_holds'). Laid BY PROGRAM, IN A SANDBOX (cutbox-door.mjs). By AI agents, Wed Nov 11 2026. No macro, syntax, notation, axiom, sorry.
-/
import Derived.Test.YtemgnljegbaobaaDoorRows
import GoSem.ClaimSeven
namespace Go.Proofs.YtemgnljegbaobaaDoor
namespace Rows

/-- THE TIED CARD OF 'pleachlaw19.ProcMail'. -/
def procMailCard : Claim7 := { stood := { row := procMailRow, standIns := [], harness := (true, "b22a2b9f2bcf9494a01e3a97840ba2c670abc96687c2e3057f28378eb75a05d5"), looks := true }, kinds := [], alts := [], laidByText := true, laidKinds := [.widerDeep], laidTests := true, laidLooks := .later }
def ProcMailCardSaid : Prop := Claim7.holds Tryd.pinned (.plain (OpenSpec.ofChange procMailSpec)) procMailCard

/-- THE TIED CARD OF 'pleachlaw19.ProcOwn'. -/
def procOwnCard : Claim7 := { stood := { row := procOwnRow, standIns := [], harness := (true, "b22a2b9f2bcf9494a01e3a97840ba2c670abc96687c2e3057f28378eb75a05d5"), looks := true }, kinds := [], alts := [], laidByText := true, laidKinds := [.widerDeep], laidTests := true, laidLooks := .later }
def ProcOwnCardSaid : Prop := Claim7.holds Tryd.pinned (.plain (OpenSpec.ofChange procOwnSpec)) procOwnCard

/-- THE SECOND FORM's CARD OF 'pleachlaw19.ProcMail'. -/
def procMailUptoCard : Claim7 := { stood := { row := procMailUptoRow, standIns := [], harness := (true, "b22a2b9f2bcf9494a01e3a97840ba2c670abc96687c2e3057f28378eb75a05d5"), looks := true }, kinds := [], alts := [], laidByText := true, laidKinds := [.widerDeep], laidTests := true, laidLooks := .later }
def ProcMailUptoCardSaid : Prop := Claim7.holds Tryd.pinned (.plain (OpenSpec.upto procMailSpec)) procMailUptoCard

/-- THE SECOND FORM's CARD OF 'pleachlaw19.ProcOwn'. -/
def procOwnUptoCard : Claim7 := { stood := { row := procOwnUptoRow, standIns := [], harness := (true, "b22a2b9f2bcf9494a01e3a97840ba2c670abc96687c2e3057f28378eb75a05d5"), looks := true }, kinds := [], alts := [], laidByText := true, laidKinds := [.widerDeep], laidTests := true, laidLooks := .later }
def ProcOwnUptoCardSaid : Prop := Claim7.holds Tryd.pinned (.plain (OpenSpec.upto procOwnSpec)) procOwnUptoCard
end Rows
end Go.Proofs.YtemgnljegbaobaaDoor
