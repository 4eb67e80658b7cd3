/-
  NARROWER THAN 'FOR EVERY INPUT', by the rows' own cells (each row's printed sentence says how): ScanNext: laid · ScanBlanks: laid · ScanJoin: laid.
  DERIVED. THE GIVEN ROWS OF THIS SEAT. 3 by the template 'for every input the law returns true; each argument reads behind the call as it read before'; 0 by the template 'total and deterministic' (their statements: YtnhhihmifbjkkaaDoorTotals.lean).
  GIVEN WITH THE SEED: the statements are not yours to turn. If you find one false, say at which input.
  Laid BY PROGRAM, IN A SANDBOX (cutbox-rows.mjs): the forced cells as the released guide's own fill.sh prints them over the translation 900875de92f289a3… (all of the seat's roots in one cut). By AI agents, Wed Nov 11 2026. No macro, syntax, notation, axiom, sorry.
-/
import Derived.Test.YtnhhihmifbjkkaaDoorChecked
import GoSem.Claim
import GoSem.ClaimJoined
import GoSem.ClaimMapViews
import Derived.JoinedTies
import Derived.KernelRfl
namespace Go.Proofs.YtnhhihmifbjkkaaDoor
/- THE CELL 'sum', in the pinned program and in every row, IS THE sha256 OF THE DUMP (.gsa) THAT YtnhhihmifbjkkaaDoorProg.lean LOADS. Nothing in Lean hashes anything: it is a label: what it is worth is what the hold of that sum in a sandbox is worth. -/
noncomputable def Tryd.pinned : Pinned := { name := "ytnhhihmifbjkkaadoor", sum := "900875de92f289a3cc5e7ebbd375dcee9b09878a84ac0e9b6e4539a0baf3c833", checked := Tryd.checked }
namespace Rows
def none {H : Type} : Left H := { results := [], args := [] }

/- WHAT THE LISTED PACKAGE-LEVEL VARIABLES READ AS WHEN THE CALL BEGINS. Each datum BY PROGRAM (the guide's laid-datum.mjs) off the statement by which the dump's own 'gosem.cut.vars' lays the variable. In a bare row this is a premise. The card (YtnhhihmifbjkkaaDoorCards.lean) ties it to the program's text. -/
def laid_pleach_atoms_letters {H : Type} : DataW H := .agg [.agg [.lit (.int .u8 97), .lit (.int .u8 122)], .agg [.lit (.int .u8 65), .lit (.int .u8 90)], .agg [.lit (.int .u8 48), .lit (.int .u8 57)], .agg [.lit (.int .u8 95), .lit (.int .u8 95)]]
def laid_pleach_scan_marks {H : Type} : DataW H := .agg [.lit (.string [61, 58, 61]), .lit (.string [61, 47, 61]), .lit (.string [45, 62]), .lit (.string [61, 60]), .lit (.string [62, 61]), .lit (.string [60]), .lit (.string [62]), .lit (.string [61]), .lit (.string [43]), .lit (.string [45]), .lit (.string [42]), .lit (.string [40]), .lit (.string [41]), .lit (.string [91]), .lit (.string [93]), .lit (.string [123]), .lit (.string [125]), .lit (.string [44]), .lit (.string [59]), .lit (.string [124]), .lit (.string [58]), .lit (.string [47])]
def laid_pleach_scan_words {H : Type} : DataW H := .agg [.lit (.string [109, 111, 100, 117, 108, 101]), .lit (.string [119, 104, 101, 110]), .lit (.string [99, 97, 115, 101]), .lit (.string [111, 102]), .lit (.string [101, 110, 100]), .lit (.string [116, 114, 121]), .lit (.string [99, 97, 116, 99, 104]), .lit (.string [114, 101, 99, 101, 105, 118, 101]), .lit (.string [97, 102, 116, 101, 114]), .lit (.string [102, 117, 110]), .lit (.string [100, 105, 118]), .lit (.string [114, 101, 109]), .lit (.string [99, 111, 110, 102, 105, 103])]

/-- 'pleachlaw06.ScanNext': WHATEVER THE INPUT: true; the input reads as it did. -/
def scanNextSpec : ChangeSpec := { name := "scanNext", fn := fun _ => fun
  | [d1, d2] => { results := [.lit (.bool true)], args := [d1, d2] }
  | _ => none }
def scanNextRow : OpenClaim := { program := "ytnhhihmifbjkkaadoor", sum := "900875de92f289a3cc5e7ebbd375dcee9b09878a84ac0e9b6e4539a0baf3c833", func := "pleach/pleachlaw06.ScanNext", spec := "scanNext", unfollowed := true, recurses := true, named := ["pleach/scan.marks", "pleach/atoms.letters", "pleach/scan.words"], apart := false, laid := [("pleach/atoms.letters", laid_pleach_atoms_letters), ("pleach/scan.marks", laid_pleach_scan_marks), ("pleach/scan.words", laid_pleach_scan_words)] }
def ScanNextSaid : Prop := scanNextRow.holds Tryd.pinned (OpenSpec.ofChange scanNextSpec)

/-- ITS FALSE NEIGHBOUR: 'it returns false'. Refute it at one input. -/
def scanNextWrong : ChangeSpec := { name := "scanNext", fn := fun _ => fun
  | [d1, d2] => { results := [.lit (.bool false)], args := [d1, d2] }
  | _ => none }
def ScanNextWrongFalsely : Prop := scanNextRow.holds Tryd.pinned (OpenSpec.ofChange scanNextWrong)

/-- 'pleachlaw06.ScanBlanks': WHATEVER THE INPUT: true; the input reads as it did. -/
def scanBlanksSpec : ChangeSpec := { name := "scanBlanks", fn := fun _ => fun
  | [d1, d2] => { results := [.lit (.bool true)], args := [d1, d2] }
  | _ => none }
def scanBlanksRow : OpenClaim := { program := "ytnhhihmifbjkkaadoor", sum := "900875de92f289a3cc5e7ebbd375dcee9b09878a84ac0e9b6e4539a0baf3c833", func := "pleach/pleachlaw06.ScanBlanks", spec := "scanBlanks", unfollowed := true, recurses := true, named := ["pleach/scan.marks", "pleach/atoms.letters", "pleach/scan.words"], apart := false, laid := [("pleach/atoms.letters", laid_pleach_atoms_letters), ("pleach/scan.marks", laid_pleach_scan_marks), ("pleach/scan.words", laid_pleach_scan_words)] }
def ScanBlanksSaid : Prop := scanBlanksRow.holds Tryd.pinned (OpenSpec.ofChange scanBlanksSpec)

/-- ITS FALSE NEIGHBOUR: 'it returns false'. Refute it at one input. -/
def scanBlanksWrong : ChangeSpec := { name := "scanBlanks", fn := fun _ => fun
  | [d1, d2] => { results := [.lit (.bool false)], args := [d1, d2] }
  | _ => none }
def ScanBlanksWrongFalsely : Prop := scanBlanksRow.holds Tryd.pinned (OpenSpec.ofChange scanBlanksWrong)

/-- 'pleachlaw06.ScanJoin': WHATEVER THE INPUT: true; the input reads as it did. -/
def scanJoinSpec : ChangeSpec := { name := "scanJoin", fn := fun _ => fun
  | [d1, d2] => { results := [.lit (.bool true)], args := [d1, d2] }
  | _ => none }
def scanJoinRow : OpenClaim := { program := "ytnhhihmifbjkkaadoor", sum := "900875de92f289a3cc5e7ebbd375dcee9b09878a84ac0e9b6e4539a0baf3c833", func := "pleach/pleachlaw06.ScanJoin", spec := "scanJoin", unfollowed := true, recurses := true, named := ["pleach/scan.marks", "pleach/atoms.letters", "pleach/scan.words"], apart := false, laid := [("pleach/atoms.letters", laid_pleach_atoms_letters), ("pleach/scan.marks", laid_pleach_scan_marks), ("pleach/scan.words", laid_pleach_scan_words)] }
def ScanJoinSaid : Prop := scanJoinRow.holds Tryd.pinned (OpenSpec.ofChange scanJoinSpec)

/-- ITS FALSE NEIGHBOUR: 'it returns false'. Refute it at one input. -/
def scanJoinWrong : ChangeSpec := { name := "scanJoin", fn := fun _ => fun
  | [d1, d2] => { results := [.lit (.bool false)], args := [d1, d2] }
  | _ => none }
def ScanJoinWrongFalsely : Prop := scanJoinRow.holds Tryd.pinned (OpenSpec.ofChange scanJoinWrong)

/- THE SECOND FORM. 'bulk': how many values and letters a reading holds, each counted each time it is reached (what is shared counts as often as it is met; a slice's spare places count too). A statement '..UptoSaid' is the law's where the arguments, and the package variables that the reading takes, are together of bulk at most 1048576: NARROWER than '..Said'. Prove '..Said' where nothing that the law and all that it calls make is longer than what came in: it says more and counts as full. Else prove '..UptoSaid'. A law counts once. -/
mutual
def uptoBulk {H : Type} : DataW H → Nat
  | .lit (.string bytes) => bytes.length + 1
  | .lit _ => 1
  | .nil => 1
  | .ptr d => uptoBulk d + 1
  | .slice elems spare => uptoBulkAll elems + uptoBulkAll spare + 1
  | .agg parts => uptoBulkAll parts + 1
  | .iface _ d => uptoBulk d + 1
  | .map entries => uptoBulkEntries entries + 1
  | .held _ => 1
def uptoBulkAll {H : Type} : List (DataW H) → Nat
  | [] => 0
  | d :: r => uptoBulk d + uptoBulkAll r
def uptoBulkEntries {H : Type} : List (Lit × DataW H) → Nat
  | [] => 0
  | x :: r => uptoBulkEntry x + uptoBulkEntries r
def uptoBulkEntry {H : Type} : Lit × DataW H → Nat
  | (.string bytes, d) => bytes.length + uptoBulk d + 1
  | (_, d) => uptoBulk d + 1
 end
def uptoSmall : (H : Type) → List (DataW H) → Bool := fun _ ds => decide (uptoBulkAll ds ≤ 1048576)
def OpenSpec.upto (s : _root_.Go.ChangeSpec) : _root_.Go.OpenSpec := { _root_.Go.OpenSpec.ofChange s with cond := some uptoSmall }

/-- 'pleachlaw06.ScanNext', WHERE WHAT IT READS IS OF BULK AT MOST 1048576: true; the input reads as it did. -/
def scanNextUptoRow : OpenClaim := { program := "ytnhhihmifbjkkaadoor", sum := "900875de92f289a3cc5e7ebbd375dcee9b09878a84ac0e9b6e4539a0baf3c833", func := "pleach/pleachlaw06.ScanNext", spec := "scanNext", unfollowed := true, recurses := true, named := ["pleach/scan.marks", "pleach/atoms.letters", "pleach/scan.words"], apart := false, laid := [("pleach/atoms.letters", laid_pleach_atoms_letters), ("pleach/scan.marks", laid_pleach_scan_marks), ("pleach/scan.words", laid_pleach_scan_words)], narrowed := true }
def ScanNextUptoSaid : Prop := scanNextUptoRow.holds Tryd.pinned (OpenSpec.upto scanNextSpec)

/-- 'pleachlaw06.ScanBlanks', WHERE WHAT IT READS IS OF BULK AT MOST 1048576: true; the input reads as it did. -/
def scanBlanksUptoRow : OpenClaim := { program := "ytnhhihmifbjkkaadoor", sum := "900875de92f289a3cc5e7ebbd375dcee9b09878a84ac0e9b6e4539a0baf3c833", func := "pleach/pleachlaw06.ScanBlanks", spec := "scanBlanks", unfollowed := true, recurses := true, named := ["pleach/scan.marks", "pleach/atoms.letters", "pleach/scan.words"], apart := false, laid := [("pleach/atoms.letters", laid_pleach_atoms_letters), ("pleach/scan.marks", laid_pleach_scan_marks), ("pleach/scan.words", laid_pleach_scan_words)], narrowed := true }
def ScanBlanksUptoSaid : Prop := scanBlanksUptoRow.holds Tryd.pinned (OpenSpec.upto scanBlanksSpec)

/-- 'pleachlaw06.ScanJoin', WHERE WHAT IT READS IS OF BULK AT MOST 1048576: true; the input reads as it did. -/
def scanJoinUptoRow : OpenClaim := { program := "ytnhhihmifbjkkaadoor", sum := "900875de92f289a3cc5e7ebbd375dcee9b09878a84ac0e9b6e4539a0baf3c833", func := "pleach/pleachlaw06.ScanJoin", spec := "scanJoin", unfollowed := true, recurses := true, named := ["pleach/scan.marks", "pleach/atoms.letters", "pleach/scan.words"], apart := false, laid := [("pleach/atoms.letters", laid_pleach_atoms_letters), ("pleach/scan.marks", laid_pleach_scan_marks), ("pleach/scan.words", laid_pleach_scan_words)], narrowed := true }
def ScanJoinUptoSaid : Prop := scanJoinUptoRow.holds Tryd.pinned (OpenSpec.upto scanJoinSpec)

end Rows
end Go.Proofs.YtnhhihmifbjkkaaDoor
