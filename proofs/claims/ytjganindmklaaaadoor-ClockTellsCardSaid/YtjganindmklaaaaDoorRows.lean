/-
  NARROWER THAN 'FOR EVERY INPUT', by the rows' own cells (each row's printed sentence says how): ClockSums: laid · ClockDue: laid · ClockNext: laid · ClockTells: loops, laid.
  DERIVED. THE GIVEN ROWS OF THIS SEAT. 4 by the template 'for every input the law returns true; each argument reads behind the call as it read before'; 0 by the template 'total and deterministic' (their statements: YtjganindmklaaaaDoorTotals.lean).
  GIVEN WITH THE SEED: the statements are not yours to turn. If you find one false, say at which input.
  Laid BY PROGRAM, IN A SANDBOX (cutbox-rows.mjs): the forced cells as the released guide's own fill.sh prints them over the translation 2ac77867e862e5c0… (all of the seat's roots in one cut). By AI agents, Wed Nov 11 2026. No macro, syntax, notation, axiom, sorry.
-/
import Derived.Test.YtjganindmklaaaaDoorChecked
import GoSem.Claim
import GoSem.ClaimJoined
import GoSem.ClaimMapViews
import Derived.JoinedTies
import Derived.KernelRfl
namespace Go.Proofs.YtjganindmklaaaaDoor
/- THE CELL 'sum', in the pinned program and in every row, IS THE sha256 OF THE DUMP (.gsa) THAT YtjganindmklaaaaDoorProg.lean LOADS. Nothing in Lean hashes anything: it is a label: what it is worth is what the hold of that sum in a sandbox is worth. -/
noncomputable def Tryd.pinned : Pinned := { name := "ytjganindmklaaaadoor", sum := "2ac77867e862e5c0ba6cf2237fea783397bf5046ab85f17744490a184ec3d6e8", checked := Tryd.checked }
namespace Rows
def none {H : Type} : Left H := { results := [], args := [] }

/- WHAT THE LISTED PACKAGE-LEVEL VARIABLES READ AS WHEN THE CALL BEGINS. Each datum BY PROGRAM (the guide's laid-datum.mjs) off the statement by which the dump's own 'gosem.cut.vars' lays the variable. In a bare row this is a premise. The card (YtjganindmklaaaaDoorCards.lean) ties it to the program's text. -/
def laid_pleach_atoms_letters {H : Type} : DataW H := .agg [.agg [.lit (.int .u8 97), .lit (.int .u8 122)], .agg [.lit (.int .u8 65), .lit (.int .u8 90)], .agg [.lit (.int .u8 48), .lit (.int .u8 57)], .agg [.lit (.int .u8 95), .lit (.int .u8 95)]]

/-- 'pleachlaw16.ClockSums': WHATEVER THE INPUT: true; the input reads as it did. -/
def clockSumsSpec : ChangeSpec := { name := "clockSums", fn := fun _ => fun
  | [d1, d2, d3] => { results := [.lit (.bool true)], args := [d1, d2, d3] }
  | _ => none }
def clockSumsRow : OpenClaim := { program := "ytjganindmklaaaadoor", sum := "2ac77867e862e5c0ba6cf2237fea783397bf5046ab85f17744490a184ec3d6e8", func := "pleach/pleachlaw16.ClockSums", spec := "clockSums", unfollowed := true, recurses := true, named := ["pleach/atoms.letters"], apart := false, laid := [("pleach/atoms.letters", laid_pleach_atoms_letters)] }
def ClockSumsSaid : Prop := clockSumsRow.holds Tryd.pinned (OpenSpec.ofChange clockSumsSpec)

/-- ITS FALSE NEIGHBOUR: 'it returns false'. Refute it at one input. -/
def clockSumsWrong : ChangeSpec := { name := "clockSums", fn := fun _ => fun
  | [d1, d2, d3] => { results := [.lit (.bool false)], args := [d1, d2, d3] }
  | _ => none }
def ClockSumsWrongFalsely : Prop := clockSumsRow.holds Tryd.pinned (OpenSpec.ofChange clockSumsWrong)

/-- 'pleachlaw16.ClockDue': WHATEVER THE INPUT: true; the input reads as it did. -/
def clockDueSpec : ChangeSpec := { name := "clockDue", fn := fun _ => fun
  | [d1, d2, d3, d4] => { results := [.lit (.bool true)], args := [d1, d2, d3, d4] }
  | _ => none }
def clockDueRow : OpenClaim := { program := "ytjganindmklaaaadoor", sum := "2ac77867e862e5c0ba6cf2237fea783397bf5046ab85f17744490a184ec3d6e8", func := "pleach/pleachlaw16.ClockDue", spec := "clockDue", unfollowed := true, recurses := true, named := ["pleach/atoms.letters"], apart := false, laid := [("pleach/atoms.letters", laid_pleach_atoms_letters)] }
def ClockDueSaid : Prop := clockDueRow.holds Tryd.pinned (OpenSpec.ofChange clockDueSpec)

/-- ITS FALSE NEIGHBOUR: 'it returns false'. Refute it at one input. -/
def clockDueWrong : ChangeSpec := { name := "clockDue", fn := fun _ => fun
  | [d1, d2, d3, d4] => { results := [.lit (.bool false)], args := [d1, d2, d3, d4] }
  | _ => none }
def ClockDueWrongFalsely : Prop := clockDueRow.holds Tryd.pinned (OpenSpec.ofChange clockDueWrong)

/-- 'pleachlaw16.ClockNext': WHATEVER THE INPUT: true; the input reads as it did. -/
def clockNextSpec : ChangeSpec := { name := "clockNext", fn := fun _ => fun
  | [d] => { results := [.lit (.bool true)], args := [d] }
  | _ => none }
def clockNextRow : OpenClaim := { program := "ytjganindmklaaaadoor", sum := "2ac77867e862e5c0ba6cf2237fea783397bf5046ab85f17744490a184ec3d6e8", func := "pleach/pleachlaw16.ClockNext", spec := "clockNext", unfollowed := true, recurses := true, named := ["pleach/atoms.letters"], apart := false, laid := [("pleach/atoms.letters", laid_pleach_atoms_letters)] }
def ClockNextSaid : Prop := clockNextRow.holds Tryd.pinned (OpenSpec.ofChange clockNextSpec)

/-- ITS FALSE NEIGHBOUR: 'it returns false'. Refute it at one input. -/
def clockNextWrong : ChangeSpec := { name := "clockNext", fn := fun _ => fun
  | [d] => { results := [.lit (.bool false)], args := [d] }
  | _ => none }
def ClockNextWrongFalsely : Prop := clockNextRow.holds Tryd.pinned (OpenSpec.ofChange clockNextWrong)

/-- 'pleachlaw16.ClockTells': WHATEVER THE INPUT: true; the input reads as it did. -/
def clockTellsSpec : ChangeSpec := { name := "clockTells", fn := fun _ => fun
  | [d1, d2, d3, d4, d5] => { results := [.lit (.bool true)], args := [d1, d2, d3, d4, d5] }
  | _ => none }
def clockTellsRow : OpenClaim := { program := "ytjganindmklaaaadoor", sum := "2ac77867e862e5c0ba6cf2237fea783397bf5046ab85f17744490a184ec3d6e8", func := "pleach/pleachlaw16.ClockTells", spec := "clockTells", unfollowed := true, recurses := true, named := ["pleach/atoms.letters"], loops := true, apart := false, laid := [("pleach/atoms.letters", laid_pleach_atoms_letters)] }
def ClockTellsSaid : Prop := clockTellsRow.holds Tryd.pinned (OpenSpec.ofChange clockTellsSpec)

/-- ITS FALSE NEIGHBOUR: 'it returns false'. Refute it at one input. -/
def clockTellsWrong : ChangeSpec := { name := "clockTells", fn := fun _ => fun
  | [d1, d2, d3, d4, d5] => { results := [.lit (.bool false)], args := [d1, d2, d3, d4, d5] }
  | _ => none }
def ClockTellsWrongFalsely : Prop := clockTellsRow.holds Tryd.pinned (OpenSpec.ofChange clockTellsWrong)

/- THE SECOND FORM. 'bulk': how many values and letters a reading holds, each counted each time it is reached (what is shared counts as often as it is met; a slice's spare places count too). A statement '..UptoSaid' is the law's where the arguments, and the package variables that the reading takes, are together of bulk at most 1048576: NARROWER than '..Said'. Prove '..Said' where nothing that the law and all that it calls make is longer than what came in: it says more and counts as full. Else prove '..UptoSaid'. A law counts once. -/
mutual
def uptoBulk {H : Type} : DataW H → Nat
  | .lit (.string bytes) => bytes.length + 1
  | .lit _ => 1
  | .nil => 1
  | .ptr d => uptoBulk d + 1
  | .slice elems spare => uptoBulkAll elems + uptoBulkAll spare + 1
  | .agg parts => uptoBulkAll parts + 1
  | .iface _ d => uptoBulk d + 1
  | .map entries => uptoBulkEntries entries + 1
  | .held _ => 1
def uptoBulkAll {H : Type} : List (DataW H) → Nat
  | [] => 0
  | d :: r => uptoBulk d + uptoBulkAll r
def uptoBulkEntries {H : Type} : List (Lit × DataW H) → Nat
  | [] => 0
  | x :: r => uptoBulkEntry x + uptoBulkEntries r
def uptoBulkEntry {H : Type} : Lit × DataW H → Nat
  | (.string bytes, d) => bytes.length + uptoBulk d + 1
  | (_, d) => uptoBulk d + 1
 end
def uptoSmall : (H : Type) → List (DataW H) → Bool := fun _ ds => decide (uptoBulkAll ds ≤ 1048576)
def OpenSpec.upto (s : _root_.Go.ChangeSpec) : _root_.Go.OpenSpec := { _root_.Go.OpenSpec.ofChange s with cond := some uptoSmall }

/-- 'pleachlaw16.ClockSums', WHERE WHAT IT READS IS OF BULK AT MOST 1048576: true; the input reads as it did. -/
def clockSumsUptoRow : OpenClaim := { program := "ytjganindmklaaaadoor", sum := "2ac77867e862e5c0ba6cf2237fea783397bf5046ab85f17744490a184ec3d6e8", func := "pleach/pleachlaw16.ClockSums", spec := "clockSums", unfollowed := true, recurses := true, named := ["pleach/atoms.letters"], apart := false, laid := [("pleach/atoms.letters", laid_pleach_atoms_letters)], narrowed := true }
def ClockSumsUptoSaid : Prop := clockSumsUptoRow.holds Tryd.pinned (OpenSpec.upto clockSumsSpec)

/-- 'pleachlaw16.ClockDue', WHERE WHAT IT READS IS OF BULK AT MOST 1048576: true; the input reads as it did. -/
def clockDueUptoRow : OpenClaim := { program := "ytjganindmklaaaadoor", sum := "2ac77867e862e5c0ba6cf2237fea783397bf5046ab85f17744490a184ec3d6e8", func := "pleach/pleachlaw16.ClockDue", spec := "clockDue", unfollowed := true, recurses := true, named := ["pleach/atoms.letters"], apart := false, laid := [("pleach/atoms.letters", laid_pleach_atoms_letters)], narrowed := true }
def ClockDueUptoSaid : Prop := clockDueUptoRow.holds Tryd.pinned (OpenSpec.upto clockDueSpec)

/-- 'pleachlaw16.ClockNext', WHERE WHAT IT READS IS OF BULK AT MOST 1048576: true; the input reads as it did. -/
def clockNextUptoRow : OpenClaim := { program := "ytjganindmklaaaadoor", sum := "2ac77867e862e5c0ba6cf2237fea783397bf5046ab85f17744490a184ec3d6e8", func := "pleach/pleachlaw16.ClockNext", spec := "clockNext", unfollowed := true, recurses := true, named := ["pleach/atoms.letters"], apart := false, laid := [("pleach/atoms.letters", laid_pleach_atoms_letters)], narrowed := true }
def ClockNextUptoSaid : Prop := clockNextUptoRow.holds Tryd.pinned (OpenSpec.upto clockNextSpec)

/-- 'pleachlaw16.ClockTells', WHERE WHAT IT READS IS OF BULK AT MOST 1048576: true; the input reads as it did. -/
def clockTellsUptoRow : OpenClaim := { program := "ytjganindmklaaaadoor", sum := "2ac77867e862e5c0ba6cf2237fea783397bf5046ab85f17744490a184ec3d6e8", func := "pleach/pleachlaw16.ClockTells", spec := "clockTells", unfollowed := true, recurses := true, named := ["pleach/atoms.letters"], loops := true, apart := false, laid := [("pleach/atoms.letters", laid_pleach_atoms_letters)], narrowed := true }
def ClockTellsUptoSaid : Prop := clockTellsUptoRow.holds Tryd.pinned (OpenSpec.upto clockTellsSpec)

end Rows
end Go.Proofs.YtjganindmklaaaaDoor
