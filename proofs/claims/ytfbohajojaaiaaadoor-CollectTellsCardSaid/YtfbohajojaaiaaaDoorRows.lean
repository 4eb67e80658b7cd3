/-
  NARROWER THAN 'FOR EVERY INPUT', by the rows' own cells (each row's printed sentence says how): CollectNil: loops, laid · CollectMore: loops, laid · CollectTells: loops, laid · CollectKeeps: loops, laid.
  DERIVED. THE GIVEN ROWS OF THIS SEAT. 4 by the template 'for every input the law returns true; each argument reads behind the call as it read before'; 0 by the template 'total and deterministic' (their statements: YtfbohajojaaiaaaDoorTotals.lean).
  GIVEN WITH THE SEED: the statements are not yours to turn. If you find one false, say at which input.
  Laid BY PROGRAM, IN A SANDBOX (cutbox-rows.mjs): the forced cells as the released guide's own fill.sh prints them over the translation 6c117ebcb3a0fa86… (all of the seat's roots in one cut). By AI agents, Wed Nov 11 2026. No macro, syntax, notation, axiom, sorry.
-/
import Derived.Test.YtfbohajojaaiaaaDoorChecked
import GoSem.Claim
import GoSem.ClaimJoined
import GoSem.ClaimMapViews
import Derived.JoinedTies
import Derived.KernelRfl
namespace Go.Proofs.YtfbohajojaaiaaaDoor
/- THE CELL 'sum', in the pinned program and in every row, IS THE sha256 OF THE DUMP (.gsa) THAT YtfbohajojaaiaaaDoorProg.lean LOADS. Nothing in Lean hashes anything: it is a label: what it is worth is what the hold of that sum in a sandbox is worth. -/
noncomputable def Tryd.pinned : Pinned := { name := "ytfbohajojaaiaaadoor", sum := "6c117ebcb3a0fa8639195cc337bce538d40927a20cb432956e1abe70ac6ec57f", checked := Tryd.checked }
namespace Rows
def none {H : Type} : Left H := { results := [], args := [] }

/- WHAT THE LISTED PACKAGE-LEVEL VARIABLES READ AS WHEN THE CALL BEGINS. Each datum BY PROGRAM (the guide's laid-datum.mjs) off the statement by which the dump's own 'gosem.cut.vars' lays the variable. In a bare row this is a premise. The card (YtfbohajojaaiaaaDoorCards.lean) ties it to the program's text. -/
def laid_pleach_atoms_letters {H : Type} : DataW H := .agg [.agg [.lit (.int .u8 97), .lit (.int .u8 122)], .agg [.lit (.int .u8 65), .lit (.int .u8 90)], .agg [.lit (.int .u8 48), .lit (.int .u8 57)], .agg [.lit (.int .u8 95), .lit (.int .u8 95)]]

/-- 'pleachlaw05.CollectNil': WHATEVER THE INPUT: true; the input reads as it did. -/
def collectNilSpec : ChangeSpec := { name := "collectNil", fn := fun _ => fun
  | [d] => { results := [.lit (.bool true)], args := [d] }
  | _ => none }
def collectNilRow : OpenClaim := { program := "ytfbohajojaaiaaadoor", sum := "6c117ebcb3a0fa8639195cc337bce538d40927a20cb432956e1abe70ac6ec57f", func := "pleach/pleachlaw05.CollectNil", spec := "collectNil", unfollowed := true, recurses := true, named := ["pleach/atoms.letters"], loops := true, apart := false, laid := [("pleach/atoms.letters", laid_pleach_atoms_letters)] }
def CollectNilSaid : Prop := collectNilRow.holds Tryd.pinned (OpenSpec.ofChange collectNilSpec)

/-- ITS FALSE NEIGHBOUR: 'it returns false'. Refute it at one input. -/
def collectNilWrong : ChangeSpec := { name := "collectNil", fn := fun _ => fun
  | [d] => { results := [.lit (.bool false)], args := [d] }
  | _ => none }
def CollectNilWrongFalsely : Prop := collectNilRow.holds Tryd.pinned (OpenSpec.ofChange collectNilWrong)

/-- 'pleachlaw05.CollectMore': WHATEVER THE INPUT: true; the input reads as it did. -/
def collectMoreSpec : ChangeSpec := { name := "collectMore", fn := fun _ => fun
  | [d1, d2, d3] => { results := [.lit (.bool true)], args := [d1, d2, d3] }
  | _ => none }
def collectMoreRow : OpenClaim := { program := "ytfbohajojaaiaaadoor", sum := "6c117ebcb3a0fa8639195cc337bce538d40927a20cb432956e1abe70ac6ec57f", func := "pleach/pleachlaw05.CollectMore", spec := "collectMore", unfollowed := true, recurses := true, named := ["pleach/atoms.letters"], loops := true, apart := false, laid := [("pleach/atoms.letters", laid_pleach_atoms_letters)] }
def CollectMoreSaid : Prop := collectMoreRow.holds Tryd.pinned (OpenSpec.ofChange collectMoreSpec)

/-- ITS FALSE NEIGHBOUR: 'it returns false'. Refute it at one input. -/
def collectMoreWrong : ChangeSpec := { name := "collectMore", fn := fun _ => fun
  | [d1, d2, d3] => { results := [.lit (.bool false)], args := [d1, d2, d3] }
  | _ => none }
def CollectMoreWrongFalsely : Prop := collectMoreRow.holds Tryd.pinned (OpenSpec.ofChange collectMoreWrong)

/-- 'pleachlaw05.CollectTells': WHATEVER THE INPUT: true; the input reads as it did. -/
def collectTellsSpec : ChangeSpec := { name := "collectTells", fn := fun _ => fun
  | [d1, d2, d3, d4, d5] => { results := [.lit (.bool true)], args := [d1, d2, d3, d4, d5] }
  | _ => none }
def collectTellsRow : OpenClaim := { program := "ytfbohajojaaiaaadoor", sum := "6c117ebcb3a0fa8639195cc337bce538d40927a20cb432956e1abe70ac6ec57f", func := "pleach/pleachlaw05.CollectTells", spec := "collectTells", unfollowed := true, recurses := true, named := ["pleach/atoms.letters"], loops := true, apart := false, laid := [("pleach/atoms.letters", laid_pleach_atoms_letters)] }
def CollectTellsSaid : Prop := collectTellsRow.holds Tryd.pinned (OpenSpec.ofChange collectTellsSpec)

/-- ITS FALSE NEIGHBOUR: 'it returns false'. Refute it at one input. -/
def collectTellsWrong : ChangeSpec := { name := "collectTells", fn := fun _ => fun
  | [d1, d2, d3, d4, d5] => { results := [.lit (.bool false)], args := [d1, d2, d3, d4, d5] }
  | _ => none }
def CollectTellsWrongFalsely : Prop := collectTellsRow.holds Tryd.pinned (OpenSpec.ofChange collectTellsWrong)

/-- 'pleachlaw05.CollectKeeps': WHATEVER THE INPUT: true; the input reads as it did. -/
def collectKeepsSpec : ChangeSpec := { name := "collectKeeps", fn := fun _ => fun
  | [d1, d2] => { results := [.lit (.bool true)], args := [d1, d2] }
  | _ => none }
def collectKeepsRow : OpenClaim := { program := "ytfbohajojaaiaaadoor", sum := "6c117ebcb3a0fa8639195cc337bce538d40927a20cb432956e1abe70ac6ec57f", func := "pleach/pleachlaw05.CollectKeeps", spec := "collectKeeps", unfollowed := true, recurses := true, named := ["pleach/atoms.letters"], loops := true, apart := false, laid := [("pleach/atoms.letters", laid_pleach_atoms_letters)] }
def CollectKeepsSaid : Prop := collectKeepsRow.holds Tryd.pinned (OpenSpec.ofChange collectKeepsSpec)

/-- ITS FALSE NEIGHBOUR: 'it returns false'. Refute it at one input. -/
def collectKeepsWrong : ChangeSpec := { name := "collectKeeps", fn := fun _ => fun
  | [d1, d2] => { results := [.lit (.bool false)], args := [d1, d2] }
  | _ => none }
def CollectKeepsWrongFalsely : Prop := collectKeepsRow.holds Tryd.pinned (OpenSpec.ofChange collectKeepsWrong)

/- THE SECOND FORM. 'bulk': how many values and letters a reading holds, each counted each time it is reached (what is shared counts as often as it is met; a slice's spare places count too). A statement '..UptoSaid' is the law's where the arguments, and the package variables that the reading takes, are together of bulk at most 1048576: NARROWER than '..Said'. Prove '..Said' where nothing that the law and all that it calls make is longer than what came in: it says more and counts as full. Else prove '..UptoSaid'. A law counts once. -/
mutual
def uptoBulk {H : Type} : DataW H → Nat
  | .lit (.string bytes) => bytes.length + 1
  | .lit _ => 1
  | .nil => 1
  | .ptr d => uptoBulk d + 1
  | .slice elems spare => uptoBulkAll elems + uptoBulkAll spare + 1
  | .agg parts => uptoBulkAll parts + 1
  | .iface _ d => uptoBulk d + 1
  | .map entries => uptoBulkEntries entries + 1
  | .held _ => 1
def uptoBulkAll {H : Type} : List (DataW H) → Nat
  | [] => 0
  | d :: r => uptoBulk d + uptoBulkAll r
def uptoBulkEntries {H : Type} : List (Lit × DataW H) → Nat
  | [] => 0
  | x :: r => uptoBulkEntry x + uptoBulkEntries r
def uptoBulkEntry {H : Type} : Lit × DataW H → Nat
  | (.string bytes, d) => bytes.length + uptoBulk d + 1
  | (_, d) => uptoBulk d + 1
 end
def uptoSmall : (H : Type) → List (DataW H) → Bool := fun _ ds => decide (uptoBulkAll ds ≤ 1048576)
def OpenSpec.upto (s : _root_.Go.ChangeSpec) : _root_.Go.OpenSpec := { _root_.Go.OpenSpec.ofChange s with cond := some uptoSmall }

/-- 'pleachlaw05.CollectNil', WHERE WHAT IT READS IS OF BULK AT MOST 1048576: true; the input reads as it did. -/
def collectNilUptoRow : OpenClaim := { program := "ytfbohajojaaiaaadoor", sum := "6c117ebcb3a0fa8639195cc337bce538d40927a20cb432956e1abe70ac6ec57f", func := "pleach/pleachlaw05.CollectNil", spec := "collectNil", unfollowed := true, recurses := true, named := ["pleach/atoms.letters"], loops := true, apart := false, laid := [("pleach/atoms.letters", laid_pleach_atoms_letters)], narrowed := true }
def CollectNilUptoSaid : Prop := collectNilUptoRow.holds Tryd.pinned (OpenSpec.upto collectNilSpec)

/-- 'pleachlaw05.CollectMore', WHERE WHAT IT READS IS OF BULK AT MOST 1048576: true; the input reads as it did. -/
def collectMoreUptoRow : OpenClaim := { program := "ytfbohajojaaiaaadoor", sum := "6c117ebcb3a0fa8639195cc337bce538d40927a20cb432956e1abe70ac6ec57f", func := "pleach/pleachlaw05.CollectMore", spec := "collectMore", unfollowed := true, recurses := true, named := ["pleach/atoms.letters"], loops := true, apart := false, laid := [("pleach/atoms.letters", laid_pleach_atoms_letters)], narrowed := true }
def CollectMoreUptoSaid : Prop := collectMoreUptoRow.holds Tryd.pinned (OpenSpec.upto collectMoreSpec)

/-- 'pleachlaw05.CollectTells', WHERE WHAT IT READS IS OF BULK AT MOST 1048576: true; the input reads as it did. -/
def collectTellsUptoRow : OpenClaim := { program := "ytfbohajojaaiaaadoor", sum := "6c117ebcb3a0fa8639195cc337bce538d40927a20cb432956e1abe70ac6ec57f", func := "pleach/pleachlaw05.CollectTells", spec := "collectTells", unfollowed := true, recurses := true, named := ["pleach/atoms.letters"], loops := true, apart := false, laid := [("pleach/atoms.letters", laid_pleach_atoms_letters)], narrowed := true }
def CollectTellsUptoSaid : Prop := collectTellsUptoRow.holds Tryd.pinned (OpenSpec.upto collectTellsSpec)

/-- 'pleachlaw05.CollectKeeps', WHERE WHAT IT READS IS OF BULK AT MOST 1048576: true; the input reads as it did. -/
def collectKeepsUptoRow : OpenClaim := { program := "ytfbohajojaaiaaadoor", sum := "6c117ebcb3a0fa8639195cc337bce538d40927a20cb432956e1abe70ac6ec57f", func := "pleach/pleachlaw05.CollectKeeps", spec := "collectKeeps", unfollowed := true, recurses := true, named := ["pleach/atoms.letters"], loops := true, apart := false, laid := [("pleach/atoms.letters", laid_pleach_atoms_letters)], narrowed := true }
def CollectKeepsUptoSaid : Prop := collectKeepsUptoRow.holds Tryd.pinned (OpenSpec.upto collectKeepsSpec)

end Rows
end Go.Proofs.YtfbohajojaaiaaaDoor
