/-
  NARROWER THAN 'FOR EVERY INPUT', by the rows' own cells (each row's printed sentence says how): ServerTakes: loops, laid · ServerAcks: loops, laid.
  DERIVED. THE GIVEN ROWS OF THIS SEAT. 2 by the template 'for every input the law returns true; each argument reads behind the call as it read before'; 0 by the template 'total and deterministic' (their statements: YtlmehfdaaommpaaDoorTotals.lean).
  GIVEN WITH THE SEED: the statements are not yours to turn. If you find one false, say at which input.
  Laid BY PROGRAM, IN A SANDBOX (cutbox-rows.mjs): the forced cells as the released guide's own fill.sh prints them over the translation 717f5217fd5c8151… (all of the seat's roots in one cut). By AI agents, Wed Nov 11 2026. No macro, syntax, notation, axiom, sorry.
-/
import Derived.Test.YtlmehfdaaommpaaDoorChecked
import GoSem.Claim
import GoSem.ClaimJoined
import GoSem.ClaimMapViews
import Derived.JoinedTies
import Derived.KernelRfl
namespace Go.Proofs.YtlmehfdaaommpaaDoor
/- THE CELL 'sum', in the pinned program and in every row, IS THE sha256 OF THE DUMP (.gsa) THAT YtlmehfdaaommpaaDoorProg.lean LOADS. Nothing in Lean hashes anything: it is a label: what it is worth is what the hold of that sum in a sandbox is worth. -/
noncomputable def Tryd.pinned : Pinned := { name := "ytlmehfdaaommpaadoor", sum := "717f5217fd5c81517d87e0690682913218deadff322491bcc7cac3a91b41efc3", checked := Tryd.checked }
namespace Rows
def none {H : Type} : Left H := { results := [], args := [] }

/- WHAT THE LISTED PACKAGE-LEVEL VARIABLES READ AS WHEN THE CALL BEGINS. Each datum BY PROGRAM (the guide's laid-datum.mjs) off the statement by which the dump's own 'gosem.cut.vars' lays the variable. In a bare row this is a premise. The card (YtlmehfdaaommpaaDoorCards.lean) ties it to the program's text. -/
def laid_pleach_atoms_letters {H : Type} : DataW H := .agg [.agg [.lit (.int .u8 97), .lit (.int .u8 122)], .agg [.lit (.int .u8 65), .lit (.int .u8 90)], .agg [.lit (.int .u8 48), .lit (.int .u8 57)], .agg [.lit (.int .u8 95), .lit (.int .u8 95)]]

/-- 'pleachlaw24.ServerTakes': WHATEVER THE INPUT: true; the input reads as it did. -/
def serverTakesSpec : ChangeSpec := { name := "serverTakes", fn := fun _ => fun
  | [d1, d2, d3] => { results := [.lit (.bool true)], args := [d1, d2, d3] }
  | _ => none }
def serverTakesRow : OpenClaim := { program := "ytlmehfdaaommpaadoor", sum := "717f5217fd5c81517d87e0690682913218deadff322491bcc7cac3a91b41efc3", func := "pleach/pleachlaw24.ServerTakes", spec := "serverTakes", unfollowed := true, recurses := true, named := ["pleach/atoms.letters"], loops := true, apart := false, laid := [("pleach/atoms.letters", laid_pleach_atoms_letters)] }
def ServerTakesSaid : Prop := serverTakesRow.holds Tryd.pinned (OpenSpec.ofChange serverTakesSpec)

/-- ITS FALSE NEIGHBOUR: 'it returns false'. Refute it at one input. -/
def serverTakesWrong : ChangeSpec := { name := "serverTakes", fn := fun _ => fun
  | [d1, d2, d3] => { results := [.lit (.bool false)], args := [d1, d2, d3] }
  | _ => none }
def ServerTakesWrongFalsely : Prop := serverTakesRow.holds Tryd.pinned (OpenSpec.ofChange serverTakesWrong)

/-- 'pleachlaw24.ServerAcks': WHATEVER THE INPUT: true; the input reads as it did. -/
def serverAcksSpec : ChangeSpec := { name := "serverAcks", fn := fun _ => fun
  | [d1, d2, d3] => { results := [.lit (.bool true)], args := [d1, d2, d3] }
  | _ => none }
def serverAcksRow : OpenClaim := { program := "ytlmehfdaaommpaadoor", sum := "717f5217fd5c81517d87e0690682913218deadff322491bcc7cac3a91b41efc3", func := "pleach/pleachlaw24.ServerAcks", spec := "serverAcks", unfollowed := true, recurses := true, named := ["pleach/atoms.letters"], loops := true, apart := false, laid := [("pleach/atoms.letters", laid_pleach_atoms_letters)] }
def ServerAcksSaid : Prop := serverAcksRow.holds Tryd.pinned (OpenSpec.ofChange serverAcksSpec)

/-- ITS FALSE NEIGHBOUR: 'it returns false'. Refute it at one input. -/
def serverAcksWrong : ChangeSpec := { name := "serverAcks", fn := fun _ => fun
  | [d1, d2, d3] => { results := [.lit (.bool false)], args := [d1, d2, d3] }
  | _ => none }
def ServerAcksWrongFalsely : Prop := serverAcksRow.holds Tryd.pinned (OpenSpec.ofChange serverAcksWrong)

/- THE SECOND FORM. 'bulk': how many values and letters a reading holds, each counted each time it is reached (what is shared counts as often as it is met; a slice's spare places count too). A statement '..UptoSaid' is the law's where the arguments, and the package variables that the reading takes, are together of bulk at most 1048576: NARROWER than '..Said'. Prove '..Said' where nothing that the law and all that it calls make is longer than what came in: it says more and counts as full. Else prove '..UptoSaid'. A law counts once. -/
mutual
def uptoBulk {H : Type} : DataW H → Nat
  | .lit (.string bytes) => bytes.length + 1
  | .lit _ => 1
  | .nil => 1
  | .ptr d => uptoBulk d + 1
  | .slice elems spare => uptoBulkAll elems + uptoBulkAll spare + 1
  | .agg parts => uptoBulkAll parts + 1
  | .iface _ d => uptoBulk d + 1
  | .map entries => uptoBulkEntries entries + 1
  | .held _ => 1
def uptoBulkAll {H : Type} : List (DataW H) → Nat
  | [] => 0
  | d :: r => uptoBulk d + uptoBulkAll r
def uptoBulkEntries {H : Type} : List (Lit × DataW H) → Nat
  | [] => 0
  | x :: r => uptoBulkEntry x + uptoBulkEntries r
def uptoBulkEntry {H : Type} : Lit × DataW H → Nat
  | (.string bytes, d) => bytes.length + uptoBulk d + 1
  | (_, d) => uptoBulk d + 1
 end
def uptoSmall : (H : Type) → List (DataW H) → Bool := fun _ ds => decide (uptoBulkAll ds ≤ 1048576)
def OpenSpec.upto (s : _root_.Go.ChangeSpec) : _root_.Go.OpenSpec := { _root_.Go.OpenSpec.ofChange s with cond := some uptoSmall }

/-- 'pleachlaw24.ServerTakes', WHERE WHAT IT READS IS OF BULK AT MOST 1048576: true; the input reads as it did. -/
def serverTakesUptoRow : OpenClaim := { program := "ytlmehfdaaommpaadoor", sum := "717f5217fd5c81517d87e0690682913218deadff322491bcc7cac3a91b41efc3", func := "pleach/pleachlaw24.ServerTakes", spec := "serverTakes", unfollowed := true, recurses := true, named := ["pleach/atoms.letters"], loops := true, apart := false, laid := [("pleach/atoms.letters", laid_pleach_atoms_letters)], narrowed := true }
def ServerTakesUptoSaid : Prop := serverTakesUptoRow.holds Tryd.pinned (OpenSpec.upto serverTakesSpec)

/-- 'pleachlaw24.ServerAcks', WHERE WHAT IT READS IS OF BULK AT MOST 1048576: true; the input reads as it did. -/
def serverAcksUptoRow : OpenClaim := { program := "ytlmehfdaaommpaadoor", sum := "717f5217fd5c81517d87e0690682913218deadff322491bcc7cac3a91b41efc3", func := "pleach/pleachlaw24.ServerAcks", spec := "serverAcks", unfollowed := true, recurses := true, named := ["pleach/atoms.letters"], loops := true, apart := false, laid := [("pleach/atoms.letters", laid_pleach_atoms_letters)], narrowed := true }
def ServerAcksUptoSaid : Prop := serverAcksUptoRow.holds Tryd.pinned (OpenSpec.upto serverAcksSpec)

end Rows
end Go.Proofs.YtlmehfdaaommpaaDoor
