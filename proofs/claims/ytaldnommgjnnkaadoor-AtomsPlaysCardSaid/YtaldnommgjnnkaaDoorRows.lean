/-
  NARROWER THAN 'FOR EVERY INPUT', by the rows' own cells (each row's printed sentence says how): AtomsMay: laid · AtomsBack: laid · AtomsOrder: laid · AtomsPlays: laid.
  DERIVED. THE GIVEN ROWS OF THIS SEAT. 4 by the template 'for every input the law returns true; each argument reads behind the call as it read before'; 0 by the template 'total and deterministic' (their statements: YtaldnommgjnnkaaDoorTotals.lean).
  GIVEN WITH THE SEED: the statements are not yours to turn. If you find one false, say at which input.
  Laid BY PROGRAM, IN A SANDBOX (cutbox-rows.mjs): the forced cells as the released guide's own fill.sh prints them over the translation 8a97d974090dfd7d… (all of the seat's roots in one cut). By AI agents, Wed Nov 11 2026. No macro, syntax, notation, axiom, sorry.
-/
import Derived.Test.YtaldnommgjnnkaaDoorChecked
import GoSem.Claim
import GoSem.ClaimJoined
import GoSem.ClaimMapViews
import Derived.JoinedTies
import Derived.KernelRfl
namespace Go.Proofs.YtaldnommgjnnkaaDoor
/- THE CELL 'sum', in the pinned program and in every row, IS THE sha256 OF THE DUMP (.gsa) THAT YtaldnommgjnnkaaDoorProg.lean LOADS. Nothing in Lean hashes anything: it is a label: what it is worth is what the hold of that sum in a sandbox is worth. -/
noncomputable def Tryd.pinned : Pinned := { name := "ytaldnommgjnnkaadoor", sum := "8a97d974090dfd7d661aad68c71c9f4c21322750fa23f328455946f39fbee20a", checked := Tryd.checked }
namespace Rows
def none {H : Type} : Left H := { results := [], args := [] }

/- WHAT THE LISTED PACKAGE-LEVEL VARIABLES READ AS WHEN THE CALL BEGINS. Each datum BY PROGRAM (the guide's laid-datum.mjs) off the statement by which the dump's own 'gosem.cut.vars' lays the variable. In a bare row this is a premise. The card (YtaldnommgjnnkaaDoorCards.lean) ties it to the program's text. -/
def laid_pleach_atoms_letters {H : Type} : DataW H := .agg [.agg [.lit (.int .u8 97), .lit (.int .u8 122)], .agg [.lit (.int .u8 65), .lit (.int .u8 90)], .agg [.lit (.int .u8 48), .lit (.int .u8 57)], .agg [.lit (.int .u8 95), .lit (.int .u8 95)]]

/-- 'pleachlaw02.AtomsMay': WHATEVER THE INPUT: true; the input reads as it did. -/
def atomsMaySpec : ChangeSpec := { name := "atomsMay", fn := fun _ => fun
  | [d] => { results := [.lit (.bool true)], args := [d] }
  | _ => none }
def atomsMayRow : OpenClaim := { program := "ytaldnommgjnnkaadoor", sum := "8a97d974090dfd7d661aad68c71c9f4c21322750fa23f328455946f39fbee20a", func := "pleach/pleachlaw02.AtomsMay", spec := "atomsMay", named := ["pleach/atoms.letters"], apart := false, laid := [("pleach/atoms.letters", laid_pleach_atoms_letters)] }
def AtomsMaySaid : Prop := atomsMayRow.holds Tryd.pinned (OpenSpec.ofChange atomsMaySpec)

/-- ITS FALSE NEIGHBOUR: 'it returns false'. Refute it at one input. -/
def atomsMayWrong : ChangeSpec := { name := "atomsMay", fn := fun _ => fun
  | [d] => { results := [.lit (.bool false)], args := [d] }
  | _ => none }
def AtomsMayWrongFalsely : Prop := atomsMayRow.holds Tryd.pinned (OpenSpec.ofChange atomsMayWrong)

/-- 'pleachlaw02.AtomsBack': WHATEVER THE INPUT: true; the input reads as it did. -/
def atomsBackSpec : ChangeSpec := { name := "atomsBack", fn := fun _ => fun
  | [d] => { results := [.lit (.bool true)], args := [d] }
  | _ => none }
def atomsBackRow : OpenClaim := { program := "ytaldnommgjnnkaadoor", sum := "8a97d974090dfd7d661aad68c71c9f4c21322750fa23f328455946f39fbee20a", func := "pleach/pleachlaw02.AtomsBack", spec := "atomsBack", named := ["pleach/atoms.letters"], apart := false, laid := [("pleach/atoms.letters", laid_pleach_atoms_letters)] }
def AtomsBackSaid : Prop := atomsBackRow.holds Tryd.pinned (OpenSpec.ofChange atomsBackSpec)

/-- ITS FALSE NEIGHBOUR: 'it returns false'. Refute it at one input. -/
def atomsBackWrong : ChangeSpec := { name := "atomsBack", fn := fun _ => fun
  | [d] => { results := [.lit (.bool false)], args := [d] }
  | _ => none }
def AtomsBackWrongFalsely : Prop := atomsBackRow.holds Tryd.pinned (OpenSpec.ofChange atomsBackWrong)

/-- 'pleachlaw02.AtomsOrder': WHATEVER THE INPUT: true; the input reads as it did. -/
def atomsOrderSpec : ChangeSpec := { name := "atomsOrder", fn := fun _ => fun
  | [d] => { results := [.lit (.bool true)], args := [d] }
  | _ => none }
def atomsOrderRow : OpenClaim := { program := "ytaldnommgjnnkaadoor", sum := "8a97d974090dfd7d661aad68c71c9f4c21322750fa23f328455946f39fbee20a", func := "pleach/pleachlaw02.AtomsOrder", spec := "atomsOrder", unfollowed := true, recurses := true, named := ["pleach/atoms.letters"], apart := false, laid := [("pleach/atoms.letters", laid_pleach_atoms_letters)] }
def AtomsOrderSaid : Prop := atomsOrderRow.holds Tryd.pinned (OpenSpec.ofChange atomsOrderSpec)

/-- ITS FALSE NEIGHBOUR: 'it returns false'. Refute it at one input. -/
def atomsOrderWrong : ChangeSpec := { name := "atomsOrder", fn := fun _ => fun
  | [d] => { results := [.lit (.bool false)], args := [d] }
  | _ => none }
def AtomsOrderWrongFalsely : Prop := atomsOrderRow.holds Tryd.pinned (OpenSpec.ofChange atomsOrderWrong)

/-- 'pleachlaw02.AtomsPlays': WHATEVER THE INPUT: true; the input reads as it did. -/
def atomsPlaysSpec : ChangeSpec := { name := "atomsPlays", fn := fun _ => fun
  | [d1, d2, d3] => { results := [.lit (.bool true)], args := [d1, d2, d3] }
  | _ => none }
def atomsPlaysRow : OpenClaim := { program := "ytaldnommgjnnkaadoor", sum := "8a97d974090dfd7d661aad68c71c9f4c21322750fa23f328455946f39fbee20a", func := "pleach/pleachlaw02.AtomsPlays", spec := "atomsPlays", unfollowed := true, recurses := true, named := ["pleach/atoms.letters"], apart := false, laid := [("pleach/atoms.letters", laid_pleach_atoms_letters)] }
def AtomsPlaysSaid : Prop := atomsPlaysRow.holds Tryd.pinned (OpenSpec.ofChange atomsPlaysSpec)

/-- ITS FALSE NEIGHBOUR: 'it returns false'. Refute it at one input. -/
def atomsPlaysWrong : ChangeSpec := { name := "atomsPlays", fn := fun _ => fun
  | [d1, d2, d3] => { results := [.lit (.bool false)], args := [d1, d2, d3] }
  | _ => none }
def AtomsPlaysWrongFalsely : Prop := atomsPlaysRow.holds Tryd.pinned (OpenSpec.ofChange atomsPlaysWrong)

/- THE SECOND FORM. 'bulk': how many values and letters a reading holds, each counted each time it is reached (what is shared counts as often as it is met; a slice's spare places count too). A statement '..UptoSaid' is the law's where the arguments, and the package variables that the reading takes, are together of bulk at most 1048576: NARROWER than '..Said'. Prove '..Said' where nothing that the law and all that it calls make is longer than what came in: it says more and counts as full. Else prove '..UptoSaid'. A law counts once. -/
mutual
def uptoBulk {H : Type} : DataW H → Nat
  | .lit (.string bytes) => bytes.length + 1
  | .lit _ => 1
  | .nil => 1
  | .ptr d => uptoBulk d + 1
  | .slice elems spare => uptoBulkAll elems + uptoBulkAll spare + 1
  | .agg parts => uptoBulkAll parts + 1
  | .iface _ d => uptoBulk d + 1
  | .map entries => uptoBulkEntries entries + 1
  | .held _ => 1
def uptoBulkAll {H : Type} : List (DataW H) → Nat
  | [] => 0
  | d :: r => uptoBulk d + uptoBulkAll r
def uptoBulkEntries {H : Type} : List (Lit × DataW H) → Nat
  | [] => 0
  | x :: r => uptoBulkEntry x + uptoBulkEntries r
def uptoBulkEntry {H : Type} : Lit × DataW H → Nat
  | (.string bytes, d) => bytes.length + uptoBulk d + 1
  | (_, d) => uptoBulk d + 1
 end
def uptoSmall : (H : Type) → List (DataW H) → Bool := fun _ ds => decide (uptoBulkAll ds ≤ 1048576)
def OpenSpec.upto (s : _root_.Go.ChangeSpec) : _root_.Go.OpenSpec := { _root_.Go.OpenSpec.ofChange s with cond := some uptoSmall }

/-- 'pleachlaw02.AtomsMay', WHERE WHAT IT READS IS OF BULK AT MOST 1048576: true; the input reads as it did. -/
def atomsMayUptoRow : OpenClaim := { program := "ytaldnommgjnnkaadoor", sum := "8a97d974090dfd7d661aad68c71c9f4c21322750fa23f328455946f39fbee20a", func := "pleach/pleachlaw02.AtomsMay", spec := "atomsMay", named := ["pleach/atoms.letters"], apart := false, laid := [("pleach/atoms.letters", laid_pleach_atoms_letters)], narrowed := true }
def AtomsMayUptoSaid : Prop := atomsMayUptoRow.holds Tryd.pinned (OpenSpec.upto atomsMaySpec)

/-- 'pleachlaw02.AtomsBack', WHERE WHAT IT READS IS OF BULK AT MOST 1048576: true; the input reads as it did. -/
def atomsBackUptoRow : OpenClaim := { program := "ytaldnommgjnnkaadoor", sum := "8a97d974090dfd7d661aad68c71c9f4c21322750fa23f328455946f39fbee20a", func := "pleach/pleachlaw02.AtomsBack", spec := "atomsBack", named := ["pleach/atoms.letters"], apart := false, laid := [("pleach/atoms.letters", laid_pleach_atoms_letters)], narrowed := true }
def AtomsBackUptoSaid : Prop := atomsBackUptoRow.holds Tryd.pinned (OpenSpec.upto atomsBackSpec)

/-- 'pleachlaw02.AtomsOrder', WHERE WHAT IT READS IS OF BULK AT MOST 1048576: true; the input reads as it did. -/
def atomsOrderUptoRow : OpenClaim := { program := "ytaldnommgjnnkaadoor", sum := "8a97d974090dfd7d661aad68c71c9f4c21322750fa23f328455946f39fbee20a", func := "pleach/pleachlaw02.AtomsOrder", spec := "atomsOrder", unfollowed := true, recurses := true, named := ["pleach/atoms.letters"], apart := false, laid := [("pleach/atoms.letters", laid_pleach_atoms_letters)], narrowed := true }
def AtomsOrderUptoSaid : Prop := atomsOrderUptoRow.holds Tryd.pinned (OpenSpec.upto atomsOrderSpec)

/-- 'pleachlaw02.AtomsPlays', WHERE WHAT IT READS IS OF BULK AT MOST 1048576: true; the input reads as it did. -/
def atomsPlaysUptoRow : OpenClaim := { program := "ytaldnommgjnnkaadoor", sum := "8a97d974090dfd7d661aad68c71c9f4c21322750fa23f328455946f39fbee20a", func := "pleach/pleachlaw02.AtomsPlays", spec := "atomsPlays", unfollowed := true, recurses := true, named := ["pleach/atoms.letters"], apart := false, laid := [("pleach/atoms.letters", laid_pleach_atoms_letters)], narrowed := true }
def AtomsPlaysUptoSaid : Prop := atomsPlaysUptoRow.holds Tryd.pinned (OpenSpec.upto atomsPlaysSpec)

end Rows
end Go.Proofs.YtaldnommgjnnkaaDoor
