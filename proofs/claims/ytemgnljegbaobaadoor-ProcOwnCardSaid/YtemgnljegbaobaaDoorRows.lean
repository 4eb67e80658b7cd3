/-
  NARROWER THAN 'FOR EVERY INPUT', by the rows' own cells (each row's printed sentence says how): ProcMail: laid · ProcOwn: loops, laid.
  DERIVED. THE GIVEN ROWS OF THIS SEAT. 2 by the template 'for every input the law returns true; each argument reads behind the call as it read before'; 0 by the template 'total and deterministic' (their statements: YtemgnljegbaobaaDoorTotals.lean).
  GIVEN WITH THE SEED: the statements are not yours to turn. If you find one false, say at which input.
  Laid BY PROGRAM, IN A SANDBOX (cutbox-rows.mjs): the forced cells as the released guide's own fill.sh prints them over the translation ff877ca50a1cf1dd… (all of the seat's roots in one cut). By AI agents, Wed Nov 11 2026. No macro, syntax, notation, axiom, sorry.
-/
import Derived.Test.YtemgnljegbaobaaDoorChecked
import GoSem.Claim
import GoSem.ClaimJoined
import GoSem.ClaimMapViews
import Derived.JoinedTies
import Derived.KernelRfl
namespace Go.Proofs.YtemgnljegbaobaaDoor
/- THE CELL 'sum', in the pinned program and in every row, IS THE sha256 OF THE DUMP (.gsa) THAT YtemgnljegbaobaaDoorProg.lean LOADS. Nothing in Lean hashes anything: it is a label: what it is worth is what the hold of that sum in a sandbox is worth. -/
noncomputable def Tryd.pinned : Pinned := { name := "ytemgnljegbaobaadoor", sum := "ff877ca50a1cf1dd12a8389818322277caccc4629507d3caaf45b9abe3bd4d0a", checked := Tryd.checked }
namespace Rows
def none {H : Type} : Left H := { results := [], args := [] }

/- WHAT THE LISTED PACKAGE-LEVEL VARIABLES READ AS WHEN THE CALL BEGINS. Each datum BY PROGRAM (the guide's laid-datum.mjs) off the statement by which the dump's own 'gosem.cut.vars' lays the variable. In a bare row this is a premise. The card (YtemgnljegbaobaaDoorCards.lean) ties it to the program's text. -/
def laid_pleach_atoms_letters {H : Type} : DataW H := .agg [.agg [.lit (.int .u8 97), .lit (.int .u8 122)], .agg [.lit (.int .u8 65), .lit (.int .u8 90)], .agg [.lit (.int .u8 48), .lit (.int .u8 57)], .agg [.lit (.int .u8 95), .lit (.int .u8 95)]]

/-- 'pleachlaw19.ProcMail': WHATEVER THE INPUT: true; the input reads as it did. -/
def procMailSpec : ChangeSpec := { name := "procMail", fn := fun _ => fun
  | [d] => { results := [.lit (.bool true)], args := [d] }
  | _ => none }
def procMailRow : OpenClaim := { program := "ytemgnljegbaobaadoor", sum := "ff877ca50a1cf1dd12a8389818322277caccc4629507d3caaf45b9abe3bd4d0a", func := "pleach/pleachlaw19.ProcMail", spec := "procMail", inPlace := ["slices.overlaps[int]", "slices.overlaps[pleach/api.Watch]"], unfollowed := true, recurses := true, named := ["pleach/atoms.letters"], apart := false, laid := [("pleach/atoms.letters", laid_pleach_atoms_letters)] }
def ProcMailSaid : Prop := procMailRow.holds Tryd.pinned (OpenSpec.ofChange procMailSpec)

/-- ITS FALSE NEIGHBOUR: 'it returns false'. Refute it at one input. -/
def procMailWrong : ChangeSpec := { name := "procMail", fn := fun _ => fun
  | [d] => { results := [.lit (.bool false)], args := [d] }
  | _ => none }
def ProcMailWrongFalsely : Prop := procMailRow.holds Tryd.pinned (OpenSpec.ofChange procMailWrong)

/-- 'pleachlaw19.ProcOwn': WHATEVER THE INPUT: true; the input reads as it did. -/
def procOwnSpec : ChangeSpec := { name := "procOwn", fn := fun _ => fun
  | [d1, d2, d3] => { results := [.lit (.bool true)], args := [d1, d2, d3] }
  | _ => none }
def procOwnRow : OpenClaim := { program := "ytemgnljegbaobaadoor", sum := "ff877ca50a1cf1dd12a8389818322277caccc4629507d3caaf45b9abe3bd4d0a", func := "pleach/pleachlaw19.ProcOwn", spec := "procOwn", inPlace := ["slices.overlaps[int]", "slices.overlaps[pleach/api.Watch]"], unfollowed := true, recurses := true, named := ["pleach/atoms.letters"], loops := true, apart := false, laid := [("pleach/atoms.letters", laid_pleach_atoms_letters)] }
def ProcOwnSaid : Prop := procOwnRow.holds Tryd.pinned (OpenSpec.ofChange procOwnSpec)

/-- ITS FALSE NEIGHBOUR: 'it returns false'. Refute it at one input. -/
def procOwnWrong : ChangeSpec := { name := "procOwn", fn := fun _ => fun
  | [d1, d2, d3] => { results := [.lit (.bool false)], args := [d1, d2, d3] }
  | _ => none }
def ProcOwnWrongFalsely : Prop := procOwnRow.holds Tryd.pinned (OpenSpec.ofChange procOwnWrong)

/- THE SECOND FORM. 'bulk': how many values and letters a reading holds, each counted each time it is reached (what is shared counts as often as it is met; a slice's spare places count too). A statement '..UptoSaid' is the law's where the arguments, and the package variables that the reading takes, are together of bulk at most 1048576: NARROWER than '..Said'. Prove '..Said' where nothing that the law and all that it calls make is longer than what came in: it says more and counts as full. Else prove '..UptoSaid'. A law counts once. -/
mutual
def uptoBulk {H : Type} : DataW H → Nat
  | .lit (.string bytes) => bytes.length + 1
  | .lit _ => 1
  | .nil => 1
  | .ptr d => uptoBulk d + 1
  | .slice elems spare => uptoBulkAll elems + uptoBulkAll spare + 1
  | .agg parts => uptoBulkAll parts + 1
  | .iface _ d => uptoBulk d + 1
  | .map entries => uptoBulkEntries entries + 1
  | .held _ => 1
def uptoBulkAll {H : Type} : List (DataW H) → Nat
  | [] => 0
  | d :: r => uptoBulk d + uptoBulkAll r
def uptoBulkEntries {H : Type} : List (Lit × DataW H) → Nat
  | [] => 0
  | x :: r => uptoBulkEntry x + uptoBulkEntries r
def uptoBulkEntry {H : Type} : Lit × DataW H → Nat
  | (.string bytes, d) => bytes.length + uptoBulk d + 1
  | (_, d) => uptoBulk d + 1
 end
def uptoSmall : (H : Type) → List (DataW H) → Bool := fun _ ds => decide (uptoBulkAll ds ≤ 1048576)
def OpenSpec.upto (s : _root_.Go.ChangeSpec) : _root_.Go.OpenSpec := { _root_.Go.OpenSpec.ofChange s with cond := some uptoSmall }

/-- 'pleachlaw19.ProcMail', WHERE WHAT IT READS IS OF BULK AT MOST 1048576: true; the input reads as it did. -/
def procMailUptoRow : OpenClaim := { program := "ytemgnljegbaobaadoor", sum := "ff877ca50a1cf1dd12a8389818322277caccc4629507d3caaf45b9abe3bd4d0a", func := "pleach/pleachlaw19.ProcMail", spec := "procMail", inPlace := ["slices.overlaps[int]", "slices.overlaps[pleach/api.Watch]"], unfollowed := true, recurses := true, named := ["pleach/atoms.letters"], apart := false, laid := [("pleach/atoms.letters", laid_pleach_atoms_letters)], narrowed := true }
def ProcMailUptoSaid : Prop := procMailUptoRow.holds Tryd.pinned (OpenSpec.upto procMailSpec)

/-- 'pleachlaw19.ProcOwn', WHERE WHAT IT READS IS OF BULK AT MOST 1048576: true; the input reads as it did. -/
def procOwnUptoRow : OpenClaim := { program := "ytemgnljegbaobaadoor", sum := "ff877ca50a1cf1dd12a8389818322277caccc4629507d3caaf45b9abe3bd4d0a", func := "pleach/pleachlaw19.ProcOwn", spec := "procOwn", inPlace := ["slices.overlaps[int]", "slices.overlaps[pleach/api.Watch]"], unfollowed := true, recurses := true, named := ["pleach/atoms.letters"], loops := true, apart := false, laid := [("pleach/atoms.letters", laid_pleach_atoms_letters)], narrowed := true }
def ProcOwnUptoSaid : Prop := procOwnUptoRow.holds Tryd.pinned (OpenSpec.upto procOwnSpec)

end Rows
end Go.Proofs.YtemgnljegbaobaaDoor
