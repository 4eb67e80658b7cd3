/-
  No cell of these rows narrows 'for every input' (looked for: loops, veiled, ifaces, maps, wideKeys, modest, calm, conditions, laid).
  DERIVED. THE GIVEN ROWS OF THIS SEAT. 7 by the template 'for every input the law returns true; each argument reads behind the call as it read before'; 0 by the template 'total and deterministic' (their statements: YtjjlfaknebbhfaaTotals.lean).
  GIVEN WITH THE SEED: the statements are not yours to turn. If you find one false, say at which input.
  Laid BY PROGRAM, IN A SANDBOX (cutbox-rows.mjs): the forced cells as the released guide's own fill.sh prints them over the translation 4ed667aab7358d5b… (all of the seat's roots in one cut). By AI agents, Wed Nov 11 2026. No macro, syntax, notation, axiom, sorry.
-/
import Derived.Test.YtjjlfaknebbhfaaChecked
import GoSem.Claim
import GoSem.ClaimJoined
import GoSem.ClaimMapViews
import Derived.JoinedTies
import Derived.KernelRfl
namespace Go.Proofs.Ytjjlfaknebbhfaa
/- THE CELL 'sum', in the pinned program and in every row, IS THE sha256 OF THE DUMP (.gsa) THAT YtjjlfaknebbhfaaProg.lean LOADS. Nothing in Lean hashes anything: it is a label: what it is worth is what the hold of that sum in a sandbox is worth. -/
noncomputable def Try.pinned : Pinned := { name := "ytjjlfaknebbhfaa", sum := "4ed667aab7358d5b9b45dbc67b429f411b64c5afd7bb97ef4f666059c4215e2c", checked := Try.checked }
namespace Rows
def none {H : Type} : Left H := { results := [], args := [] }

/-- 'pleachlaw26.WindowMore': WHATEVER THE INPUT: true; the input reads as it did. -/
def windowMoreSpec : ChangeSpec := { name := "windowMore", fn := fun _ => fun
  | [d1, d2, d3, d4, d5] => { results := [.lit (.bool true)], args := [d1, d2, d3, d4, d5] }
  | _ => none }
def windowMoreRow : OpenClaim := { program := "ytjjlfaknebbhfaa", sum := "4ed667aab7358d5b9b45dbc67b429f411b64c5afd7bb97ef4f666059c4215e2c", func := "pleach/pleachlaw26.WindowMore", spec := "windowMore", unfollowed := true, recurses := true, apart := false }
def WindowMoreSaid : Prop := windowMoreRow.holds Try.pinned (OpenSpec.ofChange windowMoreSpec)

/-- ITS FALSE NEIGHBOUR: 'it returns false'. Refute it at one input. -/
def windowMoreWrong : ChangeSpec := { name := "windowMore", fn := fun _ => fun
  | [d1, d2, d3, d4, d5] => { results := [.lit (.bool false)], args := [d1, d2, d3, d4, d5] }
  | _ => none }
def WindowMoreWrongFalsely : Prop := windowMoreRow.holds Try.pinned (OpenSpec.ofChange windowMoreWrong)

/-- 'pleachlaw26.WindowFirst': WHATEVER THE INPUT: true; the input reads as it did. -/
def windowFirstSpec : ChangeSpec := { name := "windowFirst", fn := fun _ => fun
  | [d1, d2, d3] => { results := [.lit (.bool true)], args := [d1, d2, d3] }
  | _ => none }
def windowFirstRow : OpenClaim := { program := "ytjjlfaknebbhfaa", sum := "4ed667aab7358d5b9b45dbc67b429f411b64c5afd7bb97ef4f666059c4215e2c", func := "pleach/pleachlaw26.WindowFirst", spec := "windowFirst", unfollowed := true, recurses := true, apart := false }
def WindowFirstSaid : Prop := windowFirstRow.holds Try.pinned (OpenSpec.ofChange windowFirstSpec)

/-- ITS FALSE NEIGHBOUR: 'it returns false'. Refute it at one input. -/
def windowFirstWrong : ChangeSpec := { name := "windowFirst", fn := fun _ => fun
  | [d1, d2, d3] => { results := [.lit (.bool false)], args := [d1, d2, d3] }
  | _ => none }
def WindowFirstWrongFalsely : Prop := windowFirstRow.holds Try.pinned (OpenSpec.ofChange windowFirstWrong)

/-- 'pleachlaw01.IntsBack': WHATEVER THE INPUT: true; the input reads as it did. -/
def intsBackSpec : ChangeSpec := { name := "intsBack", fn := fun _ => fun
  | [d1, d2] => { results := [.lit (.bool true)], args := [d1, d2] }
  | _ => none }
def intsBackRow : OpenClaim := { program := "ytjjlfaknebbhfaa", sum := "4ed667aab7358d5b9b45dbc67b429f411b64c5afd7bb97ef4f666059c4215e2c", func := "pleach/pleachlaw01.IntsBack", spec := "intsBack", unfollowed := true, recurses := true, apart := false }
def IntsBackSaid : Prop := intsBackRow.holds Try.pinned (OpenSpec.ofChange intsBackSpec)

/-- ITS FALSE NEIGHBOUR: 'it returns false'. Refute it at one input. -/
def intsBackWrong : ChangeSpec := { name := "intsBack", fn := fun _ => fun
  | [d1, d2] => { results := [.lit (.bool false)], args := [d1, d2] }
  | _ => none }
def IntsBackWrongFalsely : Prop := intsBackRow.holds Try.pinned (OpenSpec.ofChange intsBackWrong)

/-- 'pleachlaw01.IntsDigits': WHATEVER THE INPUT: true; the input reads as it did. -/
def intsDigitsSpec : ChangeSpec := { name := "intsDigits", fn := fun _ => fun
  | [d1, d2] => { results := [.lit (.bool true)], args := [d1, d2] }
  | _ => none }
def intsDigitsRow : OpenClaim := { program := "ytjjlfaknebbhfaa", sum := "4ed667aab7358d5b9b45dbc67b429f411b64c5afd7bb97ef4f666059c4215e2c", func := "pleach/pleachlaw01.IntsDigits", spec := "intsDigits", unfollowed := true, recurses := true, apart := false }
def IntsDigitsSaid : Prop := intsDigitsRow.holds Try.pinned (OpenSpec.ofChange intsDigitsSpec)

/-- ITS FALSE NEIGHBOUR: 'it returns false'. Refute it at one input. -/
def intsDigitsWrong : ChangeSpec := { name := "intsDigits", fn := fun _ => fun
  | [d1, d2] => { results := [.lit (.bool false)], args := [d1, d2] }
  | _ => none }
def IntsDigitsWrongFalsely : Prop := intsDigitsRow.holds Try.pinned (OpenSpec.ofChange intsDigitsWrong)

/-- 'pleachlaw01.IntsUnits': WHATEVER THE INPUT: true; the input reads as it did. -/
def intsUnitsSpec : ChangeSpec := { name := "intsUnits", fn := fun _ => fun
  | [d] => { results := [.lit (.bool true)], args := [d] }
  | _ => none }
def intsUnitsRow : OpenClaim := { program := "ytjjlfaknebbhfaa", sum := "4ed667aab7358d5b9b45dbc67b429f411b64c5afd7bb97ef4f666059c4215e2c", func := "pleach/pleachlaw01.IntsUnits", spec := "intsUnits", unfollowed := true, recurses := true, apart := false }
def IntsUnitsSaid : Prop := intsUnitsRow.holds Try.pinned (OpenSpec.ofChange intsUnitsSpec)

/-- ITS FALSE NEIGHBOUR: 'it returns false'. Refute it at one input. -/
def intsUnitsWrong : ChangeSpec := { name := "intsUnits", fn := fun _ => fun
  | [d] => { results := [.lit (.bool false)], args := [d] }
  | _ => none }
def IntsUnitsWrongFalsely : Prop := intsUnitsRow.holds Try.pinned (OpenSpec.ofChange intsUnitsWrong)

/-- 'pleachlaw01.IntsOrder': WHATEVER THE INPUT: true; the input reads as it did. -/
def intsOrderSpec : ChangeSpec := { name := "intsOrder", fn := fun _ => fun
  | [d] => { results := [.lit (.bool true)], args := [d] }
  | _ => none }
def intsOrderRow : OpenClaim := { program := "ytjjlfaknebbhfaa", sum := "4ed667aab7358d5b9b45dbc67b429f411b64c5afd7bb97ef4f666059c4215e2c", func := "pleach/pleachlaw01.IntsOrder", spec := "intsOrder", unfollowed := true, recurses := true, apart := false }
def IntsOrderSaid : Prop := intsOrderRow.holds Try.pinned (OpenSpec.ofChange intsOrderSpec)

/-- ITS FALSE NEIGHBOUR: 'it returns false'. Refute it at one input. -/
def intsOrderWrong : ChangeSpec := { name := "intsOrder", fn := fun _ => fun
  | [d] => { results := [.lit (.bool false)], args := [d] }
  | _ => none }
def IntsOrderWrongFalsely : Prop := intsOrderRow.holds Try.pinned (OpenSpec.ofChange intsOrderWrong)

/-- 'pleachlaw01.IntsTell': WHATEVER THE INPUT: true; the input reads as it did. -/
def intsTellSpec : ChangeSpec := { name := "intsTell", fn := fun _ => fun
  | [d1, d2, d3, d4] => { results := [.lit (.bool true)], args := [d1, d2, d3, d4] }
  | _ => none }
def intsTellRow : OpenClaim := { program := "ytjjlfaknebbhfaa", sum := "4ed667aab7358d5b9b45dbc67b429f411b64c5afd7bb97ef4f666059c4215e2c", func := "pleach/pleachlaw01.IntsTell", spec := "intsTell", unfollowed := true, recurses := true, apart := false }
def IntsTellSaid : Prop := intsTellRow.holds Try.pinned (OpenSpec.ofChange intsTellSpec)

/-- ITS FALSE NEIGHBOUR: 'it returns false'. Refute it at one input. -/
def intsTellWrong : ChangeSpec := { name := "intsTell", fn := fun _ => fun
  | [d1, d2, d3, d4] => { results := [.lit (.bool false)], args := [d1, d2, d3, d4] }
  | _ => none }
def IntsTellWrongFalsely : Prop := intsTellRow.holds Try.pinned (OpenSpec.ofChange intsTellWrong)

/- THE SECOND FORM. 'bulk': how many values and letters a reading holds, each counted each time it is reached (what is shared counts as often as it is met; a slice's spare places count too). A statement '..UptoSaid' is the law's where the arguments, and the package variables that the reading takes, are together of bulk at most 1048576: NARROWER than '..Said'. Prove '..Said' where nothing that the law and all that it calls make is longer than what came in: it says more and counts as full. Else prove '..UptoSaid'. A law counts once. -/
mutual
def uptoBulk {H : Type} : DataW H → Nat
  | .lit (.string bytes) => bytes.length + 1
  | .lit _ => 1
  | .nil => 1
  | .ptr d => uptoBulk d + 1
  | .slice elems spare => uptoBulkAll elems + uptoBulkAll spare + 1
  | .agg parts => uptoBulkAll parts + 1
  | .iface _ d => uptoBulk d + 1
  | .map entries => uptoBulkEntries entries + 1
  | .held _ => 1
def uptoBulkAll {H : Type} : List (DataW H) → Nat
  | [] => 0
  | d :: r => uptoBulk d + uptoBulkAll r
def uptoBulkEntries {H : Type} : List (Lit × DataW H) → Nat
  | [] => 0
  | x :: r => uptoBulkEntry x + uptoBulkEntries r
def uptoBulkEntry {H : Type} : Lit × DataW H → Nat
  | (.string bytes, d) => bytes.length + uptoBulk d + 1
  | (_, d) => uptoBulk d + 1
 end
def uptoSmall : (H : Type) → List (DataW H) → Bool := fun _ ds => decide (uptoBulkAll ds ≤ 1048576)
def OpenSpec.upto (s : _root_.Go.ChangeSpec) : _root_.Go.OpenSpec := { _root_.Go.OpenSpec.ofChange s with cond := some uptoSmall }

/-- 'pleachlaw26.WindowMore', WHERE WHAT IT READS IS OF BULK AT MOST 1048576: true; the input reads as it did. -/
def windowMoreUptoRow : OpenClaim := { program := "ytjjlfaknebbhfaa", sum := "4ed667aab7358d5b9b45dbc67b429f411b64c5afd7bb97ef4f666059c4215e2c", func := "pleach/pleachlaw26.WindowMore", spec := "windowMore", unfollowed := true, recurses := true, apart := false, narrowed := true }
def WindowMoreUptoSaid : Prop := windowMoreUptoRow.holds Try.pinned (OpenSpec.upto windowMoreSpec)

/-- 'pleachlaw26.WindowFirst', WHERE WHAT IT READS IS OF BULK AT MOST 1048576: true; the input reads as it did. -/
def windowFirstUptoRow : OpenClaim := { program := "ytjjlfaknebbhfaa", sum := "4ed667aab7358d5b9b45dbc67b429f411b64c5afd7bb97ef4f666059c4215e2c", func := "pleach/pleachlaw26.WindowFirst", spec := "windowFirst", unfollowed := true, recurses := true, apart := false, narrowed := true }
def WindowFirstUptoSaid : Prop := windowFirstUptoRow.holds Try.pinned (OpenSpec.upto windowFirstSpec)

/-- 'pleachlaw01.IntsBack', WHERE WHAT IT READS IS OF BULK AT MOST 1048576: true; the input reads as it did. -/
def intsBackUptoRow : OpenClaim := { program := "ytjjlfaknebbhfaa", sum := "4ed667aab7358d5b9b45dbc67b429f411b64c5afd7bb97ef4f666059c4215e2c", func := "pleach/pleachlaw01.IntsBack", spec := "intsBack", unfollowed := true, recurses := true, apart := false, narrowed := true }
def IntsBackUptoSaid : Prop := intsBackUptoRow.holds Try.pinned (OpenSpec.upto intsBackSpec)

/-- 'pleachlaw01.IntsDigits', WHERE WHAT IT READS IS OF BULK AT MOST 1048576: true; the input reads as it did. -/
def intsDigitsUptoRow : OpenClaim := { program := "ytjjlfaknebbhfaa", sum := "4ed667aab7358d5b9b45dbc67b429f411b64c5afd7bb97ef4f666059c4215e2c", func := "pleach/pleachlaw01.IntsDigits", spec := "intsDigits", unfollowed := true, recurses := true, apart := false, narrowed := true }
def IntsDigitsUptoSaid : Prop := intsDigitsUptoRow.holds Try.pinned (OpenSpec.upto intsDigitsSpec)

/-- 'pleachlaw01.IntsUnits', WHERE WHAT IT READS IS OF BULK AT MOST 1048576: true; the input reads as it did. -/
def intsUnitsUptoRow : OpenClaim := { program := "ytjjlfaknebbhfaa", sum := "4ed667aab7358d5b9b45dbc67b429f411b64c5afd7bb97ef4f666059c4215e2c", func := "pleach/pleachlaw01.IntsUnits", spec := "intsUnits", unfollowed := true, recurses := true, apart := false, narrowed := true }
def IntsUnitsUptoSaid : Prop := intsUnitsUptoRow.holds Try.pinned (OpenSpec.upto intsUnitsSpec)

/-- 'pleachlaw01.IntsOrder', WHERE WHAT IT READS IS OF BULK AT MOST 1048576: true; the input reads as it did. -/
def intsOrderUptoRow : OpenClaim := { program := "ytjjlfaknebbhfaa", sum := "4ed667aab7358d5b9b45dbc67b429f411b64c5afd7bb97ef4f666059c4215e2c", func := "pleach/pleachlaw01.IntsOrder", spec := "intsOrder", unfollowed := true, recurses := true, apart := false, narrowed := true }
def IntsOrderUptoSaid : Prop := intsOrderUptoRow.holds Try.pinned (OpenSpec.upto intsOrderSpec)

/-- 'pleachlaw01.IntsTell', WHERE WHAT IT READS IS OF BULK AT MOST 1048576: true; the input reads as it did. -/
def intsTellUptoRow : OpenClaim := { program := "ytjjlfaknebbhfaa", sum := "4ed667aab7358d5b9b45dbc67b429f411b64c5afd7bb97ef4f666059c4215e2c", func := "pleach/pleachlaw01.IntsTell", spec := "intsTell", unfollowed := true, recurses := true, apart := false, narrowed := true }
def IntsTellUptoSaid : Prop := intsTellUptoRow.holds Try.pinned (OpenSpec.upto intsTellSpec)

end Rows
end Go.Proofs.Ytjjlfaknebbhfaa
