/- proc.Cut's closure: is it the number? Conditions: the number lies in its box. -/
import Derived.Test.YtemgnljegbaobaaGreatDoorOf
namespace Go.Proofs.YtemgnljegbaobaaGreatDoor
open Go.ChangeShapes Go.WideShapes Go.ChangeAt Go.RowKit
set_option linter.unusedVariables false
set_option linter.unusedSimpArgs false
set_option maxRecDepth 100000
theorem cutf_any (w : World) (b : Nat) (x k : Int) (h : w.cell? ⟨b, 0, none⟩ = some (.int .i64 k)) : Calls Tryz.prog 40 #[.int .i64 x, .pointer (some ⟨b, 0, none⟩)] w (IsPost w (x == k)) := by
  go_enter Tryz.func40, Tryz.ntmps40
  go_wp2_with fail
  go_ret
  exact ⟨rfl, Below.refl _ _⟩
end Go.Proofs.YtemgnljegbaobaaGreatDoor
