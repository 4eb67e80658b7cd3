/- One way through IntsBack. Conditions: as the theorem says. -/
import Derived.Test.YtjjlfaknebbhfaaIf
namespace Go.Proofs.Ytjjlfaknebbhfaa
open Go.ChangeShapes Go.WideShapes Go.ChangeAt Go.RowKit
set_option linter.unusedVariables false
set_option maxRecDepth 100000 in
set_option maxHeartbeats 2000000 in
theorem back_zero_no (a b : Int) (hz : b = 0) (ha : mayB a = true) (hb : mayB b = true) (hs : mayB (a + b) = false) (w : World) : Calls Try.prog 5 #[.int .i64 a, .int .i64 b] w fun e w' => e = .returned (.bool true) ∧ Below w.heap.size w w' := by
  have h1 := (mayB_iff a).1 ha
  have h2 := (mayB_iff b).1 hb
  obtain ⟨⟨p, g⟩, hp⟩ : ∃ pg, lim (a * b) = pg := ⟨_, rfl⟩
  have hq : lim (b * a) = (p, g) := by rw [Int.mul_comm]; exact hp
  have hsb : lim (a + b - b) = (a, 0) := by rw [Int.add_sub_cancel]; exact lim_ok ha
  subst hz
  rw [Int.add_zero, ha] at hs
  cases hs
end Go.Proofs.Ytjjlfaknebbhfaa
