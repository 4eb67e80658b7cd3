/- IntsBack at any two numbers. Conditions: as the theorem says. -/
import Derived.Test.YtjjlfaknebbhfaaIg0
import Derived.Test.YtjjlfaknebbhfaaIg1
import Derived.Test.YtjjlfaknebbhfaaIg2
import Derived.Test.YtjjlfaknebbhfaaIg3
import Derived.Test.YtjjlfaknebbhfaaIg4
import Derived.Test.YtjjlfaknebbhfaaIg5
namespace Go.Proofs.Ytjjlfaknebbhfaa
open Go.ChangeShapes Go.WideShapes Go.ChangeAt Go.RowKit
set_option linter.unusedVariables false
theorem back_any (a b : Int) (w : World) : Calls Try.prog 5 #[.int .i64 a, .int .i64 b] w fun e w' => e = .returned (.bool true) ∧ Below w.heap.size w w' := by
  by_cases h : mayB a = true ∧ mayB b = true
  · cases hs : mayB (a + b)
    · by_cases h0 : b = 0
      · exact back_zero_no a b h0 h.1 h.2 hs w
      · cases hd : mayB (a.tdiv b)
        · exact back_no_no a b h0 h.1 h.2 hs hd w
        · exact back_no_ok a b h0 h.1 h.2 hs hd w
    · by_cases h0 : b = 0
      · exact back_zero_ok a b h0 h.1 h.2 hs w
      · cases hd : mayB (a.tdiv b)
        · exact back_ok_no a b h0 h.1 h.2 hs hd w
        · exact back_ok_ok a b h0 h.1 h.2 hs hd w
  · exact back_arg a b h w
end Go.Proofs.Ytjjlfaknebbhfaa
