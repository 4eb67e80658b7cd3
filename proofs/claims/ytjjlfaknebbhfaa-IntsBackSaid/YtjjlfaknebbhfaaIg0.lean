/- One way through IntsBack. Conditions: as the theorem says. -/
import Derived.Test.YtjjlfaknebbhfaaIf
namespace Go.Proofs.Ytjjlfaknebbhfaa
open Go.ChangeShapes Go.WideShapes Go.ChangeAt Go.RowKit
set_option linter.unusedVariables false
set_option maxRecDepth 100000 in
set_option maxHeartbeats 2000000 in
theorem back_zero_ok (a b : Int) (hz : b = 0) (ha : mayB a = true) (hb : mayB b = true) (hs : mayB (a + b) = true) (w : World) : Calls Try.prog 5 #[.int .i64 a, .int .i64 b] w fun e w' => e = .returned (.bool true) ∧ Below w.heap.size w w' := by
  subst hz
  have h1 := (mayB_iff a).1 ha
  have z1 : lim (a + 0) = (a, 0) := by rw [Int.add_zero]; exact lim_ok ha
  have z2 : lim (a - 0) = (a, 0) := by rw [Int.sub_zero]; exact lim_ok ha
  have z3 : lim (a * 0) = (0, 0) := by rw [Int.mul_zero]; decide
  have z4 : lim (0 * a) = (0, 0) := by rw [Int.zero_mul]; decide
  clear hs
  go_enter Try.func5, Try.ntmps5
  go_wp2_with (go_at_call 14; refine (may14 _ _).mono ?_; rintro e w' ⟨rfl, rfl⟩)
  refine (Do_add' ha hb z1 _).mono ?_
  rintro e w1 ⟨rfl, hb1⟩
  have hB1 := hb1
  go_wp2_with (go_at_call 14; refine (may14 _ _).mono ?_; rintro e w' ⟨rfl, rfl⟩)
  refine (Do_sub' ha hb z2 _).mono ?_
  rintro e w2 ⟨rfl, hb2⟩
  have hB2 := keep_below hB1 hB1.size hb2
  go_wp2_with (go_at_call 14; refine (may14 _ _).mono ?_; rintro e w' ⟨rfl, rfl⟩)
  refine (Do_mul' ha hb z3 _).mono ?_
  rintro e w3 ⟨rfl, hb3⟩
  have hB3 := keep_below hB2 hB2.size hb3
  go_wp2_with (go_at_call 14; refine (may14 _ _).mono ?_; rintro e w' ⟨rfl, rfl⟩)
  refine (Do_mul' hb ha z4 _).mono ?_
  rintro e w4 ⟨rfl, hb4⟩
  have hB4 := keep_below hB3 hB3.size hb4
  go_wp2_with (go_at_call 14; refine (may14 _ _).mono ?_; rintro e w' ⟨rfl, rfl⟩)
  refine (Do_div0 a ha _).mono ?_
  rintro e w5 ⟨rfl, hb5⟩
  have hB5 := keep_below hB4 hB4.size hb5
  go_wp2_with (go_at_call 14; refine (may14 _ _).mono ?_; rintro e w' ⟨rfl, rfl⟩)
  refine (Do_rem0 a ha _).mono ?_
  rintro e w6 ⟨rfl, hb6⟩
  have hB6 := keep_below hB5 hB5.size hb6
  go_wp2_with (go_at_call 16; refine (wakes16 _).mono ?_; rintro e wz ⟨rfl, hbz⟩)
  go_ret
  exact ⟨rfl, keep_below hB6 hB6.size hbz⟩
end Go.Proofs.Ytjjlfaknebbhfaa
