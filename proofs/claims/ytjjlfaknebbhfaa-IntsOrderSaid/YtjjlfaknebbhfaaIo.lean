/- The law IntsOrder, walked. No conditions. -/
import Derived.Test.YtjjlfaknebbhfaaIm
namespace Go.Proofs.Ytjjlfaknebbhfaa
open Go.ChangeShapes Go.WideShapes Go.ChangeAt Go.RowKit
set_option linter.unusedVariables false
theorem cmp_sub {w : World} {k : ByteArray} {c : Int} {x y : Bool} (h : Calls Try.prog 18 #[.string k, .int .i64 c] w fun e w' => e = .returned (.tuple #[.bool x, .bool true]) ∧ Below w.heap.size w w') (hx : x = y) :
    Calls Try.prog 18 #[.string k, .int .i64 c] w fun e w' => e = .returned (.tuple #[.bool y, .bool true]) ∧ Below w.heap.size w w' := by rw [← hx]; exact h
set_option maxRecDepth 100000 in
set_option maxHeartbeats 2000000 in
theorem order_neg (c : Int) (h : c < 0) (w : World) : Calls Try.prog 8 #[.int .i64 c] w fun e w' => e = .returned (.bool true) ∧ Below w.heap.size w w' := by
  have hz : (c == 0) = false := by simp; omega
  have hp : ∀ x y z, pick3 c x y z = x := by intro x y z; simp [pick3, h]
  go_enter Try.func8, Try.ntmps8
  go_wp2_with fail
  refine (cmp_sub (cmp_0 _ c) (hp _ _ _)).mono ?_
  rintro e w1 ⟨rfl, hb1⟩
  have hB1 := hb1
  go_wp2_with fail
  refine (cmp_sub (cmp_1 _ c) (hp _ _ _)).mono ?_
  rintro e w2 ⟨rfl, hb2⟩
  have hB2 := keep_below hB1 hB1.size hb2
  go_wp2_with fail
  refine (cmp_sub (cmp_2 _ c) (hp _ _ _)).mono ?_
  rintro e w3 ⟨rfl, hb3⟩
  have hB3 := keep_below hB2 hB2.size hb3
  go_wp2_with fail
  refine (cmp_sub (cmp_3 _ c) (hp _ _ _)).mono ?_
  rintro e w4 ⟨rfl, hb4⟩
  have hB4 := keep_below hB3 hB3.size hb4
  go_wp2_with fail
  refine (cmp_sub (cmp_4 _ c) (hp _ _ _)).mono ?_
  rintro e w5 ⟨rfl, hb5⟩
  have hB5 := keep_below hB4 hB4.size hb5
  go_wp2_with fail
  refine (cmp_sub (cmp_5 _ c) (hp _ _ _)).mono ?_
  rintro e w6 ⟨rfl, hb6⟩
  have hB6 := keep_below hB5 hB5.size hb6
  go_wp2_with (go_at_call 16; refine (wakes16 _).mono ?_; rintro e w7 ⟨rfl, hb7⟩)
  go_ret
  exact ⟨rfl, keep_below hB6 hB6.size hb7⟩
set_option maxRecDepth 100000 in
set_option maxHeartbeats 2000000 in
theorem order_zero (w : World) : Calls Try.prog 8 #[.int .i64 0] w fun e w' => e = .returned (.bool true) ∧ Below w.heap.size w w' := by
  have hp : ∀ x y z, pick3 0 x y z = y := by intro x y z; simp [pick3]
  go_enter Try.func8, Try.ntmps8
  go_wp2_with fail
  refine (cmp_sub (cmp_0 _ 0) (hp _ _ _)).mono ?_
  rintro e w1 ⟨rfl, hb1⟩
  have hB1 := hb1
  go_wp2_with fail
  refine (cmp_sub (cmp_1 _ 0) (hp _ _ _)).mono ?_
  rintro e w2 ⟨rfl, hb2⟩
  have hB2 := keep_below hB1 hB1.size hb2
  go_wp2_with fail
  refine (cmp_sub (cmp_2 _ 0) (hp _ _ _)).mono ?_
  rintro e w3 ⟨rfl, hb3⟩
  have hB3 := keep_below hB2 hB2.size hb3
  go_wp2_with fail
  refine (cmp_sub (cmp_3 _ 0) (hp _ _ _)).mono ?_
  rintro e w4 ⟨rfl, hb4⟩
  have hB4 := keep_below hB3 hB3.size hb4
  go_wp2_with fail
  refine (cmp_sub (cmp_4 _ 0) (hp _ _ _)).mono ?_
  rintro e w5 ⟨rfl, hb5⟩
  have hB5 := keep_below hB4 hB4.size hb5
  go_wp2_with fail
  refine (cmp_sub (cmp_5 _ 0) (hp _ _ _)).mono ?_
  rintro e w6 ⟨rfl, hb6⟩
  have hB6 := keep_below hB5 hB5.size hb6
  go_wp2_with (go_at_call 16; refine (wakes16 _).mono ?_; rintro e w7 ⟨rfl, hb7⟩)
  go_ret
  exact ⟨rfl, keep_below hB6 hB6.size hb7⟩
set_option maxRecDepth 100000 in
set_option maxHeartbeats 2000000 in
theorem order_pos (c : Int) (h : 0 < c) (w : World) : Calls Try.prog 8 #[.int .i64 c] w fun e w' => e = .returned (.bool true) ∧ Below w.heap.size w w' := by
  have hz : (c == 0) = false := by simp; omega
  have hp : ∀ x y z, pick3 c x y z = z := by intro x y z; rw [pick3, if_neg (by omega), if_neg (by omega)]
  go_enter Try.func8, Try.ntmps8
  go_wp2_with fail
  refine (cmp_sub (cmp_0 _ c) (hp _ _ _)).mono ?_
  rintro e w1 ⟨rfl, hb1⟩
  have hB1 := hb1
  go_wp2_with fail
  refine (cmp_sub (cmp_1 _ c) (hp _ _ _)).mono ?_
  rintro e w2 ⟨rfl, hb2⟩
  have hB2 := keep_below hB1 hB1.size hb2
  go_wp2_with fail
  refine (cmp_sub (cmp_2 _ c) (hp _ _ _)).mono ?_
  rintro e w3 ⟨rfl, hb3⟩
  have hB3 := keep_below hB2 hB2.size hb3
  go_wp2_with fail
  refine (cmp_sub (cmp_3 _ c) (hp _ _ _)).mono ?_
  rintro e w4 ⟨rfl, hb4⟩
  have hB4 := keep_below hB3 hB3.size hb4
  go_wp2_with fail
  refine (cmp_sub (cmp_4 _ c) (hp _ _ _)).mono ?_
  rintro e w5 ⟨rfl, hb5⟩
  have hB5 := keep_below hB4 hB4.size hb5
  go_wp2_with fail
  refine (cmp_sub (cmp_5 _ c) (hp _ _ _)).mono ?_
  rintro e w6 ⟨rfl, hb6⟩
  have hB6 := keep_below hB5 hB5.size hb6
  go_wp2_with (go_at_call 16; refine (wakes16 _).mono ?_; rintro e w7 ⟨rfl, hb7⟩)
  go_ret
  exact ⟨rfl, keep_below hB6 hB6.size hb7⟩
theorem order_all (c : Int) (w : World) : Calls Try.prog 8 #[.int .i64 c] w fun e w' => e = .returned (.bool true) ∧ Below w.heap.size w w' := by
  by_cases h1 : c < 0
  · exact order_neg c h1 w
  · by_cases h2 : c = 0
    · rw [h2]
      exact order_zero w
    · exact order_pos c (by omega) w
end Go.Proofs.Ytjjlfaknebbhfaa
