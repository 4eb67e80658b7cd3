/- The law IntsBack and wakes of chapter 1, walked. No conditions. -/
import Derived.Test.YtjjlfaknebbhfaaId
import Derived.Test.YtjjlfaknebbhfaaIe
namespace Go.Proofs.Ytjjlfaknebbhfaa
open Go.ChangeShapes Go.WideShapes Go.ChangeAt Go.RowKit
set_option linter.unusedVariables false
theorem wkA (w : World) : Calls Try.prog 15 #[.string ⟨#[100, 105, 118]⟩, .int .i64 (-7), .int .i64 2] w fun e w' => e = .returned (.tuple #[.int .i64 (-3), .int .i64 0]) ∧ Below w.heap.size w w' := by
  have e1 : lim ((-7 : Int).tdiv 2) = (-3, 0) := by decide
  have := Do_div (-7) 2 (by decide) (by decide) (by decide) w
  rw [e1] at this
  exact this
theorem wkB (w : World) : Calls Try.prog 15 #[.string ⟨#[114, 101, 109]⟩, .int .i64 (-7), .int .i64 2] w fun e w' => e = .returned (.tuple #[.int .i64 (-1), .int .i64 0]) ∧ Below w.heap.size w w' := by
  have e1 : lim ((-7 : Int).tmod 2) = (-1, 0) := by decide
  have := Do_rem (-7) 2 (by decide) (by decide) (by decide) w
  rw [e1] at this
  exact this
theorem wkC (w : World) : Calls Try.prog 15 #[.string ⟨#[43]⟩, .int .i64 576460752303423487, .int .i64 1] w fun e w' => e = .returned (.tuple #[.int .i64 0, .int .i64 11]) ∧ Below w.heap.size w w' := by
  have e1 : lim (576460752303423487 + 1) = (0, 11) := by decide
  have := Do_add 576460752303423487 1 (by decide) (by decide) w
  rw [e1] at this
  exact this
theorem wkD (w : World) : Calls Try.prog 17 #[.string ⟨#[49, 50, 97, 98]⟩] w fun e w' => e = .returned (.tuple #[.int .i64 12, .int .i64 2, .int .i64 0]) ∧ w' = w := by
  have e1 : readF (⟨#[49, 50, 97, 98]⟩ : ByteArray).data.toList = (12, 2, 0) := by decide
  have := Read_any ⟨#[49, 50, 97, 98]⟩ (by decide) w
  rw [e1] at this
  exact this
theorem wakes16 (w : World) : Calls Try.prog 16 #[] w fun e w' => e = .returned (.bool true) ∧ Below w.heap.size w w' := by
  go_enter Try.func16, Try.ntmps16
  go_wp2_with fail
  refine (wkA _).mono ?_
  rintro e w1 ⟨rfl, hb1⟩
  go_wp2_with fail
  refine (wkB _).mono ?_
  rintro e w2 ⟨rfl, hb2⟩
  have hB2 := keep_below hb1 hb1.size hb2
  go_wp2_with fail
  refine (wkC _).mono ?_
  rintro e w3 ⟨rfl, hb3⟩
  have hB3 := keep_below hB2 hB2.size hb3
  go_wp2_with fail
  refine (wkD _).mono ?_
  rintro e w4 ⟨rfl, rfl⟩
  go_wp2
  go_ret
  exact ⟨rfl, hB3⟩

theorem lim_ok {n : Int} (h : mayB n = true) : lim n = (n, 0) := by simp [lim, h]
theorem lim_no {n : Int} (h : mayB n = false) : lim n = (0, 11) := by simp [lim, h]
theorem Do_add' {a b n e : Int} (ha : mayB a = true) (hb : mayB b = true) (h : lim (a + b) = (n, e)) (w : World) : Calls Try.prog 15 #[.string ⟨#[43]⟩, .int .i64 a, .int .i64 b] w fun x w' => x = .returned (.tuple #[.int .i64 n, .int .i64 e]) ∧ Below w.heap.size w w' := by
  have := Do_add a b ha hb w; rw [h] at this; exact this
theorem Do_sub' {a b n e : Int} (ha : mayB a = true) (hb : mayB b = true) (h : lim (a - b) = (n, e)) (w : World) : Calls Try.prog 15 #[.string ⟨#[45]⟩, .int .i64 a, .int .i64 b] w fun x w' => x = .returned (.tuple #[.int .i64 n, .int .i64 e]) ∧ Below w.heap.size w w' := by
  have := Do_sub a b ha hb w; rw [h] at this; exact this
theorem Do_mul' {a b n e : Int} (ha : mayB a = true) (hb : mayB b = true) (h : lim (a * b) = (n, e)) (w : World) : Calls Try.prog 15 #[.string ⟨#[42]⟩, .int .i64 a, .int .i64 b] w fun x w' => x = .returned (.tuple #[.int .i64 n, .int .i64 e]) ∧ Below w.heap.size w w' := by
  have := Do_mul a b ha hb w; rw [h] at this; exact this
theorem Do_div' {a b n e : Int} (ha : mayB a = true) (hb : mayB b = true) (h0 : b ≠ 0) (h : lim (a.tdiv b) = (n, e)) (w : World) : Calls Try.prog 15 #[.string ⟨#[100, 105, 118]⟩, .int .i64 a, .int .i64 b] w fun x w' => x = .returned (.tuple #[.int .i64 n, .int .i64 e]) ∧ Below w.heap.size w w' := by
  have := Do_div a b ha hb h0 w; rw [h] at this; exact this
theorem Do_rem' {a b n e : Int} (ha : mayB a = true) (hb : mayB b = true) (h0 : b ≠ 0) (h : lim (a.tmod b) = (n, e)) (w : World) : Calls Try.prog 15 #[.string ⟨#[114, 101, 109]⟩, .int .i64 a, .int .i64 b] w fun x w' => x = .returned (.tuple #[.int .i64 n, .int .i64 e]) ∧ Below w.heap.size w w' := by
  have := Do_rem a b ha hb h0 w; rw [h] at this; exact this
theorem back_arg (a b : Int) (h : ¬ (mayB a = true ∧ mayB b = true)) (w : World) : Calls Try.prog 5 #[.int .i64 a, .int .i64 b] w fun e w' => e = .returned (.bool true) ∧ Below w.heap.size w w' := by
  by_cases ha : mayB a = true
  · have hb : mayB b = false := by
      by_cases hb : mayB b = true
      · exact absurd ⟨ha, hb⟩ h
      · simpa using hb
    go_enter Try.func5, Try.ntmps5
    go_wp2_with (first | (go_at_call 14; refine (may14 _ _).mono ?_; rintro e w' ⟨rfl, rfl⟩) | (go_at_call 15; refine (Do_arg _ a b h _).mono ?_; rintro e w1 ⟨rfl, hb1⟩) | (go_at_call 16; refine (wakes16 _).mono ?_; rintro e w2 ⟨rfl, hb2⟩))
    go_ret
    exact ⟨rfl, keep_below hb1 hb1.size hb2⟩
  · have ha : mayB a = false := by simpa using ha
    go_enter Try.func5, Try.ntmps5
    go_wp2_with (first | (go_at_call 14; refine (may14 _ _).mono ?_; rintro e w' ⟨rfl, rfl⟩) | (go_at_call 15; refine (Do_arg _ a b h _).mono ?_; rintro e w1 ⟨rfl, hb1⟩) | (go_at_call 16; refine (wakes16 _).mono ?_; rintro e w2 ⟨rfl, hb2⟩))
    go_ret
    exact ⟨rfl, keep_below hb1 hb1.size hb2⟩
end Go.Proofs.Ytjjlfaknebbhfaa
