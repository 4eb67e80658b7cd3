/- The product in package ints. Conditions: both numbers may be. -/
import Derived.Test.YtjjlfaknebbhfaaIa
namespace Go.Proofs.Ytjjlfaknebbhfaa
open Go.ChangeShapes Go.WideShapes Go.ChangeAt Go.RowKit
set_option linter.unusedVariables false
set_option maxHeartbeats 1000000 in
theorem times_big (a b : Int) (ha : mayB a = true) (hb : mayB b = true) (h : 576460752303423488 < a.natAbs * b.natAbs) (w : World) :
    Calls Try.prog 32 #[.int .i64 a, .int .i64 b] w fun e w' => e = .returned (.tuple #[.int .i64 0, .int .i64 11]) ∧ w' = w := by
  have h1 := (mayB_iff a).1 ha
  have h2 := (mayB_iff b).1 hb
  have e1 : max a (-a) = (a.natAbs : Int) := by omega
  have e2 : max b (-b) = (b.natAbs : Int) := by omega
  have a1 : a.natAbs ≤ 576460752303423488 := by omega
  have b1 : b.natAbs ≤ 576460752303423488 := by omega
  have hbig := mhi_big h
  have a2 := h1.1
  have a3 := h1.2
  have b2 := h2.1
  have b3 := h2.2
  clear h1 h2 ha hb h
  generalize a.natAbs = x at e1 a1 hbig
  generalize b.natAbs = y at e2 b1 hbig
  go_enter Try.func32, Try.ntmps32
  go_wp2_with fail
  refine (mul_any x y a1 b1 w).mono ?_
  rintro e w' ⟨rfl, rfl⟩
  have hlo := mlo_lt x y
  generalize mhi x y = hi at hbig ⊢
  generalize mlo x y = lo at hbig hlo ⊢
  by_cases hh : 0 < hi
  · have hd : decide ((0 : Int) < (hi : Int)) = true := by simp; omega
    go_wp2
    go_ret2
    exact ⟨rfl, rfl⟩
  · have hd : decide ((0 : Int) < (hi : Int)) = false := by simp; omega
    have hd2 : decide ((576460752303423488 : Int) < (lo : Int)) = true := by simp; omega
    go_wp2
    go_ret2
    exact ⟨rfl, rfl⟩
theorem natAbs_mul_eq (a b : Int) : (a < 0 ∧ b < 0 → a * b = ((a.natAbs * b.natAbs : Nat) : Int)) ∧ (¬ a < 0 ∧ ¬ b < 0 → a * b = ((a.natAbs * b.natAbs : Nat) : Int)) ∧ (a < 0 ∧ ¬ b < 0 → a * b = -((a.natAbs * b.natAbs : Nat) : Int)) ∧ (¬ a < 0 ∧ b < 0 → a * b = -((a.natAbs * b.natAbs : Nat) : Int)) := by
  refine ⟨?_, ?_, ?_, ?_⟩
  · rintro ⟨h1, h2⟩
    rw [Int.natCast_mul, Int.ofNat_natAbs_of_nonpos (by omega), Int.ofNat_natAbs_of_nonpos (by omega), Int.neg_mul_neg]
  · rintro ⟨h1, h2⟩
    rw [Int.natCast_mul, Int.natAbs_of_nonneg (by omega), Int.natAbs_of_nonneg (by omega)]
  · rintro ⟨h1, h2⟩
    rw [Int.natCast_mul, Int.ofNat_natAbs_of_nonpos (by omega), Int.natAbs_of_nonneg (by omega), Int.neg_mul, Int.neg_neg]
  · rintro ⟨h1, h2⟩
    rw [Int.natCast_mul, Int.natAbs_of_nonneg (by omega), Int.ofNat_natAbs_of_nonpos (by omega), Int.mul_neg, Int.neg_neg]
set_option maxHeartbeats 1000000 in
theorem times_small (a b : Int) (ha : mayB a = true) (hb : mayB b = true) (h : a.natAbs * b.natAbs ≤ 576460752303423488) (w : World) :
    Calls Try.prog 32 #[.int .i64 a, .int .i64 b] w fun e w' => e = .returned (.tuple #[.int .i64 (a * b), .int .i64 0]) ∧ w' = w := by
  have h1 := (mayB_iff a).1 ha
  have h2 := (mayB_iff b).1 hb
  have e1 : max a (-a) = (a.natAbs : Int) := by omega
  have e2 : max b (-b) = (b.natAbs : Int) := by omega
  have a1 : a.natAbs ≤ 576460752303423488 := by omega
  have b1 : b.natAbs ≤ 576460752303423488 := by omega
  have hsm := mhi_small h
  have hpr := natAbs_mul_eq a b
  have a2 := h1.1
  have a3 := h1.2
  have b2 := h2.1
  have b3 := h2.2
  clear h1 h2 ha hb
  obtain ⟨p, hp⟩ : ∃ p, p = a * b := ⟨_, rfl⟩
  rw [← hp] at hpr ⊢
  clear hp
  generalize a.natAbs = x at e1 a1 hsm hpr h
  generalize b.natAbs = y at e2 b1 hsm hpr h
  go_enter Try.func32, Try.ntmps32
  go_wp2_with fail
  refine (mul_any x y a1 b1 w).mono ?_
  rintro e w' ⟨rfl, rfl⟩
  rw [hsm.1, hsm.2]
  generalize x * y = q at hpr h ⊢
  clear hsm e1 e2
  have hd2 : decide ((576460752303423488 : Int) < (q : Int)) = false := by simp; omega
  have hq : (q : Int) ≤ 576460752303423488 := by omega
  have hq0 : (0 : Int) ≤ (q : Int) := by omega
  by_cases ca : a < 0
  · have da : decide (a < 0) = true := by simpa using ca
    by_cases cb : b < 0
    · have db : decide (b < 0) = true := by simpa using cb
      have hr := hpr.1 ⟨by omega, by omega⟩
      clear hpr
      subst hr
      go_wp2
      go_ret2
      exact ⟨rfl, rfl⟩
    · have db : decide (b < 0) = false := by simpa using cb
      have hr := hpr.2.2.1 ⟨by omega, by omega⟩
      clear hpr
      subst hr
      go_wp2
      go_ret2
      exact ⟨rfl, rfl⟩
  · have da : decide (a < 0) = false := by simpa using ca
    by_cases cb : b < 0
    · have db : decide (b < 0) = true := by simpa using cb
      have hr := hpr.2.2.2 ⟨by omega, by omega⟩
      clear hpr
      subst hr
      go_wp2
      go_ret2
      exact ⟨rfl, rfl⟩
    · have db : decide (b < 0) = false := by simpa using cb
      have hr := hpr.2.1 ⟨by omega, by omega⟩
      clear hpr
      subst hr
      go_wp2
      go_ret2
      exact ⟨rfl, rfl⟩
end Go.Proofs.Ytjjlfaknebbhfaa
