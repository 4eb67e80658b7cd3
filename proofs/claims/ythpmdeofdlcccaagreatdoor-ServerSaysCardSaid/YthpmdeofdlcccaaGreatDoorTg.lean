/- terms: the reference's bare, and what may be an integer. Conditions: lengths fit. -/
import Derived.Test.YthpmdeofdlcccaaGreatDoorTf
namespace Go.Proofs.YthpmdeofdlcccaaGreatDoor
open Go.ChangeShapes Go.WideShapes Go.ChangeAt Go.RowKit
set_option linter.unusedVariables false
theorem rimay_any (n : Int) (w : World) : Calls Tryz.prog 103 #[.int .i64 n] w (SameB w (mayI n)) := by
  by_cases h1 : -576460752303423488 ≤ n
  · by_cases h2 : n ≤ 576460752303423487
    · have : mayI n = true := (mayI_iff n).2 ⟨h1, h2⟩
      rw [this]
      have hd1 : decide (-576460752303423488 ≤ n) = true := by simpa using h1
      have hd : decide (n ≤ 576460752303423487) = true := by simpa using h2
      go_enter Tryz.func103, Tryz.ntmps103
      go_wp2_with fail
      go_ret
      exact ⟨rfl, rfl⟩
    · have : mayI n = false := by simp [mayI]; omega
      rw [this]
      have hd1 : decide (-576460752303423488 ≤ n) = true := by simpa using h1
      have hd : decide (n ≤ 576460752303423487) = false := by simpa using h2
      go_enter Tryz.func103, Tryz.ntmps103
      go_wp2_with fail
      go_ret
      exact ⟨rfl, rfl⟩
  · have : mayI n = false := by simp [mayI]; omega
    rw [this]
    have hd : decide (-576460752303423488 ≤ n) = false := by simpa using h1
    go_enter Tryz.func103, Tryz.ntmps103
    go_wp2_with fail
    go_ret
    exact ⟨rfl, rfl⟩
def tv (k n : Int) (s u : ByteArray) (lv : Value) : Value := .agg #[.int .i8 k, .int .i64 n, .string s, .string u, lv]

theorem bare_tfff (w : World) (k N : Int) (S U : ByteArray) (ao : Option Addr) (len cap : Nat) :
    Calls Tryz.prog 102 #[.agg #[.int .i8 k, .int .i64 N, .string S, .string U, .slice ao len cap], .bool true, .bool false, .bool false, .bool false] w (IsPost w (bareB true false false false N S U len)) := by
  cases hS : empty S
  · obtain ⟨qS1, qS2⟩ := empty_false hS
    have e : bareB true false false false N S U len = false := by simp [bareB, *]
    rw [e]
    clear e
    clear hS
    go_enter Tryz.func102, Tryz.ntmps102
    go_wp2_with fail
    go_ret
    exact ⟨rfl, (Below.refl _ _).alloc (Nat.le_refl _) _⟩
  · obtain rfl := empty_true hS
    cases hU : empty U
    · obtain ⟨qU1, qU2⟩ := empty_false hU
      have e : bareB true false false false N ⟨#[]⟩ U len = false := by simp [bareB, *]
      rw [e]
      clear e
      clear hU
      go_enter Tryz.func102, Tryz.ntmps102
      go_wp2_with fail
      go_ret
      exact ⟨rfl, (Below.refl _ _).alloc (Nat.le_refl _) _⟩
    · obtain rfl := empty_true hU
      by_cases hl : len = 0
      · have hl' : ((len : Int) == 0) = true := by simp [hl]
        have hl2 : (len == 0) = true := by simp [hl]
        clear hl
        have e : bareB true false false false N ⟨#[]⟩ ⟨#[]⟩ len = true := by simp [bareB, *]
        rw [e]
        clear e
        clear hl2
        go_enter Tryz.func102, Tryz.ntmps102
        go_wp2_with fail
        go_ret
        exact ⟨rfl, (Below.refl _ _).alloc (Nat.le_refl _) _⟩
      · have hl' : ((len : Int) == 0) = false := by simp; omega
        have hl2 : (len == 0) = false := by simp [hl]
        clear hl
        have e : bareB true false false false N ⟨#[]⟩ ⟨#[]⟩ len = false := by simp [bareB, *]
        rw [e]
        clear e
        clear hl2
        go_enter Tryz.func102, Tryz.ntmps102
        go_wp2_with fail
        go_ret
        exact ⟨rfl, (Below.refl _ _).alloc (Nat.le_refl _) _⟩
theorem bare_ftff (w : World) (k N : Int) (S U : ByteArray) (ao : Option Addr) (len cap : Nat) :
    Calls Tryz.prog 102 #[.agg #[.int .i8 k, .int .i64 N, .string S, .string U, .slice ao len cap], .bool false, .bool true, .bool false, .bool false] w (IsPost w (bareB false true false false N S U len)) := by
  by_cases hN : N = 0
  · have hN' : (N == 0) = true := by simp [hN]
    clear hN
    cases hU : empty U
    · obtain ⟨qU1, qU2⟩ := empty_false hU
      have e : bareB false true false false N S U len = false := by simp [bareB, *]
      rw [e]
      clear e
      clear hU
      go_enter Tryz.func102, Tryz.ntmps102
      go_wp2_with fail
      go_ret
      exact ⟨rfl, (Below.refl _ _).alloc (Nat.le_refl _) _⟩
    · obtain rfl := empty_true hU
      by_cases hl : len = 0
      · have hl' : ((len : Int) == 0) = true := by simp [hl]
        have hl2 : (len == 0) = true := by simp [hl]
        clear hl
        have e : bareB false true false false N S ⟨#[]⟩ len = true := by simp [bareB, *]
        rw [e]
        clear e
        clear hl2
        go_enter Tryz.func102, Tryz.ntmps102
        go_wp2_with fail
        go_ret
        exact ⟨rfl, (Below.refl _ _).alloc (Nat.le_refl _) _⟩
      · have hl' : ((len : Int) == 0) = false := by simp; omega
        have hl2 : (len == 0) = false := by simp [hl]
        clear hl
        have e : bareB false true false false N S ⟨#[]⟩ len = false := by simp [bareB, *]
        rw [e]
        clear e
        clear hl2
        go_enter Tryz.func102, Tryz.ntmps102
        go_wp2_with fail
        go_ret
        exact ⟨rfl, (Below.refl _ _).alloc (Nat.le_refl _) _⟩
  · have hN' : (N == 0) = false := by simp [hN]
    clear hN
    have e : bareB false true false false N S U len = false := by simp [bareB, *]
    rw [e]
    clear e
    go_enter Tryz.func102, Tryz.ntmps102
    go_wp2_with fail
    go_ret
    exact ⟨rfl, (Below.refl _ _).alloc (Nat.le_refl _) _⟩
theorem bare_tttf (w : World) (k N : Int) (S U : ByteArray) (ao : Option Addr) (len cap : Nat) :
    Calls Tryz.prog 102 #[.agg #[.int .i8 k, .int .i64 N, .string S, .string U, .slice ao len cap], .bool true, .bool true, .bool true, .bool false] w (IsPost w (bareB true true true false N S U len)) := by
  by_cases hl : len = 0
  · have hl' : ((len : Int) == 0) = true := by simp [hl]
    have hl2 : (len == 0) = true := by simp [hl]
    clear hl
    have e : bareB true true true false N S U len = true := by simp [bareB, *]
    rw [e]
    clear e
    clear hl2
    go_enter Tryz.func102, Tryz.ntmps102
    go_wp2_with fail
    go_ret
    exact ⟨rfl, (Below.refl _ _).alloc (Nat.le_refl _) _⟩
  · have hl' : ((len : Int) == 0) = false := by simp; omega
    have hl2 : (len == 0) = false := by simp [hl]
    clear hl
    have e : bareB true true true false N S U len = false := by simp [bareB, *]
    rw [e]
    clear e
    clear hl2
    go_enter Tryz.func102, Tryz.ntmps102
    go_wp2_with fail
    go_ret
    exact ⟨rfl, (Below.refl _ _).alloc (Nat.le_refl _) _⟩
theorem bare_ffft (w : World) (k N : Int) (S U : ByteArray) (ao : Option Addr) (len cap : Nat) :
    Calls Tryz.prog 102 #[.agg #[.int .i8 k, .int .i64 N, .string S, .string U, .slice ao len cap], .bool false, .bool false, .bool false, .bool true] w (IsPost w (bareB false false false true N S U len)) := by
  by_cases hN : N = 0
  · have hN' : (N == 0) = true := by simp [hN]
    clear hN
    cases hS : empty S
    · obtain ⟨qS1, qS2⟩ := empty_false hS
      have e : bareB false false false true N S U len = false := by simp [bareB, *]
      rw [e]
      clear e
      clear hS
      go_enter Tryz.func102, Tryz.ntmps102
      go_wp2_with fail
      go_ret
      exact ⟨rfl, (Below.refl _ _).alloc (Nat.le_refl _) _⟩
    · obtain rfl := empty_true hS
      cases hU : empty U
      · obtain ⟨qU1, qU2⟩ := empty_false hU
        have e : bareB false false false true N ⟨#[]⟩ U len = false := by simp [bareB, *]
        rw [e]
        clear e
        clear hU
        go_enter Tryz.func102, Tryz.ntmps102
        go_wp2_with fail
        go_ret
        exact ⟨rfl, (Below.refl _ _).alloc (Nat.le_refl _) _⟩
      · obtain rfl := empty_true hU
        have e : bareB false false false true N ⟨#[]⟩ ⟨#[]⟩ len = true := by simp [bareB, *]
        rw [e]
        clear e
        go_enter Tryz.func102, Tryz.ntmps102
        go_wp2_with fail
        go_ret
        exact ⟨rfl, (Below.refl _ _).alloc (Nat.le_refl _) _⟩
  · have hN' : (N == 0) = false := by simp [hN]
    clear hN
    have e : bareB false false false true N S U len = false := by simp [bareB, *]
    rw [e]
    clear e
    go_enter Tryz.func102, Tryz.ntmps102
    go_wp2_with fail
    go_ret
    exact ⟨rfl, (Below.refl _ _).alloc (Nat.le_refl _) _⟩
theorem bare_ffff (w : World) (k N : Int) (S U : ByteArray) (ao : Option Addr) (len cap : Nat) :
    Calls Tryz.prog 102 #[.agg #[.int .i8 k, .int .i64 N, .string S, .string U, .slice ao len cap], .bool false, .bool false, .bool false, .bool false] w (IsPost w (bareB false false false false N S U len)) := by
  by_cases hN : N = 0
  · have hN' : (N == 0) = true := by simp [hN]
    clear hN
    cases hS : empty S
    · obtain ⟨qS1, qS2⟩ := empty_false hS
      have e : bareB false false false false N S U len = false := by simp [bareB, *]
      rw [e]
      clear e
      clear hS
      go_enter Tryz.func102, Tryz.ntmps102
      go_wp2_with fail
      go_ret
      exact ⟨rfl, (Below.refl _ _).alloc (Nat.le_refl _) _⟩
    · obtain rfl := empty_true hS
      cases hU : empty U
      · obtain ⟨qU1, qU2⟩ := empty_false hU
        have e : bareB false false false false N ⟨#[]⟩ U len = false := by simp [bareB, *]
        rw [e]
        clear e
        clear hU
        go_enter Tryz.func102, Tryz.ntmps102
        go_wp2_with fail
        go_ret
        exact ⟨rfl, (Below.refl _ _).alloc (Nat.le_refl _) _⟩
      · obtain rfl := empty_true hU
        by_cases hl : len = 0
        · have hl' : ((len : Int) == 0) = true := by simp [hl]
          have hl2 : (len == 0) = true := by simp [hl]
          clear hl
          have e : bareB false false false false N ⟨#[]⟩ ⟨#[]⟩ len = true := by simp [bareB, *]
          rw [e]
          clear e
          clear hl2
          go_enter Tryz.func102, Tryz.ntmps102
          go_wp2_with fail
          go_ret
          exact ⟨rfl, (Below.refl _ _).alloc (Nat.le_refl _) _⟩
        · have hl' : ((len : Int) == 0) = false := by simp; omega
          have hl2 : (len == 0) = false := by simp [hl]
          clear hl
          have e : bareB false false false false N ⟨#[]⟩ ⟨#[]⟩ len = false := by simp [bareB, *]
          rw [e]
          clear e
          clear hl2
          go_enter Tryz.func102, Tryz.ntmps102
          go_wp2_with fail
          go_ret
          exact ⟨rfl, (Below.refl _ _).alloc (Nat.le_refl _) _⟩
  · have hN' : (N == 0) = false := by simp [hN]
    clear hN
    have e : bareB false false false false N S U len = false := by simp [bareB, *]
    rw [e]
    clear e
    go_enter Tryz.func102, Tryz.ntmps102
    go_wp2_with fail
    go_ret
    exact ⟨rfl, (Below.refl _ _).alloc (Nat.le_refl _) _⟩
end Go.Proofs.YthpmdeofdlcccaaGreatDoor
