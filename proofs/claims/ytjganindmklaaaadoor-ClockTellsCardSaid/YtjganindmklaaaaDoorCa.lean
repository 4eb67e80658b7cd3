/- clock: time, Turn, Due, Left, Deadline; wakes. Conditions: the table of letters reads as laid; numbers and terms read. -/
import Derived.Test.YtjganindmklaaaaDoorTf
namespace Go.Proofs.YtjganindmklaaaaDoor
open Go.ChangeShapes Go.WideShapes Go.ChangeAt Go.RowKit
set_option linter.unusedVariables false
def i64 (n : Int) : Prop := -9223372036854775808 ≤ n ∧ n ≤ 9223372036854775807
def timeB (n : Int) : Bool := decide (0 ≤ n) && decide (n ≤ 1099511627776)
theorem timeB_t {n : Int} (h : timeB n = true) : 0 ≤ n ∧ n ≤ 1099511627776 := by simpa [timeB] using h
theorem timeB_f {n : Int} (h : timeB n = false) : n < 0 ∨ 1099511627776 < n := by
  simp [timeB] at h
  omega
theorem timeB_mk {n : Int} (h : 0 ≤ n ∧ n ≤ 1099511627776) : timeB n = true := by simpa [timeB] using h
theorem time_any (n : Int) (w : World) : Calls Tryd.prog 19 #[.int .i64 n] w (SameB w (timeB n)) := by
  by_cases h1 : 0 ≤ n
  · by_cases h2 : n ≤ 1099511627776
    · have : timeB n = true := timeB_mk ⟨h1, h2⟩
      rw [this]
      go_enter Tryd.func19, Tryd.ntmps19
      go_wp2_with fail
      go_ret
      exact ⟨rfl, rfl⟩
    · have : timeB n = false := by simp [timeB]; omega
      rw [this]
      have hd : decide (n ≤ 1099511627776) = false := by simpa using h2
      go_enter Tryd.func19, Tryd.ntmps19
      go_wp2_with fail
      go_ret
      exact ⟨rfl, rfl⟩
  · have : timeB n = false := by simp [timeB]; omega
    rw [this]
    have hd : decide (0 ≤ n) = false := by simpa using h1
    go_enter Tryd.func19, Tryd.ntmps19
    go_wp2_with fail
    go_ret
    exact ⟨rfl, rfl⟩
def turnB (now k : Int) : Bool := timeB now && (decide (1 ≤ k) && decide (k ≤ 1099511627776 - now))
def turnN (now k : Int) : Int := if turnB now k = true then now + k else now
def TwoPost (w : World) (n : Int) (b : Bool) (e : Ending) (w' : World) : Prop := e = .returned (.tuple #[.int .i64 n, .bool b]) ∧ w = w'
theorem turn_any (now k : Int) (w : World) : Calls Tryd.prog 7 #[.int .i64 now, .int .i64 k] w (TwoPost w (turnN now k) (turnB now k)) := by
  cases ht : timeB now
  · have e1 : turnB now k = false := by simp [turnB, ht]
    have e2 : turnN now k = now := by simp [turnN, e1]
    rw [e1, e2]
    have HT := Lib.hid ht
    clear ht e1 e2
    go_enter Tryd.func7, Tryd.ntmps7
    go_wp2_with fail
    refine (time_any _ _).mono ?_
    rw [HT.out]
    rintro e w1 ⟨rfl, rfl⟩
    go_wp2_with fail
    go_ret2
    exact ⟨rfl, rfl⟩
  · obtain ⟨b1, b2⟩ := timeB_t ht
    have HT := Lib.hid ht
    by_cases h1 : k < 1
    · have e1 : turnB now k = false := by simp [turnB]; omega
      have e2 : turnN now k = now := by simp [turnN, e1]
      rw [e1, e2]
      have hd : decide (k < 1) = true := by simpa using h1
      clear ht e1 e2
      go_enter Tryd.func7, Tryd.ntmps7
      go_wp2_with fail
      refine (time_any _ _).mono ?_
      rw [HT.out]
      rintro e w1 ⟨rfl, rfl⟩
      go_wp2_with fail
      go_ret2
      exact ⟨rfl, rfl⟩
    · have hd : decide (k < 1) = false := by simpa using h1
      by_cases h2 : 1099511627776 - now < k
      · have e1 : turnB now k = false := by simp [turnB]; omega
        have e2 : turnN now k = now := by simp [turnN, e1]
        rw [e1, e2]
        have hd2 : decide (1099511627776 - now < k) = true := by simpa using h2
        clear ht e1 e2
        go_enter Tryd.func7, Tryd.ntmps7
        go_wp2_with fail
        refine (time_any _ _).mono ?_
        rw [HT.out]
        rintro e w1 ⟨rfl, rfl⟩
        go_wp2_with fail
        go_ret2
        exact ⟨rfl, rfl⟩
      · have e1 : turnB now k = true := by simp [turnB, ht]; omega
        have e2 : turnN now k = now + k := by simp [turnN, e1]
        rw [e1, e2]
        have hd2 : decide (1099511627776 - now < k) = false := by simpa using h2
        have h3 : k ≤ 1099511627776 - now := by omega
        clear ht e1 e2
        go_enter Tryd.func7, Tryd.ntmps7
        go_wp2_with fail
        refine (time_any _ _).mono ?_
        rw [HT.out]
        rintro e w1 ⟨rfl, rfl⟩
        go_wp2_with fail
        go_ret2
        exact ⟨rfl, rfl⟩
def dueB (now d : Int) : Bool := timeB now && (timeB d && decide (d ≤ now))
theorem due_any (now d : Int) (w : World) : Calls Tryd.prog 9 #[.int .i64 now, .int .i64 d] w (SameB w (dueB now d)) := by
  unfold dueB
  cases ht : timeB now
  · have HT := Lib.hid ht
    clear ht
    go_enter Tryd.func9, Tryd.ntmps9
    go_wp2_with fail
    refine (time_any _ _).mono ?_
    rw [HT.out]
    rintro e w1 ⟨rfl, rfl⟩
    go_wp2_with fail
    go_ret
    exact ⟨rfl, rfl⟩
  · have HT := Lib.hid ht
    clear ht
    cases hu : timeB d
    · have HU := Lib.hid hu
      clear hu
      go_enter Tryd.func9, Tryd.ntmps9
      go_wp2_with fail
      refine (time_any _ _).mono ?_
      rw [HT.out]
      rintro e w1 ⟨rfl, rfl⟩
      go_wp2_with fail
      refine (time_any _ _).mono ?_
      rw [HU.out]
      rintro e w1 ⟨rfl, rfl⟩
      go_wp2_with fail
      go_ret
      exact ⟨rfl, rfl⟩
    · have HU := Lib.hid hu
      clear hu
      go_enter Tryd.func9, Tryd.ntmps9
      go_wp2_with fail
      refine (time_any _ _).mono ?_
      rw [HT.out]
      rintro e w1 ⟨rfl, rfl⟩
      go_wp2_with fail
      refine (time_any _ _).mono ?_
      rw [HU.out]
      rintro e w1 ⟨rfl, rfl⟩
      go_wp2_with fail
      go_ret
      exact ⟨rfl, rfl⟩
def leftN (now d : Int) : Int := if (timeB now && timeB d) = true then max (d - now) 0 else -1
def NumPost (w : World) (n : Int) (e : Ending) (w' : World) : Prop := e = .returned (.int .i64 n) ∧ w = w'
end Go.Proofs.YtjganindmklaaaaDoor
