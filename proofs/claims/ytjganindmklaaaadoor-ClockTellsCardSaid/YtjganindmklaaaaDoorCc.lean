/- clock: wakes; the laws ClockSums, ClockDue, walked. Conditions: the table of letters reads as laid; numbers read. -/
import Derived.Test.YtjganindmklaaaaDoorCb
namespace Go.Proofs.YtjganindmklaaaaDoor
open Go.ChangeShapes Go.WideShapes Go.ChangeAt Go.RowKit
set_option linter.unusedVariables false
def eS : ByteArray := ⟨#[]⟩
theorem intTerm (w : World) (n : Int) (hn : -9223372036854775808 ≤ n ∧ n ≤ 9223372036854775807) : TermV 0 w (.agg #[.int .i8 0, .int .i64 n, .string ⟨#[]⟩, .string ⟨#[]⟩, .slice none 0 0]) (.mk 0 n eS eS []) :=
  ⟨⟨(by omega : (-128 : Int) ≤ 0 ∧ (0 : Int) ≤ 127), hn, (by decide : eS.size ≤ 9223372036854775807), (by decide : eS.size ≤ 9223372036854775807)⟩, _, rfl, none, 0, rfl, Nat.le_refl _, by omega, fun i t h => by cases h⟩
theorem chk_int (n : Int) : chk (.mk 0 n eS eS []) (0, true) = (1, mayI n) := by
  have he : empty eS = true := by decide +kernel
  simp [chk, chkL, oneB, bareB, he]
theorem checkN_int (n : Int) : checkN (.mk 0 n eS eS []) = if mayI n = false then 30 else 0 := by simp [checkN, chk_int]
set_option maxHeartbeats 1000000 in
theorem wakes_any (w : World) (hw : Cells w 0 letL) : Calls Tryd.prog 8 #[] w (IsPost w true) := by
  have e1 : turnB 5 3 = true := by decide +kernel
  have e2 : turnN 5 3 = 8 := by decide +kernel
  have e3 : turnB 5 0 = false := by decide +kernel
  have e4 : turnN 5 0 = 5 := by decide +kernel
  have e5 : deadN 5 (.mk 0 10 eS eS []) = (15, 0) := by
    have h1 : timeB 5 = true := by decide +kernel
    have h2 : mayI 10 = true := by decide +kernel
    simp [deadN, h1, checkN_int, h2, Tm.k, Tm.n, Tm.s]
    decide
  have e6 : dueB 15 15 = true := by decide +kernel
  have e7 : dueB 14 15 = false := by decide +kernel
  have H1 := Lib.hid e1
  have H2 := Lib.hid e2
  have H3 := Lib.hid e3
  have H4 := Lib.hid e4
  have H5 := Lib.hid e5
  have H6 := Lib.hid e6
  have H7 := Lib.hid e7
  clear e1 e2 e3 e4 e5 e6 e7
  go_enter Tryd.func8, Tryd.ntmps8
  go_wp2_with fail
  refine (turn_any 5 3 _).mono ?_
  rw [H1.out, H2.out]
  rintro e w1 ⟨rfl, rfl⟩
  go_wp2_with fail
  refine (turn_any 5 0 _).mono ?_
  rw [H3.out, H4.out]
  rintro e w1 ⟨rfl, rfl⟩
  go_wp2_with fail
  refine (dead_any 5 0 (.mk 0 10 eS eS []) _ w hw (intTerm w 10 (by omega))).mono ?_
  rw [H5.out]
  rintro e w2 ⟨rfl, hb2⟩
  go_wp2_with fail
  refine (due_any 15 15 _).mono ?_
  rw [H6.out]
  rintro e w1 ⟨rfl, rfl⟩
  go_wp2_with fail
  refine (due_any 14 15 _).mono ?_
  rw [H7.out]
  rintro e w1 ⟨rfl, rfl⟩
  go_wp2_with fail
  go_ret
  exact ⟨rfl, hb2⟩
set_option maxHeartbeats 4000000 in
theorem sums_any (now a b : Int) (w : World) (hw : Cells w 0 letL) : Calls Tryd.prog 3 #[.int .i64 now, .int .i64 a, .int .i64 b] w (IsPost w true) := by
  cases hA : turnB now a
  · have hx : turnN now a = now := by simp [turnN, hA]
    cases hB : turnB now b
    · have hy : turnN now b = now := by simp [turnN, hB]
      have hC : 1 ≤ a → 1 ≤ b → a ≤ 1099511627776 → b ≤ 1099511627776 → turnB now (a + b) = false ∧ turnN now (a + b) = now := by
        intro p1 p2 p3 p4
        have : turnB now (a + b) = false := by
          rw [Bool.eq_false_iff]; intro h; rw [Bool.eq_false_iff] at hA; apply hA
          simp [turnB] at h ⊢
          obtain ⟨p5, p6⟩ := h
          exact ⟨p5, by omega⟩
        exact ⟨this, by simp [turnN, this]⟩
      by_cases h1 : a < 1
      · have d1 : decide (a < 1) = true := by simpa using h1
        have H1 := Lib.hid hA
        have H2 := Lib.hid hx
        have H3 := Lib.hid hB
        have H4 := Lib.hid hy
        clear hA hx hB hy
        go_enter Tryd.func3, Tryd.ntmps3
        go_wp2_with fail
        refine (turn_any _ _ _).mono ?_
        rw [H1.out, H2.out]
        rintro e w1 ⟨rfl, rfl⟩
        go_wp2_with fail
        refine (turn_any _ _ _).mono ?_
        rw [H3.out, H4.out]
        rintro e w1 ⟨rfl, rfl⟩
        go_wp2_with fail
        refine (wakes_any w hw).mono ?_
        rintro e w2 ⟨rfl, hb2⟩
        go_wp2_with fail
        go_ret
        exact ⟨rfl, hb2⟩
      have d1 : decide (a < 1) = false := by simpa using h1
      by_cases h2 : b < 1
      · have d2 : decide (b < 1) = true := by simpa using h2
        have H1 := Lib.hid hA
        have H2 := Lib.hid hx
        have H3 := Lib.hid hB
        have H4 := Lib.hid hy
        clear hA hx hB hy
        go_enter Tryd.func3, Tryd.ntmps3
        go_wp2_with fail
        refine (turn_any _ _ _).mono ?_
        rw [H1.out, H2.out]
        rintro e w1 ⟨rfl, rfl⟩
        go_wp2_with fail
        refine (turn_any _ _ _).mono ?_
        rw [H3.out, H4.out]
        rintro e w1 ⟨rfl, rfl⟩
        go_wp2_with fail
        refine (wakes_any w hw).mono ?_
        rintro e w2 ⟨rfl, hb2⟩
        go_wp2_with fail
        go_ret
        exact ⟨rfl, hb2⟩
      have d2 : decide (b < 1) = false := by simpa using h2
      by_cases h3 : 1099511627776 < a
      · have d3 : decide (1099511627776 < a) = true := by simpa using h3
        have H1 := Lib.hid hA
        have H2 := Lib.hid hx
        have H3 := Lib.hid hB
        have H4 := Lib.hid hy
        clear hA hx hB hy
        go_enter Tryd.func3, Tryd.ntmps3
        go_wp2_with fail
        refine (turn_any _ _ _).mono ?_
        rw [H1.out, H2.out]
        rintro e w1 ⟨rfl, rfl⟩
        go_wp2_with fail
        refine (turn_any _ _ _).mono ?_
        rw [H3.out, H4.out]
        rintro e w1 ⟨rfl, rfl⟩
        go_wp2_with fail
        refine (wakes_any w hw).mono ?_
        rintro e w2 ⟨rfl, hb2⟩
        go_wp2_with fail
        go_ret
        exact ⟨rfl, hb2⟩
      have d3 : decide (1099511627776 < a) = false := by simpa using h3
      by_cases h4 : 1099511627776 < b
      · have d4 : decide (1099511627776 < b) = true := by simpa using h4
        have H1 := Lib.hid hA
        have H2 := Lib.hid hx
        have H3 := Lib.hid hB
        have H4 := Lib.hid hy
        clear hA hx hB hy
        go_enter Tryd.func3, Tryd.ntmps3
        go_wp2_with fail
        refine (turn_any _ _ _).mono ?_
        rw [H1.out, H2.out]
        rintro e w1 ⟨rfl, rfl⟩
        go_wp2_with fail
        refine (turn_any _ _ _).mono ?_
        rw [H3.out, H4.out]
        rintro e w1 ⟨rfl, rfl⟩
        go_wp2_with fail
        refine (wakes_any w hw).mono ?_
        rintro e w2 ⟨rfl, hb2⟩
        go_wp2_with fail
        go_ret
        exact ⟨rfl, hb2⟩
      have d4 : decide (1099511627776 < b) = false := by simpa using h4
      have H5 := Lib.hid (hC (by omega) (by omega) (by omega) (by omega))
      clear hC
      have i1 : 1 ≤ a := by omega
      have i2 : a ≤ 1099511627776 := by omega
      have i3 : 1 ≤ b := by omega
      have i4 : b ≤ 1099511627776 := by omega
      have H1 := Lib.hid hA
      have H2 := Lib.hid hx
      have H3 := Lib.hid hB
      have H4 := Lib.hid hy
      clear hA hx hB hy
      go_enter Tryd.func3, Tryd.ntmps3
      go_wp2_with fail
      refine (turn_any _ _ _).mono ?_
      rw [H1.out, H2.out]
      rintro e w1 ⟨rfl, rfl⟩
      go_wp2_with fail
      refine (turn_any _ _ _).mono ?_
      rw [H3.out, H4.out]
      rintro e w1 ⟨rfl, rfl⟩
      go_wp2_with fail
      refine (turn_any _ _ _).mono ?_
      rw [H5.out.1, H5.out.2]
      rintro e w1 ⟨rfl, rfl⟩
      go_wp2_with fail
      refine (wakes_any w hw).mono ?_
      rintro e w2 ⟨rfl, hb2⟩
      go_wp2_with fail
      go_ret
      exact ⟨rfl, hb2⟩
    · have hy : turnN now b = now + b := by simp [turnN, hB]
      have hb1 : (0 ≤ now ∧ now ≤ 1099511627776) ∧ 1 ≤ b ∧ b ≤ 1099511627776 - now := by
        have h := hB
        simp [turnB] at h
        exact ⟨timeB_t h.1, h.2⟩
      obtain ⟨⟨n1, n2⟩, n3, n4⟩ := hb1
      have n5 : decide (now + b < now) = false := by simp; omega
      have hC : 1 ≤ a → 1 ≤ b → a ≤ 1099511627776 → b ≤ 1099511627776 → turnB now (a + b) = false ∧ turnN now (a + b) = now := by
        intro p1 p2 p3 p4
        have : turnB now (a + b) = false := by
          rw [Bool.eq_false_iff]; intro h; rw [Bool.eq_false_iff] at hA; apply hA
          simp [turnB] at h ⊢
          obtain ⟨p5, p6⟩ := h
          exact ⟨p5, by omega⟩
        exact ⟨this, by simp [turnN, this]⟩
      by_cases h1 : a < 1
      · have d1 : decide (a < 1) = true := by simpa using h1
        have H1 := Lib.hid hA
        have H2 := Lib.hid hx
        have H3 := Lib.hid hB
        have H4 := Lib.hid hy
        clear hA hx hB hy
        go_enter Tryd.func3, Tryd.ntmps3
        go_wp2_with fail
        refine (turn_any _ _ _).mono ?_
        rw [H1.out, H2.out]
        rintro e w1 ⟨rfl, rfl⟩
        go_wp2_with fail
        refine (turn_any _ _ _).mono ?_
        rw [H3.out, H4.out]
        rintro e w1 ⟨rfl, rfl⟩
        go_wp2_with fail
        refine (wakes_any w hw).mono ?_
        rintro e w2 ⟨rfl, hb2⟩
        go_wp2_with fail
        go_ret
        exact ⟨rfl, hb2⟩
      have d1 : decide (a < 1) = false := by simpa using h1
      by_cases h2 : b < 1
      · have d2 : decide (b < 1) = true := by simpa using h2
        have H1 := Lib.hid hA
        have H2 := Lib.hid hx
        have H3 := Lib.hid hB
        have H4 := Lib.hid hy
        clear hA hx hB hy
        go_enter Tryd.func3, Tryd.ntmps3
        go_wp2_with fail
        refine (turn_any _ _ _).mono ?_
        rw [H1.out, H2.out]
        rintro e w1 ⟨rfl, rfl⟩
        go_wp2_with fail
        refine (turn_any _ _ _).mono ?_
        rw [H3.out, H4.out]
        rintro e w1 ⟨rfl, rfl⟩
        go_wp2_with fail
        refine (wakes_any w hw).mono ?_
        rintro e w2 ⟨rfl, hb2⟩
        go_wp2_with fail
        go_ret
        exact ⟨rfl, hb2⟩
      have d2 : decide (b < 1) = false := by simpa using h2
      by_cases h3 : 1099511627776 < a
      · have d3 : decide (1099511627776 < a) = true := by simpa using h3
        have H1 := Lib.hid hA
        have H2 := Lib.hid hx
        have H3 := Lib.hid hB
        have H4 := Lib.hid hy
        clear hA hx hB hy
        go_enter Tryd.func3, Tryd.ntmps3
        go_wp2_with fail
        refine (turn_any _ _ _).mono ?_
        rw [H1.out, H2.out]
        rintro e w1 ⟨rfl, rfl⟩
        go_wp2_with fail
        refine (turn_any _ _ _).mono ?_
        rw [H3.out, H4.out]
        rintro e w1 ⟨rfl, rfl⟩
        go_wp2_with fail
        refine (wakes_any w hw).mono ?_
        rintro e w2 ⟨rfl, hb2⟩
        go_wp2_with fail
        go_ret
        exact ⟨rfl, hb2⟩
      have d3 : decide (1099511627776 < a) = false := by simpa using h3
      by_cases h4 : 1099511627776 < b
      · have d4 : decide (1099511627776 < b) = true := by simpa using h4
        have H1 := Lib.hid hA
        have H2 := Lib.hid hx
        have H3 := Lib.hid hB
        have H4 := Lib.hid hy
        clear hA hx hB hy
        go_enter Tryd.func3, Tryd.ntmps3
        go_wp2_with fail
        refine (turn_any _ _ _).mono ?_
        rw [H1.out, H2.out]
        rintro e w1 ⟨rfl, rfl⟩
        go_wp2_with fail
        refine (turn_any _ _ _).mono ?_
        rw [H3.out, H4.out]
        rintro e w1 ⟨rfl, rfl⟩
        go_wp2_with fail
        refine (wakes_any w hw).mono ?_
        rintro e w2 ⟨rfl, hb2⟩
        go_wp2_with fail
        go_ret
        exact ⟨rfl, hb2⟩
      have d4 : decide (1099511627776 < b) = false := by simpa using h4
      have H5 := Lib.hid (hC (by omega) (by omega) (by omega) (by omega))
      clear hC
      have i1 : 1 ≤ a := by omega
      have i2 : a ≤ 1099511627776 := by omega
      have i3 : 1 ≤ b := by omega
      have i4 : b ≤ 1099511627776 := by omega
      have H1 := Lib.hid hA
      have H2 := Lib.hid hx
      have H3 := Lib.hid hB
      have H4 := Lib.hid hy
      clear hA hx hB hy
      go_enter Tryd.func3, Tryd.ntmps3
      go_wp2_with fail
      refine (turn_any _ _ _).mono ?_
      rw [H1.out, H2.out]
      rintro e w1 ⟨rfl, rfl⟩
      go_wp2_with fail
      refine (turn_any _ _ _).mono ?_
      rw [H3.out, H4.out]
      rintro e w1 ⟨rfl, rfl⟩
      go_wp2_with fail
      refine (turn_any _ _ _).mono ?_
      rw [H5.out.1, H5.out.2]
      rintro e w1 ⟨rfl, rfl⟩
      go_wp2_with fail
      refine (wakes_any w hw).mono ?_
      rintro e w2 ⟨rfl, hb2⟩
      go_wp2_with fail
      go_ret
      exact ⟨rfl, hb2⟩
  · have hx : turnN now a = now + a := by simp [turnN, hA]
    have ha1 : (0 ≤ now ∧ now ≤ 1099511627776) ∧ 1 ≤ a ∧ a ≤ 1099511627776 - now := by
      have h := hA
      simp [turnB] at h
      exact ⟨timeB_t h.1, h.2⟩
    obtain ⟨⟨n1, n2⟩, n3, n4⟩ := ha1
    cases hB : turnB (now + a) b
    · have hy : turnN (now + a) b = now + a := by simp [turnN, hB]
      have hC : 1 ≤ a → 1 ≤ b → a ≤ 1099511627776 → b ≤ 1099511627776 → turnB now (a + b) = false ∧ turnN now (a + b) = now := by
        intro p1 p2 p3 p4
        have : turnB now (a + b) = false := by
          rw [Bool.eq_false_iff]; intro h; rw [Bool.eq_false_iff] at hB; apply hB
          simp [turnB] at h ⊢
          exact ⟨timeB_mk (by omega), by omega⟩
        exact ⟨this, by simp [turnN, this]⟩
      by_cases h1 : a < 1
      · have d1 : decide (a < 1) = true := by simpa using h1
        have H1 := Lib.hid hA
        have H2 := Lib.hid hx
        have H3 := Lib.hid hB
        have H4 := Lib.hid hy
        clear hA hx hB hy
        go_enter Tryd.func3, Tryd.ntmps3
        go_wp2_with fail
        refine (turn_any _ _ _).mono ?_
        rw [H1.out, H2.out]
        rintro e w1 ⟨rfl, rfl⟩
        go_wp2_with fail
        refine (turn_any _ _ _).mono ?_
        rw [H3.out, H4.out]
        rintro e w1 ⟨rfl, rfl⟩
        go_wp2_with fail
        refine (wakes_any w hw).mono ?_
        rintro e w2 ⟨rfl, hb2⟩
        go_wp2_with fail
        go_ret
        exact ⟨rfl, hb2⟩
      have d1 : decide (a < 1) = false := by simpa using h1
      by_cases h2 : b < 1
      · have d2 : decide (b < 1) = true := by simpa using h2
        have H1 := Lib.hid hA
        have H2 := Lib.hid hx
        have H3 := Lib.hid hB
        have H4 := Lib.hid hy
        clear hA hx hB hy
        go_enter Tryd.func3, Tryd.ntmps3
        go_wp2_with fail
        refine (turn_any _ _ _).mono ?_
        rw [H1.out, H2.out]
        rintro e w1 ⟨rfl, rfl⟩
        go_wp2_with fail
        refine (turn_any _ _ _).mono ?_
        rw [H3.out, H4.out]
        rintro e w1 ⟨rfl, rfl⟩
        go_wp2_with fail
        refine (wakes_any w hw).mono ?_
        rintro e w2 ⟨rfl, hb2⟩
        go_wp2_with fail
        go_ret
        exact ⟨rfl, hb2⟩
      have d2 : decide (b < 1) = false := by simpa using h2
      by_cases h3 : 1099511627776 < a
      · have d3 : decide (1099511627776 < a) = true := by simpa using h3
        have H1 := Lib.hid hA
        have H2 := Lib.hid hx
        have H3 := Lib.hid hB
        have H4 := Lib.hid hy
        clear hA hx hB hy
        go_enter Tryd.func3, Tryd.ntmps3
        go_wp2_with fail
        refine (turn_any _ _ _).mono ?_
        rw [H1.out, H2.out]
        rintro e w1 ⟨rfl, rfl⟩
        go_wp2_with fail
        refine (turn_any _ _ _).mono ?_
        rw [H3.out, H4.out]
        rintro e w1 ⟨rfl, rfl⟩
        go_wp2_with fail
        refine (wakes_any w hw).mono ?_
        rintro e w2 ⟨rfl, hb2⟩
        go_wp2_with fail
        go_ret
        exact ⟨rfl, hb2⟩
      have d3 : decide (1099511627776 < a) = false := by simpa using h3
      by_cases h4 : 1099511627776 < b
      · have d4 : decide (1099511627776 < b) = true := by simpa using h4
        have H1 := Lib.hid hA
        have H2 := Lib.hid hx
        have H3 := Lib.hid hB
        have H4 := Lib.hid hy
        clear hA hx hB hy
        go_enter Tryd.func3, Tryd.ntmps3
        go_wp2_with fail
        refine (turn_any _ _ _).mono ?_
        rw [H1.out, H2.out]
        rintro e w1 ⟨rfl, rfl⟩
        go_wp2_with fail
        refine (turn_any _ _ _).mono ?_
        rw [H3.out, H4.out]
        rintro e w1 ⟨rfl, rfl⟩
        go_wp2_with fail
        refine (wakes_any w hw).mono ?_
        rintro e w2 ⟨rfl, hb2⟩
        go_wp2_with fail
        go_ret
        exact ⟨rfl, hb2⟩
      have d4 : decide (1099511627776 < b) = false := by simpa using h4
      have H5 := Lib.hid (hC (by omega) (by omega) (by omega) (by omega))
      clear hC
      have i1 : 1 ≤ a := by omega
      have i2 : a ≤ 1099511627776 := by omega
      have i3 : 1 ≤ b := by omega
      have i4 : b ≤ 1099511627776 := by omega
      have H1 := Lib.hid hA
      have H2 := Lib.hid hx
      have H3 := Lib.hid hB
      have H4 := Lib.hid hy
      clear hA hx hB hy
      go_enter Tryd.func3, Tryd.ntmps3
      go_wp2_with fail
      refine (turn_any _ _ _).mono ?_
      rw [H1.out, H2.out]
      rintro e w1 ⟨rfl, rfl⟩
      go_wp2_with fail
      refine (turn_any _ _ _).mono ?_
      rw [H3.out, H4.out]
      rintro e w1 ⟨rfl, rfl⟩
      go_wp2_with fail
      refine (turn_any _ _ _).mono ?_
      rw [H5.out.1, H5.out.2]
      rintro e w1 ⟨rfl, rfl⟩
      go_wp2_with fail
      refine (wakes_any w hw).mono ?_
      rintro e w2 ⟨rfl, hb2⟩
      go_wp2_with fail
      go_ret
      exact ⟨rfl, hb2⟩
    · have hy : turnN (now + a) b = now + a + b := by simp [turnN, hB]
      have hb1 : 1 ≤ b ∧ b ≤ 1099511627776 - (now + a) := by
        have h := hB
        simp [turnB] at h
        exact h.2
      obtain ⟨n5, n6⟩ := hb1
      have n7 : decide (now + a + b < now + a) = false := by simp; omega
      have hC : 1 ≤ a → 1 ≤ b → a ≤ 1099511627776 → b ≤ 1099511627776 → turnB now (a + b) = true ∧ turnN now (a + b) = now + a + b := by
        intro p1 p2 p3 p4
        have : turnB now (a + b) = true := by
          simp [turnB]
          exact ⟨timeB_mk (by omega), by omega⟩
        exact ⟨this, by simp [turnN, this]; omega⟩
      by_cases h1 : a < 1
      · have d1 : decide (a < 1) = true := by simpa using h1
        have H1 := Lib.hid hA
        have H2 := Lib.hid hx
        have H3 := Lib.hid hB
        have H4 := Lib.hid hy
        clear hA hx hB hy
        go_enter Tryd.func3, Tryd.ntmps3
        go_wp2_with fail
        refine (turn_any _ _ _).mono ?_
        rw [H1.out, H2.out]
        rintro e w1 ⟨rfl, rfl⟩
        go_wp2_with fail
        refine (turn_any _ _ _).mono ?_
        rw [H3.out, H4.out]
        rintro e w1 ⟨rfl, rfl⟩
        go_wp2_with fail
        refine (wakes_any w hw).mono ?_
        rintro e w2 ⟨rfl, hb2⟩
        go_wp2_with fail
        go_ret
        exact ⟨rfl, hb2⟩
      have d1 : decide (a < 1) = false := by simpa using h1
      by_cases h2 : b < 1
      · have d2 : decide (b < 1) = true := by simpa using h2
        have H1 := Lib.hid hA
        have H2 := Lib.hid hx
        have H3 := Lib.hid hB
        have H4 := Lib.hid hy
        clear hA hx hB hy
        go_enter Tryd.func3, Tryd.ntmps3
        go_wp2_with fail
        refine (turn_any _ _ _).mono ?_
        rw [H1.out, H2.out]
        rintro e w1 ⟨rfl, rfl⟩
        go_wp2_with fail
        refine (turn_any _ _ _).mono ?_
        rw [H3.out, H4.out]
        rintro e w1 ⟨rfl, rfl⟩
        go_wp2_with fail
        refine (wakes_any w hw).mono ?_
        rintro e w2 ⟨rfl, hb2⟩
        go_wp2_with fail
        go_ret
        exact ⟨rfl, hb2⟩
      have d2 : decide (b < 1) = false := by simpa using h2
      by_cases h3 : 1099511627776 < a
      · have d3 : decide (1099511627776 < a) = true := by simpa using h3
        have H1 := Lib.hid hA
        have H2 := Lib.hid hx
        have H3 := Lib.hid hB
        have H4 := Lib.hid hy
        clear hA hx hB hy
        go_enter Tryd.func3, Tryd.ntmps3
        go_wp2_with fail
        refine (turn_any _ _ _).mono ?_
        rw [H1.out, H2.out]
        rintro e w1 ⟨rfl, rfl⟩
        go_wp2_with fail
        refine (turn_any _ _ _).mono ?_
        rw [H3.out, H4.out]
        rintro e w1 ⟨rfl, rfl⟩
        go_wp2_with fail
        refine (wakes_any w hw).mono ?_
        rintro e w2 ⟨rfl, hb2⟩
        go_wp2_with fail
        go_ret
        exact ⟨rfl, hb2⟩
      have d3 : decide (1099511627776 < a) = false := by simpa using h3
      by_cases h4 : 1099511627776 < b
      · have d4 : decide (1099511627776 < b) = true := by simpa using h4
        have H1 := Lib.hid hA
        have H2 := Lib.hid hx
        have H3 := Lib.hid hB
        have H4 := Lib.hid hy
        clear hA hx hB hy
        go_enter Tryd.func3, Tryd.ntmps3
        go_wp2_with fail
        refine (turn_any _ _ _).mono ?_
        rw [H1.out, H2.out]
        rintro e w1 ⟨rfl, rfl⟩
        go_wp2_with fail
        refine (turn_any _ _ _).mono ?_
        rw [H3.out, H4.out]
        rintro e w1 ⟨rfl, rfl⟩
        go_wp2_with fail
        refine (wakes_any w hw).mono ?_
        rintro e w2 ⟨rfl, hb2⟩
        go_wp2_with fail
        go_ret
        exact ⟨rfl, hb2⟩
      have d4 : decide (1099511627776 < b) = false := by simpa using h4
      have H5 := Lib.hid (hC (by omega) (by omega) (by omega) (by omega))
      clear hC
      have i1 : 1 ≤ a := by omega
      have i2 : a ≤ 1099511627776 := by omega
      have i3 : 1 ≤ b := by omega
      have i4 : b ≤ 1099511627776 := by omega
      have H1 := Lib.hid hA
      have H2 := Lib.hid hx
      have H3 := Lib.hid hB
      have H4 := Lib.hid hy
      clear hA hx hB hy
      go_enter Tryd.func3, Tryd.ntmps3
      go_wp2_with fail
      refine (turn_any _ _ _).mono ?_
      rw [H1.out, H2.out]
      rintro e w1 ⟨rfl, rfl⟩
      go_wp2_with fail
      refine (turn_any _ _ _).mono ?_
      rw [H3.out, H4.out]
      rintro e w1 ⟨rfl, rfl⟩
      go_wp2_with fail
      refine (turn_any _ _ _).mono ?_
      rw [H5.out.1, H5.out.2]
      rintro e w1 ⟨rfl, rfl⟩
      go_wp2_with fail
      refine (wakes_any w hw).mono ?_
      rintro e w2 ⟨rfl, hb2⟩
      go_wp2_with fail
      go_ret
      exact ⟨rfl, hb2⟩
end Go.Proofs.YtjganindmklaaaaDoor
