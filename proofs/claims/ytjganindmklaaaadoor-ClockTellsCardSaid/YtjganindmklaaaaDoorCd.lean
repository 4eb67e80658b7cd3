/- The law ClockDue, walked. Conditions: the table of letters reads as laid; numbers read. -/
import Derived.Test.YtjganindmklaaaaDoorCc
namespace Go.Proofs.YtjganindmklaaaaDoor
open Go.ChangeShapes Go.WideShapes Go.ChangeAt Go.RowKit
set_option linter.unusedVariables false
theorem due_t {now d : Int} (h : dueB now d = true) : (0 ≤ now ∧ now ≤ 1099511627776) ∧ 0 ≤ d ∧ d ≤ now := by
  simp [dueB] at h
  have := timeB_t h.1
  have := timeB_t h.2.1
  omega
theorem due_mk {now d : Int} (h0 : 0 ≤ d) (h1 : d ≤ now) (h2 : now ≤ 1099511627776) : dueB now d = true := by
  simp [dueB]
  exact ⟨timeB_mk (by omega), timeB_mk (by omega), h1⟩
theorem due_late {now d : Int} (h : now < d) : dueB now d = false := by
  rw [Bool.eq_false_iff]
  intro e
  have := due_t e
  omega
theorem turn_t {now k : Int} (h : turnB now k = true) : (0 ≤ now ∧ now ≤ 1099511627776) ∧ 1 ≤ k ∧ k ≤ 1099511627776 - now ∧ turnN now k = now + k := by
  have e : turnN now k = now + k := by simp [turnN, h]
  simp [turnB] at h
  exact ⟨timeB_t h.1, h.2.1, h.2.2, e⟩
theorem turn_f {now k : Int} (h : turnB now k = false) : turnN now k = now := by simp [turnN, h]
theorem turn_mk {now k : Int} (h0 : 0 ≤ now) (h1 : 1 ≤ k) (h2 : k ≤ 1099511627776 - now) : turnB now k = true := by
  simp [turnB]
  exact ⟨timeB_mk (by omega), h1, h2⟩
theorem turn_small {now k : Int} (h : k < 1) : turnB now k = false := by simp [turnB]; omega
/-- how far a deadline is -/
theorem left_cases (now d : Int) : (leftN now d = -1 ∧ dueB now d = false) ∨ (leftN now d = 0 ∧ dueB now d = true) ∨ (leftN now d = 1 ∧ d = now + 1 ∧ 0 ≤ now ∧ d ≤ 1099511627776) ∨ (∃ k : Int, 2 ≤ k ∧ leftN now d = k ∧ d = now + k ∧ 0 ≤ now ∧ d ≤ 1099511627776) := by
  cases h1 : timeB now
  · exact .inl ⟨by simp [leftN, h1], by simp [dueB, h1]⟩
  · cases h2 : timeB d
    · exact .inl ⟨by simp [leftN, h2], by simp [dueB, h2]⟩
    · have a1 := timeB_t h1
      have a2 := timeB_t h2
      have e : leftN now d = max (d - now) 0 := by simp [leftN, h1, h2]
      rcases Int.lt_or_le now d with h | h
      · by_cases h3 : d = now + 1
        · exact .inr (.inr (.inl ⟨by rw [e]; omega, h3, by omega, by omega⟩))
        · exact .inr (.inr (.inr ⟨d - now, by omega, by rw [e]; omega, by omega, by omega, by omega⟩))
      · exact .inr (.inl ⟨by rw [e]; omega, due_mk (by omega) h (by omega)⟩)
theorem dead_cases (now x : Int) : (deadN now (.mk 0 x eS eS [])).2 = 2 ∨ (x = 0 ∧ deadN now (.mk 0 x eS eS []) = (now, 0) ∧ 0 ≤ now ∧ now ≤ 1099511627776) ∨ (1 ≤ x ∧ deadN now (.mk 0 x eS eS []) = (now, 0) ∧ 0 ≤ now ∧ now ≤ 1099511627776) ∨
    (∃ d : Int, 1 ≤ x ∧ deadN now (.mk 0 x eS eS []) = (d, 0) ∧ now < d ∧ d ≤ 1099511627776 ∧ 0 ≤ now) := by
  have hE : deadN now (.mk 0 x eS eS []) = if timeB now = false ∨ checkN (.mk 0 x eS eS []) ≠ 0 then (0, 2) else if 0 ≤ x then (now + min x (1099511627776 - now), 0) else (0, 2) := by
    simp [deadN, Tm.k, Tm.n, Tm.s]
  by_cases h1 : timeB now = false ∨ checkN (.mk 0 x eS eS []) ≠ 0
  · left; rw [hE, if_pos h1]
  · rw [if_neg h1] at hE
    have ht : timeB now = true := by
      cases h : timeB now
      · exact absurd (.inl h) h1
      · rfl
    have := timeB_t ht
    by_cases h2 : 0 ≤ x
    · rw [if_pos h2] at hE
      by_cases h3 : x = 0
      · exact .inr (.inl ⟨h3, by rw [hE]; congr 1; omega, by omega, by omega⟩)
      · by_cases h4 : now = 1099511627776
        · exact .inr (.inr (.inl ⟨by omega, by rw [hE]; congr 1; omega, by omega, by omega⟩))
        · exact .inr (.inr (.inr ⟨now + min x (1099511627776 - now), by omega, hE, by omega, by omega, by omega⟩))
    · left; rw [hE, if_neg h2]
set_option maxRecDepth 100000 in
set_option maxHeartbeats 2000000 in
theorem due_nf_a (now k d x : Int) (hx : -9223372036854775808 ≤ x ∧ x ≤ 9223372036854775807) (w : World) (hw : Cells w 0 letL) (hf : turnB now k = false) (hl : leftN now d = -1 ∧ dueB now d = false) :
    Calls Tryd.prog 4 #[.int .i64 now, .int .i64 k, .int .i64 d, .int .i64 x] w (IsPost w true) := by
  have HX := Lib.hid hx
  clear hx
  have HB := Lib.hid hf
  have HN := Lib.hid (turn_f hf)
  have HL := Lib.hid hl.1
  have HD := Lib.hid hl.2
  clear hf hl
  have HKW := Lib.hid (fun (W : World) (hb : Below w.heap.size w W) => keepCells hw hb)
  rcases dead_cases now x with hd | hd | hd | hd
  · have HDC := Lib.hid hd
    generalize hg : deadN now (.mk 0 x eS eS []) = dv
    have HG := Lib.hid hg
    obtain ⟨dv1, dv2⟩ := dv
    have hdv : dv2 = 2 := by have := HDC.out; rw [HG.out] at this; exact this
    subst hdv
    clear hg hd
    go_enter Tryd.func4, Tryd.ntmps4
    go_wp2_with fail
    refine (turn_any _ _ _).mono ?_
    rw [HB.out, HN.out]
    rintro e w1 ⟨rfl, rfl⟩
    go_wp2_with fail
    refine (left_any _ _ _).mono ?_
    rw [HL.out]
    rintro e w1 ⟨rfl, rfl⟩
    go_wp2_with fail
    refine (due_any _ _ _).mono ?_
    rw [HD.out]
    rintro e w1 ⟨rfl, rfl⟩
    go_wp2_with fail
    refine (dead_any _ 0 (.mk 0 x eS eS []) _ w hw (intTerm w x HX.out)).mono ?_
    rw [HG.out]
    rintro e w2 ⟨rfl, hb2⟩
    go_wp2_with fail
    refine (wakes_any w2 (HKW.out _ hb2)).mono ?_
    rintro e w3 ⟨rfl, hb3⟩
    go_wp2_with fail
    go_ret
    exact ⟨rfl, hb2.trans (hb3.mono hb2.size)⟩
  · have HDC := Lib.hid hd
    obtain ⟨hx0, hg, g1, g2⟩ := hd
    have HG := Lib.hid hg
    have HE := Lib.hid (due_mk (now := now) (d := now) g1 (by omega) g2)
    subst hx0
    clear hg
    go_enter Tryd.func4, Tryd.ntmps4
    go_wp2_with fail
    refine (turn_any _ _ _).mono ?_
    rw [HB.out, HN.out]
    rintro e w1 ⟨rfl, rfl⟩
    go_wp2_with fail
    refine (left_any _ _ _).mono ?_
    rw [HL.out]
    rintro e w1 ⟨rfl, rfl⟩
    go_wp2_with fail
    refine (due_any _ _ _).mono ?_
    rw [HD.out]
    rintro e w1 ⟨rfl, rfl⟩
    go_wp2_with fail
    refine (dead_any _ 0 (.mk 0 0 eS eS []) _ w hw (intTerm w 0 HX.out)).mono ?_
    rw [HG.out]
    rintro e w2 ⟨rfl, hb2⟩
    go_wp2_with fail
    refine (due_any _ _ _).mono ?_
    rw [HE.out]
    rintro e w1 ⟨rfl, rfl⟩
    go_wp2_with fail
    refine (wakes_any w2 (HKW.out _ hb2)).mono ?_
    rintro e w3 ⟨rfl, hb3⟩
    go_wp2_with fail
    go_ret
    exact ⟨rfl, hb2.trans (hb3.mono hb2.size)⟩
  · have HDC := Lib.hid hd
    obtain ⟨hx0, hg, g1, g2⟩ := hd
    have HG := Lib.hid hg
    have t1 : (x != 0) = true := by simp; omega
    have t2 : decide (x < 1) = false := by simp; omega
    clear hg
    go_enter Tryd.func4, Tryd.ntmps4
    go_wp2_with fail
    refine (turn_any _ _ _).mono ?_
    rw [HB.out, HN.out]
    rintro e w1 ⟨rfl, rfl⟩
    go_wp2_with fail
    refine (left_any _ _ _).mono ?_
    rw [HL.out]
    rintro e w1 ⟨rfl, rfl⟩
    go_wp2_with fail
    refine (due_any _ _ _).mono ?_
    rw [HD.out]
    rintro e w1 ⟨rfl, rfl⟩
    go_wp2_with fail
    refine (dead_any _ 0 (.mk 0 x eS eS []) _ w hw (intTerm w x HX.out)).mono ?_
    rw [HG.out]
    rintro e w2 ⟨rfl, hb2⟩
    go_wp2_with fail
    refine (wakes_any w2 (HKW.out _ hb2)).mono ?_
    rintro e w3 ⟨rfl, hb3⟩
    go_wp2_with fail
    go_ret
    exact ⟨rfl, hb2.trans (hb3.mono hb2.size)⟩
  · have HDC := Lib.hid hd
    obtain ⟨dv, hx0, hg, g1, g2, g3⟩ := hd
    have HG := Lib.hid hg
    have t1 : (x != 0) = true := by simp; omega
    have t2 : decide (x < 1) = false := by simp; omega
    have t3 : (dv == now) = false := by simp; omega
    have t4 : decide (now ≤ dv) = true := by simp; omega
    have HE := Lib.hid (due_late (now := now) (d := dv) g1)
    clear hg
    go_enter Tryd.func4, Tryd.ntmps4
    go_wp2_with fail
    refine (turn_any _ _ _).mono ?_
    rw [HB.out, HN.out]
    rintro e w1 ⟨rfl, rfl⟩
    go_wp2_with fail
    refine (left_any _ _ _).mono ?_
    rw [HL.out]
    rintro e w1 ⟨rfl, rfl⟩
    go_wp2_with fail
    refine (due_any _ _ _).mono ?_
    rw [HD.out]
    rintro e w1 ⟨rfl, rfl⟩
    go_wp2_with fail
    refine (dead_any _ 0 (.mk 0 x eS eS []) _ w hw (intTerm w x HX.out)).mono ?_
    rw [HG.out]
    rintro e w2 ⟨rfl, hb2⟩
    go_wp2_with fail
    refine (due_any _ _ _).mono ?_
    rw [HE.out]
    rintro e w1 ⟨rfl, rfl⟩
    go_wp2_with fail
    refine (wakes_any w2 (HKW.out _ hb2)).mono ?_
    rintro e w3 ⟨rfl, hb3⟩
    go_wp2_with fail
    go_ret
    exact ⟨rfl, hb2.trans (hb3.mono hb2.size)⟩
set_option maxRecDepth 100000 in
set_option maxHeartbeats 2000000 in
theorem due_nf_b (now k d x : Int) (hx : -9223372036854775808 ≤ x ∧ x ≤ 9223372036854775807) (w : World) (hw : Cells w 0 letL) (hf : turnB now k = false) (hl : leftN now d = 0 ∧ dueB now d = true) :
    Calls Tryd.prog 4 #[.int .i64 now, .int .i64 k, .int .i64 d, .int .i64 x] w (IsPost w true) := by
  have HX := Lib.hid hx
  clear hx
  have HB := Lib.hid hf
  have HN := Lib.hid (turn_f hf)
  have HL := Lib.hid hl.1
  have HD := Lib.hid hl.2
  clear hf hl
  have HKW := Lib.hid (fun (W : World) (hb : Below w.heap.size w W) => keepCells hw hb)
  rcases dead_cases now x with hd | hd | hd | hd
  · have HDC := Lib.hid hd
    generalize hg : deadN now (.mk 0 x eS eS []) = dv
    have HG := Lib.hid hg
    obtain ⟨dv1, dv2⟩ := dv
    have hdv : dv2 = 2 := by have := HDC.out; rw [HG.out] at this; exact this
    subst hdv
    clear hg hd
    go_enter Tryd.func4, Tryd.ntmps4
    go_wp2_with fail
    refine (turn_any _ _ _).mono ?_
    rw [HB.out, HN.out]
    rintro e w1 ⟨rfl, rfl⟩
    go_wp2_with fail
    refine (left_any _ _ _).mono ?_
    rw [HL.out]
    rintro e w1 ⟨rfl, rfl⟩
    go_wp2_with fail
    refine (due_any _ _ _).mono ?_
    rw [HD.out]
    rintro e w1 ⟨rfl, rfl⟩
    go_wp2_with fail
    refine (dead_any _ 0 (.mk 0 x eS eS []) _ w hw (intTerm w x HX.out)).mono ?_
    rw [HG.out]
    rintro e w2 ⟨rfl, hb2⟩
    go_wp2_with fail
    refine (wakes_any w2 (HKW.out _ hb2)).mono ?_
    rintro e w3 ⟨rfl, hb3⟩
    go_wp2_with fail
    go_ret
    exact ⟨rfl, hb2.trans (hb3.mono hb2.size)⟩
  · have HDC := Lib.hid hd
    obtain ⟨hx0, hg, g1, g2⟩ := hd
    have HG := Lib.hid hg
    have HE := Lib.hid (due_mk (now := now) (d := now) g1 (by omega) g2)
    subst hx0
    clear hg
    go_enter Tryd.func4, Tryd.ntmps4
    go_wp2_with fail
    refine (turn_any _ _ _).mono ?_
    rw [HB.out, HN.out]
    rintro e w1 ⟨rfl, rfl⟩
    go_wp2_with fail
    refine (left_any _ _ _).mono ?_
    rw [HL.out]
    rintro e w1 ⟨rfl, rfl⟩
    go_wp2_with fail
    refine (due_any _ _ _).mono ?_
    rw [HD.out]
    rintro e w1 ⟨rfl, rfl⟩
    go_wp2_with fail
    refine (dead_any _ 0 (.mk 0 0 eS eS []) _ w hw (intTerm w 0 HX.out)).mono ?_
    rw [HG.out]
    rintro e w2 ⟨rfl, hb2⟩
    go_wp2_with fail
    refine (due_any _ _ _).mono ?_
    rw [HE.out]
    rintro e w1 ⟨rfl, rfl⟩
    go_wp2_with fail
    refine (wakes_any w2 (HKW.out _ hb2)).mono ?_
    rintro e w3 ⟨rfl, hb3⟩
    go_wp2_with fail
    go_ret
    exact ⟨rfl, hb2.trans (hb3.mono hb2.size)⟩
  · have HDC := Lib.hid hd
    obtain ⟨hx0, hg, g1, g2⟩ := hd
    have HG := Lib.hid hg
    have t1 : (x != 0) = true := by simp; omega
    have t2 : decide (x < 1) = false := by simp; omega
    clear hg
    go_enter Tryd.func4, Tryd.ntmps4
    go_wp2_with fail
    refine (turn_any _ _ _).mono ?_
    rw [HB.out, HN.out]
    rintro e w1 ⟨rfl, rfl⟩
    go_wp2_with fail
    refine (left_any _ _ _).mono ?_
    rw [HL.out]
    rintro e w1 ⟨rfl, rfl⟩
    go_wp2_with fail
    refine (due_any _ _ _).mono ?_
    rw [HD.out]
    rintro e w1 ⟨rfl, rfl⟩
    go_wp2_with fail
    refine (dead_any _ 0 (.mk 0 x eS eS []) _ w hw (intTerm w x HX.out)).mono ?_
    rw [HG.out]
    rintro e w2 ⟨rfl, hb2⟩
    go_wp2_with fail
    refine (wakes_any w2 (HKW.out _ hb2)).mono ?_
    rintro e w3 ⟨rfl, hb3⟩
    go_wp2_with fail
    go_ret
    exact ⟨rfl, hb2.trans (hb3.mono hb2.size)⟩
  · have HDC := Lib.hid hd
    obtain ⟨dv, hx0, hg, g1, g2, g3⟩ := hd
    have HG := Lib.hid hg
    have t1 : (x != 0) = true := by simp; omega
    have t2 : decide (x < 1) = false := by simp; omega
    have t3 : (dv == now) = false := by simp; omega
    have t4 : decide (now ≤ dv) = true := by simp; omega
    have HE := Lib.hid (due_late (now := now) (d := dv) g1)
    clear hg
    go_enter Tryd.func4, Tryd.ntmps4
    go_wp2_with fail
    refine (turn_any _ _ _).mono ?_
    rw [HB.out, HN.out]
    rintro e w1 ⟨rfl, rfl⟩
    go_wp2_with fail
    refine (left_any _ _ _).mono ?_
    rw [HL.out]
    rintro e w1 ⟨rfl, rfl⟩
    go_wp2_with fail
    refine (due_any _ _ _).mono ?_
    rw [HD.out]
    rintro e w1 ⟨rfl, rfl⟩
    go_wp2_with fail
    refine (dead_any _ 0 (.mk 0 x eS eS []) _ w hw (intTerm w x HX.out)).mono ?_
    rw [HG.out]
    rintro e w2 ⟨rfl, hb2⟩
    go_wp2_with fail
    refine (due_any _ _ _).mono ?_
    rw [HE.out]
    rintro e w1 ⟨rfl, rfl⟩
    go_wp2_with fail
    refine (wakes_any w2 (HKW.out _ hb2)).mono ?_
    rintro e w3 ⟨rfl, hb3⟩
    go_wp2_with fail
    go_ret
    exact ⟨rfl, hb2.trans (hb3.mono hb2.size)⟩
set_option maxRecDepth 100000 in
set_option maxHeartbeats 2000000 in
theorem due_nf_c (now k d x : Int) (hx : -9223372036854775808 ≤ x ∧ x ≤ 9223372036854775807) (w : World) (hw : Cells w 0 letL) (hf : turnB now k = false) (hl : leftN now d = 1 ∧ d = now + 1 ∧ 0 ≤ now ∧ d ≤ 1099511627776) :
    Calls Tryd.prog 4 #[.int .i64 now, .int .i64 k, .int .i64 d, .int .i64 x] w (IsPost w true) := by
  have HX := Lib.hid hx
  clear hx
  have HB := Lib.hid hf
  have HN := Lib.hid (turn_f hf)
  obtain ⟨l1, l2, l3, l4⟩ := hl
  have HL := Lib.hid l1
  have HD := Lib.hid (due_late (now := now) (d := d) (by omega))
  have hb1 := turn_mk (now := now) (k := 1) l3 (by omega) (by omega)
  have HB1 := Lib.hid hb1
  have HN1 := Lib.hid (((turn_t hb1).2.2.2).trans l2.symm)
  have HDD := Lib.hid (due_mk (now := d) (d := d) (by omega) (by omega) l4)
  have HB2 := Lib.hid (turn_small (now := now) (k := 0) (by omega))
  have HN2 := Lib.hid (turn_f HB2.out)
  have L2 := Lib.hid l2
  clear l1 l2 hb1
  clear hf
  have HKW := Lib.hid (fun (W : World) (hb : Below w.heap.size w W) => keepCells hw hb)
  rcases dead_cases now x with hd | hd | hd | hd
  · have HDC := Lib.hid hd
    generalize hg : deadN now (.mk 0 x eS eS []) = dv
    have HG := Lib.hid hg
    obtain ⟨dv1, dv2⟩ := dv
    have hdv : dv2 = 2 := by have := HDC.out; rw [HG.out] at this; exact this
    subst hdv
    clear hg hd
    go_enter Tryd.func4, Tryd.ntmps4
    go_wp2_with fail
    refine (turn_any _ _ _).mono ?_
    rw [HB.out, HN.out]
    rintro e w1 ⟨rfl, rfl⟩
    go_wp2_with fail
    refine (left_any _ _ _).mono ?_
    rw [HL.out]
    rintro e w1 ⟨rfl, rfl⟩
    go_wp2_with fail
    refine (due_any _ _ _).mono ?_
    rw [HD.out]
    rintro e w1 ⟨rfl, rfl⟩
    go_wp2_with fail
    refine (turn_any _ _ _).mono ?_
    rw [HB1.out, HN1.out]
    rintro e w1 ⟨rfl, rfl⟩
    go_wp2_with fail
    refine (due_any _ _ _).mono ?_
    rw [HDD.out]
    rintro e w1 ⟨rfl, rfl⟩
    go_wp2_with fail
    refine (turn_any _ _ _).mono ?_
    rw [HB2.out, HN2.out]
    rintro e w1 ⟨rfl, rfl⟩
    go_wp2_with fail
    refine (dead_any _ 0 (.mk 0 x eS eS []) _ w hw (intTerm w x HX.out)).mono ?_
    rw [HG.out]
    rintro e w2 ⟨rfl, hb2⟩
    go_wp2_with fail
    refine (wakes_any w2 (HKW.out _ hb2)).mono ?_
    rintro e w3 ⟨rfl, hb3⟩
    go_wp2_with fail
    go_ret
    exact ⟨rfl, hb2.trans (hb3.mono hb2.size)⟩
  · have HDC := Lib.hid hd
    obtain ⟨hx0, hg, g1, g2⟩ := hd
    have HG := Lib.hid hg
    have HE := Lib.hid (due_mk (now := now) (d := now) g1 (by omega) g2)
    subst hx0
    clear hg
    go_enter Tryd.func4, Tryd.ntmps4
    go_wp2_with fail
    refine (turn_any _ _ _).mono ?_
    rw [HB.out, HN.out]
    rintro e w1 ⟨rfl, rfl⟩
    go_wp2_with fail
    refine (left_any _ _ _).mono ?_
    rw [HL.out]
    rintro e w1 ⟨rfl, rfl⟩
    go_wp2_with fail
    refine (due_any _ _ _).mono ?_
    rw [HD.out]
    rintro e w1 ⟨rfl, rfl⟩
    go_wp2_with fail
    refine (turn_any _ _ _).mono ?_
    rw [HB1.out, HN1.out]
    rintro e w1 ⟨rfl, rfl⟩
    go_wp2_with fail
    refine (due_any _ _ _).mono ?_
    rw [HDD.out]
    rintro e w1 ⟨rfl, rfl⟩
    go_wp2_with fail
    refine (turn_any _ _ _).mono ?_
    rw [HB2.out, HN2.out]
    rintro e w1 ⟨rfl, rfl⟩
    go_wp2_with fail
    refine (dead_any _ 0 (.mk 0 0 eS eS []) _ w hw (intTerm w 0 HX.out)).mono ?_
    rw [HG.out]
    rintro e w2 ⟨rfl, hb2⟩
    go_wp2_with fail
    refine (due_any _ _ _).mono ?_
    rw [HE.out]
    rintro e w1 ⟨rfl, rfl⟩
    go_wp2_with fail
    refine (wakes_any w2 (HKW.out _ hb2)).mono ?_
    rintro e w3 ⟨rfl, hb3⟩
    go_wp2_with fail
    go_ret
    exact ⟨rfl, hb2.trans (hb3.mono hb2.size)⟩
  · have HDC := Lib.hid hd
    obtain ⟨hx0, hg, g1, g2⟩ := hd
    have HG := Lib.hid hg
    have t1 : (x != 0) = true := by simp; omega
    have t2 : decide (x < 1) = false := by simp; omega
    clear hg
    go_enter Tryd.func4, Tryd.ntmps4
    go_wp2_with fail
    refine (turn_any _ _ _).mono ?_
    rw [HB.out, HN.out]
    rintro e w1 ⟨rfl, rfl⟩
    go_wp2_with fail
    refine (left_any _ _ _).mono ?_
    rw [HL.out]
    rintro e w1 ⟨rfl, rfl⟩
    go_wp2_with fail
    refine (due_any _ _ _).mono ?_
    rw [HD.out]
    rintro e w1 ⟨rfl, rfl⟩
    go_wp2_with fail
    refine (turn_any _ _ _).mono ?_
    rw [HB1.out, HN1.out]
    rintro e w1 ⟨rfl, rfl⟩
    go_wp2_with fail
    refine (due_any _ _ _).mono ?_
    rw [HDD.out]
    rintro e w1 ⟨rfl, rfl⟩
    go_wp2_with fail
    refine (turn_any _ _ _).mono ?_
    rw [HB2.out, HN2.out]
    rintro e w1 ⟨rfl, rfl⟩
    go_wp2_with fail
    refine (dead_any _ 0 (.mk 0 x eS eS []) _ w hw (intTerm w x HX.out)).mono ?_
    rw [HG.out]
    rintro e w2 ⟨rfl, hb2⟩
    go_wp2_with fail
    refine (wakes_any w2 (HKW.out _ hb2)).mono ?_
    rintro e w3 ⟨rfl, hb3⟩
    go_wp2_with fail
    go_ret
    exact ⟨rfl, hb2.trans (hb3.mono hb2.size)⟩
  · have HDC := Lib.hid hd
    obtain ⟨dv, hx0, hg, g1, g2, g3⟩ := hd
    have HG := Lib.hid hg
    have t1 : (x != 0) = true := by simp; omega
    have t2 : decide (x < 1) = false := by simp; omega
    have t3 : (dv == now) = false := by simp; omega
    have t4 : decide (now ≤ dv) = true := by simp; omega
    have HE := Lib.hid (due_late (now := now) (d := dv) g1)
    clear hg
    go_enter Tryd.func4, Tryd.ntmps4
    go_wp2_with fail
    refine (turn_any _ _ _).mono ?_
    rw [HB.out, HN.out]
    rintro e w1 ⟨rfl, rfl⟩
    go_wp2_with fail
    refine (left_any _ _ _).mono ?_
    rw [HL.out]
    rintro e w1 ⟨rfl, rfl⟩
    go_wp2_with fail
    refine (due_any _ _ _).mono ?_
    rw [HD.out]
    rintro e w1 ⟨rfl, rfl⟩
    go_wp2_with fail
    refine (turn_any _ _ _).mono ?_
    rw [HB1.out, HN1.out]
    rintro e w1 ⟨rfl, rfl⟩
    go_wp2_with fail
    refine (due_any _ _ _).mono ?_
    rw [HDD.out]
    rintro e w1 ⟨rfl, rfl⟩
    go_wp2_with fail
    refine (turn_any _ _ _).mono ?_
    rw [HB2.out, HN2.out]
    rintro e w1 ⟨rfl, rfl⟩
    go_wp2_with fail
    refine (dead_any _ 0 (.mk 0 x eS eS []) _ w hw (intTerm w x HX.out)).mono ?_
    rw [HG.out]
    rintro e w2 ⟨rfl, hb2⟩
    go_wp2_with fail
    refine (due_any _ _ _).mono ?_
    rw [HE.out]
    rintro e w1 ⟨rfl, rfl⟩
    go_wp2_with fail
    refine (wakes_any w2 (HKW.out _ hb2)).mono ?_
    rintro e w3 ⟨rfl, hb3⟩
    go_wp2_with fail
    go_ret
    exact ⟨rfl, hb2.trans (hb3.mono hb2.size)⟩
set_option maxRecDepth 100000 in
set_option maxHeartbeats 2000000 in
theorem due_nf_e (now k d x q : Int) (hx : -9223372036854775808 ≤ x ∧ x ≤ 9223372036854775807) (w : World) (hw : Cells w 0 letL) (hf : turnB now k = false) (hl : 2 ≤ q ∧ leftN now d = q ∧ d = now + q ∧ 0 ≤ now ∧ d ≤ 1099511627776) :
    Calls Tryd.prog 4 #[.int .i64 now, .int .i64 k, .int .i64 d, .int .i64 x] w (IsPost w true) := by
  have HX := Lib.hid hx
  clear hx
  have HB := Lib.hid hf
  have HN := Lib.hid (turn_f hf)
  obtain ⟨l0, l1, l2, l3, l4⟩ := hl
  have HL := Lib.hid l1
  have HD := Lib.hid (due_late (now := now) (d := d) (by omega))
  have hb1 := turn_mk (now := now) (k := q) l3 (by omega) (by omega)
  have HB1 := Lib.hid hb1
  have HN1 := Lib.hid (((turn_t hb1).2.2.2).trans l2.symm)
  have HDD := Lib.hid (due_mk (now := d) (d := d) (by omega) (by omega) l4)
  have HB2 := Lib.hid (turn_mk (now := now) (k := q - 1) l3 (by omega) (by omega))
  have HN2 := Lib.hid ((turn_t HB2.out).2.2.2)
  have HDL := Lib.hid (due_late (now := now + (q - 1)) (d := d) (by omega))
  have d2 : decide (0 < q) = true := by simp; omega
  have d3 : decide (0 ≤ q) = true := by simp; omega
  have d4 : (q == 0) = false := by simp; omega
  have d5 : decide (q < 0) = false := by simp; omega
  have l5 : q ≤ 1099511627776 := by omega
  have L2 := Lib.hid l2
  clear l1 l2 hb1
  clear hf
  have HKW := Lib.hid (fun (W : World) (hb : Below w.heap.size w W) => keepCells hw hb)
  rcases dead_cases now x with hd | hd | hd | hd
  · have HDC := Lib.hid hd
    generalize hg : deadN now (.mk 0 x eS eS []) = dv
    have HG := Lib.hid hg
    obtain ⟨dv1, dv2⟩ := dv
    have hdv : dv2 = 2 := by have := HDC.out; rw [HG.out] at this; exact this
    subst hdv
    clear hg hd
    go_enter Tryd.func4, Tryd.ntmps4
    go_wp2_with fail
    refine (turn_any _ _ _).mono ?_
    rw [HB.out, HN.out]
    rintro e w1 ⟨rfl, rfl⟩
    go_wp2_with fail
    refine (left_any _ _ _).mono ?_
    rw [HL.out]
    rintro e w1 ⟨rfl, rfl⟩
    go_wp2_with fail
    refine (due_any _ _ _).mono ?_
    rw [HD.out]
    rintro e w1 ⟨rfl, rfl⟩
    go_wp2_with fail
    refine (turn_any _ _ _).mono ?_
    rw [HB1.out, HN1.out]
    rintro e w1 ⟨rfl, rfl⟩
    go_wp2_with fail
    refine (due_any _ _ _).mono ?_
    rw [HDD.out]
    rintro e w1 ⟨rfl, rfl⟩
    go_wp2_with fail
    refine (turn_any _ _ _).mono ?_
    rw [HB2.out, HN2.out]
    rintro e w1 ⟨rfl, rfl⟩
    go_wp2_with fail
    refine (due_any _ _ _).mono ?_
    rw [HDL.out]
    rintro e w1 ⟨rfl, rfl⟩
    go_wp2_with fail
    refine (dead_any _ 0 (.mk 0 x eS eS []) _ w hw (intTerm w x HX.out)).mono ?_
    rw [HG.out]
    rintro e w2 ⟨rfl, hb2⟩
    go_wp2_with fail
    refine (wakes_any w2 (HKW.out _ hb2)).mono ?_
    rintro e w3 ⟨rfl, hb3⟩
    go_wp2_with fail
    go_ret
    exact ⟨rfl, hb2.trans (hb3.mono hb2.size)⟩
  · have HDC := Lib.hid hd
    obtain ⟨hx0, hg, g1, g2⟩ := hd
    have HG := Lib.hid hg
    have HE := Lib.hid (due_mk (now := now) (d := now) g1 (by omega) g2)
    subst hx0
    clear hg
    go_enter Tryd.func4, Tryd.ntmps4
    go_wp2_with fail
    refine (turn_any _ _ _).mono ?_
    rw [HB.out, HN.out]
    rintro e w1 ⟨rfl, rfl⟩
    go_wp2_with fail
    refine (left_any _ _ _).mono ?_
    rw [HL.out]
    rintro e w1 ⟨rfl, rfl⟩
    go_wp2_with fail
    refine (due_any _ _ _).mono ?_
    rw [HD.out]
    rintro e w1 ⟨rfl, rfl⟩
    go_wp2_with fail
    refine (turn_any _ _ _).mono ?_
    rw [HB1.out, HN1.out]
    rintro e w1 ⟨rfl, rfl⟩
    go_wp2_with fail
    refine (due_any _ _ _).mono ?_
    rw [HDD.out]
    rintro e w1 ⟨rfl, rfl⟩
    go_wp2_with fail
    refine (turn_any _ _ _).mono ?_
    rw [HB2.out, HN2.out]
    rintro e w1 ⟨rfl, rfl⟩
    go_wp2_with fail
    refine (due_any _ _ _).mono ?_
    rw [HDL.out]
    rintro e w1 ⟨rfl, rfl⟩
    go_wp2_with fail
    refine (dead_any _ 0 (.mk 0 0 eS eS []) _ w hw (intTerm w 0 HX.out)).mono ?_
    rw [HG.out]
    rintro e w2 ⟨rfl, hb2⟩
    go_wp2_with fail
    refine (due_any _ _ _).mono ?_
    rw [HE.out]
    rintro e w1 ⟨rfl, rfl⟩
    go_wp2_with fail
    refine (wakes_any w2 (HKW.out _ hb2)).mono ?_
    rintro e w3 ⟨rfl, hb3⟩
    go_wp2_with fail
    go_ret
    exact ⟨rfl, hb2.trans (hb3.mono hb2.size)⟩
  · have HDC := Lib.hid hd
    obtain ⟨hx0, hg, g1, g2⟩ := hd
    have HG := Lib.hid hg
    have t1 : (x != 0) = true := by simp; omega
    have t2 : decide (x < 1) = false := by simp; omega
    clear hg
    go_enter Tryd.func4, Tryd.ntmps4
    go_wp2_with fail
    refine (turn_any _ _ _).mono ?_
    rw [HB.out, HN.out]
    rintro e w1 ⟨rfl, rfl⟩
    go_wp2_with fail
    refine (left_any _ _ _).mono ?_
    rw [HL.out]
    rintro e w1 ⟨rfl, rfl⟩
    go_wp2_with fail
    refine (due_any _ _ _).mono ?_
    rw [HD.out]
    rintro e w1 ⟨rfl, rfl⟩
    go_wp2_with fail
    refine (turn_any _ _ _).mono ?_
    rw [HB1.out, HN1.out]
    rintro e w1 ⟨rfl, rfl⟩
    go_wp2_with fail
    refine (due_any _ _ _).mono ?_
    rw [HDD.out]
    rintro e w1 ⟨rfl, rfl⟩
    go_wp2_with fail
    refine (turn_any _ _ _).mono ?_
    rw [HB2.out, HN2.out]
    rintro e w1 ⟨rfl, rfl⟩
    go_wp2_with fail
    refine (due_any _ _ _).mono ?_
    rw [HDL.out]
    rintro e w1 ⟨rfl, rfl⟩
    go_wp2_with fail
    refine (dead_any _ 0 (.mk 0 x eS eS []) _ w hw (intTerm w x HX.out)).mono ?_
    rw [HG.out]
    rintro e w2 ⟨rfl, hb2⟩
    go_wp2_with fail
    refine (wakes_any w2 (HKW.out _ hb2)).mono ?_
    rintro e w3 ⟨rfl, hb3⟩
    go_wp2_with fail
    go_ret
    exact ⟨rfl, hb2.trans (hb3.mono hb2.size)⟩
  · have HDC := Lib.hid hd
    obtain ⟨dv, hx0, hg, g1, g2, g3⟩ := hd
    have HG := Lib.hid hg
    have t1 : (x != 0) = true := by simp; omega
    have t2 : decide (x < 1) = false := by simp; omega
    have t3 : (dv == now) = false := by simp; omega
    have t4 : decide (now ≤ dv) = true := by simp; omega
    have HE := Lib.hid (due_late (now := now) (d := dv) g1)
    clear hg
    go_enter Tryd.func4, Tryd.ntmps4
    go_wp2_with fail
    refine (turn_any _ _ _).mono ?_
    rw [HB.out, HN.out]
    rintro e w1 ⟨rfl, rfl⟩
    go_wp2_with fail
    refine (left_any _ _ _).mono ?_
    rw [HL.out]
    rintro e w1 ⟨rfl, rfl⟩
    go_wp2_with fail
    refine (due_any _ _ _).mono ?_
    rw [HD.out]
    rintro e w1 ⟨rfl, rfl⟩
    go_wp2_with fail
    refine (turn_any _ _ _).mono ?_
    rw [HB1.out, HN1.out]
    rintro e w1 ⟨rfl, rfl⟩
    go_wp2_with fail
    refine (due_any _ _ _).mono ?_
    rw [HDD.out]
    rintro e w1 ⟨rfl, rfl⟩
    go_wp2_with fail
    refine (turn_any _ _ _).mono ?_
    rw [HB2.out, HN2.out]
    rintro e w1 ⟨rfl, rfl⟩
    go_wp2_with fail
    refine (due_any _ _ _).mono ?_
    rw [HDL.out]
    rintro e w1 ⟨rfl, rfl⟩
    go_wp2_with fail
    refine (dead_any _ 0 (.mk 0 x eS eS []) _ w hw (intTerm w x HX.out)).mono ?_
    rw [HG.out]
    rintro e w2 ⟨rfl, hb2⟩
    go_wp2_with fail
    refine (due_any _ _ _).mono ?_
    rw [HE.out]
    rintro e w1 ⟨rfl, rfl⟩
    go_wp2_with fail
    refine (wakes_any w2 (HKW.out _ hb2)).mono ?_
    rintro e w3 ⟨rfl, hb3⟩
    go_wp2_with fail
    go_ret
    exact ⟨rfl, hb2.trans (hb3.mono hb2.size)⟩
set_option maxRecDepth 100000 in
set_option maxHeartbeats 2000000 in
theorem due_nd_a (now k d x : Int) (hx : -9223372036854775808 ≤ x ∧ x ≤ 9223372036854775807) (w : World) (hw : Cells w 0 letL) (hf : turnB now k = true ∧ dueB now d = false) (hl : leftN now d = -1 ∧ dueB now d = false) :
    Calls Tryd.prog 4 #[.int .i64 now, .int .i64 k, .int .i64 d, .int .i64 x] w (IsPost w true) := by
  have HX := Lib.hid hx
  clear hx
  have HB := Lib.hid hf.1
  obtain ⟨⟨f1, f2⟩, f3, f4, f5⟩ := turn_t hf.1
  have HN := Lib.hid f5
  clear f5
  have HL := Lib.hid hl.1
  have HD := Lib.hid hl.2
  clear hf hl
  have HKW := Lib.hid (fun (W : World) (hb : Below w.heap.size w W) => keepCells hw hb)
  rcases dead_cases now x with hd | hd | hd | hd
  · have HDC := Lib.hid hd
    generalize hg : deadN now (.mk 0 x eS eS []) = dv
    have HG := Lib.hid hg
    obtain ⟨dv1, dv2⟩ := dv
    have hdv : dv2 = 2 := by have := HDC.out; rw [HG.out] at this; exact this
    subst hdv
    clear hg hd
    go_enter Tryd.func4, Tryd.ntmps4
    go_wp2_with fail
    refine (turn_any _ _ _).mono ?_
    rw [HB.out, HN.out]
    rintro e w1 ⟨rfl, rfl⟩
    go_wp2_with fail
    refine (due_any _ _ _).mono ?_
    rw [HD.out]
    rintro e w1 ⟨rfl, rfl⟩
    go_wp2_with fail
    refine (left_any _ _ _).mono ?_
    rw [HL.out]
    rintro e w1 ⟨rfl, rfl⟩
    go_wp2_with fail
    refine (due_any _ _ _).mono ?_
    rw [HD.out]
    rintro e w1 ⟨rfl, rfl⟩
    go_wp2_with fail
    refine (dead_any _ 0 (.mk 0 x eS eS []) _ w hw (intTerm w x HX.out)).mono ?_
    rw [HG.out]
    rintro e w2 ⟨rfl, hb2⟩
    go_wp2_with fail
    refine (wakes_any w2 (HKW.out _ hb2)).mono ?_
    rintro e w3 ⟨rfl, hb3⟩
    go_wp2_with fail
    go_ret
    exact ⟨rfl, hb2.trans (hb3.mono hb2.size)⟩
  · have HDC := Lib.hid hd
    obtain ⟨hx0, hg, g1, g2⟩ := hd
    have HG := Lib.hid hg
    have HE := Lib.hid (due_mk (now := now) (d := now) g1 (by omega) g2)
    subst hx0
    clear hg
    go_enter Tryd.func4, Tryd.ntmps4
    go_wp2_with fail
    refine (turn_any _ _ _).mono ?_
    rw [HB.out, HN.out]
    rintro e w1 ⟨rfl, rfl⟩
    go_wp2_with fail
    refine (due_any _ _ _).mono ?_
    rw [HD.out]
    rintro e w1 ⟨rfl, rfl⟩
    go_wp2_with fail
    refine (left_any _ _ _).mono ?_
    rw [HL.out]
    rintro e w1 ⟨rfl, rfl⟩
    go_wp2_with fail
    refine (due_any _ _ _).mono ?_
    rw [HD.out]
    rintro e w1 ⟨rfl, rfl⟩
    go_wp2_with fail
    refine (dead_any _ 0 (.mk 0 0 eS eS []) _ w hw (intTerm w 0 HX.out)).mono ?_
    rw [HG.out]
    rintro e w2 ⟨rfl, hb2⟩
    go_wp2_with fail
    refine (due_any _ _ _).mono ?_
    rw [HE.out]
    rintro e w1 ⟨rfl, rfl⟩
    go_wp2_with fail
    refine (wakes_any w2 (HKW.out _ hb2)).mono ?_
    rintro e w3 ⟨rfl, hb3⟩
    go_wp2_with fail
    go_ret
    exact ⟨rfl, hb2.trans (hb3.mono hb2.size)⟩
  · have HDC := Lib.hid hd
    obtain ⟨hx0, hg, g1, g2⟩ := hd
    have HG := Lib.hid hg
    have t1 : (x != 0) = true := by simp; omega
    have t2 : decide (x < 1) = false := by simp; omega
    clear hg
    go_enter Tryd.func4, Tryd.ntmps4
    go_wp2_with fail
    refine (turn_any _ _ _).mono ?_
    rw [HB.out, HN.out]
    rintro e w1 ⟨rfl, rfl⟩
    go_wp2_with fail
    refine (due_any _ _ _).mono ?_
    rw [HD.out]
    rintro e w1 ⟨rfl, rfl⟩
    go_wp2_with fail
    refine (left_any _ _ _).mono ?_
    rw [HL.out]
    rintro e w1 ⟨rfl, rfl⟩
    go_wp2_with fail
    refine (due_any _ _ _).mono ?_
    rw [HD.out]
    rintro e w1 ⟨rfl, rfl⟩
    go_wp2_with fail
    refine (dead_any _ 0 (.mk 0 x eS eS []) _ w hw (intTerm w x HX.out)).mono ?_
    rw [HG.out]
    rintro e w2 ⟨rfl, hb2⟩
    go_wp2_with fail
    refine (wakes_any w2 (HKW.out _ hb2)).mono ?_
    rintro e w3 ⟨rfl, hb3⟩
    go_wp2_with fail
    go_ret
    exact ⟨rfl, hb2.trans (hb3.mono hb2.size)⟩
  · have HDC := Lib.hid hd
    obtain ⟨dv, hx0, hg, g1, g2, g3⟩ := hd
    have HG := Lib.hid hg
    have t1 : (x != 0) = true := by simp; omega
    have t2 : decide (x < 1) = false := by simp; omega
    have t3 : (dv == now) = false := by simp; omega
    have t4 : decide (now ≤ dv) = true := by simp; omega
    have HE := Lib.hid (due_late (now := now) (d := dv) g1)
    clear hg
    go_enter Tryd.func4, Tryd.ntmps4
    go_wp2_with fail
    refine (turn_any _ _ _).mono ?_
    rw [HB.out, HN.out]
    rintro e w1 ⟨rfl, rfl⟩
    go_wp2_with fail
    refine (due_any _ _ _).mono ?_
    rw [HD.out]
    rintro e w1 ⟨rfl, rfl⟩
    go_wp2_with fail
    refine (left_any _ _ _).mono ?_
    rw [HL.out]
    rintro e w1 ⟨rfl, rfl⟩
    go_wp2_with fail
    refine (due_any _ _ _).mono ?_
    rw [HD.out]
    rintro e w1 ⟨rfl, rfl⟩
    go_wp2_with fail
    refine (dead_any _ 0 (.mk 0 x eS eS []) _ w hw (intTerm w x HX.out)).mono ?_
    rw [HG.out]
    rintro e w2 ⟨rfl, hb2⟩
    go_wp2_with fail
    refine (due_any _ _ _).mono ?_
    rw [HE.out]
    rintro e w1 ⟨rfl, rfl⟩
    go_wp2_with fail
    refine (wakes_any w2 (HKW.out _ hb2)).mono ?_
    rintro e w3 ⟨rfl, hb3⟩
    go_wp2_with fail
    go_ret
    exact ⟨rfl, hb2.trans (hb3.mono hb2.size)⟩
set_option maxRecDepth 100000 in
set_option maxHeartbeats 2000000 in
theorem due_nd_c (now k d x : Int) (hx : -9223372036854775808 ≤ x ∧ x ≤ 9223372036854775807) (w : World) (hw : Cells w 0 letL) (hf : turnB now k = true ∧ dueB now d = false) (hl : leftN now d = 1 ∧ d = now + 1 ∧ 0 ≤ now ∧ d ≤ 1099511627776) :
    Calls Tryd.prog 4 #[.int .i64 now, .int .i64 k, .int .i64 d, .int .i64 x] w (IsPost w true) := by
  have HX := Lib.hid hx
  clear hx
  have HB := Lib.hid hf.1
  obtain ⟨⟨f1, f2⟩, f3, f4, f5⟩ := turn_t hf.1
  have HN := Lib.hid f5
  clear f5
  obtain ⟨l1, l2, l3, l4⟩ := hl
  have HL := Lib.hid l1
  have HD := Lib.hid (due_late (now := now) (d := d) (by omega))
  have hb1 := turn_mk (now := now) (k := 1) l3 (by omega) (by omega)
  have HB1 := Lib.hid hb1
  have HN1 := Lib.hid (((turn_t hb1).2.2.2).trans l2.symm)
  have HDD := Lib.hid (due_mk (now := d) (d := d) (by omega) (by omega) l4)
  have HB2 := Lib.hid (turn_small (now := now) (k := 0) (by omega))
  have HN2 := Lib.hid (turn_f HB2.out)
  have L2 := Lib.hid l2
  clear l1 l2 hb1
  clear hf
  have HKW := Lib.hid (fun (W : World) (hb : Below w.heap.size w W) => keepCells hw hb)
  rcases dead_cases now x with hd | hd | hd | hd
  · have HDC := Lib.hid hd
    generalize hg : deadN now (.mk 0 x eS eS []) = dv
    have HG := Lib.hid hg
    obtain ⟨dv1, dv2⟩ := dv
    have hdv : dv2 = 2 := by have := HDC.out; rw [HG.out] at this; exact this
    subst hdv
    clear hg hd
    go_enter Tryd.func4, Tryd.ntmps4
    go_wp2_with fail
    refine (turn_any _ _ _).mono ?_
    rw [HB.out, HN.out]
    rintro e w1 ⟨rfl, rfl⟩
    go_wp2_with fail
    refine (due_any _ _ _).mono ?_
    rw [HD.out]
    rintro e w1 ⟨rfl, rfl⟩
    go_wp2_with fail
    refine (left_any _ _ _).mono ?_
    rw [HL.out]
    rintro e w1 ⟨rfl, rfl⟩
    go_wp2_with fail
    refine (due_any _ _ _).mono ?_
    rw [HD.out]
    rintro e w1 ⟨rfl, rfl⟩
    go_wp2_with fail
    refine (turn_any _ _ _).mono ?_
    rw [HB1.out, HN1.out]
    rintro e w1 ⟨rfl, rfl⟩
    go_wp2_with fail
    refine (due_any _ _ _).mono ?_
    rw [HDD.out]
    rintro e w1 ⟨rfl, rfl⟩
    go_wp2_with fail
    refine (turn_any _ _ _).mono ?_
    rw [HB2.out, HN2.out]
    rintro e w1 ⟨rfl, rfl⟩
    go_wp2_with fail
    refine (dead_any _ 0 (.mk 0 x eS eS []) _ w hw (intTerm w x HX.out)).mono ?_
    rw [HG.out]
    rintro e w2 ⟨rfl, hb2⟩
    go_wp2_with fail
    refine (wakes_any w2 (HKW.out _ hb2)).mono ?_
    rintro e w3 ⟨rfl, hb3⟩
    go_wp2_with fail
    go_ret
    exact ⟨rfl, hb2.trans (hb3.mono hb2.size)⟩
  · have HDC := Lib.hid hd
    obtain ⟨hx0, hg, g1, g2⟩ := hd
    have HG := Lib.hid hg
    have HE := Lib.hid (due_mk (now := now) (d := now) g1 (by omega) g2)
    subst hx0
    clear hg
    go_enter Tryd.func4, Tryd.ntmps4
    go_wp2_with fail
    refine (turn_any _ _ _).mono ?_
    rw [HB.out, HN.out]
    rintro e w1 ⟨rfl, rfl⟩
    go_wp2_with fail
    refine (due_any _ _ _).mono ?_
    rw [HD.out]
    rintro e w1 ⟨rfl, rfl⟩
    go_wp2_with fail
    refine (left_any _ _ _).mono ?_
    rw [HL.out]
    rintro e w1 ⟨rfl, rfl⟩
    go_wp2_with fail
    refine (due_any _ _ _).mono ?_
    rw [HD.out]
    rintro e w1 ⟨rfl, rfl⟩
    go_wp2_with fail
    refine (turn_any _ _ _).mono ?_
    rw [HB1.out, HN1.out]
    rintro e w1 ⟨rfl, rfl⟩
    go_wp2_with fail
    refine (due_any _ _ _).mono ?_
    rw [HDD.out]
    rintro e w1 ⟨rfl, rfl⟩
    go_wp2_with fail
    refine (turn_any _ _ _).mono ?_
    rw [HB2.out, HN2.out]
    rintro e w1 ⟨rfl, rfl⟩
    go_wp2_with fail
    refine (dead_any _ 0 (.mk 0 0 eS eS []) _ w hw (intTerm w 0 HX.out)).mono ?_
    rw [HG.out]
    rintro e w2 ⟨rfl, hb2⟩
    go_wp2_with fail
    refine (due_any _ _ _).mono ?_
    rw [HE.out]
    rintro e w1 ⟨rfl, rfl⟩
    go_wp2_with fail
    refine (wakes_any w2 (HKW.out _ hb2)).mono ?_
    rintro e w3 ⟨rfl, hb3⟩
    go_wp2_with fail
    go_ret
    exact ⟨rfl, hb2.trans (hb3.mono hb2.size)⟩
  · have HDC := Lib.hid hd
    obtain ⟨hx0, hg, g1, g2⟩ := hd
    have HG := Lib.hid hg
    have t1 : (x != 0) = true := by simp; omega
    have t2 : decide (x < 1) = false := by simp; omega
    clear hg
    go_enter Tryd.func4, Tryd.ntmps4
    go_wp2_with fail
    refine (turn_any _ _ _).mono ?_
    rw [HB.out, HN.out]
    rintro e w1 ⟨rfl, rfl⟩
    go_wp2_with fail
    refine (due_any _ _ _).mono ?_
    rw [HD.out]
    rintro e w1 ⟨rfl, rfl⟩
    go_wp2_with fail
    refine (left_any _ _ _).mono ?_
    rw [HL.out]
    rintro e w1 ⟨rfl, rfl⟩
    go_wp2_with fail
    refine (due_any _ _ _).mono ?_
    rw [HD.out]
    rintro e w1 ⟨rfl, rfl⟩
    go_wp2_with fail
    refine (turn_any _ _ _).mono ?_
    rw [HB1.out, HN1.out]
    rintro e w1 ⟨rfl, rfl⟩
    go_wp2_with fail
    refine (due_any _ _ _).mono ?_
    rw [HDD.out]
    rintro e w1 ⟨rfl, rfl⟩
    go_wp2_with fail
    refine (turn_any _ _ _).mono ?_
    rw [HB2.out, HN2.out]
    rintro e w1 ⟨rfl, rfl⟩
    go_wp2_with fail
    refine (dead_any _ 0 (.mk 0 x eS eS []) _ w hw (intTerm w x HX.out)).mono ?_
    rw [HG.out]
    rintro e w2 ⟨rfl, hb2⟩
    go_wp2_with fail
    refine (wakes_any w2 (HKW.out _ hb2)).mono ?_
    rintro e w3 ⟨rfl, hb3⟩
    go_wp2_with fail
    go_ret
    exact ⟨rfl, hb2.trans (hb3.mono hb2.size)⟩
  · have HDC := Lib.hid hd
    obtain ⟨dv, hx0, hg, g1, g2, g3⟩ := hd
    have HG := Lib.hid hg
    have t1 : (x != 0) = true := by simp; omega
    have t2 : decide (x < 1) = false := by simp; omega
    have t3 : (dv == now) = false := by simp; omega
    have t4 : decide (now ≤ dv) = true := by simp; omega
    have HE := Lib.hid (due_late (now := now) (d := dv) g1)
    clear hg
    go_enter Tryd.func4, Tryd.ntmps4
    go_wp2_with fail
    refine (turn_any _ _ _).mono ?_
    rw [HB.out, HN.out]
    rintro e w1 ⟨rfl, rfl⟩
    go_wp2_with fail
    refine (due_any _ _ _).mono ?_
    rw [HD.out]
    rintro e w1 ⟨rfl, rfl⟩
    go_wp2_with fail
    refine (left_any _ _ _).mono ?_
    rw [HL.out]
    rintro e w1 ⟨rfl, rfl⟩
    go_wp2_with fail
    refine (due_any _ _ _).mono ?_
    rw [HD.out]
    rintro e w1 ⟨rfl, rfl⟩
    go_wp2_with fail
    refine (turn_any _ _ _).mono ?_
    rw [HB1.out, HN1.out]
    rintro e w1 ⟨rfl, rfl⟩
    go_wp2_with fail
    refine (due_any _ _ _).mono ?_
    rw [HDD.out]
    rintro e w1 ⟨rfl, rfl⟩
    go_wp2_with fail
    refine (turn_any _ _ _).mono ?_
    rw [HB2.out, HN2.out]
    rintro e w1 ⟨rfl, rfl⟩
    go_wp2_with fail
    refine (dead_any _ 0 (.mk 0 x eS eS []) _ w hw (intTerm w x HX.out)).mono ?_
    rw [HG.out]
    rintro e w2 ⟨rfl, hb2⟩
    go_wp2_with fail
    refine (due_any _ _ _).mono ?_
    rw [HE.out]
    rintro e w1 ⟨rfl, rfl⟩
    go_wp2_with fail
    refine (wakes_any w2 (HKW.out _ hb2)).mono ?_
    rintro e w3 ⟨rfl, hb3⟩
    go_wp2_with fail
    go_ret
    exact ⟨rfl, hb2.trans (hb3.mono hb2.size)⟩
set_option maxRecDepth 100000 in
set_option maxHeartbeats 2000000 in
theorem due_nd_e (now k d x q : Int) (hx : -9223372036854775808 ≤ x ∧ x ≤ 9223372036854775807) (w : World) (hw : Cells w 0 letL) (hf : turnB now k = true ∧ dueB now d = false) (hl : 2 ≤ q ∧ leftN now d = q ∧ d = now + q ∧ 0 ≤ now ∧ d ≤ 1099511627776) :
    Calls Tryd.prog 4 #[.int .i64 now, .int .i64 k, .int .i64 d, .int .i64 x] w (IsPost w true) := by
  have HX := Lib.hid hx
  clear hx
  have HB := Lib.hid hf.1
  obtain ⟨⟨f1, f2⟩, f3, f4, f5⟩ := turn_t hf.1
  have HN := Lib.hid f5
  clear f5
  obtain ⟨l0, l1, l2, l3, l4⟩ := hl
  have HL := Lib.hid l1
  have HD := Lib.hid (due_late (now := now) (d := d) (by omega))
  have hb1 := turn_mk (now := now) (k := q) l3 (by omega) (by omega)
  have HB1 := Lib.hid hb1
  have HN1 := Lib.hid (((turn_t hb1).2.2.2).trans l2.symm)
  have HDD := Lib.hid (due_mk (now := d) (d := d) (by omega) (by omega) l4)
  have HB2 := Lib.hid (turn_mk (now := now) (k := q - 1) l3 (by omega) (by omega))
  have HN2 := Lib.hid ((turn_t HB2.out).2.2.2)
  have HDL := Lib.hid (due_late (now := now + (q - 1)) (d := d) (by omega))
  have d2 : decide (0 < q) = true := by simp; omega
  have d3 : decide (0 ≤ q) = true := by simp; omega
  have d4 : (q == 0) = false := by simp; omega
  have d5 : decide (q < 0) = false := by simp; omega
  have l5 : q ≤ 1099511627776 := by omega
  have L2 := Lib.hid l2
  clear l1 l2 hb1
  clear hf
  have HKW := Lib.hid (fun (W : World) (hb : Below w.heap.size w W) => keepCells hw hb)
  rcases dead_cases now x with hd | hd | hd | hd
  · have HDC := Lib.hid hd
    generalize hg : deadN now (.mk 0 x eS eS []) = dv
    have HG := Lib.hid hg
    obtain ⟨dv1, dv2⟩ := dv
    have hdv : dv2 = 2 := by have := HDC.out; rw [HG.out] at this; exact this
    subst hdv
    clear hg hd
    go_enter Tryd.func4, Tryd.ntmps4
    go_wp2_with fail
    refine (turn_any _ _ _).mono ?_
    rw [HB.out, HN.out]
    rintro e w1 ⟨rfl, rfl⟩
    go_wp2_with fail
    refine (due_any _ _ _).mono ?_
    rw [HD.out]
    rintro e w1 ⟨rfl, rfl⟩
    go_wp2_with fail
    refine (left_any _ _ _).mono ?_
    rw [HL.out]
    rintro e w1 ⟨rfl, rfl⟩
    go_wp2_with fail
    refine (due_any _ _ _).mono ?_
    rw [HD.out]
    rintro e w1 ⟨rfl, rfl⟩
    go_wp2_with fail
    refine (turn_any _ _ _).mono ?_
    rw [HB1.out, HN1.out]
    rintro e w1 ⟨rfl, rfl⟩
    go_wp2_with fail
    refine (due_any _ _ _).mono ?_
    rw [HDD.out]
    rintro e w1 ⟨rfl, rfl⟩
    go_wp2_with fail
    refine (turn_any _ _ _).mono ?_
    rw [HB2.out, HN2.out]
    rintro e w1 ⟨rfl, rfl⟩
    go_wp2_with fail
    refine (due_any _ _ _).mono ?_
    rw [HDL.out]
    rintro e w1 ⟨rfl, rfl⟩
    go_wp2_with fail
    refine (dead_any _ 0 (.mk 0 x eS eS []) _ w hw (intTerm w x HX.out)).mono ?_
    rw [HG.out]
    rintro e w2 ⟨rfl, hb2⟩
    go_wp2_with fail
    refine (wakes_any w2 (HKW.out _ hb2)).mono ?_
    rintro e w3 ⟨rfl, hb3⟩
    go_wp2_with fail
    go_ret
    exact ⟨rfl, hb2.trans (hb3.mono hb2.size)⟩
  · have HDC := Lib.hid hd
    obtain ⟨hx0, hg, g1, g2⟩ := hd
    have HG := Lib.hid hg
    have HE := Lib.hid (due_mk (now := now) (d := now) g1 (by omega) g2)
    subst hx0
    clear hg
    go_enter Tryd.func4, Tryd.ntmps4
    go_wp2_with fail
    refine (turn_any _ _ _).mono ?_
    rw [HB.out, HN.out]
    rintro e w1 ⟨rfl, rfl⟩
    go_wp2_with fail
    refine (due_any _ _ _).mono ?_
    rw [HD.out]
    rintro e w1 ⟨rfl, rfl⟩
    go_wp2_with fail
    refine (left_any _ _ _).mono ?_
    rw [HL.out]
    rintro e w1 ⟨rfl, rfl⟩
    go_wp2_with fail
    refine (due_any _ _ _).mono ?_
    rw [HD.out]
    rintro e w1 ⟨rfl, rfl⟩
    go_wp2_with fail
    refine (turn_any _ _ _).mono ?_
    rw [HB1.out, HN1.out]
    rintro e w1 ⟨rfl, rfl⟩
    go_wp2_with fail
    refine (due_any _ _ _).mono ?_
    rw [HDD.out]
    rintro e w1 ⟨rfl, rfl⟩
    go_wp2_with fail
    refine (turn_any _ _ _).mono ?_
    rw [HB2.out, HN2.out]
    rintro e w1 ⟨rfl, rfl⟩
    go_wp2_with fail
    refine (due_any _ _ _).mono ?_
    rw [HDL.out]
    rintro e w1 ⟨rfl, rfl⟩
    go_wp2_with fail
    refine (dead_any _ 0 (.mk 0 0 eS eS []) _ w hw (intTerm w 0 HX.out)).mono ?_
    rw [HG.out]
    rintro e w2 ⟨rfl, hb2⟩
    go_wp2_with fail
    refine (due_any _ _ _).mono ?_
    rw [HE.out]
    rintro e w1 ⟨rfl, rfl⟩
    go_wp2_with fail
    refine (wakes_any w2 (HKW.out _ hb2)).mono ?_
    rintro e w3 ⟨rfl, hb3⟩
    go_wp2_with fail
    go_ret
    exact ⟨rfl, hb2.trans (hb3.mono hb2.size)⟩
  · have HDC := Lib.hid hd
    obtain ⟨hx0, hg, g1, g2⟩ := hd
    have HG := Lib.hid hg
    have t1 : (x != 0) = true := by simp; omega
    have t2 : decide (x < 1) = false := by simp; omega
    clear hg
    go_enter Tryd.func4, Tryd.ntmps4
    go_wp2_with fail
    refine (turn_any _ _ _).mono ?_
    rw [HB.out, HN.out]
    rintro e w1 ⟨rfl, rfl⟩
    go_wp2_with fail
    refine (due_any _ _ _).mono ?_
    rw [HD.out]
    rintro e w1 ⟨rfl, rfl⟩
    go_wp2_with fail
    refine (left_any _ _ _).mono ?_
    rw [HL.out]
    rintro e w1 ⟨rfl, rfl⟩
    go_wp2_with fail
    refine (due_any _ _ _).mono ?_
    rw [HD.out]
    rintro e w1 ⟨rfl, rfl⟩
    go_wp2_with fail
    refine (turn_any _ _ _).mono ?_
    rw [HB1.out, HN1.out]
    rintro e w1 ⟨rfl, rfl⟩
    go_wp2_with fail
    refine (due_any _ _ _).mono ?_
    rw [HDD.out]
    rintro e w1 ⟨rfl, rfl⟩
    go_wp2_with fail
    refine (turn_any _ _ _).mono ?_
    rw [HB2.out, HN2.out]
    rintro e w1 ⟨rfl, rfl⟩
    go_wp2_with fail
    refine (due_any _ _ _).mono ?_
    rw [HDL.out]
    rintro e w1 ⟨rfl, rfl⟩
    go_wp2_with fail
    refine (dead_any _ 0 (.mk 0 x eS eS []) _ w hw (intTerm w x HX.out)).mono ?_
    rw [HG.out]
    rintro e w2 ⟨rfl, hb2⟩
    go_wp2_with fail
    refine (wakes_any w2 (HKW.out _ hb2)).mono ?_
    rintro e w3 ⟨rfl, hb3⟩
    go_wp2_with fail
    go_ret
    exact ⟨rfl, hb2.trans (hb3.mono hb2.size)⟩
  · have HDC := Lib.hid hd
    obtain ⟨dv, hx0, hg, g1, g2, g3⟩ := hd
    have HG := Lib.hid hg
    have t1 : (x != 0) = true := by simp; omega
    have t2 : decide (x < 1) = false := by simp; omega
    have t3 : (dv == now) = false := by simp; omega
    have t4 : decide (now ≤ dv) = true := by simp; omega
    have HE := Lib.hid (due_late (now := now) (d := dv) g1)
    clear hg
    go_enter Tryd.func4, Tryd.ntmps4
    go_wp2_with fail
    refine (turn_any _ _ _).mono ?_
    rw [HB.out, HN.out]
    rintro e w1 ⟨rfl, rfl⟩
    go_wp2_with fail
    refine (due_any _ _ _).mono ?_
    rw [HD.out]
    rintro e w1 ⟨rfl, rfl⟩
    go_wp2_with fail
    refine (left_any _ _ _).mono ?_
    rw [HL.out]
    rintro e w1 ⟨rfl, rfl⟩
    go_wp2_with fail
    refine (due_any _ _ _).mono ?_
    rw [HD.out]
    rintro e w1 ⟨rfl, rfl⟩
    go_wp2_with fail
    refine (turn_any _ _ _).mono ?_
    rw [HB1.out, HN1.out]
    rintro e w1 ⟨rfl, rfl⟩
    go_wp2_with fail
    refine (due_any _ _ _).mono ?_
    rw [HDD.out]
    rintro e w1 ⟨rfl, rfl⟩
    go_wp2_with fail
    refine (turn_any _ _ _).mono ?_
    rw [HB2.out, HN2.out]
    rintro e w1 ⟨rfl, rfl⟩
    go_wp2_with fail
    refine (due_any _ _ _).mono ?_
    rw [HDL.out]
    rintro e w1 ⟨rfl, rfl⟩
    go_wp2_with fail
    refine (dead_any _ 0 (.mk 0 x eS eS []) _ w hw (intTerm w x HX.out)).mono ?_
    rw [HG.out]
    rintro e w2 ⟨rfl, hb2⟩
    go_wp2_with fail
    refine (due_any _ _ _).mono ?_
    rw [HE.out]
    rintro e w1 ⟨rfl, rfl⟩
    go_wp2_with fail
    refine (wakes_any w2 (HKW.out _ hb2)).mono ?_
    rintro e w3 ⟨rfl, hb3⟩
    go_wp2_with fail
    go_ret
    exact ⟨rfl, hb2.trans (hb3.mono hb2.size)⟩
set_option maxRecDepth 100000 in
set_option maxHeartbeats 2000000 in
theorem due_td_b (now k d x : Int) (hx : -9223372036854775808 ≤ x ∧ x ≤ 9223372036854775807) (w : World) (hw : Cells w 0 letL) (hf : turnB now k = true ∧ dueB now d = true) (hl : leftN now d = 0 ∧ dueB now d = true) :
    Calls Tryd.prog 4 #[.int .i64 now, .int .i64 k, .int .i64 d, .int .i64 x] w (IsPost w true) := by
  have HX := Lib.hid hx
  clear hx
  have HB := Lib.hid hf.1
  obtain ⟨⟨f1, f2⟩, f3, f4, f5⟩ := turn_t hf.1
  have HN := Lib.hid f5
  clear f5
  have HT := Lib.hid (due_mk (now := now + k) (d := d) (by have := due_t hf.2; omega) (by have := due_t hf.2; omega) (by omega))
  have HL := Lib.hid hl.1
  have HD := Lib.hid hl.2
  clear hf hl
  have HKW := Lib.hid (fun (W : World) (hb : Below w.heap.size w W) => keepCells hw hb)
  rcases dead_cases now x with hd | hd | hd | hd
  · have HDC := Lib.hid hd
    generalize hg : deadN now (.mk 0 x eS eS []) = dv
    have HG := Lib.hid hg
    obtain ⟨dv1, dv2⟩ := dv
    have hdv : dv2 = 2 := by have := HDC.out; rw [HG.out] at this; exact this
    subst hdv
    clear hg hd
    go_enter Tryd.func4, Tryd.ntmps4
    go_wp2_with fail
    refine (turn_any _ _ _).mono ?_
    rw [HB.out, HN.out]
    rintro e w1 ⟨rfl, rfl⟩
    go_wp2_with fail
    refine (due_any _ _ _).mono ?_
    rw [HD.out]
    rintro e w1 ⟨rfl, rfl⟩
    go_wp2_with fail
    refine (due_any _ _ _).mono ?_
    rw [HT.out]
    rintro e w1 ⟨rfl, rfl⟩
    go_wp2_with fail
    refine (left_any _ _ _).mono ?_
    rw [HL.out]
    rintro e w1 ⟨rfl, rfl⟩
    go_wp2_with fail
    refine (due_any _ _ _).mono ?_
    rw [HD.out]
    rintro e w1 ⟨rfl, rfl⟩
    go_wp2_with fail
    refine (dead_any _ 0 (.mk 0 x eS eS []) _ w hw (intTerm w x HX.out)).mono ?_
    rw [HG.out]
    rintro e w2 ⟨rfl, hb2⟩
    go_wp2_with fail
    refine (wakes_any w2 (HKW.out _ hb2)).mono ?_
    rintro e w3 ⟨rfl, hb3⟩
    go_wp2_with fail
    go_ret
    exact ⟨rfl, hb2.trans (hb3.mono hb2.size)⟩
  · have HDC := Lib.hid hd
    obtain ⟨hx0, hg, g1, g2⟩ := hd
    have HG := Lib.hid hg
    have HE := Lib.hid (due_mk (now := now) (d := now) g1 (by omega) g2)
    subst hx0
    clear hg
    go_enter Tryd.func4, Tryd.ntmps4
    go_wp2_with fail
    refine (turn_any _ _ _).mono ?_
    rw [HB.out, HN.out]
    rintro e w1 ⟨rfl, rfl⟩
    go_wp2_with fail
    refine (due_any _ _ _).mono ?_
    rw [HD.out]
    rintro e w1 ⟨rfl, rfl⟩
    go_wp2_with fail
    refine (due_any _ _ _).mono ?_
    rw [HT.out]
    rintro e w1 ⟨rfl, rfl⟩
    go_wp2_with fail
    refine (left_any _ _ _).mono ?_
    rw [HL.out]
    rintro e w1 ⟨rfl, rfl⟩
    go_wp2_with fail
    refine (due_any _ _ _).mono ?_
    rw [HD.out]
    rintro e w1 ⟨rfl, rfl⟩
    go_wp2_with fail
    refine (dead_any _ 0 (.mk 0 0 eS eS []) _ w hw (intTerm w 0 HX.out)).mono ?_
    rw [HG.out]
    rintro e w2 ⟨rfl, hb2⟩
    go_wp2_with fail
    refine (due_any _ _ _).mono ?_
    rw [HE.out]
    rintro e w1 ⟨rfl, rfl⟩
    go_wp2_with fail
    refine (wakes_any w2 (HKW.out _ hb2)).mono ?_
    rintro e w3 ⟨rfl, hb3⟩
    go_wp2_with fail
    go_ret
    exact ⟨rfl, hb2.trans (hb3.mono hb2.size)⟩
  · have HDC := Lib.hid hd
    obtain ⟨hx0, hg, g1, g2⟩ := hd
    have HG := Lib.hid hg
    have t1 : (x != 0) = true := by simp; omega
    have t2 : decide (x < 1) = false := by simp; omega
    clear hg
    go_enter Tryd.func4, Tryd.ntmps4
    go_wp2_with fail
    refine (turn_any _ _ _).mono ?_
    rw [HB.out, HN.out]
    rintro e w1 ⟨rfl, rfl⟩
    go_wp2_with fail
    refine (due_any _ _ _).mono ?_
    rw [HD.out]
    rintro e w1 ⟨rfl, rfl⟩
    go_wp2_with fail
    refine (due_any _ _ _).mono ?_
    rw [HT.out]
    rintro e w1 ⟨rfl, rfl⟩
    go_wp2_with fail
    refine (left_any _ _ _).mono ?_
    rw [HL.out]
    rintro e w1 ⟨rfl, rfl⟩
    go_wp2_with fail
    refine (due_any _ _ _).mono ?_
    rw [HD.out]
    rintro e w1 ⟨rfl, rfl⟩
    go_wp2_with fail
    refine (dead_any _ 0 (.mk 0 x eS eS []) _ w hw (intTerm w x HX.out)).mono ?_
    rw [HG.out]
    rintro e w2 ⟨rfl, hb2⟩
    go_wp2_with fail
    refine (wakes_any w2 (HKW.out _ hb2)).mono ?_
    rintro e w3 ⟨rfl, hb3⟩
    go_wp2_with fail
    go_ret
    exact ⟨rfl, hb2.trans (hb3.mono hb2.size)⟩
  · have HDC := Lib.hid hd
    obtain ⟨dv, hx0, hg, g1, g2, g3⟩ := hd
    have HG := Lib.hid hg
    have t1 : (x != 0) = true := by simp; omega
    have t2 : decide (x < 1) = false := by simp; omega
    have t3 : (dv == now) = false := by simp; omega
    have t4 : decide (now ≤ dv) = true := by simp; omega
    have HE := Lib.hid (due_late (now := now) (d := dv) g1)
    clear hg
    go_enter Tryd.func4, Tryd.ntmps4
    go_wp2_with fail
    refine (turn_any _ _ _).mono ?_
    rw [HB.out, HN.out]
    rintro e w1 ⟨rfl, rfl⟩
    go_wp2_with fail
    refine (due_any _ _ _).mono ?_
    rw [HD.out]
    rintro e w1 ⟨rfl, rfl⟩
    go_wp2_with fail
    refine (due_any _ _ _).mono ?_
    rw [HT.out]
    rintro e w1 ⟨rfl, rfl⟩
    go_wp2_with fail
    refine (left_any _ _ _).mono ?_
    rw [HL.out]
    rintro e w1 ⟨rfl, rfl⟩
    go_wp2_with fail
    refine (due_any _ _ _).mono ?_
    rw [HD.out]
    rintro e w1 ⟨rfl, rfl⟩
    go_wp2_with fail
    refine (dead_any _ 0 (.mk 0 x eS eS []) _ w hw (intTerm w x HX.out)).mono ?_
    rw [HG.out]
    rintro e w2 ⟨rfl, hb2⟩
    go_wp2_with fail
    refine (due_any _ _ _).mono ?_
    rw [HE.out]
    rintro e w1 ⟨rfl, rfl⟩
    go_wp2_with fail
    refine (wakes_any w2 (HKW.out _ hb2)).mono ?_
    rintro e w3 ⟨rfl, hb3⟩
    go_wp2_with fail
    go_ret
    exact ⟨rfl, hb2.trans (hb3.mono hb2.size)⟩
theorem ldue_any (now k d x : Int) (hx : -9223372036854775808 ≤ x ∧ x ≤ 9223372036854775807) (w : World) (hw : Cells w 0 letL) :
    Calls Tryd.prog 4 #[.int .i64 now, .int .i64 k, .int .i64 d, .int .i64 x] w (IsPost w true) := by
  have hl := left_cases now d
  cases hb : turnB now k
  · rcases hl with hl | hl | hl | ⟨q, hl⟩
    · exact due_nf_a now k d x hx w hw hb hl
    · exact due_nf_b now k d x hx w hw hb hl
    · exact due_nf_c now k d x hx w hw hb hl
    · exact due_nf_e now k d x q hx w hw hb hl
  · rcases hl with hl | hl | hl | ⟨q, hl⟩
    · exact due_nd_a now k d x hx w hw ⟨hb, hl.2⟩ hl
    · exact due_td_b now k d x hx w hw ⟨hb, hl.2⟩ hl
    · exact due_nd_c now k d x hx w hw ⟨hb, due_late (by omega)⟩ hl
    · exact due_nd_e now k d x q hx w hw ⟨hb, due_late (by omega)⟩ hl
end Go.Proofs.YtjganindmklaaaaDoor
