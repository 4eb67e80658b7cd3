/- One way through IntsBack. Conditions: as the theorem says. -/
import Derived.Test.YtjjlfaknebbhfaaIf
namespace Go.Proofs.Ytjjlfaknebbhfaa
open Go.ChangeShapes Go.WideShapes Go.ChangeAt Go.RowKit
set_option linter.unusedVariables false
set_option maxRecDepth 100000 in
set_option maxHeartbeats 2000000 in
theorem back_no_ok (a b : Int) (h0 : b ≠ 0) (ha : mayB a = true) (hb : mayB b = true) (hs : mayB (a + b) = false) (hd : mayB (a.tdiv b) = true) (w : World) : Calls Try.prog 5 #[.int .i64 a, .int .i64 b] w fun e w' => e = .returned (.bool true) ∧ Below w.heap.size w w' := by
  have h1 := (mayB_iff a).1 ha
  have h2 := (mayB_iff b).1 hb
  obtain ⟨⟨p, g⟩, hp⟩ : ∃ pg, lim (a * b) = pg := ⟨_, rfl⟩
  have hq : lim (b * a) = (p, g) := by rw [Int.mul_comm]; exact hp
  have hsb : lim (a + b - b) = (a, 0) := by rw [Int.add_sub_cancel]; exact lim_ok ha
  have hz : (b == 0) = false := by simpa using h0
  have hrm := tmod_bd (b := b) h1
  have hr : lim (a.tmod b) = (a.tmod b, 0) := lim_ok ((mayB_iff _).2 hrm)
  have hta : a.tdiv b * b + a.tmod b = a := Int.tdiv_mul_add_tmod a b
  have hlt : (a.tmod b).natAbs < b.natAbs := by
    rw [Int.natAbs_tmod]
    exact Nat.mod_lt _ (by omega)
  have hsg : 0 ≤ a → 0 ≤ a.tmod b := fun h => Int.tmod_nonneg b h
  have hsg2 : a ≤ 0 → a.tmod b ≤ 0 := fun h => by
    have := Int.tmod_nonneg b (show 0 ≤ -a by omega)
    rw [Int.neg_tmod] at this
    omega
  have habs : (a.tmod b).natAbs ≤ a.natAbs := by
    rw [Int.natAbs_tmod]
    exact Nat.mod_le _ _
  generalize hreq : a.tmod b = r at *
  have hr' : lim (a.tmod b) = (r, 0) := by rw [hreq]; exact hr
  have ht : lim (a.tdiv b * b) = (a.tdiv b * b, 0) := lim_ok ((mayB_iff _).2 (by omega))
  have htb : -576460752303423488 ≤ a.tdiv b * b ∧ a.tdiv b * b ≤ 576460752303423487 := by omega
  generalize htq : a.tdiv b * b = t at *
  have ht' : lim (a.tdiv b * b) = (t, 0) := by rw [htq]; exact ht
  clear hreq htq hr ht
  have htb1 := htb.1
  have htb2 := htb.2
  have e1 : (t + r != a) = false := by simp; omega
  have e2 : decide (max r (-r) < max b (-b)) = true := by simp; omega
  have r1 := hrm.1
  have r2 := hrm.2
  have b1 := h2.1
  have b2 := h2.2
  clear hta hlt habs htb hrm h1 h2
  by_cases hr0 : r = 0
  · have e3 : (r == 0) = true := by simpa using hr0
    clear hr0 hsg hsg2
    go_enter Try.func5, Try.ntmps5
    go_wp2_with (go_at_call 14; refine (may14 _ _).mono ?_; rintro e w' ⟨rfl, rfl⟩)
    refine (Do_add' ha hb (lim_no hs) _).mono ?_
    rintro e w1 ⟨rfl, hb1⟩
    have hB1 := hb1
    go_wp2_with (go_at_call 14; refine (may14 _ _).mono ?_; rintro e w' ⟨rfl, rfl⟩)
    refine (Do_mul' ha hb hp _).mono ?_
    rintro e w2 ⟨rfl, hb2⟩
    have hB2 := keep_below hB1 hB1.size hb2
    go_wp2_with (go_at_call 14; refine (may14 _ _).mono ?_; rintro e w' ⟨rfl, rfl⟩)
    refine (Do_mul' hb ha hq _).mono ?_
    rintro e w3 ⟨rfl, hb3⟩
    have hB3 := keep_below hB2 hB2.size hb3
    go_wp2_with (go_at_call 14; refine (may14 _ _).mono ?_; rintro e w' ⟨rfl, rfl⟩)
    refine (Do_div' ha hb h0 (lim_ok hd) _).mono ?_
    rintro e w4 ⟨rfl, hb4⟩
    have hB4 := keep_below hB3 hB3.size hb4
    go_wp2_with (go_at_call 14; refine (may14 _ _).mono ?_; rintro e w' ⟨rfl, rfl⟩)
    refine (Do_rem' ha hb h0 hr' _).mono ?_
    rintro e w5 ⟨rfl, hb5⟩
    have hB5 := keep_below hB4 hB4.size hb5
    go_wp2_with (go_at_call 14; refine (may14 _ _).mono ?_; rintro e w' ⟨rfl, rfl⟩)
    refine (Do_mul' hd hb ht' _).mono ?_
    rintro e w6 ⟨rfl, hb6⟩
    have hB6 := keep_below hB5 hB5.size hb6
    go_wp2_with (go_at_call 16; refine (wakes16 _).mono ?_; rintro e wz ⟨rfl, hbz⟩)
    go_ret
    exact ⟨rfl, keep_below hB6 hB6.size hbz⟩
  · have e3 : (r == 0) = false := by simpa using hr0
    have e4 : (decide (r < 0) == decide (a < 0)) = true := by
      by_cases h : a < 0
      · have : r < 0 := by have := hsg2 (by omega); omega
        simp [h, this]
      · have : ¬ r < 0 := by have := hsg (by omega); omega
        simp [h, this]
    clear hr0 hsg hsg2
    go_enter Try.func5, Try.ntmps5
    go_wp2_with (go_at_call 14; refine (may14 _ _).mono ?_; rintro e w' ⟨rfl, rfl⟩)
    refine (Do_add' ha hb (lim_no hs) _).mono ?_
    rintro e w1 ⟨rfl, hb1⟩
    have hB1 := hb1
    go_wp2_with (go_at_call 14; refine (may14 _ _).mono ?_; rintro e w' ⟨rfl, rfl⟩)
    refine (Do_mul' ha hb hp _).mono ?_
    rintro e w2 ⟨rfl, hb2⟩
    have hB2 := keep_below hB1 hB1.size hb2
    go_wp2_with (go_at_call 14; refine (may14 _ _).mono ?_; rintro e w' ⟨rfl, rfl⟩)
    refine (Do_mul' hb ha hq _).mono ?_
    rintro e w3 ⟨rfl, hb3⟩
    have hB3 := keep_below hB2 hB2.size hb3
    go_wp2_with (go_at_call 14; refine (may14 _ _).mono ?_; rintro e w' ⟨rfl, rfl⟩)
    refine (Do_div' ha hb h0 (lim_ok hd) _).mono ?_
    rintro e w4 ⟨rfl, hb4⟩
    have hB4 := keep_below hB3 hB3.size hb4
    go_wp2_with (go_at_call 14; refine (may14 _ _).mono ?_; rintro e w' ⟨rfl, rfl⟩)
    refine (Do_rem' ha hb h0 hr' _).mono ?_
    rintro e w5 ⟨rfl, hb5⟩
    have hB5 := keep_below hB4 hB4.size hb5
    go_wp2_with (go_at_call 14; refine (may14 _ _).mono ?_; rintro e w' ⟨rfl, rfl⟩)
    refine (Do_mul' hd hb ht' _).mono ?_
    rintro e w6 ⟨rfl, hb6⟩
    have hB6 := keep_below hB5 hB5.size hb6
    go_wp2_with (go_at_call 16; refine (wakes16 _).mono ?_; rintro e wz ⟨rfl, hbz⟩)
    go_ret
    exact ⟨rfl, keep_below hB6 hB6.size hbz⟩
end Go.Proofs.Ytjjlfaknebbhfaa
