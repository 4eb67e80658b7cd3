/- The law WindowMore, walked by the contracts of Add and Found, and wakes. No conditions beyond the row's own reading. -/
import Derived.Test.YtjjlfaknebbhfaaWi
namespace Go.Proofs.Ytjjlfaknebbhfaa
open Go.ChangeShapes Go.WideShapes Go.ChangeAt Go.RowKit
set_option linter.unusedVariables false
theorem SlI_two {w : World} {v : Value} {a b : Int} (h : SlI w v [a, b]) : ∃ g o c, v = .slice (some ⟨g, o, none⟩) 2 c ∧ g < w.heap.size ∧ w.cell? ⟨g, o, none⟩ = some (.int .i64 a) ∧ w.cell? ⟨g, o + 1, none⟩ = some (.int .i64 b) := by
  obtain ⟨ao, cap, h1, h2, h3, h4⟩ := h
  rcases h4 with ⟨h, _⟩ | ⟨g, o, rfl, e2, e3, e4⟩
  · cases h
  · exact ⟨g, o, cap, h1, e2, e4 0 (by simp), e4 1 (by simp)⟩
theorem SlI_lit {w : World} {g : Nat} {a b : Int} (h0 : w.cell? ⟨g, 0, none⟩ = some (.int .i64 a)) (h1 : w.cell? ⟨g, 1, none⟩ = some (.int .i64 b)) : SlI w (.slice (some ⟨g, 0, none⟩) 2 2) [a, b] :=
  ⟨_, 2, rfl, by simp, by omega, .inr ⟨g, 0, rfl, World.block_lt_of_cell? w _ h0, by simp, fun i hi => by
    have : i = 0 ∨ i = 1 := by simp at hi; omega
    rcases this with rfl | rfl
    · exact h0
    · exact h1⟩⟩
theorem wk1 {W : World} {g : Nat} (h0 : W.cell? ⟨g, 0, none⟩ = some (.int .i64 1)) (h1 : W.cell? ⟨g, 1, none⟩ = some (.int .i64 6)) :
    Calls Try.prog 11 #[.slice (some ⟨g, 0, none⟩) 2 2, .int .i64 10, .int .i64 2, .int .i64 5] W fun e w' => ∃ b o c, e = .returned (.tuple #[.slice (some ⟨b, o, none⟩) 2 c, .bool false, .int .i64 0]) ∧ w'.cell? ⟨b, o, none⟩ = some (.int .i64 6) ∧ w'.cell? ⟨b, o + 1, none⟩ = some (.int .i64 10) ∧ b < w'.heap.size ∧ Below W.heap.size W w' := by
  refine (Add_put (SlI_lit h0 h1) (by simp) (by decide) (by decide)).mono ?_
  rintro e w' ⟨v, rfl, hs, hb⟩
  have e1 : near [1, 6] 10 5 ++ [10] = [6, 10] := by decide
  rw [e1] at hs
  obtain ⟨b, o, c, rfl, q1, q2, q3⟩ := SlI_two hs
  exact ⟨b, o, c, rfl, q2, q3, q1, hb⟩
theorem wk2 {W : World} {g : Nat} (h0 : W.cell? ⟨g, 0, none⟩ = some (.int .i64 5)) (h1 : W.cell? ⟨g, 1, none⟩ = some (.int .i64 6)) :
    Calls Try.prog 11 #[.slice (some ⟨g, 0, none⟩) 2 2, .int .i64 10, .int .i64 2, .int .i64 5] W fun e w' => ∃ ao c, e = .returned (.tuple #[.slice ao 2 c, .bool true, .int .i64 0]) ∧ Below W.heap.size W w' := by
  refine (Add_give (SlI_lit h0 h1) (by simp) (by decide) (by decide) (by decide)).mono ?_
  rintro e w' ⟨v, rfl, hs, hb⟩
  obtain ⟨b, o, c, rfl, q1, q2, q3⟩ := SlI_two hs
  exact ⟨_, c, rfl, hb⟩
theorem two_new (w : World) (u v : Value) (t : TypeId) : (w.alloc (.cells #[u, v] t)).cell? ⟨w.heap.size, 0, none⟩ = some u ∧ (w.alloc (.cells #[u, v] t)).cell? ⟨w.heap.size, 1, none⟩ = some v := ⟨by simp [go_sem], by simp [go_sem]⟩
theorem wakes_any (w : World) : Calls Try.prog 10 #[] w fun e w' => e = .returned (.bool true) ∧ Below w.heap.size w w' := by
  go_enter Try.func10, Try.ntmps10
  go_wp2_with fail
  have hn := two_new w (.int .i64 1) (.int .i64 6) 3
  have hb0 : Below w.heap.size w (w.alloc (.cells #[.int .i64 1, .int .i64 6] 3)) := Below.alloc (Below.refl _ _) (Nat.le_refl _) _
  generalize w.alloc (.cells #[.int .i64 1, .int .i64 6] 3) = W0 at hn hb0 ⊢
  refine (wk1 hn.1 hn.2).mono ?_
  rintro e w1 ⟨b, o, c, rfl, d0, d1, hlt, hb1⟩
  have hb1' : Below w.heap.size w w1 := keep_below hb0 hb0.size hb1
  clear hn hb0 hb1
  go_wp2_with fail
  have hn := two_new w1 (.int .i64 5) (.int .i64 6) 3
  have hb2 : Below w1.heap.size w1 (w1.alloc (.cells #[.int .i64 5, .int .i64 6] 3)) := Below.alloc (Below.refl _ _) (Nat.le_refl _) _
  have hb2' : Below w.heap.size w (w1.alloc (.cells #[.int .i64 5, .int .i64 6] 3)) := keep_below hb1' hb1'.size hb2
  have d0' := keep_cell d0 hb2
  have d1' := keep_cell d1 hb2
  generalize w1.alloc (.cells #[.int .i64 5, .int .i64 6] 3) = W1 at hn hb2' d0' d1' ⊢
  refine (wk2 hn.1 hn.2).mono ?_
  rintro e w2 ⟨ao, c2, rfl, hb3⟩
  have hbF : Below w.heap.size w w2 := keep_below hb2' hb2'.size hb3
  have f0 := keep_cell d0' hb3
  have f1 := keep_cell d1' hb3
  clear hn hb2 hb2' hb3 d0 d1 d0' d1' hb1'
  go_wp2
  go_ret
  exact ⟨rfl, hbF⟩
theorem dw_len (q : Int → Bool) (l : List Int) : (l.dropWhile q).length ≤ l.length := by
  have := congrArg List.length (List.takeWhile_append_dropWhile (p := q) (l := l))
  rw [List.length_append] at this
  omega
theorem dw_mono {p q : Int → Bool} (h : ∀ x, p x = true → q x = true) : ∀ l : List Int, (l.dropWhile q).length ≤ (l.dropWhile p).length
  | [] => by simp
  | x :: l => by
    simp only [List.dropWhile_cons]
    by_cases hp : p x = true
    · rw [if_pos hp, if_pos (h x hp)]
      exact dw_mono h l
    · rw [if_neg hp]
      have := dw_len q (x :: l)
      simp only [List.dropWhile_cons] at this
      exact this
theorem near_mono (xs : List Int) (now s t : Int) (h : s ≤ t) : (near xs now s).length ≤ (near xs now t).length := by
  refine dw_mono (fun x hx => ?_) xs
  simp at hx ⊢
  omega
theorem fvalid_mono {xs : List Int} {now s t : Int} (h : fvalid xs now t = true) (h0 : 0 ≤ s) (h1 : s ≤ t) : fvalid xs now s = true := by
  simp only [fvalid, Bool.and_eq_true, decide_eq_true_eq] at *
  obtain ⟨⟨⟨⟨h1, h2⟩, h3⟩, h4⟩, h5⟩ := h
  exact ⟨⟨⟨⟨h1, h2⟩, h0⟩, by omega⟩, h5⟩
theorem fvalid_T {xs : List Int} {now t : Int} (h : fvalid xs now t = true) : 0 ≤ t ∧ t ≤ 1073741824 := by
  simp only [fvalid, Bool.and_eq_true, decide_eq_true_eq] at h
  exact ⟨h.1.1.2, h.1.2⟩
/-- Add tells whether to give up -/
theorem Add_give' {w : World} {v : Value} {xs : List Int} {now maxR maxT : Int} {g : Bool} (h : SlI w v xs) (hm : xs.length ≤ 100000) (hf : fvalid xs now maxT = true) (hr0 : (0 : Int) ≤ maxR) (hg : Hid (g = decide (maxR ≤ ((near xs now maxT).length : Int)))) :
    Calls Try.prog 11 #[v, .int .i64 now, .int .i64 maxR, .int .i64 maxT] w fun e w' => ∃ u, e = .returned (.tuple #[u, .bool g, .int .i64 0]) ∧ Below w.heap.size w w' := by
  have := hg.out
  by_cases hr : maxR ≤ ((near xs now maxT).length : Int)
  · rw [decide_eq_true hr] at this
    subst this
    exact (Add_give h hm hf hr0 hr).mono fun e w' ⟨u, h1, h2, h3⟩ => ⟨u, h1, h3⟩
  · rw [decide_eq_false hr] at this
    subst this
    exact (Add_put h hm hf (by omega)).mono fun e w' ⟨u, h1, h2, h3⟩ => ⟨u, h1, h3⟩
theorem Add_bad {w : World} {v : Value} {xs : List Int} {now maxR maxT : Int} (h : SlI w v xs) (hm : xs.length ≤ 100000) (hf : ¬ (fvalid xs now maxT = true ∧ 0 ≤ maxR)) :
    Calls Try.prog 11 #[v, .int .i64 now, .int .i64 maxR, .int .i64 maxT] w fun e w' => ∃ u, e = .returned (.tuple #[u, .bool false, .int .i64 2]) ∧ Below w.heap.size w w' := by
  by_cases h1 : fvalid xs now maxT = true
  · exact (Add_neg h hm h1 (Int.not_le.1 fun h2 => hf ⟨h1, h2⟩)).mono fun e w' ⟨u, h1, h2, h3⟩ => ⟨u, h1, h3⟩
  · exact (Add_no h hm (by simpa using h1)).mono fun e w' ⟨u, h1, h2, h3⟩ => ⟨u, h1, h3⟩
theorem more_out (w : World) (v : Value) (xs : List Int) (now maxR maxT more : Int) (h : SlI w v xs) (hb : 5000 < xs.length ∨ 1099511627776 < maxR) :
    Calls Try.prog 3 #[v, .int .i64 now, .int .i64 maxR, .int .i64 maxT, .int .i64 more] w fun e w' => e = .returned (.bool true) ∧ Below w.heap.size w w' := by
  obtain ⟨ao, cap, rfl, h2, h3, h4⟩ := h
  by_cases hl : 5000 < xs.length
  · have hl' : (5000 : Int) < (xs.length : Int) := by omega
    have hd : decide ((5000 : Int) < (xs.length : Int)) = true := by simp; omega
    go_enter Try.func3, Try.ntmps3
    go_wp2_with (go_at_call 10; refine (wakes_any _).mono ?_; rintro e w1 ⟨rfl, hb1⟩)
    go_ret
    exact ⟨rfl, hb1⟩
  · have hl' : (xs.length : Int) ≤ 5000 := by omega
    have hr : 1099511627776 < maxR := by omega
    have hd : decide ((5000 : Int) < (xs.length : Int)) = false := by simp; omega
    go_enter Try.func3, Try.ntmps3
    go_wp2_with (go_at_call 10; refine (wakes_any _).mono ?_; rintro e w1 ⟨rfl, hb1⟩)
    go_ret
    exact ⟨rfl, hb1⟩
theorem more_bad (w : World) (v : Value) (xs : List Int) (now maxR maxT more : Int) (h : SlI w v xs) (hl : xs.length ≤ 5000) (hr : maxR ≤ 1099511627776) (hmo : -9223372036854775808 ≤ more ∧ more ≤ 9223372036854775807) (hb : ¬ (fvalid xs now maxT = true ∧ 0 ≤ maxR)) :
    Calls Try.prog 3 #[v, .int .i64 now, .int .i64 maxR, .int .i64 maxT, .int .i64 more] w fun e w' => e = .returned (.bool true) ∧ Below w.heap.size w w' := by
  have hsl := h
  obtain ⟨ao, cap, rfl, h2, h3, h4⟩ := h
  have hl' : (xs.length : Int) ≤ 5000 := by omega
  have hd : decide ((5000 : Int) < (xs.length : Int)) = false := by simp; omega
  have hd2 : decide ((1099511627776 : Int) < maxR) = false := by simp; omega
  go_enter Try.func3, Try.ntmps3
  go_wp2_with (first | (go_at_call 10; refine (wakes_any _).mono ?_; rintro e w2 ⟨rfl, hb2⟩) | (go_at_call 11; refine (Add_bad hsl (by omega) hb).mono ?_; rintro e w1 ⟨u, rfl, hb1⟩))
  go_ret
  exact ⟨rfl, keep_below hb1 hb1.size hb2⟩
theorem more_good (w : World) (v : Value) (xs : List Int) (now maxR maxT more : Int) (h : SlI w v xs) (hl : xs.length ≤ 5000) (hr : maxR ≤ 1099511627776) (hmo : -9223372036854775808 ≤ more ∧ more ≤ 9223372036854775807) (hf : fvalid xs now maxT = true) (hr0 : 0 ≤ maxR) :
    Calls Try.prog 3 #[v, .int .i64 now, .int .i64 maxR, .int .i64 maxT, .int .i64 more] w fun e w' => e = .returned (.bool true) ∧ Below w.heap.size w w' := by
  have hsl := h
  obtain ⟨ao, cap, rfl, h2, h3, h4⟩ := h
  have hl' : (xs.length : Int) ≤ 5000 := by omega
  have hd : decide ((5000 : Int) < (xs.length : Int)) = false := by simp; omega
  have hd2 : decide ((1099511627776 : Int) < maxR) = false := by simp; omega
  have hm1 : -1000 ≤ more.tmod 1001 ∧ more.tmod 1001 ≤ 1000 := by
    have h1 := Int.tmod_lt_of_pos more (show (0 : Int) < 1001 by omega)
    have h2 := Int.lt_tmod_of_pos more (show (0 : Int) < 1001 by omega)
    omega
  have hm2 := hm1.1
  have hm3 := hm1.2
  have hT := fvalid_T hf
  obtain ⟨ga, hga⟩ : ∃ g, g = decide (maxR ≤ ((near xs now maxT).length : Int)) := ⟨_, rfl⟩
  have HGA : Hid (ga = decide (maxR ≤ ((near xs now maxT).length : Int))) := hga
  clear hga hm1
  go_enter Try.func3, Try.ntmps3
  go_wp2_with fail
  refine (Add_give' hsl (by omega) hf hr0 HGA).mono ?_
  rintro e w1 ⟨u1, rfl, hb1⟩
  go_wp2_with fail
  have hM : 0 ≤ more.tmod 1001 % 1001 ∧ more.tmod 1001 % 1001 ≤ 1000 := by omega
  generalize more.tmod 1001 % 1001 = m at hM ⊢
  have hM1 := hM.1
  have hM2 := hM.2
  have hT1 := hT.1
  have hT2 := hT.2
  clear hM hT hm2 hm3
  obtain ⟨gb, hgb⟩ : ∃ g, g = decide (maxR + m ≤ ((near xs now maxT).length : Int)) := ⟨_, rfl⟩
  have HGB : Hid (gb = decide (maxR + m ≤ ((near xs now maxT).length : Int))) := hgb
  clear hgb
  refine (Add_give' (hsl.keep hb1) (by omega) hf (by omega) HGB).mono ?_
  rintro e w2 ⟨u2, rfl, hb2⟩
  have hB2 := keep_below hb1 hb1.size hb2
  clear hb1 hb2
  go_wp2_with fail
  obtain ⟨s, hs⟩ : ∃ s, s = max (maxT - m) 0 := ⟨_, rfl⟩
  rw [← hs]
  have hs1 : 0 ≤ s := by omega
  have hs2 : s ≤ maxT := by omega
  clear hs
  obtain ⟨gc, hgc⟩ : ∃ g, g = decide (maxR ≤ ((near xs now s).length : Int)) := ⟨_, rfl⟩
  have HGC : Hid (gc = decide (maxR ≤ ((near xs now s).length : Int))) := hgc
  clear hgc
  have hfs := fvalid_mono hf hs1 hs2
  have hnm := near_mono xs now s maxT hs2
  have hnl := near_len xs now maxT
  refine (Add_give' (hsl.keep hB2) (by omega) hfs (by omega) HGC).mono ?_
  rintro e w3 ⟨u3, rfl, hb3⟩
  have hB3 := keep_below hB2 hB2.size hb3
  clear hB2 hb3
  go_wp2_with fail
  refine (Found_ok (hsl.keep hB3) (by omega) hf).mono ?_
  rintro e w4 ⟨rfl, hb4⟩
  have hB4 := keep_below hB3 hB3.size hb4
  clear hB3 hb4
  go_wp2_with fail
  refine (Found_ok (hsl.keep hB4) (by omega) hfs).mono ?_
  rintro e w5 ⟨rfl, hb5⟩
  have hB5 := keep_below hB4 hB4.size hb5
  clear hB4 hb5
  have hABC : ga = false → gb = false ∧ gc = false := by
    rw [HGA.out, HGB.out, HGC.out]
    intro h
    simp at h
    constructor
    · simp; omega
    · simp; omega
  clear HGA HGB HGC hfs hf hsl
  generalize (near xs now s).length = N1 at hnm ⊢
  generalize (near xs now maxT).length = N2 at hnm hnl ⊢
  have t1 : decide ((N1 : Int) ≤ (N2 : Int)) = true := by simp; omega
  have t2 : decide ((N2 : Int) ≤ (xs.length : Int)) = true := by simp; omega
  cases ga
  · obtain ⟨rfl, rfl⟩ := hABC rfl
    go_wp2_with (go_at_call 10; refine (wakes_any _).mono ?_; rintro e w6 ⟨rfl, hb6⟩)
    go_ret
    exact ⟨rfl, keep_below hB5 hB5.size hb6⟩
  · clear hABC
    go_wp2_with (go_at_call 10; refine (wakes_any _).mono ?_; rintro e w6 ⟨rfl, hb6⟩)
    go_ret
    exact ⟨rfl, keep_below hB5 hB5.size hb6⟩
theorem more_any (w : World) (v : Value) (xs : List Int) (now maxR maxT more : Int) (h : SlI w v xs) (hmo : -9223372036854775808 ≤ more ∧ more ≤ 9223372036854775807) :
    Calls Try.prog 3 #[v, .int .i64 now, .int .i64 maxR, .int .i64 maxT, .int .i64 more] w fun e w' => e = .returned (.bool true) ∧ Below w.heap.size w w' := by
  by_cases hb : 5000 < xs.length ∨ 1099511627776 < maxR
  · exact more_out w v xs now maxR maxT more h hb
  · by_cases hf : fvalid xs now maxT = true ∧ 0 ≤ maxR
    · exact more_good w v xs now maxR maxT more h (by omega) (by omega) hmo hf.1 hf.2
    · exact more_bad w v xs now maxR maxT more h (by omega) (by omega) hmo hf
end Go.Proofs.Ytjjlfaknebbhfaa
