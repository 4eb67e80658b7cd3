/- The law IntsUnits, walked. No conditions. -/
import Derived.Test.YtjjlfaknebbhfaaIf
namespace Go.Proofs.Ytjjlfaknebbhfaa
open Go.ChangeShapes Go.WideShapes Go.ChangeAt Go.RowKit
set_option linter.unusedVariables false
theorem lim_eq {x n : Int} (h : x = n) (hn : mayB n = true) : lim x = (n, 0) := by rw [h]; exact lim_ok hn
def uCells (a : Int) : List Value := [.string ⟨#[43]⟩, .int .i64 0, .int .i64 a, .string ⟨#[45]⟩, .int .i64 0, .int .i64 a, .string ⟨#[42]⟩, .int .i64 1, .int .i64 a, .string ⟨#[42]⟩, .int .i64 0, .int .i64 0, .string ⟨#[100, 105, 118]⟩, .int .i64 1, .int .i64 a, .string ⟨#[114, 101, 109]⟩, .int .i64 1, .int .i64 0, .string ⟨#[45]⟩, .int .i64 a, .int .i64 0]
theorem row_cell (w : World) (cs : List Value) (t : TypeId) (j : Nat) (u : Value) (h : cs[j]? = some u) : (w.alloc (.cells cs.toArray t)).cell? ⟨w.heap.size, j, none⟩ = some u := by
  unfold World.cell?
  rw [heap_alloc_new]
  simpa using h
theorem may14' (n : Int) (w : World) : Calls Try.prog 14 #[.int .i64 n] w fun e w' => e = .returned (.bool (mayB n)) ∧ w = w' := (may14 n w).mono fun _ _ h => ⟨h.1, h.2.symm⟩
theorem units_out (a : Int) (ha : mayB a = false) (w : World) : Calls Try.prog 7 #[.int .i64 a] w fun e w' => e = .returned (.bool true) ∧ Below w.heap.size w w' := by
  go_enter Try.func7, Try.ntmps7
  go_wp2_with (first | (go_at_call 14; refine (may14 _ _).mono ?_; rintro e w' ⟨rfl, rfl⟩) | (go_at_call 16; refine (wakes16 _).mono ?_; rintro e w2 ⟨rfl, hb2⟩))
  go_ret
  exact ⟨rfl, hb2⟩
set_option maxRecDepth 100000 in
set_option maxHeartbeats 4000000 in
theorem units_any (a : Int) (ha : mayB a = true) (w : World) : Calls Try.prog 7 #[.int .i64 a] w fun e w' => e = .returned (.bool true) ∧ Below w.heap.size w w' := by
  have h1 := (mayB_iff a).1 ha
  have hz0 : mayB 0 = true := by decide
  have hz1 : mayB 1 = true := by decide
  go_enter Try.func7, Try.ntmps7
  go_wp2_with (go_at_call 14; refine (may14' _ _).mono ?_; rintro e w' ⟨rfl, rfl⟩)
  have hb0 : Below w.heap.size w (w.alloc (.cells (uCells a).toArray 38)) := Below.alloc (Below.refl _ _) (Nat.le_refl _) _
  have hrow := row_cell w (uCells a) 38
  have hsz : w.heap.size < (w.alloc (.cells (uCells a).toArray 38)).heap.size := by simp
  go_loopw [29] (fun i wr => ∃ k : Nat, k ≤ 7 ∧ i = .int .i64 k ∧ Below (w.alloc (.cells (uCells a).toArray 38)).heap.size (w.alloc (.cells (uCells a).toArray 38)) wr) (fun i _ => 7 - (intOf i).toNat)
  case atStart => exact ⟨0, by omega, rfl, Below.refl _ _⟩
  case round =>
    generalize w.alloc (.cells (uCells a).toArray 38) = W at *
    obtain ⟨k, hk, rfl, hbw⟩ := hrel
    have hbs := hbw.size
    have hcs : k = 7 ∨ k = 6 ∨ k = 5 ∨ k = 4 ∨ k = 3 ∨ k = 2 ∨ k = 1 ∨ k = 0 := by omega
    rcases hcs with rfl | rfl | rfl | rfl | rfl | rfl | rfl | rfl
    · have hB0 := keep_below hb0 hb0.size hbw
      clear hrow
      by_cases hlow : a = -576460752303423488
      · subst hlow
        have e1 : lim (-576460752303423488 * -1) = (0, 11) := by decide
        go_wp2_with fail
        refine (Do_mul' ha (by decide) e1 _).mono ?_
        rintro e w1 ⟨rfl, hb1⟩
        have hB1 := keep_below hB0 hB0.size hb1
        go_wp2_with (go_at_call 16; refine (wakes16 _).mono ?_; rintro e w2 ⟨rfl, hb2⟩)
        go_ret
        exact ⟨rfl, keep_below hB1 hB1.size hb2⟩
      · have hm : mayB (-a) = true := (mayB_iff _).2 (by omega)
        go_wp2_with fail
        refine (Do_mul' ha (by decide) (lim_eq (show a * -1 = -a by omega) hm) _).mono ?_
        rintro e w1 ⟨rfl, hb1⟩
        have hB1 := keep_below hB0 hB0.size hb1
        go_wp2_with fail
        refine (Do_add' ha hm (lim_eq (show a + -a = 0 by omega) hz0) _).mono ?_
        rintro e w2 ⟨rfl, hb2⟩
        have hB2 := keep_below hB1 hB1.size hb2
        go_wp2_with (go_at_call 16; refine (wakes16 _).mono ?_; rintro e w3 ⟨rfl, hb3⟩)
        go_ret
        exact ⟨rfl, keep_below hB2 hB2.size hb3⟩
    · have c0 := keep_cell (hrow 18 _ rfl) hbw
      have c1 := keep_cell (hrow 19 _ rfl) hbw
      have c2 := keep_cell (hrow 20 _ rfl) hbw
      have HR := Lib.hid hrow
      clear hrow
      go_wp2_with fail
      refine (Do_sub' ha ha (lim_eq (show a - a = 0 from Int.sub_self a) hz0) _).mono ?_
      rintro e w1 ⟨rfl, hb1⟩
      have d2 := keep_cell (row_cell wr [.string ⟨#[45]⟩, .int .i64 a, .int .i64 0] 38 2 _ rfl) hb1
      have hB1 := keep_below (keep_below hbw hbw.size (Below.alloc (Below.refl _ _) (Nat.le_refl _) _)) (Nat.le_trans hbw.size (by simp)) hb1
      clear c0 c1 c2 hb1
      go_wp2_with fail
      go_roundw
      case rel => exact ⟨7, by omega, rfl, hB1⟩
      case measure => simp [intOf]
    · have c0 := keep_cell (hrow 15 _ rfl) hbw
      have c1 := keep_cell (hrow 16 _ rfl) hbw
      have c2 := keep_cell (hrow 17 _ rfl) hbw
      have HR := Lib.hid hrow
      clear hrow
      go_wp2_with fail
      refine (Do_rem' ha hz1 (by decide) (lim_eq (show a.tmod 1 = 0 from Int.tmod_one a) hz0) _).mono ?_
      rintro e w1 ⟨rfl, hb1⟩
      have d2 := keep_cell (row_cell wr [.string ⟨#[114, 101, 109]⟩, .int .i64 1, .int .i64 0] 38 2 _ rfl) hb1
      have hB1 := keep_below (keep_below hbw hbw.size (Below.alloc (Below.refl _ _) (Nat.le_refl _) _)) (Nat.le_trans hbw.size (by simp)) hb1
      clear c0 c1 c2 hb1
      go_wp2_with fail
      go_roundw
      case rel => exact ⟨6, by omega, rfl, hB1⟩
      case measure => simp [intOf]
    · have c0 := keep_cell (hrow 12 _ rfl) hbw
      have c1 := keep_cell (hrow 13 _ rfl) hbw
      have c2 := keep_cell (hrow 14 _ rfl) hbw
      have HR := Lib.hid hrow
      clear hrow
      go_wp2_with fail
      refine (Do_div' ha hz1 (by decide) (lim_eq (show a.tdiv 1 = a from Int.tdiv_one a) ha) _).mono ?_
      rintro e w1 ⟨rfl, hb1⟩
      have d2 := keep_cell (row_cell wr [.string ⟨#[100, 105, 118]⟩, .int .i64 1, .int .i64 a] 38 2 _ rfl) hb1
      have hB1 := keep_below (keep_below hbw hbw.size (Below.alloc (Below.refl _ _) (Nat.le_refl _) _)) (Nat.le_trans hbw.size (by simp)) hb1
      clear c0 c1 c2 hb1
      go_wp2_with fail
      go_roundw
      case rel => exact ⟨5, by omega, rfl, hB1⟩
      case measure => simp [intOf]
    · have c0 := keep_cell (hrow 9 _ rfl) hbw
      have c1 := keep_cell (hrow 10 _ rfl) hbw
      have c2 := keep_cell (hrow 11 _ rfl) hbw
      have HR := Lib.hid hrow
      clear hrow
      go_wp2_with fail
      refine (Do_mul' ha hz0 (lim_eq (show a * 0 = 0 from Int.mul_zero a) hz0) _).mono ?_
      rintro e w1 ⟨rfl, hb1⟩
      have d2 := keep_cell (row_cell wr [.string ⟨#[42]⟩, .int .i64 0, .int .i64 0] 38 2 _ rfl) hb1
      have hB1 := keep_below (keep_below hbw hbw.size (Below.alloc (Below.refl _ _) (Nat.le_refl _) _)) (Nat.le_trans hbw.size (by simp)) hb1
      clear c0 c1 c2 hb1
      go_wp2_with fail
      go_roundw
      case rel => exact ⟨4, by omega, rfl, hB1⟩
      case measure => simp [intOf]
    · have c0 := keep_cell (hrow 6 _ rfl) hbw
      have c1 := keep_cell (hrow 7 _ rfl) hbw
      have c2 := keep_cell (hrow 8 _ rfl) hbw
      have HR := Lib.hid hrow
      clear hrow
      go_wp2_with fail
      refine (Do_mul' ha hz1 (lim_eq (show a * 1 = a from Int.mul_one a) ha) _).mono ?_
      rintro e w1 ⟨rfl, hb1⟩
      have d2 := keep_cell (row_cell wr [.string ⟨#[42]⟩, .int .i64 1, .int .i64 a] 38 2 _ rfl) hb1
      have hB1 := keep_below (keep_below hbw hbw.size (Below.alloc (Below.refl _ _) (Nat.le_refl _) _)) (Nat.le_trans hbw.size (by simp)) hb1
      clear c0 c1 c2 hb1
      go_wp2_with fail
      go_roundw
      case rel => exact ⟨3, by omega, rfl, hB1⟩
      case measure => simp [intOf]
    · have c0 := keep_cell (hrow 3 _ rfl) hbw
      have c1 := keep_cell (hrow 4 _ rfl) hbw
      have c2 := keep_cell (hrow 5 _ rfl) hbw
      have HR := Lib.hid hrow
      clear hrow
      go_wp2_with fail
      refine (Do_sub' ha hz0 (lim_eq (show a - 0 = a from Int.sub_zero a) ha) _).mono ?_
      rintro e w1 ⟨rfl, hb1⟩
      have d2 := keep_cell (row_cell wr [.string ⟨#[45]⟩, .int .i64 0, .int .i64 a] 38 2 _ rfl) hb1
      have hB1 := keep_below (keep_below hbw hbw.size (Below.alloc (Below.refl _ _) (Nat.le_refl _) _)) (Nat.le_trans hbw.size (by simp)) hb1
      clear c0 c1 c2 hb1
      go_wp2_with fail
      go_roundw
      case rel => exact ⟨2, by omega, rfl, hB1⟩
      case measure => simp [intOf]
    · have c0 := keep_cell (hrow 0 _ rfl) hbw
      have c1 := keep_cell (hrow 1 _ rfl) hbw
      have c2 := keep_cell (hrow 2 _ rfl) hbw
      have HR := Lib.hid hrow
      clear hrow
      go_wp2_with fail
      refine (Do_add' ha hz0 (lim_eq (show a + 0 = a from Int.add_zero a) ha) _).mono ?_
      rintro e w1 ⟨rfl, hb1⟩
      have d2 := keep_cell (row_cell wr [.string ⟨#[43]⟩, .int .i64 0, .int .i64 a] 38 2 _ rfl) hb1
      have hB1 := keep_below (keep_below hbw hbw.size (Below.alloc (Below.refl _ _) (Nat.le_refl _) _)) (Nat.le_trans hbw.size (by simp)) hb1
      clear c0 c1 c2 hb1
      go_wp2_with fail
      go_roundw
      case rel => exact ⟨1, by omega, rfl, hB1⟩
      case measure => simp [intOf]
theorem units_all (a : Int) (w : World) : Calls Try.prog 7 #[.int .i64 a] w fun e w' => e = .returned (.bool true) ∧ Below w.heap.size w w' := by
  cases ha : mayB a
  · exact units_out a ha w
  · exact units_any a ha w
end Go.Proofs.Ytjjlfaknebbhfaa
