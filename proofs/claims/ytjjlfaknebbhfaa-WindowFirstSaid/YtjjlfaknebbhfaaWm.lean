/- The functions of package window, walked: what May tells. Conditions: the slice lies in old memory. -/
import Derived.Test.YtjjlfaknebbhfaaK
namespace Go.Proofs.Ytjjlfaknebbhfaa
open Go.ChangeShapes Go.WideShapes Go.ChangeAt Go.RowKit
set_option linter.unusedVariables false
theorem all_any (w : World) : Calls Try.prog 36 #[] w fun e w' => e = .returned (.agg #[.int .i64 0, .int .i64 1099511627776]) ∧ Below w.heap.size w w' := by
  go_enter Try.func36, Try.ntmps36
  go_wp2
  go_returns
  exact ⟨rfl, by go_grown⟩
theorem meet_any (w : World) (a b c d : Int) : Calls Try.prog 37 #[.agg #[.int .i64 a, .int .i64 b], .agg #[.int .i64 c, .int .i64 d]] w fun e w' => e = .returned (.agg #[.int .i64 (max a c), .int .i64 (min b d)]) ∧ Below w.heap.size w w' := by
  go_enter Try.func37, Try.ntmps37
  go_wp2
  go_returns
  exact ⟨rfl, by go_grown⟩
def mayFrom (lo : Int) : List Int → Bool
  | [] => true
  | t :: r => decide (lo ≤ t) && decide (t ≤ 1099511627776) && mayFrom t r
def wmay (xs : List Int) : Bool := mayFrom 0 xs && decide (xs.length ≤ 4096)

theorem mayFrom_drop (lo : Int) (xs : List Int) (k : Nat) (h : k < xs.length) : mayFrom lo (xs.drop k) = (decide (lo ≤ xs.getD k 0) && decide (xs.getD k 0 ≤ 1099511627776) && mayFrom (xs.getD k 0) (xs.drop (k + 1))) := by
  rw [List.drop_eq_getElem_cons h]
  simp [mayFrom, List.getD_eq_getElem?_getD, List.getElem?_eq_getElem h]
theorem mayFrom_end (lo : Int) (xs : List Int) (k : Nat) (h : ¬ k < xs.length) : mayFrom lo (xs.drop k) = true := by
  rw [List.drop_eq_nil_of_le (by omega)]; rfl
set_option maxHeartbeats 1000000 in
theorem may_any (w : World) (b off cap : Nat) (xs : List Int) (hm : xs.length ≤ 9223372036854775807) (hb : b < w.heap.size)
    (hc : ∀ i, i < xs.length → w.cell? ⟨b, off + i, none⟩ = some (.int .i64 (xs.getD i 0))) :
    Calls Try.prog 28 #[.slice (some ⟨b, off, none⟩) xs.length cap] w fun e w' => e = .returned (.bool (wmay xs)) ∧ Below w.heap.size w w' := by
  have HC := Lib.hid hc
  clear hc
  go_enter Try.func28, Try.ntmps28
  go_wp2_with (go_at_call 36; refine (all_any _).mono ?_; rintro e w1 ⟨rfl, hb1⟩)
  have hs1 := hb1.size
  go_loopw [10] (fun i wr => ∃ k : Nat, ∃ lo : Int, k ≤ xs.length ∧ i = .int .i64 k ∧ w1.heap.size < wr.heap.size ∧ wr.cell? ⟨w1.heap.size, 0, none⟩ = some (.int .i64 lo) ∧ wr.cell? ⟨w1.heap.size, 1, none⟩ = some (.int .i64 1099511627776) ∧ wr.frozen? ⟨w1.heap.size, 0, none⟩ = false ∧ Below w.heap.size w wr ∧ Hid (mayFrom 0 xs = mayFrom lo (xs.drop k)))
    (fun i _ => xs.length - (intOf i).toNat)
  case atStart =>
    refine ⟨0, 0, by omega, rfl, by simp, by simp [go_sem], by simp [go_sem], by simp [go_sem], ?_, rfl⟩
    exact (hb1.alloc (by omega) _)
  case round =>
    obtain ⟨k, lo, hk, rfl, hsz, hc0, hc1, hf0, hbw, HM⟩ := hrel
    have hszw := hbw.size
    by_cases hlt : k < xs.length
    · have hx : wr.cell? ⟨b, off + k, none⟩ = some (.int .i64 (xs.getD k 0)) := (hbw.cell (by exact hb)).trans (HC.out k hlt)
      have hd := mayFrom_drop lo xs k hlt
      generalize xs.getD k 0 = t at hx hd
      have HD := Lib.hid hd
      clear hd
      go_wp2_with fail
      have hbx : Below w.heap.size w (wr.alloc (.cells #[.int .i64 t, .int .i64 t] 62)) := hbw.alloc (by omega) _
      have c0 : (wr.alloc (.cells #[.int .i64 t, .int .i64 t] 62)).cell? ⟨w1.heap.size, 0, none⟩ = some (.int .i64 lo) := by go_cell
      have c1 : (wr.alloc (.cells #[.int .i64 t, .int .i64 t] 62)).cell? ⟨w1.heap.size, 1, none⟩ = some (.int .i64 1099511627776) := by go_cell
      have c2 : (wr.alloc (.cells #[.int .i64 t, .int .i64 t] 62)).cell? ⟨wr.heap.size, 0, none⟩ = some (.int .i64 t) := by go_cell
      have c3 : (wr.alloc (.cells #[.int .i64 t, .int .i64 t] 62)).cell? ⟨wr.heap.size, 1, none⟩ = some (.int .i64 t) := by go_cell
      have f0 : (wr.alloc (.cells #[.int .i64 t, .int .i64 t] 62)).frozen? ⟨w1.heap.size, 0, none⟩ = false := by rw [frozen?_alloc_cells]; exact hf0
      have s0 : w1.heap.size < (wr.alloc (.cells #[.int .i64 t, .int .i64 t] 62)).heap.size := by simp; omega
      have q1 := hbw.size
      generalize wr.alloc (.cells #[.int .i64 t, .int .i64 t] 62) = W at *
      by_cases hin : lo ≤ t ∧ t ≤ 1099511627776
      · have e1 : max t lo = t := by omega
        have e2 : min t 1099511627776 = t := by omega
        go_region_held3 (fun w' => w'.cell? ⟨w1.heap.size, 0, none⟩ = some (.int .i64 lo) ∧ w'.cell? ⟨w1.heap.size, 1, none⟩ = some (.int .i64 1099511627776) ∧ w'.cell? ⟨wr.heap.size, 0, none⟩ = some (.int .i64 t) ∧ w'.cell? ⟨wr.heap.size, 1, none⟩ = some (.int .i64 t) ∧ w'.frozen? ⟨w1.heap.size, 0, none⟩ = false ∧ Below w.heap.size w w' ∧ w1.heap.size < w'.heap.size)
          (first | exact ⟨c0, c1, c2, c3, f0, hbx.drew, s0⟩ | (go_split_ands; exact ⟨keep_cell (by assumption) hb2, keep_cell (by assumption) hb2, keep_cell (by assumption) hb2, keep_cell (by assumption) hb2, keep_frozen (by assumption) (by assumption) hb2, keep_below (by assumption) (Below.size (by assumption)) hb2, Nat.lt_of_lt_of_le (by assumption) hb2.size⟩))
          (first | (go_at_call 37; refine (meet_any _ _ _ _ _).mono ?_; rintro e w2 ⟨rfl, hb2⟩))
        have g0 : w2.cell? ⟨w1.heap.size, 0, none⟩ = some (.int .i64 lo) := by go_split_ands; assumption
        have g1 : w2.cell? ⟨w1.heap.size, 1, none⟩ = some (.int .i64 1099511627776) := by go_split_ands; assumption
        have g2 : w2.frozen? ⟨w1.heap.size, 0, none⟩ = false := by go_split_ands; assumption
        have g3 : Below w.heap.size w w2 := by go_split_ands; assumption
        have g4 : w1.heap.size < w2.heap.size := by go_split_ands; assumption
        go_wp2
        go_roundw
        case rel =>
          refine ⟨k + 1, t, by omega, by go_num, by simpa [World.setCell] using g4, by go_cell, by go_cell, by rw [World.frozen?_setCell]; exact g2, g3.setCell (by exact hs1) _, ?_⟩
          show _ = _
          rw [HM.out, HD.out]
          simp [hin]
        case measure => simp [intOf]; omega
      · by_cases hlo : lo ≤ t
        · have e1 : max t lo = t := by omega
          have e2 : min t 1099511627776 = 1099511627776 := by omega
          have e3 : ((1099511627776 : Int) == t) = false := by simp; omega
          go_region_held3 (fun w' => w'.cell? ⟨w1.heap.size, 0, none⟩ = some (.int .i64 lo) ∧ w'.cell? ⟨w1.heap.size, 1, none⟩ = some (.int .i64 1099511627776) ∧ w'.cell? ⟨wr.heap.size, 0, none⟩ = some (.int .i64 t) ∧ w'.cell? ⟨wr.heap.size, 1, none⟩ = some (.int .i64 t) ∧ w'.frozen? ⟨w1.heap.size, 0, none⟩ = false ∧ Below w.heap.size w w' ∧ w1.heap.size < w'.heap.size)
            (first | exact ⟨c0, c1, c2, c3, f0, hbx.drew, s0⟩ | (go_split_ands; exact ⟨keep_cell (by assumption) hb2, keep_cell (by assumption) hb2, keep_cell (by assumption) hb2, keep_cell (by assumption) hb2, keep_frozen (by assumption) (by assumption) hb2, keep_below (by assumption) (Below.size (by assumption)) hb2, Nat.lt_of_lt_of_le (by assumption) hb2.size⟩))
            (first | (go_at_call 37; refine (meet_any _ _ _ _ _).mono ?_; rintro e w2 ⟨rfl, hb2⟩))
          have g3 : Below w.heap.size w w2 := by go_split_ands; assumption
          go_wp2
          go_ret
          refine ⟨?_, g3⟩
          have : wmay xs = false := by
            unfold wmay
            rw [HM.out, HD.out]
            simp; omega
          rw [this]; rfl
        · have e1 : max t lo = lo := by omega
          have e3 : (lo == t) = false := by simp; omega
          go_region_held3 (fun w' => w'.cell? ⟨w1.heap.size, 0, none⟩ = some (.int .i64 lo) ∧ w'.cell? ⟨w1.heap.size, 1, none⟩ = some (.int .i64 1099511627776) ∧ w'.cell? ⟨wr.heap.size, 0, none⟩ = some (.int .i64 t) ∧ w'.cell? ⟨wr.heap.size, 1, none⟩ = some (.int .i64 t) ∧ w'.frozen? ⟨w1.heap.size, 0, none⟩ = false ∧ Below w.heap.size w w' ∧ w1.heap.size < w'.heap.size)
            (first | exact ⟨c0, c1, c2, c3, f0, hbx.drew, s0⟩ | (go_split_ands; exact ⟨keep_cell (by assumption) hb2, keep_cell (by assumption) hb2, keep_cell (by assumption) hb2, keep_cell (by assumption) hb2, keep_frozen (by assumption) (by assumption) hb2, keep_below (by assumption) (Below.size (by assumption)) hb2, Nat.lt_of_lt_of_le (by assumption) hb2.size⟩))
            (first | (go_at_call 37; refine (meet_any _ _ _ _ _).mono ?_; rintro e w2 ⟨rfl, hb2⟩))
          have g3 : Below w.heap.size w w2 := by go_split_ands; assumption
          go_wp2
          go_ret
          refine ⟨?_, g3⟩
          have : wmay xs = false := by
            unfold wmay
            rw [HM.out, HD.out]
            simp; omega
          rw [this]; rfl
    · go_wp2
      go_ret
      refine ⟨?_, hbw⟩
      have : wmay xs = decide ((xs.length : Int) ≤ 4096) := by
        unfold wmay
        rw [HM.out, mayFrom_end _ _ _ hlt]
        simp; omega
      rw [this]; rfl
end Go.Proofs.Ytjjlfaknebbhfaa
