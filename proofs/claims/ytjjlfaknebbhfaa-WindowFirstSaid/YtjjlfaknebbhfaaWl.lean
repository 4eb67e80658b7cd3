/- From a row of integers that came in to the walk's own words. No conditions. -/
import Derived.Test.YtjjlfaknebbhfaaWj
namespace Go.Proofs.Ytjjlfaknebbhfaa.Wl
open Go.ChangeShapes Go.WideShapes Go.ChangeAt Go.RowKit
set_option linter.unusedVariables false
theorem bd {a : Int} (h : (Lit.int .i64 a).wf = true) : -9223372036854775808 ≤ a ∧ a ≤ 9223372036854775807 := by
  exact bounds_i64 h
theorem slI_row {w : World} {a : Option Addr} {len cap : Nat} {zs : List Int} (h : (a = none ∧ len = 0 ∧ cap = 0) ∨ ∃ x, a = some x ∧ len ≤ cap ∧ cap ≤ maxLen ∧ zs.length = cap ∧ (∀ i, i < zs.length → w.cell? (x.add i) = some (.int .i64 (zs.getD i 0)))) :
    SlI w (.slice a len cap) (zs.take len) := by
  rcases h with ⟨rfl, rfl, rfl⟩ | ⟨x, rfl, h1, h2, h3, h4⟩
  · exact SlI_nil w
  · have hl : (zs.take len).length = len := by rw [List.length_take]; omega
    unfold maxLen at h2
    refine ⟨some x, cap, by rw [hl], by omega, by omega, ?_⟩
    rcases Nat.eq_zero_or_pos len with h0 | h0
    · subst h0
      exact .inl ⟨by simp, fun h => by cases h⟩
    · have hx := h4 0 (by omega)
      have e : x = ⟨x.block, x.off, none⟩ := by
        obtain ⟨b, o, sp⟩ := x
        cases sp with
        | none => rfl
        | some sp =>
          simp only [Addr.add, World.cell?] at hx
          split at hx <;> simp at hx
      refine .inr ⟨x.block, x.off, by rw [← e], ?_, ?_, fun i hi => ?_⟩
      · exact World.block_lt_of_cell? w (x.add 0) hx
      · intro h; rw [h] at hl; simp at hl; omega
      · have h5 := h4 i (by omega)
        rw [e, Addr.add_lit] at h5
        rw [h5]
        simp only [List.getD_eq_getElem?_getD, List.getElem?_take]
        rw [if_pos (by omega)]
theorem more_row (a0 : Option Addr) (len0 cap0 : Nat) (z0 : List Int) (a1 a2 a3 a4 : Int) (w : World)
    (h : (a0 = none ∧ len0 = 0 ∧ cap0 = 0) ∨ ∃ x, a0 = some x ∧ len0 ≤ cap0 ∧ cap0 ≤ maxLen ∧ z0.length = cap0 ∧ (∀ i, i < z0.length → w.cell? (x.add i) = some (.int .i64 (z0.getD i 0))))
    (h4 : -9223372036854775808 ≤ a4 ∧ a4 ≤ 9223372036854775807) :
    Calls Try.prog 3 #[.slice a0 len0 cap0, .int .i64 a1, .int .i64 a2, .int .i64 a3, .int .i64 a4] w fun e w' => e = .returned (.bool true) ∧ Below w.heap.size w w' :=
  more_any w _ _ a1 a2 a3 a4 (slI_row h) h4
end Go.Proofs.Ytjjlfaknebbhfaa.Wl
