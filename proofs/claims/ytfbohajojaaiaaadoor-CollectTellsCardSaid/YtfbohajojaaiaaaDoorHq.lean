/- the law's wakes, in plain Lean. No conditions. -/
import Derived.Test.YtfbohajojaaiaaaDoorHo
namespace Go.Proofs.YtfbohajojaaiaaaDoor
open Go.ChangeShapes Go.WideShapes Go.ChangeAt Go.RowKit
set_option linter.unusedVariables false
def leafW (n : Int) : Wd := ⟨false, 0, 0, n, ⟨#[]⟩, ⟨#[]⟩, none, 0, []⟩
theorem wakes_reach {C : List HC} {a b c : HC} (hC : C = [a, b, c]) (ha : a.l = [leafW 0]) (hc : c.l = [cellW 0]) (x : Int) : Rch C [cellW 2] x ↔ x = 2 ∨ x = 0 := by
  subst hC
  constructor
  · intro h
    induction h with
    | root h =>
      simp [namedW, cellW] at h
      exact .inl h
    | step _ hy ih =>
      rcases ih with rfl | rfl
      · simp [chld, hc, namedW, cellW] at hy
        exact .inr hy
      · simp [chld, ha, namedW, leafW] at hy
  · rintro (rfl | rfl)
    · exact .root (by simp [namedW, cellW])
    · exact .step (x := 2) (.root (by simp [namedW, cellW])) (by simp [chld, hc, namedW, cellW])
theorem wakes_keys {s : List Int} (h : ∀ x, x ∈ s ↔ x = 2 ∨ x = 0) : outL 3 s = [0, 2] := by
  have h0 : decide ((0 : Int) ∈ s) = true := by simp [h]
  have h1 : decide ((1 : Int) ∈ s) = false := by simp [h]
  have h2 : decide ((2 : Int) ∈ s) = true := by simp [h]
  have e : (List.range 3).map Int.ofNat = [0, 1, 2] := rfl
  rw [outL, e]
  simp [List.filter, h0, h1, h2]
theorem wakes_moved : [cellW 2].map (mv (gOf [0, 2])) = [cellW 1] := by rfl
theorem leaf_may (n : Nat) (k : Int) (h : checkN (leafW k).t = 0) : mayW n (leafW k) = true := by
  unfold mayW
  rw [if_neg (by simp [leafW]), h]
  rfl
theorem leaf_check (k : Int) (hk : 0 ≤ k ∧ k ≤ 1) : checkN (leafW k).t = 0 := by
  have h : mayI k = true := by simp [mayI]; omega
  simp [checkN, chk, chkL, leafW, Wd.t, oneB, h, bareB, empty]
theorem leaf_make (C : List HC) (k : Int) (hk : 0 ≤ k ∧ k ≤ 1) (hC : C.length < 1048576) : makeN C 5 [leafW k] = 0 ∧ sizeW C [leafW k] = 2 := by
  have h1 : sizeW C [leafW k] = 2 := by
    simp [sizeW, nodesW, leafW]
    rfl
  refine ⟨?_, h1⟩
  unfold makeN
  rw [h1, if_neg (by simp [badK, partsB, leaf_may _ _ (leaf_check k hk)]), if_neg (by omega), if_neg (by omega)]
theorem cell_make (C : List HC) (a : HC) (h0 : C[0]? = some a) (ha : a.sz = 2) (hC : C.length < 1048576) : makeN C 5 [cellW 0] = 0 := by
  have hl := (List.getElem?_eq_some_iff.1 h0).1
  have h1 : sizeW C [cellW 0] = 3 := by
    simp [sizeW, nodesW, cellW, h0, ha]
    rfl
  have h2 : mayW C.length (cellW 0) = true := by simp [mayW, cellW, empty, hl]
  unfold makeN
  rw [h1, if_neg (by simp [badK, partsB, h2]), if_neg (by omega), if_neg (by omega)]
end Go.Proofs.YtfbohajojaaiaaaDoor
