/- plain laws: a number put into a row that rises, and taken out of it again. No conditions. -/
import Derived.Test.YtemgnljegbaobaaGreatDoorNr
namespace Go.Proofs.YtemgnljegbaobaaGreatDoor
set_option linter.unusedVariables false
theorem placeOf_cons (y : Int) (l : List Int) (k : Int) : placeOf (y :: l) k = if k < y then 0 else placeOf l k + 1 := by
  unfold placeOf
  rw [idxOf]
  by_cases h : k < y
  · simp [h]
  · have hd : decide (k < y) = false := by simpa using h
    have h1 := idxOf_lt (p := fun z => decide (k < z)) l
    rw [hd]
    by_cases h0 : idxOf (fun z => decide (k < z)) l < 0
    · simp [h, h0]
    · have h2 : ¬ (idxOf (fun z => decide (k < z)) l + 1 < 0) := by omega
      simp only [h, h0, h2, if_false, Bool.false_eq_true]
      omega
theorem putL_nil (k : Int) : putL [] k = [k] := by simp [putL, placeOf, idxOf]
theorem putL_cons (y : Int) (l : List Int) (k : Int) : putL (y :: l) k = if k < y then k :: y :: l else y :: putL l k := by
  unfold putL
  rw [placeOf_cons]
  by_cases h : k < y
  · simp [h]
  · simp [h]
theorem mem_putL {x k : Int} : ∀ (l : List Int), x ∈ putL l k ↔ x = k ∨ x ∈ l
  | [] => by simp [putL_nil]
  | y :: l => by
    rw [putL_cons]
    split
    · simp
    · rw [List.mem_cons, mem_putL l, List.mem_cons]
      constructor
      · rintro (h | h | h) <;> simp [h]
      · rintro (h | h | h) <;> simp [h]
theorem rises_putL {k : Int} : ∀ (l : List Int) (last : Int), risesL last l = true → last < k → k ∉ l → risesL last (putL l k) = true
  | [], last, _, h, _ => by
    rw [putL_nil, risesL, if_neg (by omega)]
    rfl
  | y :: l, last, hr, h, hn => by
    rw [risesL] at hr
    have hy : ¬ y ≤ last := fun e => by rw [if_pos e] at hr; cases hr
    rw [if_neg hy] at hr
    rw [putL_cons]
    split
    · rename_i hky
      rw [risesL, if_neg (by omega), risesL, if_neg (by omega)]
      exact hr
    · rename_i hky
      rw [risesL, if_neg hy]
      have : k ≠ y := fun e => hn (by simp [e])
      exact rises_putL l y hr (by omega) fun e => hn (List.mem_cons_of_mem _ e)
theorem filter_putL {k : Int} : ∀ (l : List Int), k ∉ l → (putL l k).filter (fun x => !(x == k)) = l
  | [], _ => by simp [putL_nil]
  | y :: l, hn => by
    have h1 : k ∉ l := fun e => hn (List.mem_cons_of_mem _ e)
    have h2 : y ≠ k := fun e => hn (by simp [e])
    have h3 : ∀ m : List Int, k ∉ m → m.filter (fun x => !(x == k)) = m := fun m hm => by
      rw [List.filter_eq_self]
      intro x hx
      have : x ≠ k := fun e => hm (e ▸ hx)
      simpa using this
    rw [putL_cons]
    split
    · rw [List.filter_cons_of_neg (by simp)]
      exact h3 _ hn
    · rw [List.filter_cons_of_pos (by simpa using h2), filter_putL l h1]
theorem any_putL (l : List Int) (k : Int) : ((putL l k).any fun x => x == k) = true := by
  rw [List.any_eq_true]
  exact ⟨k, (mem_putL l).2 (.inl rfl), by simp⟩
theorem putL_length (l : List Int) (k : Int) : (putL l k).length = l.length + 1 := by
  have := placeOf_le l k
  simp [putL]
  omega
theorem placeW_cons (y : Int × Int) (l : List (Int × Int)) (k : Int × Int) : placeW (y :: l) k = if k.1 < y.1 then 0 else placeW l k + 1 := by
  unfold placeW
  rw [idxOf]
  by_cases h : k.1 < y.1
  · simp [h]
  · have hd : decide (k.1 < y.1) = false := by simpa using h
    have h1 := idxOf_lt (p := fun z : Int × Int => decide (k.1 < z.1)) l
    rw [hd]
    by_cases h0 : idxOf (fun z : Int × Int => decide (k.1 < z.1)) l < 0
    · simp [h, h0]
    · have h2 : ¬ (idxOf (fun z : Int × Int => decide (k.1 < z.1)) l + 1 < 0) := by omega
      simp only [h, h0, h2, if_false, Bool.false_eq_true]
      omega
theorem putLW_nil (k : Int × Int) : putLW [] k = [k] := by simp [putLW, placeW, idxOf]
theorem putLW_cons (y : Int × Int) (l : List (Int × Int)) (k : Int × Int) : putLW (y :: l) k = if k.1 < y.1 then k :: y :: l else y :: putLW l k := by
  unfold putLW
  rw [placeW_cons]
  by_cases h : k.1 < y.1
  · simp [h]
  · simp [h]
theorem fst_putLW (k : Int × Int) : ∀ l : List (Int × Int), (putLW l k).map Prod.fst = putL (l.map Prod.fst) k.1
  | [] => by simp [putLW_nil, putL_nil]
  | y :: l => by
    rw [putLW_cons, List.map_cons, putL_cons]
    split
    · simp
    · rw [List.map_cons, fst_putLW k l]
theorem any_putLW (p : Int × Int → Bool) (k : Int × Int) : ∀ l : List (Int × Int), (putLW l k).any p = (p k || l.any p)
  | [] => by simp [putLW_nil]
  | y :: l => by
    rw [putLW_cons]
    split
    · simp
    · rw [List.any_cons, any_putLW p k l, List.any_cons]
      cases p y <;> cases p k <;> simp
theorem putLW_length (l : List (Int × Int)) (k : Int × Int) : (putLW l k).length = l.length + 1 := by
  have := placeW_le l k
  simp [putLW]
  omega
theorem watchOf_none {l : List (Int × Int)} {r : Int} (h : ¬ (watchOf l r).2 = true) : ∀ x ∈ l, x.1 ≠ r := by
  intro x hx e
  unfold watchOf at h
  cases hf : l.find? (fun x => x.1 == r) with
  | none =>
    have := List.find?_eq_none.1 hf x hx
    simp [e] at this
  | some y => rw [hf] at h; exact h rfl
theorem watchOf_put {k r : Int} : ∀ {l : List (Int × Int)}, (∀ x ∈ l, x.1 ≠ r) → watchOf (putLW l (r, k)) r = (k, true)
  | [], _ => by simp [putLW_nil, watchOf]
  | y :: l, h => by
    have ih := watchOf_put (k := k) (r := r) (l := l) fun x hx => h x (List.mem_cons_of_mem _ hx)
    have hy : (y.1 == r) = false := by simpa using h y List.mem_cons_self
    rw [putLW_cons]
    split
    · simp [watchOf]
    · unfold watchOf at ih ⊢
      rw [List.find?_cons, hy]
      exact ih
theorem erase_putLW {k r : Int} : ∀ {l : List (Int × Int)}, (∀ x ∈ l, x.1 ≠ r) → ∃ i : Nat, idxOf (fun x : Int × Int => x.1 == r) (putLW l (r, k)) = i ∧ i < (putLW l (r, k)).length ∧ (putLW l (r, k)).eraseIdx i = l
  | [], _ => ⟨0, by simp [putLW_nil, idxOf], by simp [putLW_nil], by simp [putLW_nil]⟩
  | y :: l, h => by
    obtain ⟨i, h1, h2, h3⟩ := erase_putLW (k := k) (r := r) (l := l) fun x hx => h x (List.mem_cons_of_mem _ hx)
    have hy : (y.1 == r) = false := by simpa using h y List.mem_cons_self
    rw [putLW_cons]
    split
    · exact ⟨0, by simp [idxOf], by simp, by simp⟩
    · refine ⟨i + 1, ?_, by simpa using h2, by simpa using h3⟩
      rw [idxOf, hy, h1]
      have : ¬ ((i : Int) < 0) := by omega
      simp [this]
end Go.Proofs.YtemgnljegbaobaaGreatDoor
