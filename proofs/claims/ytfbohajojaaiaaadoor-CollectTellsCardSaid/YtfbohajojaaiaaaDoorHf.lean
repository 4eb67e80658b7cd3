/- collect: what is reached, in plain Lean. No conditions. -/
import Derived.Test.YtfbohajojaaiaaaDoorHe
namespace Go.Proofs.YtfbohajojaaiaaaDoor
open Go.ChangeShapes Go.WideShapes Go.ChangeAt Go.RowKit
open Go.Maps (Keyed)
set_option linter.unusedVariables false
def namedW (L : List Wd) : List Int := (L.filter (·.c)).map (·.a)
def chld (C : List HC) (i : Int) : List Int := match C[i.toNat]? with | some c => namedW c.l | none => []
inductive Rch (C : List HC) (L : List Wd) : Int → Prop
  | root {x : Int} : x ∈ namedW L → Rch C L x
  | step {x y : Int} : Rch C L x → y ∈ chld C x → Rch C L y
theorem mem_named {L : List Wd} {x : Int} : x ∈ namedW L ↔ ∃ y ∈ L, y.c = true ∧ y.a = x := by
  simp [namedW, and_assoc]
/-- words are seen, one behind the other: what is seen, what is to do -/
def seeL : List Int → List Int → List Wd → List Int × List Int
  | s, t, [] => (s, t)
  | s, t, x :: l => if x.c = true ∧ x.a ∉ s then seeL (s ++ [x.a]) (t ++ [x.a]) l else seeL s t l
theorem seeL_spec : ∀ (L : List Wd) (s t : List Int), (∃ d, (seeL s t L).1 = s ++ d ∧ (seeL s t L).2 = t ++ d ∧ (∀ x ∈ d, x ∈ namedW L) ∧ (s.Nodup → (s ++ d).Nodup)) ∧ ∀ x ∈ namedW L, x ∈ (seeL s t L).1
  | [], s, t => ⟨⟨[], by simp [seeL], by simp [seeL], by simp, by simp⟩, by simp [namedW]⟩
  | y :: L, s, t => by
    rw [seeL]
    split
    · rename_i h
      obtain ⟨⟨d, h1, h2, h3, h4⟩, h5⟩ := seeL_spec L (s ++ [y.a]) (t ++ [y.a])
      refine ⟨⟨y.a :: d, by rw [h1]; simp, by rw [h2]; simp, fun x hx => ?_, fun hs => ?_⟩, fun x hx => ?_⟩
      · rw [List.mem_cons] at hx
        rcases hx with rfl | hx
        · exact mem_named.2 ⟨y, by simp, h.1, rfl⟩
        · obtain ⟨z, hz, r⟩ := mem_named.1 (h3 x hx)
          exact mem_named.2 ⟨z, by simp [hz], r⟩
      · have := h4 (by rw [List.nodup_append]; exact ⟨hs, by simp, fun a ha b hb => by simp at hb; subst hb; intro e; subst e; exact h.2 ha⟩)
        simpa using this
      · obtain ⟨z, hz, hc, rfl⟩ := mem_named.1 hx
        rw [List.mem_cons] at hz
        rcases hz with rfl | hz
        · rw [h1]; simp
        · exact h5 _ (mem_named.2 ⟨z, hz, hc, rfl⟩)
    · rename_i h
      obtain ⟨⟨d, h1, h2, h3, h4⟩, h5⟩ := seeL_spec L s t
      refine ⟨⟨d, h1, h2, fun x hx => ?_, h4⟩, fun x hx => ?_⟩
      · obtain ⟨z, hz, r⟩ := mem_named.1 (h3 x hx)
        exact mem_named.2 ⟨z, by simp [hz], r⟩
      · obtain ⟨z, hz, hc, rfl⟩ := mem_named.1 hx
        rw [List.mem_cons] at hz
        rcases hz with rfl | hz
        · have : z.a ∈ s := by
            apply Classical.byContradiction
            intro hn
            exact h ⟨hc, hn⟩
          rw [h1]
          simp [this]
        · exact h5 _ (mem_named.2 ⟨z, hz, hc, rfl⟩)
/-- what stands while there is something to do -/
structure RI (C : List HC) (L : List Wd) (s t : List Int) : Prop where
  nd : s.Nodup
  td : t.Nodup
  sub : ∀ x ∈ t, x ∈ s
  lt : ∀ x ∈ s, 0 ≤ x ∧ x < C.length
  sound : ∀ x ∈ s, Rch C L x
  roots : ∀ x ∈ namedW L, x ∈ s
  closed : ∀ x ∈ s, x ∉ t → ∀ y ∈ chld C x, y ∈ s
theorem nodup_lt : ∀ (n : Nat) (l : List Nat), l.Nodup → (∀ x ∈ l, x < n) → l.length ≤ n
  | 0, l, _, h => by
    cases l with
    | nil => simp
    | cons a l => exact absurd (h a (by simp)) (by omega)
  | n + 1, l, hn, h => by
    by_cases hm : n ∈ l
    · have h1 := nodup_lt n (l.erase n) (hn.erase n) (fun x hx => by
        have h2 := (hn.mem_erase_iff).1 hx
        have := h x h2.2
        have := h2.1
        omega)
      rw [List.length_erase_of_mem hm] at h1
      omega
    · have := nodup_lt n l hn (fun x hx => by
        have := h x hx
        have : x ≠ n := fun e => hm (e ▸ hx)
        omega)
      omega
theorem len_of_nodup {s : List Int} {n : Nat} (h : s.Nodup) (hs : ∀ x ∈ s, 0 ≤ x ∧ x < n) : s.length ≤ n := by
  have h1 : (s.map Int.toNat).Nodup := by
    rw [List.nodup_iff_pairwise_ne, List.pairwise_map]
    rw [List.nodup_iff_pairwise_ne] at h
    exact h.imp_of_mem (fun {a b} ha hb hab e => hab (by have := hs a ha; have := hs b hb; omega))
  have := nodup_lt n _ h1 (fun x hx => by
    obtain ⟨y, hy, rfl⟩ := List.mem_map.1 hx
    have := hs y hy
    omega)
  simpa using this
theorem chld_lt {C : List HC} (hC : Good C) {x y : Int} (hx : 0 ≤ x ∧ x < C.length) (hy : y ∈ chld C x) : 0 ≤ y ∧ y < C.length := by
  unfold chld at hy
  have hi : x.toNat < C.length := by omega
  rw [List.getElem?_eq_getElem hi] at hy
  obtain ⟨z, hz, hc, rfl⟩ := mem_named.1 hy
  have := (hC.2 x.toNat _ (List.getElem?_eq_getElem hi)).2.2.2.2 z hz
  simp only [mayW, hc, if_true, Bool.and_eq_true, decide_eq_true_eq] at this
  omega
theorem RI.start {C : List HC} {L : List Wd} (hL : ∀ x ∈ L, mayW C.length x = true) : RI C L (seeL [] [] L).1 (seeL [] [] L).2 := by
  obtain ⟨⟨d, h1, h2, h3, h4⟩, h5⟩ := seeL_spec L [] []
  have h6 := h4 List.nodup_nil
  simp only [List.nil_append] at h1 h2 h6
  rw [h1, h2]
  refine ⟨h6, h6, fun x hx => hx, fun x hx => ?_, fun x hx => .root (h3 x hx), fun x hx => by rw [← h1]; exact h5 x hx, fun x hx hn => absurd hx hn⟩
  obtain ⟨z, hz, hc, rfl⟩ := mem_named.1 (h3 x hx)
  have := hL z hz
  simp only [mayW, hc, if_true, Bool.and_eq_true, decide_eq_true_eq] at this
  omega
theorem RI.next {C : List HC} {L : List Wd} {s t : List Int} {k : Int} {c : HC} (hC : Good C) (h : RI C L s (t ++ [k])) (hk : C[k.toNat]? = some c) :
    RI C L (seeL s t c.l).1 (seeL s t c.l).2 ∧ 2 * (C.length - (seeL s t c.l).1.length) + (seeL s t c.l).2.length < 2 * (C.length - s.length) + (t ++ [k]).length := by
  obtain ⟨⟨d, h1, h2, h3, h4⟩, h5⟩ := seeL_spec c.l s t
  have hks : k ∈ s := h.sub k (by simp)
  have hkc : chld C k = namedW c.l := by unfold chld; rw [hk]
  have htn := h.td
  rw [List.nodup_append] at htn
  have hkt : k ∉ t := fun hm => htn.2.2 k hm k (by simp) rfl
  have hnd := h4 h.nd
  have hlt : ∀ x ∈ s ++ d, 0 ≤ x ∧ x < C.length := fun x hx => by
    rw [List.mem_append] at hx
    rcases hx with hx | hx
    · exact h.lt x hx
    · exact chld_lt hC (h.lt k hks) (by rw [hkc]; exact h3 x hx)
  have hnd' := hnd
  rw [List.nodup_append] at hnd'
  rw [h1, h2]
  refine ⟨⟨hnd, ?_, fun x hx => ?_, hlt, fun x hx => ?_, fun x hx => by simp [h.roots x hx], fun x hx hn y hy => ?_⟩, ?_⟩
  · rw [List.nodup_append]
    exact ⟨htn.1, hnd'.2.1, fun a ha b hb e => hnd'.2.2 a (h.sub a (by simp [ha])) b hb e⟩
  · rw [List.mem_append] at hx ⊢
    exact hx.imp (fun hx => h.sub x (by simp [hx])) id
  · rw [List.mem_append] at hx
    rcases hx with hx | hx
    · exact h.sound x hx
    · exact .step (h.sound k hks) (by rw [hkc]; exact h3 x hx)
  · rw [List.mem_append] at hx
    by_cases hxk : x = k
    · subst hxk
      rw [hkc] at hy
      rw [← h1]
      exact h5 y hy
    · have hxt : x ∉ t := fun hm => hn (by simp [hm])
      rcases hx with hx | hx
      · have := h.closed x hx (by simp [hxt, hxk]) y hy
        simp [this]
      · exact absurd (by simp [hx]) hn
  · have := len_of_nodup hnd hlt
    simp at this ⊢
    omega
theorem RI.done {C : List HC} {L : List Wd} {s : List Int} (h : RI C L s []) (x : Int) : x ∈ s ↔ Rch C L x := by
  refine ⟨h.sound x, fun hr => ?_⟩
  induction hr with
  | root hx => exact h.roots _ hx
  | step _ hy ih => exact h.closed _ ih (by simp) _ hy
def ikey (p : Int) : Lit := .int .i64 p
theorem ikey_ne {p q : Int} (h : p ≠ q) : ikey p ≠ ikey q := by
  intro e
  injection e with _ e
  exact h e
/-- the map of what is seen -/
def setM (s : List Int) : DataW Unit := s.foldl (fun D p => D.put (ikey p) (.lit (.bool true))) (.map [])
theorem setM_snoc (s : List Int) (p : Int) : setM (s ++ [p]) = (setM s).put (ikey p) (.lit (.bool true)) := by simp [setM]
theorem snoc_ind {α : Type} {p : List α → Prop} (h0 : p []) (h1 : ∀ l a, p l → p (l ++ [a])) (l : List α) : p l := by
  have : ∀ m : List α, p m.reverse := by
    intro m
    induction m with
    | nil => exact h0
    | cons a m ih => rw [List.reverse_cons]; exact h1 _ _ ih
  simpa using this l.reverse
theorem setM_isMap (s : List Int) : Maps.IsMap (setM s) := by
  induction s using snoc_ind with
  | h0 => exact Maps.isMap_empty
  | h1 l a ih => rw [setM_snoc]; exact ih.put _ _
theorem setM_at (s : List Int) (p : Int) : (setM s).atKey (ikey p) (.lit (.bool false)) = .lit (.bool (decide (p ∈ s))) := by
  induction s using snoc_ind with
  | h0 => simp; rfl
  | h1 l a ih =>
    rw [setM_snoc]
    by_cases h : p = a
    · subst h
      rw [Maps.atKey_put_same (setM_isMap l) (show WideAt.IsKeyLit (ikey p) from trivial)]
      simp
    · rw [Maps.atKey_put_other (ikey_ne h), ih]
      simp [h]
end Go.Proofs.YtfbohajojaaiaaaDoor
