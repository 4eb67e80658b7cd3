/- stop: rows of records in memory; which pids are seen; Clone. Conditions: at most 40 records. -/
import Derived.Test.YtjepiimggaiejaaK
namespace Go.Proofs.Ytjepiimggaiejaa
open Go.ChangeShapes Go.WideShapes Go.ChangeAt Go.RowKit
open Go.Maps (Keyed)
set_option linter.unusedVariables false
/-- a record: what its cells hold; its pid -/
structure Rc where
  (k n : Int)
  (s t : ByteArray)
  l : Option Addr
  (ln lc : Nat)
  (kd rs sh : Int)
  (m f : ByteArray)
  g : Option Addr
  (gn gc : Nat)
  u : Option Addr
  (un uc : Nat)
  p : Int
def Rc.cells (r : Rc) : List Value := [.int .i8 r.k, .int .i64 r.n, .string r.s, .string r.t, .slice r.l r.ln r.lc, .int .i8 r.kd, .int .i8 r.rs, .int .i64 r.sh, .string r.m, .string r.f, .slice r.g r.gn r.gc, .slice r.u r.un r.uc, .int .i64 r.p]
theorem Rc.one (r : Rc) : ∀ u ∈ r.cells, u.oneCell' = true := by
  intro u hu
  simp only [Rc.cells, List.mem_cons, List.not_mem_nil, or_false] at hu
  rcases hu with rfl | rfl | rfl | rfl | rfl | rfl | rfl | rfl | rfl | rfl | rfl | rfl | rfl <;> rfl
def Rc.ok (r : Rc) : Prop := -9223372036854775808 ≤ r.p ∧ r.p ≤ 9223372036854775807
def RcAt (w : World) (b o : Nat) (r : Rc) : Prop := ∀ j u, r.cells[j]? = some u → w.cell? ⟨b, o + j, none⟩ = some u
def RRow (w : World) (ao : Option Addr) (R : List Rc) : Prop := ∀ i r, R[i]? = some r → ∃ b off, ao = some ⟨b, off, none⟩ ∧ b < w.heap.size ∧ RcAt w b (off + i * 13) r
theorem RRow.keep {w w' : World} {ao : Option Addr} {R : List Rc} (h : RRow w ao R) (hb : Below w.heap.size w w') : RRow w' ao R := by
  intro i t hi
  obtain ⟨b, off, e, hl, h1⟩ := h i t hi
  exact ⟨b, off, e, Nat.lt_of_lt_of_le hl hb.size, fun j u hj => keep_cell (h1 j u hj) hb⟩
theorem RcAt.pid {w : World} {b o : Nat} {r : Rc} (h : RcAt w b o r) : w.cell? ⟨b, o + 12, none⟩ = some (.int .i64 r.p) := h 12 _ rfl
theorem RcAt.all {w : World} {b o : Nat} {r : Rc} (h : RcAt w b o r) :
    w.cell? ⟨b, o, none⟩ = some (.int .i8 r.k) ∧ w.cell? ⟨b, o + 1, none⟩ = some (.int .i64 r.n) ∧ w.cell? ⟨b, o + 2, none⟩ = some (.string r.s) ∧ w.cell? ⟨b, o + 3, none⟩ = some (.string r.t) ∧ w.cell? ⟨b, o + 4, none⟩ = some (.slice r.l r.ln r.lc) ∧ w.cell? ⟨b, o + 5, none⟩ = some (.int .i8 r.kd) ∧
    w.cell? ⟨b, o + 6, none⟩ = some (.int .i8 r.rs) ∧ w.cell? ⟨b, o + 7, none⟩ = some (.int .i64 r.sh) ∧ w.cell? ⟨b, o + 8, none⟩ = some (.string r.m) ∧ w.cell? ⟨b, o + 9, none⟩ = some (.string r.f) ∧ w.cell? ⟨b, o + 10, none⟩ = some (.slice r.g r.gn r.gc) ∧ w.cell? ⟨b, o + 11, none⟩ = some (.slice r.u r.un r.uc) ∧
    w.cell? ⟨b, o + 12, none⟩ = some (.int .i64 r.p) :=
  ⟨h 0 _ rfl, h 1 _ rfl, h 2 _ rfl, h 3 _ rfl, h 4 _ rfl, h 5 _ rfl, h 6 _ rfl, h 7 _ rfl, h 8 _ rfl, h 9 _ rfl, h 10 _ rfl, h 11 _ rfl, h 12 _ rfl⟩
def rcs (R : List Rc) : List Value := R.flatMap Rc.cells
theorem rcs_len : ∀ R : List Rc, (rcs R).length = R.length * 13
  | [] => rfl
  | x :: R => by rw [rcs, List.flatMap_cons, List.length_append, List.length_cons]; have := rcs_len R; rw [rcs] at this; rw [this]; simp [Rc.cells]; omega
theorem rcs_at : ∀ (R : List Rc) (i j : Nat) (r : Rc), R[i]? = some r → j < 13 → (rcs R)[i * 13 + j]? = r.cells[j]?
  | [], _, _, _, h, _ => by simp at h
  | x :: R, 0, j, r, h, hj => by
    simp at h
    subst h
    rw [rcs, List.flatMap_cons, List.getElem?_append_left (by simpa [Rc.cells] using hj)]
    simp
  | x :: R, i + 1, j, r, h, hj => by
    rw [rcs, List.flatMap_cons, List.getElem?_append_right (by simp [Rc.cells]; omega)]
    have := rcs_at R i j r (by simpa using h) hj
    rw [rcs] at this
    rw [← this]
    congr 1
    simp [Rc.cells]
    omega
theorem rcs_split {R : List Rc} {k : Nat} {u : Value} (h : (rcs R)[k]? = some u) : ∃ r, R[k / 13]? = some r ∧ r.cells[k % 13]? = some u := by
  have hk := (List.getElem?_eq_some_iff.1 h).1
  rw [rcs_len] at hk
  have hi : k / 13 < R.length := by omega
  refine ⟨R[k / 13], by simp [hi], ?_⟩
  rw [← rcs_at R (k / 13) (k % 13) R[k / 13] (by simp [hi]) (by omega), ← h]
  congr 1
  omega
/-- the cells of a row of the call's own, whatever its things' size -/
theorem own_cells {w : World} {base e size n : Nat} {v : Value} {xs : List Value} (h : w.ownsRow base e size v n xs) (hn : 0 < n) :
    ∃ g cap, v = .slice (some ⟨g, 0, none⟩) n cap ∧ base ≤ g ∧ g < w.heap.size ∧ n ≤ cap ∧ cap ≤ 9223372036854775807 ∧ ∀ j u, xs[j]? = some u → w.cell? ⟨g, j, none⟩ = some u := by
  obtain ⟨hl, h2⟩ := h
  rcases h2 with ⟨_, h0⟩ | ⟨g, cap, cur, hv, hg, hh, h3, h4, h5, h6⟩
  · omega
  · refine ⟨g, cap, hv, hg, heap_lt hh, h3, by unfold maxLen at h4; omega, fun j u hj => ?_⟩
    rw [← h6] at hj
    have hj' : cur[j]? = some u := by
      rw [List.getElem?_take] at hj
      split at hj
      · simpa using hj
      · cases hj
    simp [World.cell?, hh, hj']
theorem row_of {w : World} {base : Nat} {v : Value} {R : List Rc} (h : w.ownsRow base 47 13 v R.length (rcs R)) : ∃ ao cap, v = .slice ao R.length cap ∧ RRow w ao R := by
  rcases Nat.eq_zero_or_pos R.length with h0 | h0
  · obtain ⟨ao, c, rfl⟩ := own_slice h
    refine ⟨ao, c, rfl, fun i t hi => ?_⟩
    have := (List.getElem?_eq_some_iff.1 hi).1
    omega
  · obtain ⟨g, cap, rfl, hg, hgs, _, _, hc⟩ := own_cells h h0
    refine ⟨_, _, rfl, fun i r hi => ⟨g, 0, rfl, hgs, fun j u hj => ?_⟩⟩
    have hj13 : j < 13 := by have := (List.getElem?_eq_some_iff.1 hj).1; simpa [Rc.cells] using this
    rw [Nat.zero_add]
    exact hc _ _ ((rcs_at R i j r hi hj13).trans hj)
/-- pids that must not be -/
def badAt (ps : List Int) (j : Nat) : Prop := ∃ p, ps[j]? = some p ∧ (p < 0 ∨ (0 < p ∧ p ∈ ps.take j))
def okPs (ps : List Int) : Prop := ∀ j, ¬ badAt ps j
theorem okPs_pos {ps : List Int} (h : okPs ps) {p : Int} (hp : p ∈ ps) : 0 ≤ p := by
  obtain ⟨j, hj⟩ := List.getElem?_of_mem hp
  apply Int.not_lt.1
  intro h0
  exact h j ⟨p, hj, .inl h0⟩
/-- the map of pids that were seen -/
def ikey (p : Int) : Lit := .int .i64 p
theorem ikey_ne {p q : Int} (h : p ≠ q) : ikey p ≠ ikey q := by
  intro e
  injection e with _ e
  exact h e
def seenD : List Int → DataW Unit → DataW Unit
  | [], D => D
  | p :: l, D => seenD l (D.put (ikey p) (.lit (.bool (decide (0 < p)))))
theorem seenD_snoc (l : List Int) (p : Int) : ∀ D : DataW Unit, seenD (l ++ [p]) D = (seenD l D).put (ikey p) (.lit (.bool (decide (0 < p)))) := by
  induction l with
  | nil => intro D; rfl
  | cons a l ih => intro D; exact ih _
theorem seenD_isMap (l : List Int) : ∀ D : DataW Unit, Maps.IsMap D → Maps.IsMap (seenD l D) := by
  induction l with
  | nil => intro D h; exact h
  | cons a l ih => intro D h; exact ih _ (h.put _ _)
theorem snoc_ind {α : Type} {p : List α → Prop} (h0 : p []) (h1 : ∀ l a, p l → p (l ++ [a])) (l : List α) : p l := by
  have : ∀ m : List α, p m.reverse := by
    intro m
    induction m with
    | nil => exact h0
    | cons a m ih => rw [List.reverse_cons]; exact h1 _ _ ih
  simpa using this l.reverse
def seens (l : List Int) : DataW Unit := seenD l (.map [])
theorem seens_at (l : List Int) (p : Int) : (seens l).atKey (ikey p) (.lit (.bool false)) = .lit (.bool (decide (0 < p ∧ p ∈ l))) := by
  induction l using snoc_ind with
  | h0 => simp; rfl
  | h1 l a ih =>
    unfold seens at ih ⊢
    rw [seenD_snoc]
    by_cases h : p = a
    · subst h
      rw [Maps.atKey_put_same (seenD_isMap l _ Maps.isMap_empty) (show WideAt.IsKeyLit (ikey p) from trivial)]
      simp
    · rw [Maps.atKey_put_other (ikey_ne h), ih]
      simp [h]
theorem kI : Keyed Try.prog 3 := Go.Maps.int_keyed Try.underlying3
theorem zB (w : World) : (zeroValue 4).run Try.prog w = .ok (.bool false) w := by kernel_rfl
theorem infoRC : (Try.prog.info? 47).map (fun i => (i.size)) = some 13 := by kernel_rfl
end Go.Proofs.Ytjepiimggaiejaa
