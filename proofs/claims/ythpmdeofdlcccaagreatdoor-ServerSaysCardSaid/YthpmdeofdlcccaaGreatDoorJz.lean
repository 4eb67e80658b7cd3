/- terms in memory, and which blocks they lie in; what a word's term is. No conditions. -/
import Derived.Test.YthpmdeofdlcccaaGreatDoorTx
namespace Go.Proofs.YthpmdeofdlcccaaGreatDoor
open Go.ChangeShapes Go.WideShapes Go.ChangeAt Go.RowKit
set_option linter.unusedVariables false
/-- a term of depth at most f at a place; all of it in blocks of S -/
def AtS (S : Nat → Prop) : Nat → World → Nat → Nat → Tm → Prop
  | 0, _, _, _, _ => False
  | f + 1, w, b, o, .mk k n s u l => S b ∧ fields k n s u ∧ ∃ ao cap, Node w b o k n s u (.slice ao l.length cap) ∧ l.length ≤ cap ∧ cap ≤ 9223372036854775807 ∧
      ∀ i t, l[i]? = some t → ∃ b' off, ao = some ⟨b', off, none⟩ ∧ AtS S f w b' (off + i * 5) t
def RowS (S : Nat → Prop) (f : Nat) (w : World) (v : Value) (l : List Tm) : Prop :=
  ∃ ao cap, v = .slice ao l.length cap ∧ l.length ≤ cap ∧ cap ≤ 9223372036854775807 ∧ ∀ i t, l[i]? = some t → ∃ b' off, ao = some ⟨b', off, none⟩ ∧ AtS S f w b' (off + i * 5) t
theorem AtS.at {S : Nat → Prop} {w : World} : ∀ {f b o : Nat} {t : Tm}, AtS S f w b o t → At f w b o t := by
  intro f
  induction f with
  | zero => intro b o t h; exact h.elim
  | succ f ih =>
    intro b o t h
    obtain ⟨k, n, s, u, l⟩ := t
    obtain ⟨-, h1, ao, cap, h2, h3, h4, h5⟩ := h
    refine ⟨h1, ao, cap, h2, h3, h4, fun i t hi => ?_⟩
    obtain ⟨b', off, e, h⟩ := h5 i t hi
    exact ⟨b', off, e, ih h⟩
theorem RowS.row {S : Nat → Prop} {f : Nat} {w : World} {v : Value} {l : List Tm} (h : RowS S f w v l) : Row f w v l := by
  obtain ⟨ao, cap, rfl, h4, h5, h6⟩ := h
  refine ⟨ao, cap, rfl, h4, h5, fun i t hi => ?_⟩
  obtain ⟨b', off, e, h⟩ := h6 i t hi
  exact ⟨b', off, e, h.at⟩
theorem At.toS {w : World} : ∀ {f b o : Nat} {t : Tm}, At f w b o t → AtS (· < w.heap.size) f w b o t := by
  intro f
  induction f with
  | zero => intro b o t h; exact h.elim
  | succ f ih =>
    intro b o t h
    obtain ⟨k, n, s, u, l⟩ := t
    obtain ⟨h1, ao, cap, h2, h3, h4, h5⟩ := h
    refine ⟨World.block_lt_of_cell? w _ h2.1, h1, ao, cap, h2, h3, h4, fun i t hi => ?_⟩
    obtain ⟨b', off, e, h⟩ := h5 i t hi
    exact ⟨b', off, e, ih h⟩
theorem Row.toS {f : Nat} {w : World} {v : Value} {l : List Tm} (h : Row f w v l) : RowS (· < w.heap.size) f w v l := by
  obtain ⟨ao, cap, rfl, h4, h5, h6⟩ := h
  refine ⟨ao, cap, rfl, h4, h5, fun i t hi => ?_⟩
  obtain ⟨b', off, e, h⟩ := h6 i t hi
  exact ⟨b', off, e, h.toS⟩
theorem AtS.chg {S S' T : Nat → Prop} {w w' : World} (hc : Chg T w w') (hd : ∀ k, S k → k < w.heap.size → ¬ T k) (hS : ∀ k, S k → k < w.heap.size → S' k) : ∀ {f g b o : Nat} {t : Tm}, f ≤ g → AtS S f w b o t → AtS S' g w' b o t := by
  intro f
  induction f with
  | zero => intro g b o t _ h; exact h.elim
  | succ f ih =>
    intro g b o t hg h
    obtain ⟨g, rfl⟩ : ∃ g', g = g' + 1 := ⟨g - 1, by omega⟩
    obtain ⟨k, n, s, u, l⟩ := t
    obtain ⟨h0, h1, ao, cap, h2, h3, h4, h5⟩ := h
    have hbl := World.block_lt_of_cell? w _ h2.1
    have hb : ¬ T b := hd b h0 hbl
    refine ⟨hS b h0 hbl, h1, ao, cap, ⟨hc.cell h2.1 hb, hc.cell h2.2.1 hb, hc.cell h2.2.2.1 hb, hc.cell h2.2.2.2.1 hb, hc.cell h2.2.2.2.2 hb⟩, h3, h4, fun i t hi => ?_⟩
    obtain ⟨b', off, e, h⟩ := h5 i t hi
    exact ⟨b', off, e, ih (by omega) h⟩
theorem RowS.chg {S S' T : Nat → Prop} {w w' : World} {f g : Nat} {v : Value} {l : List Tm} (h : RowS S f w v l) (hc : Chg T w w') (hd : ∀ k, S k → k < w.heap.size → ¬ T k) (hS : ∀ k, S k → k < w.heap.size → S' k) (hg : f ≤ g) : RowS S' g w' v l := by
  obtain ⟨ao, cap, rfl, h4, h5, h6⟩ := h
  refine ⟨ao, cap, rfl, h4, h5, fun i t hi => ?_⟩
  obtain ⟨b', off, e, h⟩ := h6 i t hi
  exact ⟨b', off, e, h.chg hc hd hS hg⟩
/-- an element of a row that is made -/
structure TE where
  (k n : Int)
  (s u : ByteArray)
  ao : Option Addr
  cap : Nat
  l : List Tm
def TE.t (x : TE) : Tm := .mk x.k x.n x.s x.u x.l
def TE.lv (x : TE) : Value := .slice x.ao x.l.length x.cap
def TE.cells (x : TE) : List Value := [.int .i8 x.k, .int .i64 x.n, .string x.s, .string x.u, .slice x.ao x.l.length x.cap]
def tcs (L : List TE) : List Value := L.flatMap TE.cells
theorem tcs_len : ∀ L : List TE, (tcs L).length = L.length * 5
  | [] => rfl
  | x :: L => by rw [tcs, List.flatMap_cons, List.length_append, List.length_cons]; have := tcs_len L; rw [tcs] at this; rw [this]; simp [TE.cells]; omega
theorem tcs_at : ∀ (L : List TE) (i j : Nat) (x : TE), L[i]? = some x → j < 5 → (tcs L)[i * 5 + j]? = x.cells[j]?
  | [], _, _, _, h, _ => by simp at h
  | y :: L, 0, j, x, h, hj => by
    simp at h
    subst h
    rw [tcs, List.flatMap_cons, List.getElem?_append_left (by simpa [TE.cells] using hj)]
    simp
  | y :: L, i + 1, j, x, h, hj => by
    rw [tcs, List.flatMap_cons, List.getElem?_append_right (by simp [TE.cells]; omega)]
    have := tcs_at L i j x (by simpa using h) hj
    rw [tcs] at this
    rw [← this]
    congr 1
    simp [TE.cells]
    omega
theorem tcs_snoc (L : List TE) (x : TE) : tcs (L ++ [x]) = tcs L ++ x.cells := by simp [tcs]
/-- a row of terms that is made -/
def TRow (S : Nat → Prop) (f : Nat) (w : World) (base : Nat) (v : Value) (E : List TE) : Prop :=
  w.ownsRow base 25 5 v E.length (tcs E) ∧ ∀ x ∈ E, fields x.k x.n x.s x.u ∧ RowS (fun b => S b ∧ v.ownBlock ≠ some b) f w x.lv x.l
theorem TRow.row {S : Nat → Prop} {f : Nat} {w : World} {base : Nat} {v : Value} {E : List TE} (h : TRow S f w base v E) (hS : ∀ k, base ≤ k → S k) : RowS S (f + 1) w v (E.map TE.t) := by
  obtain ⟨h1, h2⟩ := h
  obtain ⟨hl, ⟨rfl, e⟩ | ⟨g, cap, cur, rfl, hg, hh, h3, h4, r⟩⟩ := id h1
  · have e0 := List.eq_nil_of_length_eq_zero e
    subst e0
    exact ⟨none, 0, rfl, by simp, by omega, fun i t hi => by simp at hi⟩
  · refine ⟨some ⟨g, 0, none⟩, cap, by simp, by simpa using h3, by unfold maxLen at h4; omega, fun i t hi => ?_⟩
    rw [List.getElem?_map] at hi
    obtain ⟨x, hx, rfl⟩ := Option.map_eq_some_iff.1 hi
    obtain ⟨hf, ao, lc, e, l1, l2, l3⟩ := h2 x (List.mem_of_getElem? hx)
    have hi' := (List.getElem?_eq_some_iff.1 hx).1
    have key : ∀ j u, x.cells[j]? = some u → w.cell? ⟨g, 0 + i * 5 + j, none⟩ = some u := fun j u hj => by
      have hj5 : j < 5 := by have := (List.getElem?_eq_some_iff.1 hj).1; simpa [TE.cells] using this
      rw [Nat.zero_add, h1.cellAt (i * 5 + j) (by omega), tcs_at E i j x hx hj5]
      exact hj
    injection e with e1 e2 e3
    refine ⟨g, 0, rfl, hS g hg, hf, x.ao, x.cap, ⟨key 0 _ rfl, key 1 _ rfl, key 2 _ rfl, key 3 _ rfl, key 4 _ rfl⟩, by rw [e3]; exact l1, by rw [e3]; exact l2, fun j t hj => ?_⟩
    obtain ⟨b', off, e', h⟩ := l3 j t hj
    refine ⟨b', off, by rw [e1]; exact e', h.chg (Chg.refl (fun _ => False) w) (fun _ _ _ h => h) (fun _ h _ => h.1) (Nat.le_refl _)⟩
/-- another element stands behind the others -/
theorem TRow.push {S : Nat → Prop} {F : Nat} {W W' : World} {base : Nat} {lv lv' : Value} {E : List TE} {te : TE} (h : TRow S F W base lv E) (hfe : fields te.k te.n te.s te.u) (hre : RowS (fun b => S b ∧ lv.ownBlock ≠ some b) F W te.lv te.l)
    (hown : W'.ownsRow base 25 5 lv' (E.length + 1) (tcs E ++ te.cells)) (hg : W.grownBy W' lv.ownBlock) (hwh : lv'.ownBlock = lv.ownBlock ∨ lv'.ownBlock = some W.heap.size) : TRow S F W' base lv' (E ++ [te]) := by
  have hc := chg_grown hg
  have key : ∀ (v : Value) (l : List Tm), RowS (fun b => S b ∧ lv.ownBlock ≠ some b) F W v l → RowS (fun b => S b ∧ lv'.ownBlock ≠ some b) F W' v l := fun v l hr =>
    hr.chg hc (fun k hk _ e => hk.2 e.symm) (fun k hk hl => ⟨hk.1, fun e => by
      rcases hwh with hw | hw
      · exact hk.2 (hw ▸ e)
      · rw [hw] at e
        have := Option.some.inj e
        omega⟩) (Nat.le_refl _)
  refine ⟨by rw [tcs_snoc, List.length_append]; exact hown, fun x hx => ?_⟩
  rw [List.mem_append, List.mem_singleton] at hx
  rcases hx with hx | rfl
  · exact ⟨(h.2 x hx).1, key _ _ (h.2 x hx).2⟩
  · exact ⟨hfe, key _ _ hre⟩
theorem TRow.chg {S T : Nat → Prop} {F : Nat} {W W' : World} {base : Nat} {lv : Value} {E : List TE} (h : TRow S F W base lv E) (hc : Chg T W W') (hT : ∀ k, T k → ¬ S k) (hT2 : ∀ k, T k → k < base) : TRow S F W' base lv E :=
  ⟨own_chg h.1 hc (fun g hg e => by have := own_base h.1 g hg; have := hT2 g e; omega), fun x hx => ⟨(h.2 x hx).1, (h.2 x hx).2.chg hc (fun k hk _ e => hT k e hk.1) (fun k hk _ => hk) (Nat.le_refl _)⟩⟩
end Go.Proofs.YthpmdeofdlcccaaGreatDoor
