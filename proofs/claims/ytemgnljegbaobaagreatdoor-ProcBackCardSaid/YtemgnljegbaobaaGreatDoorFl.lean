/- what can be read as data, leaf by leaf. No conditions. -/
import Derived.Test.YtemgnljegbaobaaGreatDoorK
import Derived.ChangeArms
import Derived.DataReads
namespace Go.Proofs.YtemgnljegbaobaaGreatDoor
open Go.ChangeShapes Go.WideShapes Go.ChangeAt Go.RowKit
set_option linter.unusedVariables false
theorem list_choose {α : Type} {Q : Nat → α → Prop} : ∀ n : Nat, (∀ i, i < n → ∃ t, Q i t) → ∃ l : List α, l.length = n ∧ ∀ i t, l[i]? = some t → Q i t := by
  intro n
  induction n with
  | zero => intro _; exact ⟨[], rfl, by simp⟩
  | succ n ih =>
    intro h
    obtain ⟨l, h1, h2⟩ := ih fun i hi => h i (by omega)
    obtain ⟨t, ht⟩ := h n (by omega)
    refine ⟨l ++ [t], by simp [h1], fun i u hu => ?_⟩
    rcases Nat.lt_or_ge i n with hi | hi
    · exact h2 i u (by rw [List.getElem?_append_left (by omega)] at hu; exact hu)
    · have : i = n := by
        have := (List.getElem?_eq_some_iff.1 hu).1
        simp at this
        omega
      subst this
      rw [List.getElem?_append_right (by omega), h1] at hu
      simp at hu
      subst hu
      exact ht
theorem i8_bd {a : Int} (h : (Lit.int .i8 a).wf = true) : -128 ≤ a ∧ a ≤ 127 := by
  simp [Lit.wf, IntKind.min, IntKind.max, IntKind.signed, IntKind.bits] at h
  omega
theorem addr_none {w : World} {a : Addr} {v : Value} (h : w.cell? a = some v) : ∃ b o, a = ⟨b, o, none⟩ := by
  obtain ⟨b, o, sp⟩ := a
  have := World.cell?_spot h
  simp at this
  exact ⟨b, o, by rw [this]⟩
theorem addr_add (b o n : Nat) : (⟨b, o, none⟩ : Addr).add n = ⟨b, o + n, none⟩ := by
  unfold Addr.add
  split
  · rename_i h; rw [h]; rfl
  · rfl
def flatF (P : Program) (g : TypeId → Option (List TypeId)) : List Field → Nat → Option (List TypeId)
  | [], _ => some []
  | f :: fs, o => if f.offset = o then (g f.type).bind fun L => if L.length = P.cellsOf f.type then (flatF P g fs (o + L.length)).map (L ++ ·) else none else none
/-- a type's leaves, in order -/
def flat (P : Program) : Nat → TypeId → Option (List TypeId)
  | 0, _ => none
  | k + 1, t => match P.underlying t with
    | some (.struct fs) => (flatF P (flat P k) fs.toList 0).bind fun L => if L.length = P.cellsOf t then some L else none
    | some (.int _) => some [t]
    | some .bool => some [t]
    | some .string => some [t]
    | some (.slice _) => some [t]
    | _ => none
section
variable {H : Type} {enc : TypeId × Value → H} {P : Program} {W : World}
abbrev Rd (enc : TypeId × Value → H) (P : Program) (W : World) (n : Nat) (t : TypeId) (cs : List Value) (x : DataW H × List MemPlace) : Prop := DataW.trod enc P W 0 (fun _ => true) true n t cs = some x
theorem flat_trod : ∀ (k : Nat) (t : TypeId) (L : List TypeId) (fuel : Nat) (cs : List Value) (x : DataW H × List MemPlace), flat P k t = some L → Rd enc P W fuel t cs x →
    cs.length = L.length ∧ ∀ (i : Nat) (ty : TypeId), L[i]? = some ty → ∃ v n y, cs[i]? = some v ∧ n ≤ fuel ∧ Rd enc P W n ty [v] y := by
  intro k
  induction k with
  | zero => intro t L fuel cs x h; cases h
  | succ k ih =>
    intro t L fuel cs x h hx
    unfold flat at h
    have one : ∀ v, cs = [v] → L = [t] → cs.length = L.length ∧ ∀ (i : Nat) (ty : TypeId), L[i]? = some ty → ∃ v n y, cs[i]? = some v ∧ n ≤ fuel ∧ Rd enc P W n ty [v] y := by
      rintro v rfl rfl
      refine ⟨rfl, fun i ty hi => ?_⟩
      match i, hi with
      | 0, hi => simp at hi; subst hi; exact ⟨v, fuel, x, rfl, Nat.le_refl _, hx⟩
    split at h
    · rename_i fs hu
      obtain ⟨L', h1, h2⟩ := Option.bind_eq_some_iff.1 h
      split at h2
      · rename_i hlen
        obtain rfl := Option.some.inj h2
        obtain ⟨xs, n, hf, hxx, hcl, hxl, hall⟩ := DataW.trod_struct hu hx
        refine ⟨hcl.trans hlen.symm, ?_⟩
        have key : ∀ (fs' : List Field) (j o : Nat) (L1 : List TypeId), fs.toList.drop j = fs' → flatF P (flat P k) fs' o = some L1 → o + L1.length ≤ cs.length → ∀ (i : Nat) (ty : TypeId), L1[i]? = some ty → ∃ v m y, cs[o + i]? = some v ∧ m ≤ fuel ∧ Rd enc P W m ty [v] y := by
          intro fs'
          induction fs' with
          | nil => intro j o L1 _ h3 _ i ty hi; cases h3; simp at hi
          | cons f fs' ihf =>
            intro j o L1 hd h3 hle i ty hi
            rw [flatF] at h3
            split at h3
            · rename_i ho
              obtain ⟨La, h4, h5⟩ := Option.bind_eq_some_iff.1 h3
              split at h5
              · rename_i hla
                obtain ⟨Lb, h6, rfl⟩ := Option.map_eq_some_iff.1 h5
                rw [List.length_append] at hle
                have hfj : fs[j]? = some f := by
                  have : (fs.toList.drop j)[0]? = some f := by rw [hd]; rfl
                  simpa using this
                have hd' : fs.toList.drop (j + 1) = fs' := by
                  have := congrArg (List.drop 1) hd
                  simpa [List.drop_drop, Nat.add_comm] using this
                rcases Nat.lt_or_ge i La.length with hia | hia
                · rw [List.getElem?_append_left hia] at hi
                  have hjl : j < xs.length := by rw [hxl]; exact (Array.getElem?_eq_some_iff.1 hfj).1
                  have h7 := hall j f hfj
                  rw [List.getElem?_eq_getElem hjl] at h7
                  obtain ⟨_, h8⟩ := ih f.type La n _ _ h4 h7
                  obtain ⟨v, m, y, h9, h10, h11⟩ := h8 i ty hi
                  refine ⟨v, m, y, ?_, by omega, h11⟩
                  rw [List.getElem?_take, if_pos (by omega), List.getElem?_drop, ho] at h9
                  exact h9
                · rw [List.getElem?_append_right hia] at hi
                  obtain ⟨v, m, y, h9, h10, h11⟩ := ihf (j + 1) (o + La.length) Lb hd' h6 (by omega) (i - La.length) ty hi
                  exact ⟨v, m, y, by rw [← h9]; congr 1; omega, h10, h11⟩
              · cases h5
            · cases h3
        intro i ty hi
        have := key fs.toList 0 0 L' (by simp) h1 (by omega) i ty hi
        simpa using this
      · cases h2
    · rename_i ik hu
      obtain rfl := Option.some.inj h
      obtain ⟨m, e, _⟩ := DataW.trod_int hu hx
      exact one _ e rfl
    · rename_i hu
      obtain rfl := Option.some.inj h
      obtain ⟨m, e, _⟩ := DataW.trod_bool hu hx
      exact one _ e rfl
    · rename_i hu
      obtain rfl := Option.some.inj h
      obtain ⟨m, e, _⟩ := DataW.trod_string hu hx
      exact one _ e rfl
    · rename_i el hu
      obtain rfl := Option.some.inj h
      rcases DataW.trod_slice hu hx with ⟨e, _⟩ | ⟨a, len, cap, elems, rest, n', hn, e, _⟩
      · exact one _ e rfl
      · exact one _ e rfl
    · cases h
/-- a slice whose things have leaves -/
theorem elems_trod {k : Nat} {t e : TypeId} {L : List TypeId} {fuel : Nat} {v : Value} {x : DataW H × List MemPlace} (hu : P.underlying t = some (.slice e)) (hL : flat P k e = some L) (hc : P.cellsOf e = L.length) (h0 : 0 < L.length)
    (h : Rd enc P W fuel t [v] x) : ∃ ao len cap, v = .slice ao len cap ∧ len ≤ cap ∧ cap ≤ 9223372036854775807 ∧ (ao = none → len = 0 ∧ cap = 0) ∧
      ∀ (i : Nat), i < len → ∃ b off, ao = some ⟨b, off, none⟩ ∧ b < W.heap.size ∧ ∀ (j : Nat) (ty : TypeId), L[j]? = some ty → ∃ u n y, W.cell? ⟨b, off + i * L.length + j, none⟩ = some u ∧ n < fuel ∧ Rd enc P W n ty [u] y := by
  rcases DataW.trod_slice hu h with ⟨e4, _⟩ | ⟨a, len, cap, elems, rest, n', hn, e4, _, _, hlc, hcm, hel, hcell, _, _⟩
  · simp at e4
    subst e4
    exact ⟨none, 0, 0, rfl, Nat.le_refl _, by omega, fun _ => ⟨rfl, rfl⟩, fun i hi => by omega⟩
  · simp at e4
    subst e4
    unfold maxLen at hcm
    refine ⟨some a, len, cap, rfl, hlc, hcm, (fun h => by cases h), fun i hi => ?_⟩
    have hc' := hcell i hi
    rw [hc] at hc'
    obtain ⟨y, hy⟩ : ∃ y, elems[i]? = some y := ⟨elems[i]'(by omega), List.getElem?_eq_getElem (by omega)⟩
    rw [hy] at hc'
    obtain ⟨cs', hcs, ht⟩ := Option.bind_eq_some_iff.1 hc'
    obtain ⟨h1, h2⟩ := flat_trod k e L _ _ _ hL ht
    obtain ⟨_, _, hget⟩ := World.cells?_some hcs
    have ha : ∃ b o, a = ⟨b, o, none⟩ := by
      have h00 := hcell 0 (by omega)
      rw [hc] at h00
      obtain ⟨y', hy'⟩ : ∃ y, elems[0]? = some y := ⟨elems[0]'(by omega), List.getElem?_eq_getElem (by omega)⟩
      rw [hy'] at h00
      obtain ⟨cs0, hcs0, ht0⟩ := Option.bind_eq_some_iff.1 h00
      obtain ⟨h1', h2'⟩ := flat_trod k e L _ _ _ hL ht0
      obtain ⟨v0, n0, y0, hv0, _⟩ := h2' 0 _ (List.getElem?_eq_getElem h0)
      have g := (World.cells?_some hcs0).2.2 0 (by omega)
      rw [hv0] at g
      simp [Addr.add] at g
      exact addr_none g
    obtain ⟨b, o, rfl⟩ := ha
    refine ⟨b, o, rfl, ?_, fun j ty hj => ?_⟩
    · obtain ⟨v0, n0, y0, hv0, _⟩ := h2 0 _ (List.getElem?_eq_getElem h0)
      have g := hget 0 (by omega)
      simp only [addr_add] at g
      rw [hv0] at g
      exact World.block_lt_of_cell? W _ g
    · obtain ⟨u, n, y', h3, h4, h5⟩ := h2 j ty hj
      have hjl := (List.getElem?_eq_some_iff.1 hj).1
      have g := hget j hjl
      simp only [addr_add] at g
      rw [h3] at g
      exact ⟨u, n, y', g, by omega, h5⟩
theorem leaf_int {n : Nat} {t : TypeId} {k : IntKind} {u : Value} {y : DataW H × List MemPlace} (hu : P.underlying t = some (.int k)) (h : Rd enc P W n t [u] y) : ∃ a, u = .int k a ∧ (Lit.int k a).wf = true := by
  obtain ⟨a, e, _, hw⟩ := DataW.trod_int hu h
  simp at e
  exact ⟨a, e, hw⟩
theorem leaf_bool {n : Nat} {t : TypeId} {u : Value} {y : DataW H × List MemPlace} (hu : P.underlying t = some .bool) (h : Rd enc P W n t [u] y) : ∃ a, u = .bool a := by
  obtain ⟨a, e, _⟩ := DataW.trod_bool hu h
  simp at e
  exact ⟨a, e⟩
theorem leaf_str {n : Nat} {t : TypeId} {u : Value} {y : DataW H × List MemPlace} (hu : P.underlying t = some .string) (h : Rd enc P W n t [u] y) : ∃ a, u = .string a ∧ a.size ≤ 9223372036854775807 := by
  obtain ⟨a, e, _, hw⟩ := DataW.trod_string hu h
  simp at e
  unfold maxLen at hw
  exact ⟨a, e, by omega⟩
theorem leaf_slice {n : Nat} {t e : TypeId} {u : Value} {y : DataW H × List MemPlace} (hu : P.underlying t = some (.slice e)) (h : Rd enc P W n t [u] y) : ∃ ao len cap, u = .slice ao len cap := by
  rcases DataW.trod_slice hu h with ⟨e4, _⟩ | ⟨a, len, cap, elems, rest, n', hn, e4, _⟩
  · simp at e4; exact ⟨_, _, _, e4⟩
  · simp at e4; exact ⟨_, _, _, e4⟩
end
end Go.Proofs.YtemgnljegbaobaaGreatDoor
