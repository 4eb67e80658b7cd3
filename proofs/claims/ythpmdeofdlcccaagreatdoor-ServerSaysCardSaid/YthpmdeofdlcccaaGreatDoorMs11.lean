/- what can be read as data, leaf by leaf. No conditions. -/
/- terms as arguments: what can be read as data is a term in memory. -/
/- what the laws are handed: mail, turns, children, as terms whose rows lie in blocks that are there. No conditions. -/
/- what is too great: the law's guards tell some bool. Conditions: what is handed over reads. -/
import Derived.Test.YthpmdeofdlcccaaGreatDoorK
import Derived.ChangeArms
import Derived.DataReads
import Derived.Test.YthpmdeofdlcccaaGreatDoorTx
import Derived.Test.YthpmdeofdlcccaaGreatDoorMs3
import Derived.Test.YthpmdeofdlcccaaGreatDoorMs4
import Derived.Test.YthpmdeofdlcccaaGreatDoorTy
namespace Go.Proofs.YthpmdeofdlcccaaGreatDoor
open Go.ChangeShapes Go.WideShapes Go.ChangeAt Go.RowKit
set_option linter.unusedVariables false
theorem list_choose {α : Type} {Q : Nat → α → Prop} : ∀ n : Nat, (∀ i, i < n → ∃ t, Q i t) → ∃ l : List α, l.length = n ∧ ∀ i t, l[i]? = some t → Q i t := by
  intro n
  induction n with
  | zero => intro _; exact ⟨[], rfl, by simp⟩
  | succ n ih =>
    intro h
    obtain ⟨l, h1, h2⟩ := ih fun i hi => h i (by omega)
    obtain ⟨t, ht⟩ := h n (by omega)
    refine ⟨l ++ [t], by simp [h1], fun i u hu => ?_⟩
    rcases Nat.lt_or_ge i n with hi | hi
    · exact h2 i u (by rw [List.getElem?_append_left (by omega)] at hu; exact hu)
    · have : i = n := by
        have := (List.getElem?_eq_some_iff.1 hu).1
        simp at this
        omega
      subst this
      rw [List.getElem?_append_right (by omega), h1] at hu
      simp at hu
      subst hu
      exact ht
theorem i8_bd {a : Int} (h : (Lit.int .i8 a).wf = true) : -128 ≤ a ∧ a ≤ 127 := by
  simp [Lit.wf, IntKind.min, IntKind.max, IntKind.signed, IntKind.bits] at h
  omega
theorem addr_none {w : World} {a : Addr} {v : Value} (h : w.cell? a = some v) : ∃ b o, a = ⟨b, o, none⟩ := by
  obtain ⟨b, o, sp⟩ := a
  have := World.cell?_spot h
  simp at this
  exact ⟨b, o, by rw [this]⟩
theorem addr_add (b o n : Nat) : (⟨b, o, none⟩ : Addr).add n = ⟨b, o + n, none⟩ := by
  unfold Addr.add
  split
  · rename_i h; rw [h]; rfl
  · rfl
def flatF (P : Program) (g : TypeId → Option (List TypeId)) : List Field → Nat → Option (List TypeId)
  | [], _ => some []
  | f :: fs, o => if f.offset = o then (g f.type).bind fun L => if L.length = P.cellsOf f.type then (flatF P g fs (o + L.length)).map (L ++ ·) else none else none
/-- a type's leaves, in order -/
def flat (P : Program) : Nat → TypeId → Option (List TypeId)
  | 0, _ => none
  | k + 1, t => match P.underlying t with
    | some (.struct fs) => (flatF P (flat P k) fs.toList 0).bind fun L => if L.length = P.cellsOf t then some L else none
    | some (.int _) => some [t]
    | some .bool => some [t]
    | some .string => some [t]
    | some (.slice _) => some [t]
    | _ => none
section
variable {H : Type} {enc : TypeId × Value → H} {P : Program} {W : World}
abbrev Rd (enc : TypeId × Value → H) (P : Program) (W : World) (n : Nat) (t : TypeId) (cs : List Value) (x : DataW H × List MemPlace) : Prop := DataW.trod enc P W 0 (fun _ => true) true n t cs = some x
theorem flat_trod : ∀ (k : Nat) (t : TypeId) (L : List TypeId) (fuel : Nat) (cs : List Value) (x : DataW H × List MemPlace), flat P k t = some L → Rd enc P W fuel t cs x →
    cs.length = L.length ∧ ∀ (i : Nat) (ty : TypeId), L[i]? = some ty → ∃ v n y, cs[i]? = some v ∧ n ≤ fuel ∧ Rd enc P W n ty [v] y := by
  intro k
  induction k with
  | zero => intro t L fuel cs x h; cases h
  | succ k ih =>
    intro t L fuel cs x h hx
    unfold flat at h
    have one : ∀ v, cs = [v] → L = [t] → cs.length = L.length ∧ ∀ (i : Nat) (ty : TypeId), L[i]? = some ty → ∃ v n y, cs[i]? = some v ∧ n ≤ fuel ∧ Rd enc P W n ty [v] y := by
      rintro v rfl rfl
      refine ⟨rfl, fun i ty hi => ?_⟩
      match i, hi with
      | 0, hi => simp at hi; subst hi; exact ⟨v, fuel, x, rfl, Nat.le_refl _, hx⟩
    split at h
    · rename_i fs hu
      obtain ⟨L', h1, h2⟩ := Option.bind_eq_some_iff.1 h
      split at h2
      · rename_i hlen
        obtain rfl := Option.some.inj h2
        obtain ⟨xs, n, hf, hxx, hcl, hxl, hall⟩ := DataW.trod_struct hu hx
        refine ⟨hcl.trans hlen.symm, ?_⟩
        have key : ∀ (fs' : List Field) (j o : Nat) (L1 : List TypeId), fs.toList.drop j = fs' → flatF P (flat P k) fs' o = some L1 → o + L1.length ≤ cs.length → ∀ (i : Nat) (ty : TypeId), L1[i]? = some ty → ∃ v m y, cs[o + i]? = some v ∧ m ≤ fuel ∧ Rd enc P W m ty [v] y := by
          intro fs'
          induction fs' with
          | nil => intro j o L1 _ h3 _ i ty hi; cases h3; simp at hi
          | cons f fs' ihf =>
            intro j o L1 hd h3 hle i ty hi
            rw [flatF] at h3
            split at h3
            · rename_i ho
              obtain ⟨La, h4, h5⟩ := Option.bind_eq_some_iff.1 h3
              split at h5
              · rename_i hla
                obtain ⟨Lb, h6, rfl⟩ := Option.map_eq_some_iff.1 h5
                rw [List.length_append] at hle
                have hfj : fs[j]? = some f := by
                  have : (fs.toList.drop j)[0]? = some f := by rw [hd]; rfl
                  simpa using this
                have hd' : fs.toList.drop (j + 1) = fs' := by
                  have := congrArg (List.drop 1) hd
                  simpa [List.drop_drop, Nat.add_comm] using this
                rcases Nat.lt_or_ge i La.length with hia | hia
                · rw [List.getElem?_append_left hia] at hi
                  have hjl : j < xs.length := by rw [hxl]; exact (Array.getElem?_eq_some_iff.1 hfj).1
                  have h7 := hall j f hfj
                  rw [List.getElem?_eq_getElem hjl] at h7
                  obtain ⟨_, h8⟩ := ih f.type La n _ _ h4 h7
                  obtain ⟨v, m, y, h9, h10, h11⟩ := h8 i ty hi
                  refine ⟨v, m, y, ?_, by omega, h11⟩
                  rw [List.getElem?_take, if_pos (by omega), List.getElem?_drop, ho] at h9
                  exact h9
                · rw [List.getElem?_append_right hia] at hi
                  obtain ⟨v, m, y, h9, h10, h11⟩ := ihf (j + 1) (o + La.length) Lb hd' h6 (by omega) (i - La.length) ty hi
                  exact ⟨v, m, y, by rw [← h9]; congr 1; omega, h10, h11⟩
              · cases h5
            · cases h3
        intro i ty hi
        have := key fs.toList 0 0 L' (by simp) h1 (by omega) i ty hi
        simpa using this
      · cases h2
    · rename_i ik hu
      obtain rfl := Option.some.inj h
      obtain ⟨m, e, _⟩ := DataW.trod_int hu hx
      exact one _ e rfl
    · rename_i hu
      obtain rfl := Option.some.inj h
      obtain ⟨m, e, _⟩ := DataW.trod_bool hu hx
      exact one _ e rfl
    · rename_i hu
      obtain rfl := Option.some.inj h
      obtain ⟨m, e, _⟩ := DataW.trod_string hu hx
      exact one _ e rfl
    · rename_i el hu
      obtain rfl := Option.some.inj h
      rcases DataW.trod_slice hu hx with ⟨e, _⟩ | ⟨a, len, cap, elems, rest, n', hn, e, _⟩
      · exact one _ e rfl
      · exact one _ e rfl
    · cases h
/-- a slice whose things have leaves -/
theorem elems_trod {k : Nat} {t e : TypeId} {L : List TypeId} {fuel : Nat} {v : Value} {x : DataW H × List MemPlace} (hu : P.underlying t = some (.slice e)) (hL : flat P k e = some L) (hc : P.cellsOf e = L.length) (h0 : 0 < L.length)
    (h : Rd enc P W fuel t [v] x) : ∃ ao len cap, v = .slice ao len cap ∧ len ≤ cap ∧ cap ≤ 9223372036854775807 ∧ (ao = none → len = 0 ∧ cap = 0) ∧
      ∀ (i : Nat), i < len → ∃ b off, ao = some ⟨b, off, none⟩ ∧ b < W.heap.size ∧ ∀ (j : Nat) (ty : TypeId), L[j]? = some ty → ∃ u n y, W.cell? ⟨b, off + i * L.length + j, none⟩ = some u ∧ n < fuel ∧ Rd enc P W n ty [u] y := by
  rcases DataW.trod_slice hu h with ⟨e4, _⟩ | ⟨a, len, cap, elems, rest, n', hn, e4, _, _, hlc, hcm, hel, hcell, _, _⟩
  · simp at e4
    subst e4
    exact ⟨none, 0, 0, rfl, Nat.le_refl _, by omega, fun _ => ⟨rfl, rfl⟩, fun i hi => by omega⟩
  · simp at e4
    subst e4
    unfold maxLen at hcm
    refine ⟨some a, len, cap, rfl, hlc, hcm, (fun h => by cases h), fun i hi => ?_⟩
    have hc' := hcell i hi
    rw [hc] at hc'
    obtain ⟨y, hy⟩ : ∃ y, elems[i]? = some y := ⟨elems[i]'(by omega), List.getElem?_eq_getElem (by omega)⟩
    rw [hy] at hc'
    obtain ⟨cs', hcs, ht⟩ := Option.bind_eq_some_iff.1 hc'
    obtain ⟨h1, h2⟩ := flat_trod k e L _ _ _ hL ht
    obtain ⟨_, _, hget⟩ := World.cells?_some hcs
    have ha : ∃ b o, a = ⟨b, o, none⟩ := by
      have h00 := hcell 0 (by omega)
      rw [hc] at h00
      obtain ⟨y', hy'⟩ : ∃ y, elems[0]? = some y := ⟨elems[0]'(by omega), List.getElem?_eq_getElem (by omega)⟩
      rw [hy'] at h00
      obtain ⟨cs0, hcs0, ht0⟩ := Option.bind_eq_some_iff.1 h00
      obtain ⟨h1', h2'⟩ := flat_trod k e L _ _ _ hL ht0
      obtain ⟨v0, n0, y0, hv0, _⟩ := h2' 0 _ (List.getElem?_eq_getElem h0)
      have g := (World.cells?_some hcs0).2.2 0 (by omega)
      rw [hv0] at g
      simp [Addr.add] at g
      exact addr_none g
    obtain ⟨b, o, rfl⟩ := ha
    refine ⟨b, o, rfl, ?_, fun j ty hj => ?_⟩
    · obtain ⟨v0, n0, y0, hv0, _⟩ := h2 0 _ (List.getElem?_eq_getElem h0)
      have g := hget 0 (by omega)
      simp only [addr_add] at g
      rw [hv0] at g
      exact World.block_lt_of_cell? W _ g
    · obtain ⟨u, n, y', h3, h4, h5⟩ := h2 j ty hj
      have hjl := (List.getElem?_eq_some_iff.1 hj).1
      have g := hget j hjl
      simp only [addr_add] at g
      rw [h3] at g
      exact ⟨u, n, y', g, by omega, h5⟩
theorem leaf_int {n : Nat} {t : TypeId} {k : IntKind} {u : Value} {y : DataW H × List MemPlace} (hu : P.underlying t = some (.int k)) (h : Rd enc P W n t [u] y) : ∃ a, u = .int k a ∧ (Lit.int k a).wf = true := by
  obtain ⟨a, e, _, hw⟩ := DataW.trod_int hu h
  simp at e
  exact ⟨a, e, hw⟩
theorem leaf_bool {n : Nat} {t : TypeId} {u : Value} {y : DataW H × List MemPlace} (hu : P.underlying t = some .bool) (h : Rd enc P W n t [u] y) : ∃ a, u = .bool a := by
  obtain ⟨a, e, _⟩ := DataW.trod_bool hu h
  simp at e
  exact ⟨a, e⟩
theorem leaf_str {n : Nat} {t : TypeId} {u : Value} {y : DataW H × List MemPlace} (hu : P.underlying t = some .string) (h : Rd enc P W n t [u] y) : ∃ a, u = .string a ∧ a.size ≤ 9223372036854775807 := by
  obtain ⟨a, e, _, hw⟩ := DataW.trod_string hu h
  simp at e
  unfold maxLen at hw
  exact ⟨a, e, by omega⟩
theorem leaf_slice {n : Nat} {t e : TypeId} {u : Value} {y : DataW H × List MemPlace} (hu : P.underlying t = some (.slice e)) (h : Rd enc P W n t [u] y) : ∃ ao len cap, u = .slice ao len cap := by
  rcases DataW.trod_slice hu h with ⟨e4, _⟩ | ⟨a, len, cap, elems, rest, n', hn, e4, _⟩
  · simp at e4; exact ⟨_, _, _, e4⟩
  · simp at e4; exact ⟨_, _, _, e4⟩
end
end Go.Proofs.YthpmdeofdlcccaaGreatDoor
namespace Go.Proofs.YthpmdeofdlcccaaGreatDoor
open Go.ChangeShapes Go.WideShapes Go.ChangeAt Go.RowKit
set_option linter.unusedVariables false
set_option maxRecDepth 100000
theorem tm_cells : Tryz.prog.cellsOf 25 = 5 := by kernel_rfl
theorem one_i8 : Tryz.prog.cellsOf 22 = 1 := by kernel_rfl
theorem one_i : Tryz.prog.cellsOf 3 = 1 := by kernel_rfl
theorem one_s : Tryz.prog.cellsOf 9 = 1 := by kernel_rfl
theorem one_lt : Tryz.prog.cellsOf 23 = 1 := by kernel_rfl
theorem tm_of_trod {H : Type} {enc : TypeId × Value → H} {W : World} : ∀ (fuel : Nat) (cs : List Value) (x : DataW H × List MemPlace), DataW.trod enc Tryz.prog W 0 (fun _ => true) true fuel 25 cs = some x →
    ∃ (t : Tm) (lv : Value), cs = [.int .i8 t.k, .int .i64 t.n, .string t.s, .string t.u, lv] ∧ fields t.k t.n t.s t.u ∧ Row fuel W lv t.l := by
  intro fuel
  induction fuel using Nat.strongRecOn with
  | ind fuel ih =>
    intro cs x h
    obtain ⟨xs, n, rfl, hx, hcl, hxl, hall⟩ := DataW.trod_struct Tryz.underlying25 h
    rw [tm_cells] at hcl
    obtain ⟨c0, c1, c2, c3, c4, rfl⟩ : ∃ c0 c1 c2 c3 c4, cs = [c0, c1, c2, c3, c4] := by
      match cs, hcl with
      | [c0, c1, c2, c3, c4], _ => exact ⟨c0, c1, c2, c3, c4, rfl⟩
    obtain ⟨y0, y1, y2, y3, y4, rfl⟩ : ∃ y0 y1 y2 y3 y4, xs = [y0, y1, y2, y3, y4] := by
      match xs, hxl with
      | [y0, y1, y2, y3, y4], _ => exact ⟨y0, y1, y2, y3, y4, rfl⟩
    have h0 : DataW.trod enc Tryz.prog W 0 (fun _ => true) true n 22 (([c0, c1, c2, c3, c4].drop 0).take (Tryz.prog.cellsOf 22)) = [y0, y1, y2, y3, y4][0]? := hall 0 _ rfl
    rw [one_i8] at h0
    have h1 : DataW.trod enc Tryz.prog W 0 (fun _ => true) true n 3 (([c0, c1, c2, c3, c4].drop 1).take (Tryz.prog.cellsOf 3)) = [y0, y1, y2, y3, y4][1]? := hall 1 _ rfl
    rw [one_i] at h1
    have h2 : DataW.trod enc Tryz.prog W 0 (fun _ => true) true n 9 (([c0, c1, c2, c3, c4].drop 2).take (Tryz.prog.cellsOf 9)) = [y0, y1, y2, y3, y4][2]? := hall 2 _ rfl
    rw [one_s] at h2
    have h3 : DataW.trod enc Tryz.prog W 0 (fun _ => true) true n 9 (([c0, c1, c2, c3, c4].drop 3).take (Tryz.prog.cellsOf 9)) = [y0, y1, y2, y3, y4][3]? := hall 3 _ rfl
    rw [one_s] at h3
    have h4 : DataW.trod enc Tryz.prog W 0 (fun _ => true) true n 23 (([c0, c1, c2, c3, c4].drop 4).take (Tryz.prog.cellsOf 23)) = [y0, y1, y2, y3, y4][4]? := hall 4 _ rfl
    rw [one_lt] at h4
    simp only [List.drop_zero, List.drop_succ_cons, List.take_succ_cons, List.take_zero] at h0 h1 h2 h3 h4
    obtain ⟨k, e0, _, w0⟩ := DataW.trod_int Tryz.underlying22 h0
    obtain ⟨m, e1, _, w1⟩ := DataW.trod_int Tryz.underlying3 h1
    obtain ⟨s, e2, _, w2⟩ := DataW.trod_string Tryz.underlying9 h2
    obtain ⟨u, e3, _, w3⟩ := DataW.trod_string Tryz.underlying9 h3
    simp at e0 e1 e2 e3
    subst e0 e1 e2 e3
    unfold maxLen at w2 w3
    have hf : fields k m s u := ⟨i8_bd w0, bd w1, by omega, by omega⟩
    rcases DataW.trod_slice Tryz.underlying23 h4 with ⟨e4, _⟩ | ⟨a, len, cap, elems, rest, n', hn, e4, _, _, hlc, hcm, hel, hcell, _, _⟩
    · simp at e4
      subst e4
      exact ⟨.mk k m s u [], _, rfl, hf, none, 0, rfl, Nat.le_refl _, by omega, by simp [Tm.l]⟩
    · simp at e4
      subst e4
      unfold maxLen at hcm
      subst hn
      have key : ∀ i, i < len → ∃ t : Tm, ∃ b o, a = ⟨b, o, none⟩ ∧ At (n' + 1) W b (o + i * 5) t := by
        intro i hi
        have hc := hcell i hi
        rw [tm_cells] at hc
        obtain ⟨y, hy⟩ : ∃ y, elems[i]? = some y := ⟨elems[i]'(by omega), List.getElem?_eq_getElem (by omega)⟩
        rw [hy] at hc
        obtain ⟨cs', hcs, ht⟩ := Option.bind_eq_some_iff.1 hc
        obtain ⟨t, lv, rfl, hf', hr'⟩ := ih n' (by omega) cs' y ht
        obtain ⟨_, _, hget⟩ := World.cells?_some hcs
        have g0 := hget 0 (by omega)
        have g1 := hget 1 (by omega)
        have g2 := hget 2 (by omega)
        have g3 := hget 3 (by omega)
        have g4 := hget 4 (by omega)
        obtain ⟨b, o, rfl⟩ : ∃ b o, a = ⟨b, o, none⟩ := by
          have h00 := hcell 0 (by omega)
          rw [tm_cells] at h00
          obtain ⟨y', hy'⟩ : ∃ y, elems[0]? = some y := ⟨elems[0]'(by omega), List.getElem?_eq_getElem (by omega)⟩
          rw [hy'] at h00
          obtain ⟨cs0, hcs0, ht0⟩ := Option.bind_eq_some_iff.1 h00
          obtain ⟨t0, lv0, rfl, _, _⟩ := ih n' (by omega) cs0 y' ht0
          have g := (World.cells?_some hcs0).2.2 0 (by omega)
          simp [Addr.add] at g
          exact addr_none g
        refine ⟨t, b, o, rfl, ?_⟩
        simp only [addr_add] at g0 g1 g2 g3 g4
        obtain ⟨k', m', s', u', l'⟩ := t
        exact At.shut hf' ⟨by simpa [Tm.k] using g0, by simpa [Tm.n] using g1, by simpa [Tm.s] using g2, by simpa [Tm.u] using g3, by simpa using g4⟩ hr'
      obtain ⟨l, hl1, hl2⟩ := list_choose len key
      exact ⟨.mk k m s u l, _, rfl, hf, some a, cap, by simp [Tm.l, hl1], by simp [Tm.l]; omega, by omega, fun i t hi => by
        obtain ⟨b, o, rfl, hat⟩ := hl2 i t hi
        exact ⟨b, o, rfl, hat.more⟩⟩
theorem At.le {f g : Nat} {w : World} {b o : Nat} {t : Tm} (h : At f w b o t) (hg : f ≤ g) : At g w b o t := by
  obtain ⟨d, rfl⟩ := Nat.le.dest hg
  clear hg
  induction d with
  | zero => exact h
  | succ d ih => exact ih.more
theorem Row.le {f g : Nat} {w : World} {v : Value} {l : List Tm} (h : Row f w v l) (hg : f ≤ g) : Row g w v l := by
  obtain ⟨ao, cap, h1, h2, h3, h4⟩ := h
  exact ⟨ao, cap, h1, h2, h3, fun i t hi => by
    obtain ⟨b, off, e, h5⟩ := h4 i t hi
    exact ⟨b, off, e, h5.le hg⟩⟩
theorem row_of_trod {H : Type} {enc : TypeId × Value → H} {W : World} {n : Nat} {v : Value} {y : DataW H × List MemPlace} (h : Rd enc Tryz.prog W n 23 [v] y) : ∃ l, Row n W v l := by
  rcases DataW.trod_slice Tryz.underlying23 h with ⟨e4, _⟩ | ⟨a, len, cap, elems, rest, n', hn, e4, _, _, hlc, hcm, hel, hcell, _, _⟩
  · simp at e4
    subst e4
    exact ⟨[], none, 0, rfl, Nat.le_refl _, by omega, by simp⟩
  · simp at e4
    subst e4
    unfold maxLen at hcm
    subst hn
    have key : ∀ i, i < len → ∃ t : Tm, ∃ b o, a = ⟨b, o, none⟩ ∧ At (n' + 1) W b (o + i * 5) t := by
      intro i hi
      have hc := hcell i hi
      rw [tm_cells] at hc
      obtain ⟨y, hy⟩ : ∃ y, elems[i]? = some y := ⟨elems[i]'(by omega), List.getElem?_eq_getElem (by omega)⟩
      rw [hy] at hc
      obtain ⟨cs', hcs, ht⟩ := Option.bind_eq_some_iff.1 hc
      obtain ⟨t, lv, rfl, hf', hr'⟩ := tm_of_trod n' cs' y ht
      obtain ⟨_, _, hget⟩ := World.cells?_some hcs
      have g0 := hget 0 (by omega)
      have g1 := hget 1 (by omega)
      have g2 := hget 2 (by omega)
      have g3 := hget 3 (by omega)
      have g4 := hget 4 (by omega)
      obtain ⟨b, o, rfl⟩ : ∃ b o, a = ⟨b, o, none⟩ := by
        have h00 := hcell 0 (by omega)
        rw [tm_cells] at h00
        obtain ⟨y', hy'⟩ : ∃ y, elems[0]? = some y := ⟨elems[0]'(by omega), List.getElem?_eq_getElem (by omega)⟩
        rw [hy'] at h00
        obtain ⟨cs0, hcs0, ht0⟩ := Option.bind_eq_some_iff.1 h00
        obtain ⟨t0, lv0, rfl, _, _⟩ := tm_of_trod n' cs0 y' ht0
        have g := (World.cells?_some hcs0).2.2 0 (by omega)
        simp [Addr.add] at g
        exact addr_none g
      refine ⟨t, b, o, rfl, ?_⟩
      simp only [addr_add] at g0 g1 g2 g3 g4
      obtain ⟨k', m', s', u', l'⟩ := t
      exact At.shut hf' ⟨by simpa [Tm.k] using g0, by simpa [Tm.n] using g1, by simpa [Tm.s] using g2, by simpa [Tm.u] using g3, by simpa using g4⟩ hr'
    obtain ⟨l, hl1, hl2⟩ := list_choose len key
    exact ⟨l, some a, cap, by simp [hl1], by omega, by omega, fun i t hi => by
      obtain ⟨b, o, rfl, hat⟩ := hl2 i t hi
      exact ⟨b, o, rfl, hat⟩⟩
theorem term_of_trod {H : Type} {enc : TypeId × Value → H} {W : World} {base : Nat} {v0 : Value} {d0 : DataW H} {p0 : List MemPlace} (hv0 : Value.okWide Tryz.prog W .any base 25 v0) (h0 : DataW.Trod enc Tryz.prog W 0 (fun _ => true) true 25 v0 d0 p0) : ∃ f t, TermV f W v0 t := by
  obtain ⟨cs, rfl, hsz⟩ := okWide_struct Tryz.underlying25 hv0
  obtain ⟨fuel, hf⟩ := h0
  obtain ⟨t, lv, e, h1, h2⟩ := tm_of_trod fuel _ _ hf
  refine ⟨fuel, t, h1, lv, ?_, h2⟩
  obtain ⟨l⟩ := cs
  simp [Value.cells] at e
  rw [e]
end Go.Proofs.YthpmdeofdlcccaaGreatDoor
namespace Go.Proofs.YthpmdeofdlcccaaGreatDoor
open Go.ChangeShapes Go.WideShapes Go.ChangeAt Go.RowKit
set_option linter.unusedVariables false
set_option linter.unusedSimpArgs false
set_option maxRecDepth 100000
/-- the blocks that are not there yet -/
abbrev M0 (W : World) : Nat → Prop := fun k => W.heap.size ≤ k
theorem te_of {W : World} {n : Nat} {k m : Int} {s u : ByteArray} {lv : Value} {l : List Tm} (hf : fields k m s u) (h : Row n W lv l) : ∃ x : TE, x.k = k ∧ x.n = m ∧ x.s = s ∧ x.u = u ∧ x.lv = lv ∧ TeOk (M0 W) W x := by
  obtain ⟨ao, cap, e, h2, h3, h4⟩ := h.toS
  refine ⟨⟨k, m, s, u, ao, cap, l⟩, rfl, rfl, rfl, rfl, e.symm, hf, n, ao, cap, rfl, h2, h3, fun i t hi => ?_⟩
  obtain ⟨b', off, e', h⟩ := h4 i t hi
  exact ⟨b', off, e', h.chg (Chg.refl (fun _ => False) W) (fun _ _ _ h => h) (fun k hk hl => Nat.not_le_of_lt hk) (Nat.le_refl _)⟩
/-- mail that reads -/
structure ItsOk (M : Nat → Prop) (W : World) (v : Value) (L : List It) : Prop where
  form : ∃ ao cap, v = .slice ao L.length cap ∧ L.length ≤ cap ∧ cap ≤ 9223372036854775807 ∧ (ao = none → cap = 0) ∧ ∀ i x, L[i]? = some x → ∃ b off, ao = some ⟨b, off, none⟩ ∧ ItAt W b (off + i * 6) x ∧ ¬ M b
  te : ∀ x ∈ L, TeOk M W x.x
theorem ItsOk.chg {M M' T : Nat → Prop} {w w' : World} {v : Value} {L : List It} (h : ItsOk M w v L) (hc : Chg T w w') (hT : ∀ k, T k → k < w.heap.size → M k) (hM : ∀ k, M' k → k < w.heap.size → M k) : ItsOk M' w' v L := by
  obtain ⟨⟨ao, cap, h1, h2, h3, h30, h4⟩, h5⟩ := h
  refine ⟨⟨ao, cap, h1, h2, h3, h30, fun i x hi => ?_⟩, fun x hx => (h5 x hx).chg hc hT hM⟩
  obtain ⟨b, off, e, ha, hb⟩ := h4 i x hi
  have hlt : b < w.heap.size := World.block_lt_of_cell? w _ ha.c0
  have ht : ¬ T b := fun h => hb (hT b h hlt)
  exact ⟨b, off, e, ⟨hc.cell ha.c0 ht, hc.cell ha.c1 ht, hc.cell ha.c2 ht, hc.cell ha.c3 ht, hc.cell ha.c4 ht, hc.cell ha.c5 ht⟩, fun h => hb (hM b h hlt)⟩
theorem ItsOk.keep {M : Nat → Prop} {w w' : World} {v : Value} {L : List It} (h : ItsOk M w v L) (hb : Below w.heap.size w w') : ItsOk M w' v L := h.chg (chg_of_below hb (fun _ => False)) (fun _ h => h.elim) (fun _ h _ => h)
theorem ItsOk.ml {M : Nat → Prop} {w : World} {v : Value} {L : List It} (h : ItsOk M w v L) : MlOk M w v L := by
  obtain ⟨⟨ao, cap, h1, h2, h3, h30, h4⟩, h5⟩ := h
  refine ⟨ao, cap, h1, h2, h3, fun x hx => ?_⟩
  have hx0 : L[0]? = some x := by rw [← List.head?_eq_getElem?]; exact hx
  obtain ⟨b, off, e, ha, hb⟩ := h4 0 x hx0
  exact ⟨h5 x (List.mem_of_getElem? hx0), b, off, e, by rw [Nat.zero_mul, Nat.add_zero] at ha; exact ha⟩
def itL : List TypeId := [22, 3, 9, 9, 23, 4]
def chL : List TypeId := [22, 3, 9, 9, 23, 22, 22, 3, 9, 9, 23, 26]
theorem flat_IT : flat Tryz.prog 4 59 = some itL := by kernel_rfl
theorem cells_IT : Tryz.prog.cellsOf 59 = 6 := by kernel_rfl
theorem flat_CH : flat Tryz.prog 4 28 = some chL := by kernel_rfl
section
variable {H : Type} {enc : TypeId × Value → H} {W : World}
theorem its_of {n : Nat} {v : Value} {y : DataW H × List MemPlace} (h : Rd enc Tryz.prog W n 40 [v] y) : ∃ L, ItsOk (M0 W) W v L := by
  obtain ⟨ao, len, cap, rfl, h1, h2, h3, h4⟩ := elems_trod (k := 4) (L := itL) Tryz.underlying40 flat_IT cells_IT (by decide) h
  obtain ⟨L, rfl, hL⟩ := list_choose (Q := fun i (x : It) => (∃ b off, ao = some ⟨b, off, none⟩ ∧ ItAt W b (off + i * 6) x ∧ ¬ M0 W b) ∧ TeOk (M0 W) W x.x) len (fun i hi => by
    obtain ⟨b, off, e, hb, hj⟩ := h4 i hi
    obtain ⟨u0, n0, y0, c0, -, r0⟩ := hj 0 _ rfl
    obtain ⟨u1, n1, y1, c1, -, r1⟩ := hj 1 _ rfl
    obtain ⟨u2, n2, y2, c2, -, r2⟩ := hj 2 _ rfl
    obtain ⟨u3, n3, y3, c3, -, r3⟩ := hj 3 _ rfl
    obtain ⟨u4, n4, y4, c4, l4, r4⟩ := hj 4 _ rfl
    obtain ⟨u5, n5, y5, c5, -, r5⟩ := hj 5 _ rfl
    obtain ⟨a0, rfl, w0⟩ := leaf_int Tryz.underlying22 r0
    obtain ⟨a1, rfl, w1⟩ := leaf_int Tryz.underlying3 r1
    obtain ⟨a2, rfl, w2⟩ := leaf_str Tryz.underlying9 r2
    obtain ⟨a3, rfl, w3⟩ := leaf_str Tryz.underlying9 r3
    obtain ⟨l, hl⟩ := row_of_trod r4
    obtain ⟨a5, rfl⟩ := leaf_bool Tryz.underlying4 r5
    obtain ⟨x, e0, e1, e2, e3, e4, hx⟩ := te_of ⟨i8_bd w0, bd w1, w2, w3⟩ hl
    subst e0 e1 e2 e3 e4
    exact ⟨⟨x, a5⟩, ⟨b, off, e, ⟨c0, c1, c2, c3, c4, c5⟩, Nat.not_le_of_lt hb⟩, hx⟩)
  refine ⟨L, ⟨ao, cap, rfl, h1, h2, fun e => (h3 e).2, fun i x hi => (hL i x hi).1⟩, fun x hx => ?_⟩
  obtain ⟨i, hi⟩ := List.getElem?_of_mem hx
  exact (hL i x hi).2
theorem tes_of {n : Nat} {v : Value} {y : DataW H × List MemPlace} (h : Rd enc Tryz.prog W n 23 [v] y) : ∃ E, TesOk (M0 W) W v E := by
  obtain ⟨l, hl⟩ := row_of_trod h
  obtain ⟨E, -, hE⟩ := TesOk.of_row (M := M0 W) (hl.toS.chg (S' := Av (M0 W)) (Chg.refl (fun _ => False) W) (fun _ _ _ h => h) (fun k hk hl => Nat.not_le_of_lt hk) (Nat.le_refl _))
  exact ⟨E, hE⟩
end
end Go.Proofs.YthpmdeofdlcccaaGreatDoor
namespace Go.Proofs.YthpmdeofdlcccaaGreatDoor
open Go.ChangeShapes Go.WideShapes Go.ChangeAt Go.RowKit
set_option linter.unusedVariables false
set_option linter.unusedSimpArgs false
set_option maxRecDepth 100000
/-- some bool -/
def SomeB (w : World) (e : Ending) (w' : World) : Prop := ∃ b, e = .returned (.bool b) ∧ Below w.heap.size w w'
set_option maxHeartbeats 8000000 in
theorem galls_any (M : Nat → Prop) (w : World) (v : Value) (E : List TE) (h : TesOk M w v E) : Calls Tryz.prog 6 #[v] w (SomeB w) := by
  obtain ⟨ao, c, rfl, hc1, hc2⟩ := h.slice
  have HR := Lib.hid h
  clear h
  have hlen : E.length ≤ 9223372036854775807 := by omega
  generalize hn : E.length = n at *
  have HN := Lib.hid hn
  clear hn
  go_enter Tryz.func6, Tryz.ntmps6
  go_wp2_with fail
  go_loopw [3, 4] (fun nv iv wr => ∃ (i : Nat) (m : Int), i ≤ n ∧ iv = .int .i64 i ∧ nv = .int .i64 m ∧ 0 ≤ m ∧ m ≤ 9223372036854775807 ∧ Hid (Below w.heap.size w wr)) (fun _ iv _ => n - (intOf iv).toNat)
  case atStart => exact ⟨0, n, by omega, rfl, rfl, by omega, by omega, Lib.hid (Below.refl _ _)⟩
  case round =>
    obtain ⟨i, m, hi, rfl, rfl, hn0, hn1, HI⟩ := hrel
    by_cases hlt : i < n
    · by_cases hbig : m < 4000
      · have hd : decide (m < 4000) = true := by simpa using hbig
        obtain ⟨x, hx⟩ : ∃ x, E[i]? = some x := ⟨E[i]'(by rw [HN.out]; exact hlt), List.getElem?_eq_getElem _⟩
        obtain ⟨b, off, cap, e, hxk, c0, c1, c2, c3, c4⟩ := (HR.out.keep HI.out).at hx
        rw [HN.out] at e
        injection e with e1 e2 e3
        subst e1 e3
        have hsz := siz_le x.t 4000 (by omega)
        have HCALL := Lib.hid (size_any _ x.t _ wr 4000 hxk.tv.choose_spec (by omega) (by omega))
        have hwr : IntKind.i64.wrap (m + siz x.t 4000) = m + siz x.t 4000 := IntWalk.i64_in _ (by omega)
        have e4 : x.lv = .slice x.ao x.l.length x.cap := rfl
        rw [e4] at c4
        clear hx hxk e4
        go_wp2_with fail
        refine HCALL.out.mono ?_
        rintro e w2 ⟨rfl, hb2⟩
        have HB2 := Lib.hid (HI.out.trans (hb2.mono HI.out.size))
        clear HCALL hb2 c0 c1 c2 c3 c4 HI
        go_wp2_with fail
        go_roundw
        case rel => exact ⟨i + 1, m + siz x.t 4000, by omega, by go_num, rfl, by omega, by omega, HB2⟩
        case measure => simp [intOf]; omega
      · have hd : decide (m < 4000) = false := by simpa using hbig
        go_wp2_with fail
        go_ret
        exact ⟨_, rfl, HI.out⟩
    · obtain rfl : i = n := by omega
      go_wp2_with fail
      go_ret
      exact ⟨_, rfl, HI.out⟩
set_option maxHeartbeats 8000000 in
theorem g17_any (M : Nat → Prop) (w : World) (v : Value) (L : List It) (h : ItsOk M w v L) : Calls Tryz.prog 21 #[v] w (SomeB w) := by
  obtain ⟨ao, cap, rfl, h1, h2, h30, h3⟩ := h.form
  have HR := Lib.hid h
  clear h h3 h30
  have hlen : L.length ≤ 9223372036854775807 := by omega
  generalize hn : L.length = n at *
  have HN := Lib.hid hn
  clear hn
  go_enter Tryz.func21, Tryz.ntmps21
  by_cases h200 : (200 : Int) < n
  · have hd : decide ((200 : Int) < n) = true := by simpa using h200
    go_wp2_with fail
    go_ret
    exact ⟨_, rfl, Below.refl _ _⟩
  · have hd : decide ((200 : Int) < n) = false := by simpa using h200
    go_wp2_with fail
    go_loopw [3] (fun iv wr => ∃ i : Nat, i ≤ n ∧ iv = .int .i64 i ∧ Hid (Below w.heap.size w wr)) (fun iv _ => n - (intOf iv).toNat)
    case atStart => exact ⟨0, by omega, rfl, Lib.hid (Below.refl _ _)⟩
    case round =>
      obtain ⟨i, hi, rfl, HI⟩ := hrel
      by_cases hlt : i < n
      · obtain ⟨x, hx⟩ : ∃ x, L[i]? = some x := ⟨L[i]'(by rw [HN.out]; exact hlt), List.getElem?_eq_getElem _⟩
        have hk := HR.out.keep HI.out
        obtain ⟨ao', cap', e, -, -, -, hat⟩ := hk.form
        injection e with e1 e2 e3
        subst e1 e3
        obtain ⟨b, off, rfl, ha, -⟩ := hat i x hx
        have hxk := hk.te x (List.mem_of_getElem? hx)
        have HG := Lib.hid (great_any _ x.x.t _ wr hxk.tv.choose_spec)
        obtain ⟨c0, c1, c2, c3, c4, -⟩ := ha
        clear hx hxk hk hat e2
        go_wp2_with fail
        refine HG.out.mono ?_
        rintro e w2 ⟨rfl, hb2⟩
        have HB2 := Lib.hid (HI.out.trans (hb2.mono HI.out.size))
        clear HG hb2 c0 c1 c2 c3 c4 HI
        generalize greatB x.x.t = g at *
        cases g
        · go_wp2_with fail
          go_roundw
          case rel => exact ⟨i + 1, by omega, by go_num, HB2⟩
          case measure => simp [intOf]; omega
        · go_wp2_with fail
          go_ret
          exact ⟨_, rfl, HB2.out⟩
      · obtain rfl : i = n := by omega
        go_wp2_with fail
        go_ret
        exact ⟨_, rfl, HI.out⟩
end Go.Proofs.YthpmdeofdlcccaaGreatDoor
