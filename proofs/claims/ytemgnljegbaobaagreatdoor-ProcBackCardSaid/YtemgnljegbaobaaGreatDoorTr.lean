/- terms as arguments: what can be read as data is a term in memory. -/
import Derived.Test.YtemgnljegbaobaaGreatDoorTx
import Derived.Test.YtemgnljegbaobaaGreatDoorFl
import Derived.ChangeArms
import Derived.DataReads
namespace Go.Proofs.YtemgnljegbaobaaGreatDoor
open Go.ChangeShapes Go.WideShapes Go.ChangeAt Go.RowKit
set_option linter.unusedVariables false
set_option maxRecDepth 100000
theorem tm_cells : Tryz.prog.cellsOf 31 = 5 := by kernel_rfl
theorem one_i8 : Tryz.prog.cellsOf 28 = 1 := by kernel_rfl
theorem one_i : Tryz.prog.cellsOf 3 = 1 := by kernel_rfl
theorem one_s : Tryz.prog.cellsOf 9 = 1 := by kernel_rfl
theorem one_lt : Tryz.prog.cellsOf 29 = 1 := by kernel_rfl
theorem tm_of_trod {H : Type} {enc : TypeId × Value → H} {W : World} : ∀ (fuel : Nat) (cs : List Value) (x : DataW H × List MemPlace), DataW.trod enc Tryz.prog W 0 (fun _ => true) true fuel 31 cs = some x →
    ∃ (t : Tm) (lv : Value), cs = [.int .i8 t.k, .int .i64 t.n, .string t.s, .string t.u, lv] ∧ fields t.k t.n t.s t.u ∧ Row fuel W lv t.l := by
  intro fuel
  induction fuel using Nat.strongRecOn with
  | ind fuel ih =>
    intro cs x h
    obtain ⟨xs, n, rfl, hx, hcl, hxl, hall⟩ := DataW.trod_struct Tryz.underlying31 h
    rw [tm_cells] at hcl
    obtain ⟨c0, c1, c2, c3, c4, rfl⟩ : ∃ c0 c1 c2 c3 c4, cs = [c0, c1, c2, c3, c4] := by
      match cs, hcl with
      | [c0, c1, c2, c3, c4], _ => exact ⟨c0, c1, c2, c3, c4, rfl⟩
    obtain ⟨y0, y1, y2, y3, y4, rfl⟩ : ∃ y0 y1 y2 y3 y4, xs = [y0, y1, y2, y3, y4] := by
      match xs, hxl with
      | [y0, y1, y2, y3, y4], _ => exact ⟨y0, y1, y2, y3, y4, rfl⟩
    have h0 : DataW.trod enc Tryz.prog W 0 (fun _ => true) true n 28 (([c0, c1, c2, c3, c4].drop 0).take (Tryz.prog.cellsOf 28)) = [y0, y1, y2, y3, y4][0]? := hall 0 _ rfl
    rw [one_i8] at h0
    have h1 : DataW.trod enc Tryz.prog W 0 (fun _ => true) true n 3 (([c0, c1, c2, c3, c4].drop 1).take (Tryz.prog.cellsOf 3)) = [y0, y1, y2, y3, y4][1]? := hall 1 _ rfl
    rw [one_i] at h1
    have h2 : DataW.trod enc Tryz.prog W 0 (fun _ => true) true n 9 (([c0, c1, c2, c3, c4].drop 2).take (Tryz.prog.cellsOf 9)) = [y0, y1, y2, y3, y4][2]? := hall 2 _ rfl
    rw [one_s] at h2
    have h3 : DataW.trod enc Tryz.prog W 0 (fun _ => true) true n 9 (([c0, c1, c2, c3, c4].drop 3).take (Tryz.prog.cellsOf 9)) = [y0, y1, y2, y3, y4][3]? := hall 3 _ rfl
    rw [one_s] at h3
    have h4 : DataW.trod enc Tryz.prog W 0 (fun _ => true) true n 29 (([c0, c1, c2, c3, c4].drop 4).take (Tryz.prog.cellsOf 29)) = [y0, y1, y2, y3, y4][4]? := hall 4 _ rfl
    rw [one_lt] at h4
    simp only [List.drop_zero, List.drop_succ_cons, List.take_succ_cons, List.take_zero] at h0 h1 h2 h3 h4
    obtain ⟨k, e0, _, w0⟩ := DataW.trod_int Tryz.underlying28 h0
    obtain ⟨m, e1, _, w1⟩ := DataW.trod_int Tryz.underlying3 h1
    obtain ⟨s, e2, _, w2⟩ := DataW.trod_string Tryz.underlying9 h2
    obtain ⟨u, e3, _, w3⟩ := DataW.trod_string Tryz.underlying9 h3
    simp at e0 e1 e2 e3
    subst e0 e1 e2 e3
    unfold maxLen at w2 w3
    have hf : fields k m s u := ⟨i8_bd w0, bd w1, by omega, by omega⟩
    rcases DataW.trod_slice Tryz.underlying29 h4 with ⟨e4, _⟩ | ⟨a, len, cap, elems, rest, n', hn, e4, _, _, hlc, hcm, hel, hcell, _, _⟩
    · simp at e4
      subst e4
      exact ⟨.mk k m s u [], _, rfl, hf, none, 0, rfl, Nat.le_refl _, by omega, by simp [Tm.l]⟩
    · simp at e4
      subst e4
      unfold maxLen at hcm
      subst hn
      have key : ∀ i, i < len → ∃ t : Tm, ∃ b o, a = ⟨b, o, none⟩ ∧ At (n' + 1) W b (o + i * 5) t := by
        intro i hi
        have hc := hcell i hi
        rw [tm_cells] at hc
        obtain ⟨y, hy⟩ : ∃ y, elems[i]? = some y := ⟨elems[i]'(by omega), List.getElem?_eq_getElem (by omega)⟩
        rw [hy] at hc
        obtain ⟨cs', hcs, ht⟩ := Option.bind_eq_some_iff.1 hc
        obtain ⟨t, lv, rfl, hf', hr'⟩ := ih n' (by omega) cs' y ht
        obtain ⟨_, _, hget⟩ := World.cells?_some hcs
        have g0 := hget 0 (by omega)
        have g1 := hget 1 (by omega)
        have g2 := hget 2 (by omega)
        have g3 := hget 3 (by omega)
        have g4 := hget 4 (by omega)
        obtain ⟨b, o, rfl⟩ : ∃ b o, a = ⟨b, o, none⟩ := by
          have h00 := hcell 0 (by omega)
          rw [tm_cells] at h00
          obtain ⟨y', hy'⟩ : ∃ y, elems[0]? = some y := ⟨elems[0]'(by omega), List.getElem?_eq_getElem (by omega)⟩
          rw [hy'] at h00
          obtain ⟨cs0, hcs0, ht0⟩ := Option.bind_eq_some_iff.1 h00
          obtain ⟨t0, lv0, rfl, _, _⟩ := ih n' (by omega) cs0 y' ht0
          have g := (World.cells?_some hcs0).2.2 0 (by omega)
          simp [Addr.add] at g
          exact addr_none g
        refine ⟨t, b, o, rfl, ?_⟩
        simp only [addr_add] at g0 g1 g2 g3 g4
        obtain ⟨k', m', s', u', l'⟩ := t
        exact At.shut hf' ⟨by simpa [Tm.k] using g0, by simpa [Tm.n] using g1, by simpa [Tm.s] using g2, by simpa [Tm.u] using g3, by simpa using g4⟩ hr'
      obtain ⟨l, hl1, hl2⟩ := list_choose len key
      exact ⟨.mk k m s u l, _, rfl, hf, some a, cap, by simp [Tm.l, hl1], by simp [Tm.l]; omega, by omega, fun i t hi => by
        obtain ⟨b, o, rfl, hat⟩ := hl2 i t hi
        exact ⟨b, o, rfl, hat.more⟩⟩
theorem At.le {f g : Nat} {w : World} {b o : Nat} {t : Tm} (h : At f w b o t) (hg : f ≤ g) : At g w b o t := by
  obtain ⟨d, rfl⟩ := Nat.le.dest hg
  clear hg
  induction d with
  | zero => exact h
  | succ d ih => exact ih.more
theorem Row.le {f g : Nat} {w : World} {v : Value} {l : List Tm} (h : Row f w v l) (hg : f ≤ g) : Row g w v l := by
  obtain ⟨ao, cap, h1, h2, h3, h4⟩ := h
  exact ⟨ao, cap, h1, h2, h3, fun i t hi => by
    obtain ⟨b, off, e, h5⟩ := h4 i t hi
    exact ⟨b, off, e, h5.le hg⟩⟩
theorem row_of_trod {H : Type} {enc : TypeId × Value → H} {W : World} {n : Nat} {v : Value} {y : DataW H × List MemPlace} (h : Rd enc Tryz.prog W n 29 [v] y) : ∃ l, Row n W v l := by
  rcases DataW.trod_slice Tryz.underlying29 h with ⟨e4, _⟩ | ⟨a, len, cap, elems, rest, n', hn, e4, _, _, hlc, hcm, hel, hcell, _, _⟩
  · simp at e4
    subst e4
    exact ⟨[], none, 0, rfl, Nat.le_refl _, by omega, by simp⟩
  · simp at e4
    subst e4
    unfold maxLen at hcm
    subst hn
    have key : ∀ i, i < len → ∃ t : Tm, ∃ b o, a = ⟨b, o, none⟩ ∧ At (n' + 1) W b (o + i * 5) t := by
      intro i hi
      have hc := hcell i hi
      rw [tm_cells] at hc
      obtain ⟨y, hy⟩ : ∃ y, elems[i]? = some y := ⟨elems[i]'(by omega), List.getElem?_eq_getElem (by omega)⟩
      rw [hy] at hc
      obtain ⟨cs', hcs, ht⟩ := Option.bind_eq_some_iff.1 hc
      obtain ⟨t, lv, rfl, hf', hr'⟩ := tm_of_trod n' cs' y ht
      obtain ⟨_, _, hget⟩ := World.cells?_some hcs
      have g0 := hget 0 (by omega)
      have g1 := hget 1 (by omega)
      have g2 := hget 2 (by omega)
      have g3 := hget 3 (by omega)
      have g4 := hget 4 (by omega)
      obtain ⟨b, o, rfl⟩ : ∃ b o, a = ⟨b, o, none⟩ := by
        have h00 := hcell 0 (by omega)
        rw [tm_cells] at h00
        obtain ⟨y', hy'⟩ : ∃ y, elems[0]? = some y := ⟨elems[0]'(by omega), List.getElem?_eq_getElem (by omega)⟩
        rw [hy'] at h00
        obtain ⟨cs0, hcs0, ht0⟩ := Option.bind_eq_some_iff.1 h00
        obtain ⟨t0, lv0, rfl, _, _⟩ := tm_of_trod n' cs0 y' ht0
        have g := (World.cells?_some hcs0).2.2 0 (by omega)
        simp [Addr.add] at g
        exact addr_none g
      refine ⟨t, b, o, rfl, ?_⟩
      simp only [addr_add] at g0 g1 g2 g3 g4
      obtain ⟨k', m', s', u', l'⟩ := t
      exact At.shut hf' ⟨by simpa [Tm.k] using g0, by simpa [Tm.n] using g1, by simpa [Tm.s] using g2, by simpa [Tm.u] using g3, by simpa using g4⟩ hr'
    obtain ⟨l, hl1, hl2⟩ := list_choose len key
    exact ⟨l, some a, cap, by simp [hl1], by omega, by omega, fun i t hi => by
      obtain ⟨b, o, rfl, hat⟩ := hl2 i t hi
      exact ⟨b, o, rfl, hat⟩⟩
theorem term_of_trod {H : Type} {enc : TypeId × Value → H} {W : World} {base : Nat} {v0 : Value} {d0 : DataW H} {p0 : List MemPlace} (hv0 : Value.okWide Tryz.prog W .any base 31 v0) (h0 : DataW.Trod enc Tryz.prog W 0 (fun _ => true) true 31 v0 d0 p0) : ∃ f t, TermV f W v0 t := by
  obtain ⟨cs, rfl, hsz⟩ := okWide_struct Tryz.underlying31 hv0
  obtain ⟨fuel, hf⟩ := h0
  obtain ⟨t, lv, e, h1, h2⟩ := tm_of_trod fuel _ _ hf
  refine ⟨fuel, t, h1, lv, ?_, h2⟩
  obtain ⟨l⟩ := cs
  simp [Value.cells] at e
  rw [e]
end Go.Proofs.YtemgnljegbaobaaGreatDoor
