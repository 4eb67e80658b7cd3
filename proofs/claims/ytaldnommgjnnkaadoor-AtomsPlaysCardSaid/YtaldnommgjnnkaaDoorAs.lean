/- AtomsPlays at any arguments that can be read. -/
import Derived.Test.YtaldnommgjnnkaaDoorAq
import Derived.Deep.Fields
import Derived.ChangeSame
namespace Go.Proofs.YtaldnommgjnnkaaDoor
open Go.ChangeShapes Go.WideShapes Go.ChangeAt Go.RowKit
set_option linter.unusedVariables false
theorem ac_cells : Tryd.prog.cellsOf 43 = 3 := by kernel_rfl
theorem ac_i : Tryd.prog.cellsOf 3 = 1 := by kernel_rfl
theorem ac_s : Tryd.prog.cellsOf 9 = 1 := by kernel_rfl
theorem acts_of {H : Type} {enc : TypeId × Value → H} {W : World} {base : Nat} {v0 : Value} {d0 : DataW H} {p0 : List MemPlace} (hv0 : Value.okWide Tryd.prog W .any base 38 v0) (h0 : DataW.Trod enc Tryd.prog W 0 (fun _ => true) true 38 v0 d0 p0) :
    ∃ l : List Ac, ∃ ao cap, v0 = .slice ao l.length cap ∧ Acts W (.slice ao l.length cap) l := by
  obtain ⟨ao, n, cap, rfl⟩ := okWide_slice Tryd.underlying38 hv0
  obtain ⟨fuel, hf⟩ := h0
  rcases DataW.trod_slice Tryd.underlying38 hf with ⟨e4, _⟩ | ⟨a, len, cap', elems, rest, n', hn, e4, _, _, hlc, hcm, hel, hcell, _, _⟩
  · simp [Value.cells] at e4
    obtain ⟨rfl, rfl, rfl⟩ := e4
    exact ⟨[], none, 0, rfl, none, 0, rfl, Nat.le_refl _, by omega, by simp⟩
  · simp [Value.cells] at e4
    obtain ⟨rfl, rfl, rfl⟩ := e4
    unfold maxLen at hcm
    have key : ∀ i, i < n → ∃ x : Ac, x.2.1.size ≤ 9223372036854775807 ∧ ∃ b o, a = ⟨b, o, none⟩ ∧ W.cell? ⟨b, o + i * 3, none⟩ = some (.int .i64 x.1) ∧ W.cell? ⟨b, o + i * 3 + 1, none⟩ = some (.string x.2.1) ∧ W.cell? ⟨b, o + i * 3 + 2, none⟩ = some (.int .i64 x.2.2) := by
      intro i hi
      have hc := hcell i hi
      rw [ac_cells] at hc
      obtain ⟨y, hy⟩ : ∃ y, elems[i]? = some y := ⟨elems[i]'(by omega), List.getElem?_eq_getElem (by omega)⟩
      rw [hy] at hc
      obtain ⟨cs', hcs, ht⟩ := Option.bind_eq_some_iff.1 hc
      obtain ⟨_, hcl0, hget⟩ := World.cells?_some hcs
      obtain ⟨xs, n2, _, hx, hcl, hxl, hall⟩ := DataW.trod_struct Tryd.underlying43 ht
      rw [ac_cells] at hcl
      obtain ⟨c0, c1, c2, rfl⟩ : ∃ c0 c1 c2, cs' = [c0, c1, c2] := by
        match cs', hcl with
        | [c0, c1, c2], _ => exact ⟨c0, c1, c2, rfl⟩
      have h0 : DataW.trod enc Tryd.prog W 0 (fun _ => true) true n2 3 (([c0, c1, c2].drop 0).take (Tryd.prog.cellsOf 3)) = xs[0]? := hall 0 _ rfl
      have h1 : DataW.trod enc Tryd.prog W 0 (fun _ => true) true n2 9 (([c0, c1, c2].drop 1).take (Tryd.prog.cellsOf 9)) = xs[1]? := hall 1 _ rfl
      have h2 : DataW.trod enc Tryd.prog W 0 (fun _ => true) true n2 3 (([c0, c1, c2].drop 2).take (Tryd.prog.cellsOf 3)) = xs[2]? := hall 2 _ rfl
      obtain ⟨y0, y1, y2, rfl⟩ : ∃ y0 y1 y2, xs = [y0, y1, y2] := by
        match xs, hxl with
        | [y0, y1, y2], _ => exact ⟨y0, y1, y2, rfl⟩
      rw [ac_i] at h0 h2
      rw [ac_s] at h1
      simp only [List.drop_zero, List.drop_succ_cons, List.take_succ_cons, List.take_zero] at h0 h1 h2
      obtain ⟨k, e0, _, w0⟩ := DataW.trod_int Tryd.underlying3 h0
      obtain ⟨s, e1, _, w1⟩ := DataW.trod_string Tryd.underlying9 h1
      obtain ⟨m, e2, _, w2⟩ := DataW.trod_int Tryd.underlying3 h2
      simp at e0 e1 e2
      subst e0 e1 e2
      unfold maxLen at w1
      have g0 := hget 0 (by omega)
      have g1 := hget 1 (by omega)
      have g2 := hget 2 (by omega)
      obtain ⟨b, o, rfl⟩ : ∃ b o, a = ⟨b, o, none⟩ := by
        have h00 := hcell 0 (by omega)
        rw [ac_cells] at h00
        obtain ⟨y', hy'⟩ : ∃ y, elems[0]? = some y := ⟨elems[0]'(by omega), List.getElem?_eq_getElem (by omega)⟩
        rw [hy'] at h00
        obtain ⟨cs0, hcs0, ht0⟩ := Option.bind_eq_some_iff.1 h00
        obtain ⟨_, hl0, hg⟩ := World.cells?_some hcs0
        have g := hg 0 (by omega)
        simp [Addr.add] at g
        rw [List.getElem?_eq_getElem (by omega)] at g
        obtain ⟨b, o, sp⟩ := a
        have := World.cell?_spot g
        simp at this
        exact ⟨b, o, by rw [this]⟩
      have ha : ∀ o j, (⟨b, o, none⟩ : Addr).add j = ⟨b, o + j, none⟩ := fun o j => by
        unfold Addr.add
        split
        · rename_i h; rw [h]; rfl
        · rfl
      rw [ha, ha] at g0 g1 g2
      exact ⟨(k, s, m), by omega, b, o, rfl, by simpa using g0, by simpa using g1, by simpa using g2⟩
    have ch : ∀ n : Nat, (∀ i, i < n → ∃ x : Ac, x.2.1.size ≤ 9223372036854775807 ∧ ∃ b o, a = ⟨b, o, none⟩ ∧ W.cell? ⟨b, o + i * 3, none⟩ = some (.int .i64 x.1) ∧ W.cell? ⟨b, o + i * 3 + 1, none⟩ = some (.string x.2.1) ∧ W.cell? ⟨b, o + i * 3 + 2, none⟩ = some (.int .i64 x.2.2)) →
        ∃ l : List Ac, l.length = n ∧ ∀ i x, l[i]? = some x → x.2.1.size ≤ 9223372036854775807 ∧ ∃ b o, a = ⟨b, o, none⟩ ∧ W.cell? ⟨b, o + i * 3, none⟩ = some (.int .i64 x.1) ∧ W.cell? ⟨b, o + i * 3 + 1, none⟩ = some (.string x.2.1) ∧ W.cell? ⟨b, o + i * 3 + 2, none⟩ = some (.int .i64 x.2.2) := by
      intro n
      induction n with
      | zero => intro _; exact ⟨[], rfl, by simp⟩
      | succ n ih =>
        intro h
        obtain ⟨l, h1, h2⟩ := ih fun i hi => h i (by omega)
        obtain ⟨t, ht⟩ := h n (by omega)
        refine ⟨l ++ [t], by simp [h1], fun i u hu => ?_⟩
        rcases Nat.lt_or_ge i n with hi | hi
        · exact h2 i u (by rw [List.getElem?_append_left (by omega)] at hu; exact hu)
        · have : i = n := by
            have := (List.getElem?_eq_some_iff.1 hu).1
            simp at this
            omega
          subst this
          rw [List.getElem?_append_right (by omega), h1] at hu
          simp at hu
          subst hu
          exact ht
    obtain ⟨l, hl1, hl2⟩ := ch n key
    refine ⟨l, some a, cap, by rw [hl1], some a, cap, rfl, by omega, by omega, fun i x hi => ?_⟩
    obtain ⟨h1, b, o, rfl, h2⟩ := hl2 i x hi
    exact ⟨h1, b, o, rfl, h2⟩
theorem plays_row {H : Type} {enc : TypeId × Value → H} (W : World) {base : Nat} {v0 v1 v2 : Value} {d0 d1 d2 : DataW H} {p0 p1 p2 : List MemPlace}
    (hv0 : Value.okWide Tryd.prog W .any base 3 v0) (h0 : DataW.Trod enc Tryd.prog W 0 (fun _ => true) true 3 v0 d0 p0)
    (hv1 : Value.okWide Tryd.prog W .any base 38 v1) (h1 : DataW.Trod enc Tryd.prog W 0 (fun _ => true) true 38 v1 d1 p1)
    (hv2 : Value.okWide Tryd.prog W .any base 3 v2) (h2 : DataW.Trod enc Tryd.prog W 0 (fun _ => true) true 3 v2 d2 p2)
    (hL : laidMetH Tryd.prog [("pleach/atoms.letters", letD)] W) : Calls Tryd.prog 6 #[v0, v1, v2] W (IsPost W true) := by
  obtain ⟨most, rfl, rfl, rfl, _⟩ := open_int Tryd.underlying3 hv0 h0
  obtain ⟨leave, rfl, rfl, rfl, _⟩ := open_int Tryd.underlying3 hv2 h2
  obtain ⟨l, ao, cap, rfl, ha⟩ := acts_of hv1 h1
  by_cases h : 200 < l.length
  · exact plays_great W (letters_of W hL) ao _ cap h most leave
  · by_cases hm : most < 1 ∨ 65536 < most
    · exact plays_bad W (letters_of W hL) ao _ cap (by omega) most hm leave
    · obtain ⟨m, rfl⟩ : ∃ m : Nat, most = (m : Int) := ⟨most.toNat, by omega⟩
      exact plays_in W (letters_of W hL) ao cap l (by omega) ha m (by omega) (by omega) leave
end Go.Proofs.YtaldnommgjnnkaaDoor
