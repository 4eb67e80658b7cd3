/- ClockDue, ClockNext at any arguments that can be read. -/
import Derived.Test.YtjganindmklaaaaDoorCd
import Derived.Test.YtjganindmklaaaaDoorCe
import Derived.Test.YtjganindmklaaaaDoorLt
namespace Go.Proofs.YtjganindmklaaaaDoor
open Go.ChangeShapes Go.WideShapes Go.ChangeAt Go.RowKit
set_option linter.unusedVariables false
theorem due_row {H : Type} {enc : TypeId × Value → H} (W : World) {base : Nat} {v0 v1 v2 v3 : Value} {d0 d1 d2 d3 : DataW H} {p0 p1 p2 p3 : List MemPlace}
    (hv0 : Value.okWide Tryd.prog W .any base 3 v0) (h0 : DataW.Trod enc Tryd.prog W 0 (fun _ => true) true 3 v0 d0 p0)
    (hv1 : Value.okWide Tryd.prog W .any base 3 v1) (h1 : DataW.Trod enc Tryd.prog W 0 (fun _ => true) true 3 v1 d1 p1)
    (hv2 : Value.okWide Tryd.prog W .any base 3 v2) (h2 : DataW.Trod enc Tryd.prog W 0 (fun _ => true) true 3 v2 d2 p2)
    (hv3 : Value.okWide Tryd.prog W .any base 3 v3) (h3 : DataW.Trod enc Tryd.prog W 0 (fun _ => true) true 3 v3 d3 p3)
    (hL : laidMetH Tryd.prog [("pleach/atoms.letters", letD)] W) : Calls Tryd.prog 4 #[v0, v1, v2, v3] W (IsPost W true) := by
  obtain ⟨a0, rfl, rfl, rfl, w0⟩ := open_int Tryd.underlying3 hv0 h0
  obtain ⟨a1, rfl, rfl, rfl, w1⟩ := open_int Tryd.underlying3 hv1 h1
  obtain ⟨a2, rfl, rfl, rfl, w2⟩ := open_int Tryd.underlying3 hv2 h2
  obtain ⟨a3, rfl, rfl, rfl, w3⟩ := open_int Tryd.underlying3 hv3 h3
  exact ldue_any a0 a1 a2 a3 (bd w3) W (letters_of W hL)
theorem slv_ints {H : Type} {enc : TypeId × Value → H} {W : World} {base : Nat} {v0 : Value} {d0 : DataW H} {p0 : List MemPlace} (hv0 : Value.okWide Tryd.prog W .any base 36 v0) (h0 : DataW.Trod enc Tryd.prog W 0 (fun _ => true) true 36 v0 d0 p0) :
    ∃ l : List Int, (∀ x ∈ l, -9223372036854775808 ≤ x ∧ x ≤ 9223372036854775807) ∧ l.length ≤ 9223372036854775807 ∧ ∃ ao cap, v0 = .slice ao l.length cap ∧ SlV W (.slice ao l.length cap) (l.map (Value.int .i64)) := by
  obtain ⟨ao, n, cap, rfl⟩ := okWide_slice Tryd.underlying36 hv0
  obtain ⟨fuel, hf⟩ := h0
  rcases open_ints Tryd.underlying36 Tryd.underlying3 (by kernel_rfl) hf with ⟨hcs, _⟩ | ⟨x, l, c, zs, hcs, _, hl, hm, hz, _, hcell, hwz⟩
  · simp [Value.cells] at hcs
    obtain ⟨rfl, rfl, rfl⟩ := hcs
    exact ⟨[], by simp, by simp, none, 0, rfl, none, 0, rfl, Nat.le_refl _, by omega, .inl rfl⟩
  · simp [Value.cells] at hcs
    obtain ⟨rfl, rfl, rfl⟩ := hcs
    unfold maxLen at hm
    simp at hz
    have hlen : (zs.take n).length = n := by simp; omega
    refine ⟨zs.take n, fun s hs => bd (hwz s (List.mem_of_mem_take hs)), by omega, some x, cap, by rw [hlen], some x, cap, by simp, by simp; omega, by omega, ?_⟩
    rcases Nat.eq_zero_or_pos n with h0 | h0
    · left
      subst h0
      simp
    · right
      obtain ⟨b, off, sp⟩ := x
      have h00 := hcell 0 (by omega)
      obtain rfl : sp = none := by
        have := World.cell?_spot h00
        simpa [Addr.add] using this
      refine ⟨b, off, rfl, ?_, ?_⟩
      · have := World.block_lt_of_cell? W _ h00
        simpa [Addr.add] using this
      · intro i u hi
        have hin : i < n := by
          have := (List.getElem?_eq_some_iff.1 hi).1
          simp at this
          omega
        have hc := hcell i (by omega)
        rw [Addr.add_lit] at hc
        rw [hc]
        simp only [List.getElem?_map, List.getElem?_take, hin, if_true] at hi
        rw [List.getElem?_eq_getElem (by omega)] at hi
        simp at hi
        rw [← hi]
        simp [List.getD_eq_getElem?_getD, List.getElem?_eq_getElem (show i < zs.length by omega)]
theorem next_row {H : Type} {enc : TypeId × Value → H} (W : World) {base : Nat} {v0 : Value} {d0 : DataW H} {p0 : List MemPlace} (hv0 : Value.okWide Tryd.prog W .any base 36 v0) (h0 : DataW.Trod enc Tryd.prog W 0 (fun _ => true) true 36 v0 d0 p0)
    (hL : laidMetH Tryd.prog [("pleach/atoms.letters", letD)] W) : Calls Tryd.prog 5 #[v0] W (IsPost W true) := by
  obtain ⟨l, h1, h3, ao, cap, rfl, h2⟩ := slv_ints hv0 h0
  by_cases h : 1000 < l.length
  · exact lnext_great W (letters_of W hL) ao _ cap h
  · exact lnext_any W (letters_of W hL) ao cap l (by omega) h2
end Go.Proofs.YtjganindmklaaaaDoor
