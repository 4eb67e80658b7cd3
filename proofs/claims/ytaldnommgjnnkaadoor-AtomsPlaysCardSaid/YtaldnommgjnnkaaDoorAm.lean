/- AtomsBack at any argument that can be read. -/
import Derived.Test.YtaldnommgjnnkaaDoorAf
import Derived.SliceStrings
namespace Go.Proofs.YtaldnommgjnnkaaDoor
open Go.ChangeShapes Go.WideShapes Go.ChangeAt Go.RowKit
set_option linter.unusedVariables false
theorem slv_strings {H : Type} {enc : TypeId × Value → H} {W : World} {base : Nat} {v0 : Value} {d0 : DataW H} {p0 : List MemPlace} (hv0 : Value.okWide Tryd.prog W .any base 25 v0) (h0 : DataW.Trod enc Tryd.prog W 0 (fun _ => true) true 25 v0 d0 p0) :
    ∃ l : List ByteArray, (∀ s ∈ l, s.size ≤ 9223372036854775807) ∧ ∃ ao cap, v0 = .slice ao l.length cap ∧ SlV W (.slice ao l.length cap) (l.map Value.string) := by
  obtain ⟨ao, n, cap, rfl⟩ := okWide_slice Tryd.underlying25 hv0
  have lt0 : ∀ x ∈ p0, x.block < W.heap.size := by obtain ⟨m, hm⟩ := h0; exact DataW.trod_lt m _ _ _ hm
  obtain ⟨fuel, hf⟩ := h0
  rcases open_strings Tryd.underlying25 Tryd.underlying9 (by kernel_rfl) hf with ⟨hcs, _⟩ | ⟨x, l, c, zs, hcs, _, hl, hm, hz, _, hcell, hwz⟩
  · simp [Value.cells] at hcs
    obtain ⟨rfl, rfl, rfl⟩ := hcs
    exact ⟨[], by simp, none, 0, rfl, none, 0, rfl, Nat.le_refl _, by omega, .inl rfl⟩
  · simp [Value.cells] at hcs
    obtain ⟨rfl, rfl, rfl⟩ := hcs
    unfold maxLen at hm hwz
    simp at hz
    have hlen : (zs.take n).length = n := by simp; omega
    refine ⟨zs.take n, fun s hs => by have := hwz s (List.mem_of_mem_take hs); omega, some x, cap, by rw [hlen], some x, cap, by simp, by simp; omega, by omega, ?_⟩
    rcases Nat.eq_zero_or_pos n with h0 | h0
    · left
      subst h0
      simp
    · right
      obtain ⟨b, off, sp⟩ := x
      have h00 := hcell 0 (by omega)
      obtain rfl : sp = none := by
        have := World.cell?_spot h00
        simpa [Addr.add] using this
      refine ⟨b, off, rfl, ?_, ?_⟩
      · have := World.block_lt_of_cell? W _ h00
        simpa [Addr.add] using this
      · intro i u hi
        have hin : i < n := by
          have := (List.getElem?_eq_some_iff.1 hi).1
          simp at this
          omega
        have hc := hcell i (by omega)
        rw [Addr.add_lit] at hc
        rw [hc]
        simp only [List.getElem?_map, List.getElem?_take, hin, if_true] at hi
        rw [List.getElem?_eq_getElem (by omega)] at hi
        simp at hi
        rw [← hi]
        simp [List.getD_eq_getElem?_getD, List.getElem?_eq_getElem (show i < zs.length by omega)]
theorem back_row {H : Type} {enc : TypeId × Value → H} (W : World) {base : Nat} {v0 : Value} {d0 : DataW H} {p0 : List MemPlace} (hv0 : Value.okWide Tryd.prog W .any base 25 v0) (h0 : DataW.Trod enc Tryd.prog W 0 (fun _ => true) true 25 v0 d0 p0)
    (hL : laidMetH Tryd.prog [("pleach/atoms.letters", letD)] W) : Calls Tryd.prog 4 #[v0] W (IsPost W true) := by
  obtain ⟨l, h1, ao, cap, rfl, h2⟩ := slv_strings hv0 h0
  by_cases h : 100 < l.length
  · exact back_great W (letters_of W hL) ao _ cap h
  · exact back_any W (letters_of W hL) ao cap l (by omega) h2 h1
end Go.Proofs.YtaldnommgjnnkaaDoor
