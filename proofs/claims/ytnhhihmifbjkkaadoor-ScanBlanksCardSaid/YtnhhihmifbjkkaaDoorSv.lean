/- scan: ScanBlanks at any arguments that can be read. -/
import Derived.Test.YtnhhihmifbjkkaaDoorSo
import Derived.Test.YtnhhihmifbjkkaaDoorSt
namespace Go.Proofs.YtnhhihmifbjkkaaDoor
open Go.ChangeShapes Go.WideShapes Go.ChangeAt Go.RowKit
open Go.ChangeMaps (open_string shut_string)
set_option linter.unusedVariables false
theorem blanks_row {H : Type} {enc : TypeId × Value → H} (W : World) {base : Nat} {v0 v1 : Value} {d0 d1 : DataW H} {p0 p1 : List MemPlace}
    (hv0 : Value.okWide Tryd.prog W .any base 9 v0) (h0 : DataW.Trod enc Tryd.prog W 0 (fun _ => true) true 9 v0 d0 p0)
    (hv1 : Value.okWide Tryd.prog W .any base 33 v1) (h1 : DataW.Trod enc Tryd.prog W 0 (fun _ => true) true 33 v1 d1 p1)
    (hL : laidMetH Tryd.prog laid3 W) : Calls Tryd.prog 4 #[v0, v1] W (IsPost W true) := by
  obtain ⟨s, rfl, rfl, rfl, hs⟩ := open_string Tryd.underlying9 hv0 h0
  obtain ⟨l, hl1, hl2, ao, cap, rfl, hl3⟩ := slv_ints hv1 h1
  exact law_blanks s (by unfold maxLen at hs; omega) ao cap l hl1 hl2 W (tabs_of W hL) hl3
end Go.Proofs.YtnhhihmifbjkkaaDoor
