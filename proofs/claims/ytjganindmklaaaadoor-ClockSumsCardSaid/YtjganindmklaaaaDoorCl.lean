/- ClockSums at any arguments that can be read. -/
import Derived.Test.YtjganindmklaaaaDoorCc
import Derived.Test.YtjganindmklaaaaDoorLt
namespace Go.Proofs.YtjganindmklaaaaDoor
open Go.ChangeShapes Go.WideShapes Go.ChangeAt Go.RowKit
set_option linter.unusedVariables false
theorem sums_row {H : Type} {enc : TypeId × Value → H} (W : World) {base : Nat} {v0 v1 v2 : Value} {d0 d1 d2 : DataW H} {p0 p1 p2 : List MemPlace}
    (hv0 : Value.okWide Tryd.prog W .any base 3 v0) (h0 : DataW.Trod enc Tryd.prog W 0 (fun _ => true) true 3 v0 d0 p0)
    (hv1 : Value.okWide Tryd.prog W .any base 3 v1) (h1 : DataW.Trod enc Tryd.prog W 0 (fun _ => true) true 3 v1 d1 p1)
    (hv2 : Value.okWide Tryd.prog W .any base 3 v2) (h2 : DataW.Trod enc Tryd.prog W 0 (fun _ => true) true 3 v2 d2 p2)
    (hL : laidMetH Tryd.prog [("pleach/atoms.letters", letD)] W) : Calls Tryd.prog 3 #[v0, v1, v2] W (IsPost W true) := by
  obtain ⟨a0, rfl, rfl, rfl, w0⟩ := open_int Tryd.underlying3 hv0 h0
  obtain ⟨a1, rfl, rfl, rfl, w1⟩ := open_int Tryd.underlying3 hv1 h1
  obtain ⟨a2, rfl, rfl, rfl, w2⟩ := open_int Tryd.underlying3 hv2 h2
  exact sums_any a0 a1 a2 W (letters_of W hL)
end Go.Proofs.YtjganindmklaaaaDoor
