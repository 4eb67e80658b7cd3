/- ClockTells at any arguments that can be read. -/
import Derived.Test.YtjganindmklaaaaDoorCn
import Derived.Test.YtjganindmklaaaaDoorCm
import Derived.Test.YtjganindmklaaaaDoorTr
namespace Go.Proofs.YtjganindmklaaaaDoor
open Go.ChangeShapes Go.WideShapes Go.ChangeAt Go.RowKit
set_option linter.unusedVariables false
theorem tells_row {H : Type} {enc : TypeId × Value → H} (W : World) {base : Nat} {v0 v1 v2 v3 v4 : Value} {d0 d1 d2 d3 d4 : DataW H} {p0 p1 p2 p3 p4 : List MemPlace}
    (hv0 : Value.okWide Tryd.prog W .any base 3 v0) (h0 : DataW.Trod enc Tryd.prog W 0 (fun _ => true) true 3 v0 d0 p0)
    (hv1 : Value.okWide Tryd.prog W .any base 3 v1) (h1 : DataW.Trod enc Tryd.prog W 0 (fun _ => true) true 3 v1 d1 p1)
    (hv2 : Value.okWide Tryd.prog W .any base 3 v2) (h2 : DataW.Trod enc Tryd.prog W 0 (fun _ => true) true 3 v2 d2 p2)
    (hv3 : Value.okWide Tryd.prog W .any base 34 v3) (h3 : DataW.Trod enc Tryd.prog W 0 (fun _ => true) true 34 v3 d3 p3)
    (hv4 : Value.okWide Tryd.prog W .any base 36 v4) (h4 : DataW.Trod enc Tryd.prog W 0 (fun _ => true) true 36 v4 d4 p4)
    (hL : laidMetH Tryd.prog [("pleach/atoms.letters", letD)] W) : Calls Tryd.prog 6 #[v0, v1, v2, v3, v4] W (IsPost W true) := by
  obtain ⟨a0, rfl, rfl, rfl, w0⟩ := open_int Tryd.underlying3 hv0 h0
  obtain ⟨a1, rfl, rfl, rfl, w1⟩ := open_int Tryd.underlying3 hv1 h1
  obtain ⟨a2, rfl, rfl, rfl, w2⟩ := open_int Tryd.underlying3 hv2 h2
  obtain ⟨f, t, ht⟩ := term_of_trod hv3 h3
  obtain ⟨l, q1, q3, ao, cap, rfl, q2⟩ := slv_ints hv4 h4
  by_cases h : greatB t = true ∨ 1000 < l.length
  · exact tells_out a0 a1 a2 f t v3 W (letters_of W hL) ht ao _ cap h
  · exact tells_in a0 a1 a2 f t v3 W (letters_of W hL) ht ao cap l (by cases hg : greatB t <;> simp_all) (by omega) q2
end Go.Proofs.YtjganindmklaaaaDoor
