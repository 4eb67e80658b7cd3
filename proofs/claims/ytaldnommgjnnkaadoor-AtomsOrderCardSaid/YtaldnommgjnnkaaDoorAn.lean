/- AtomsOrder at any argument that can be read. -/
import Derived.Test.YtaldnommgjnnkaaDoorAi
namespace Go.Proofs.YtaldnommgjnnkaaDoor
open Go.ChangeShapes Go.WideShapes Go.ChangeAt Go.RowKit
set_option linter.unusedVariables false
theorem order_great (w : World) (hw : Cells w 0 letL) (ao : Option Addr) (n cap : Nat) (hl : 100 < n) : Calls Tryd.prog 5 #[.slice ao n cap] w (IsPost w true) := by
  have hd : decide ((100 : Int) < (n : Int)) = true := by simp; omega
  go_enter Tryd.func5, Tryd.ntmps5
  go_wp2_with fail
  refine (wakes_any w hw).mono ?_
  rintro e w1 ⟨rfl, hb1⟩
  go_wp2_with fail
  go_ret
  exact ⟨rfl, hb1⟩
theorem order_row {H : Type} {enc : TypeId × Value → H} (W : World) {base : Nat} {v0 : Value} {d0 : DataW H} {p0 : List MemPlace} (hv0 : Value.okWide Tryd.prog W .any base 25 v0) (h0 : DataW.Trod enc Tryd.prog W 0 (fun _ => true) true 25 v0 d0 p0)
    (hL : laidMetH Tryd.prog [("pleach/atoms.letters", letD)] W) : Calls Tryd.prog 5 #[v0] W (IsPost W true) := by
  obtain ⟨l, h1, ao, cap, rfl, h2⟩ := slv_strings hv0 h0
  by_cases h : 100 < l.length
  · exact order_great W (letters_of W hL) ao _ cap h
  · exact order_any W (letters_of W hL) ao cap l (by omega) h2 h1
end Go.Proofs.YtaldnommgjnnkaaDoor
