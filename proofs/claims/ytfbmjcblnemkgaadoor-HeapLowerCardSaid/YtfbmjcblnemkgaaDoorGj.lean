/- words that are the same. Conditions: the terms read. -/
import Derived.Test.YtfbmjcblnemkgaaDoorGi
namespace Go.Proofs.YtfbmjcblnemkgaaDoor
open Go.ChangeShapes Go.WideShapes Go.ChangeAt Go.RowKit
set_option linter.unusedVariables false
set_option maxRecDepth 100000
def eqW (x y : Wd) : Bool := decide (x.c = y.c) && (decide (x.a = y.a) && eqT x.t y.t)
theorem eqW_refl (x : Wd) : eqW x x = true := by simp [eqW, eqT_refl]
set_option maxHeartbeats 8000000 in
theorem sameword_any (f g : Nat) (x y : Wd) (w : World) (hx : WOk f w x) (hy : WOk g w y) : Calls Tryd.prog 33 #[x.V, y.V] w (IsPost w (eqW x y)) := by
  have hb := ((Below.refl w.heap.size w).alloc (Nat.le_refl _) (.cells x.cells.toArray 33)).alloc (by simp) (.cells y.cells.toArray 33)
  have HC := Lib.hid (rsame_any f g x.t y.t _ _ _ ((hx.keep hb).term) ((hy.keep hb).term))
  have HB := Lib.hid hb
  have HE0 : Hid (eqW x y = (decide (x.c = y.c) && (decide (x.a = y.a) && eqT x.t y.t))) := Lib.hid rfl
  clear hx hy hb
  generalize eqW x y = res at *
  generalize eqT x.t y.t = te at *
  obtain ⟨xc, xa, xk, xn, xs, xu, xao, xcap, xl⟩ := x
  obtain ⟨yc, ya, yk, yn, ys, yu, yao, ycap, yl⟩ := y
  simp only [Wd.V, Wd.cells] at *
  by_cases h1 : xc = yc
  · subst h1
    have d1 : (xc == xc) = true := by simp
    by_cases h1 : xa = ya
    · subst h1
      have d2 : (xa == xa) = true := by simp
      have HE : Hid (res = te) := Lib.hid (by rw [HE0.out]; simp)
      clear HE0
      go_enter Tryd.func33, Tryd.ntmps33
      go_wp2_with fail
      refine HC.out.mono ?_
      rintro e w2 ⟨rfl, hb2⟩
      have HB2 := Lib.hid (HB.out.trans (hb2.mono HB.out.size))
      clear hb2
      go_wp2_with fail
      go_ret
      exact ⟨by rw [HE.out]; rfl, HB2.out⟩
    · have d2 : (xa == ya) = false := by simp [h1]
      have HE : Hid (res = false) := Lib.hid (by rw [HE0.out]; simp [h1])
      clear HE0
      clear h1
      go_enter Tryd.func33, Tryd.ntmps33
      go_wp2_with fail
      go_ret
      exact ⟨by rw [HE.out]; rfl, HB.out⟩
  · have HE : Hid (res = false) := Lib.hid (by rw [HE0.out]; simp [h1])
    cases xc <;> cases yc <;> first | exact absurd rfl h1 | skip
    all_goals
      clear HE0
      clear h1
      go_enter Tryd.func33, Tryd.ntmps33
      go_wp2_with fail
      go_ret
      exact ⟨by rw [HE.out]; rfl, HB.out⟩
end Go.Proofs.YtfbmjcblnemkgaaDoor
