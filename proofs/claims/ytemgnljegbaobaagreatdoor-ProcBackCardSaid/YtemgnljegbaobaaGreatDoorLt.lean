/- what the listed variable gives the walks. -/
import Derived.Test.YtemgnljegbaobaaGreatDoorAa
import Derived.Lib.LaidU8
import Derived.LaidMore
import Derived.ShutString
namespace Go.Proofs.YtemgnljegbaobaaGreatDoor
open Go.ChangeShapes Go.WideShapes Go.ChangeAt Go.RowKit
open Go.ChangeMaps (open_string shut_string)
set_option linter.unusedVariables false
def letD : DataW Unit := .agg (letL.map fun r => .agg ([r.1, r.2].map fun z => .lit (.int .u8 z)))
theorem letters_of (W : World) (h : laidMetH Tryz.prog [("pleach/atoms.letters", letD)] W) : Cells W 0 letL := by
  rw [MakeChecks.laidMetH_plain _ _ _ (by kernel_rfl)] at h
  obtain ⟨g, t, cs, fuel, p, hg, hty, hvar, hd⟩ := Lib.laidMet.reads h (List.mem_singleton.2 rfl)
  obtain rfl := Option.some.inj ((show Tryz.prog.globalNamed "pleach/atoms.letters" = some 0 by kernel_rfl).symm.trans hg)
  obtain rfl := Option.some.inj ((show (Tryz.prog.globals[0]?).map (·.type) = some 109 by kernel_rfl).symm.trans hty)
  have c2 : Tryz.prog.cellsOf 108 = 2 := by kernel_rfl
  have c1 : Tryz.prog.cellsOf 5 = 1 := by kernel_rfl
  intro j r hj
  have hi : j < 4 := by
    have := (List.getElem?_eq_some_iff.1 hj).1
    simpa [letL] using this
  obtain ⟨fuel', d, q, hdi, he⟩ := Lib.array_elem Tryz.underlying109 hd j hi
  simp only [List.getElem?_map, hj, Option.map_some, Option.some.injEq] at hdi
  subst hdi
  rw [c2] at he
  have hcs := Lib.cells_of_tab Tryz.underlying108 Tryz.underlying5 c1 c2 he
  have e0 := congrArg (·[0]?) hcs
  have e1 := congrArg (·[1]?) hcs
  simp only [List.getElem?_take, List.getElem?_drop] at e0 e1
  constructor
  · have := World.var?_cell hg hvar (j * 2)
    rw [show 0 + j * 2 = j * 2 from by omega, this, ← Array.getElem?_toList]
    simpa using e0
  · have := World.var?_cell hg hvar (j * 2 + 1)
    rw [show 0 + j * 2 + 1 = j * 2 + 1 from by omega, this, ← Array.getElem?_toList]
    simpa using e1
end Go.Proofs.YtemgnljegbaobaaGreatDoor
