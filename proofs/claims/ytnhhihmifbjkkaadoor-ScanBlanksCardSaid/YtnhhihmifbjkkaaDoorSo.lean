/- what the listed variables give the walks; ScanNext at any arguments that can be read. -/
import Derived.Test.YtnhhihmifbjkkaaDoorSn
import Derived.Lib.LaidU8
import Derived.LaidMore
import Derived.ShutString
namespace Go.Proofs.YtnhhihmifbjkkaaDoor
open Go.ChangeShapes Go.WideShapes Go.ChangeAt Go.RowKit
open Go.ChangeMaps (open_string shut_string)
set_option linter.unusedVariables false
def letD : DataW Unit := .agg (letL.map fun r => .agg ([r.1, r.2].map fun z => .lit (.int .u8 z)))
def strD (L : List (List UInt8)) : DataW Unit := .agg (L.map fun x => .lit (.string x))
theorem letters_in {l : List (String × DataW Unit)} (W : World) (h : laidMet Tryd.prog l W) (hm : ("pleach/atoms.letters", letD) ∈ l) : Cells W 0 letL := by
  obtain ⟨g, t, cs, fuel, p, hg, hty, hvar, hd⟩ := Lib.laidMet.reads h hm
  obtain rfl := Option.some.inj ((show Tryd.prog.globalNamed "pleach/atoms.letters" = some 1 by kernel_rfl).symm.trans hg)
  obtain rfl := Option.some.inj ((show (Tryd.prog.globals[1]?).map (·.type) = some 50 by kernel_rfl).symm.trans hty)
  have c2 : Tryd.prog.cellsOf 49 = 2 := by kernel_rfl
  have c1 : Tryd.prog.cellsOf 5 = 1 := by kernel_rfl
  intro j r hj
  have hi : j < 4 := by
    have := (List.getElem?_eq_some_iff.1 hj).1
    simpa [letL] using this
  obtain ⟨fuel', d, q, hdi, he⟩ := Lib.array_elem Tryd.underlying50 hd j hi
  simp only [List.getElem?_map, hj, Option.map_some, Option.some.injEq] at hdi
  subst hdi
  rw [c2] at he
  have hcs := Lib.cells_of_tab Tryd.underlying49 Tryd.underlying5 c1 c2 he
  have e0 := congrArg (·[0]?) hcs
  have e1 := congrArg (·[1]?) hcs
  simp only [List.getElem?_take, List.getElem?_drop] at e0 e1
  constructor
  · have := World.var?_cell hg hvar (j * 2)
    rw [show 0 + j * 2 = j * 2 from by omega, this, ← Array.getElem?_toList]
    simpa using e0
  · have := World.var?_cell hg hvar (j * 2 + 1)
    rw [show 0 + j * 2 + 1 = j * 2 + 1 from by omega, this, ← Array.getElem?_toList]
    simpa using e1
theorem one_str : Tryd.prog.cellsOf 9 = 1 := by kernel_rfl
theorem words_in {l : List (String × DataW Unit)} (W : World) (h : laidMet Tryd.prog l W) (hm : ("pleach/scan.words", strD wordsL) ∈ l) : Strs W 2 wordsL := by
  obtain ⟨g, t, cs, fuel, p, hg, hty, hvar, hd⟩ := Lib.laidMet.reads h hm
  obtain rfl := Option.some.inj ((show Tryd.prog.globalNamed "pleach/scan.words" = some 2 by kernel_rfl).symm.trans hg)
  obtain rfl := Option.some.inj ((show (Tryd.prog.globals[2]?).map (·.type) = some 51 by kernel_rfl).symm.trans hty)
  intro j x hj
  have hi : j < 13 := (List.getElem?_eq_some_iff.1 hj).1
  obtain ⟨fuel', d, q, hdi, he⟩ := Lib.array_elem Tryd.underlying51 hd j hi
  simp only [List.getElem?_map, hj, Option.map_some, Option.some.injEq] at hdi
  subst hdi
  rw [one_str] at he
  obtain ⟨s, e1, e2, _⟩ := DataW.trod_string Tryd.underlying9 he
  have h0 := congrArg (·[0]?) e1
  simp at e2 h0
  have := World.var?_cell hg hvar j
  rw [this, ← Array.getElem?_toList]
  rw [← Array.getElem?_toList] at h0
  rw [h0]
  rw [str_of e2.1.symm]
theorem marks_in {l : List (String × DataW Unit)} (W : World) (h : laidMet Tryd.prog l W) (hm : ("pleach/scan.marks", strD marksL) ∈ l) : Strs W 0 marksL := by
  obtain ⟨g, t, cs, fuel, p, hg, hty, hvar, hd⟩ := Lib.laidMet.reads h hm
  obtain rfl := Option.some.inj ((show Tryd.prog.globalNamed "pleach/scan.marks" = some 0 by kernel_rfl).symm.trans hg)
  obtain rfl := Option.some.inj ((show (Tryd.prog.globals[0]?).map (·.type) = some 42 by kernel_rfl).symm.trans hty)
  intro j x hj
  have hi : j < 22 := (List.getElem?_eq_some_iff.1 hj).1
  obtain ⟨fuel', d, q, hdi, he⟩ := Lib.array_elem Tryd.underlying42 hd j hi
  simp only [List.getElem?_map, hj, Option.map_some, Option.some.injEq] at hdi
  subst hdi
  rw [one_str] at he
  obtain ⟨s, e1, e2, _⟩ := DataW.trod_string Tryd.underlying9 he
  have h0 := congrArg (·[0]?) e1
  simp at e2 h0
  have := World.var?_cell hg hvar j
  rw [this, ← Array.getElem?_toList]
  rw [← Array.getElem?_toList] at h0
  rw [h0]
  rw [str_of e2.1.symm]
def laid3 : List (String × DataW Unit) := [("pleach/atoms.letters", letD), ("pleach/scan.marks", strD marksL), ("pleach/scan.words", strD wordsL)]
theorem tabs_of (W : World) (h : laidMetH Tryd.prog laid3 W) : Tabs W := by
  rw [MakeChecks.laidMetH_plain _ _ _ (by kernel_rfl)] at h
  exact ⟨letters_in W h (.head _), words_in W h (.tail _ (.tail _ (.head _))), marks_in W h (.tail _ (.head _))⟩
theorem next_row {H : Type} {enc : TypeId × Value → H} (W : World) {base : Nat} {v0 v1 : Value} {d0 d1 : DataW H} {p0 p1 : List MemPlace}
    (hv0 : Value.okWide Tryd.prog W .any base 9 v0) (h0 : DataW.Trod enc Tryd.prog W 0 (fun _ => true) true 9 v0 d0 p0)
    (hv1 : Value.okWide Tryd.prog W .any base 3 v1) (h1 : DataW.Trod enc Tryd.prog W 0 (fun _ => true) true 3 v1 d1 p1)
    (hL : laidMetH Tryd.prog laid3 W) : Calls Tryd.prog 3 #[v0, v1] W (IsPost W true) := by
  obtain ⟨s, rfl, rfl, rfl, hs⟩ := open_string Tryd.underlying9 hv0 h0
  obtain ⟨a, rfl, rfl, rfl, ha⟩ := open_int Tryd.underlying3 hv1 h1
  exact law_next s (by unfold maxLen at hs; omega) a (bd ha).2 W (tabs_of W hL)
end Go.Proofs.YtnhhihmifbjkkaaDoor
