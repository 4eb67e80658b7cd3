/- general: a row is returned. No conditions. -/
import Derived.Test.YtfbmjcblnemkgaaDoorHe
import Derived.Test.YtfbmjcblnemkgaaDoorTj
namespace Go.Proofs.YtfbmjcblnemkgaaDoor
open Go.ChangeShapes Go.WideShapes Go.ChangeAt Go.RowKit
set_option linter.unusedVariables false
set_option maxRecDepth 100000
theorem ret_row1 {P : Program} {fn : Func} {R : Ending → World → Prop} {tmps : Array Value} {w : World} {g p : Nat} {ty t : TypeId} {fr : Nat × Nat} {d : TypeDesc} {cs : Array Value} (hg : w.heap[g]? = some (.cells cs t fr)) (hfn : fn.results = #[.cell p ty])
    (hu : P.underlying ty = some d) (hd : (match d with | .struct _ | .array _ _ => true | _ => false) = true) (hi : (P.info? ty).map (·.size) = some cs.size)
    (hp : tmps.getD p undef = .pointer (some ⟨g, 0, none⟩)) (hpost : R (.returned (.agg cs)) w) : bodyPost P fn R .ret { tmps := tmps, defers := [] } w := by
  refine bodyPost_ret (v := .agg cs) ?_ rfl hpost
  have hl := run_loadVar_row (P := P) w g t ty cs fr d hg hu hd hi
  unfold results
  rw [hfn]
  simp only [Array.getD_eq_getD_getElem?] at hp
  simp [asAddr, hp, hl]
theorem WOk.term {f : Nat} {w : World} {x : Wd} (h : WOk f w x) : TermV f w (.agg #[.int .i8 x.k, .int .i64 x.n, .string x.s, .string x.u, .slice x.ao x.l.length x.cap]) x.t := ⟨h.2.1, _, rfl, h.2.2⟩
end Go.Proofs.YtfbmjcblnemkgaaDoor
