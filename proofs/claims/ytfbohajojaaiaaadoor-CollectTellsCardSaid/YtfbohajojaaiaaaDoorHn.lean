/- the law's words: leaf, cell. No conditions. -/
import Derived.Test.YtfbohajojaaiaaaDoorHm
namespace Go.Proofs.YtfbohajojaaiaaaDoor
open Go.ChangeShapes Go.WideShapes Go.ChangeAt Go.RowKit
set_option linter.unusedVariables false
set_option maxRecDepth 100000
theorem ret_row1 {P : Program} {fn : Func} {R : Ending → World → Prop} {tmps : Array Value} {w : World} {g p : Nat} {ty t : TypeId} {fr : Nat × Nat} {d : TypeDesc} {cs : Array Value} (hg : w.heap[g]? = some (.cells cs t fr)) (hfn : fn.results = #[.cell p ty])
    (hu : P.underlying ty = some d) (hd : (match d with | .struct _ | .array _ _ => true | _ => false) = true) (hi : (P.info? ty).map (·.size) = some cs.size)
    (hp : tmps.getD p undef = .pointer (some ⟨g, 0, none⟩)) (hpost : R (.returned (.agg cs)) w) : bodyPost P fn R .ret { tmps := tmps, defers := [] } w := by
  refine bodyPost_ret (v := .agg cs) ?_ rfl hpost
  have hl := run_loadVar_row (P := P) w g t ty cs fr d hg hu hd hi
  unfold results
  rw [hfn]
  simp only [Array.getD_eq_getD_getElem?] at hp
  simp [asAddr, hp, hl]
def leafC (n : Int) : Array Value := #[.bool false, .int .i64 0, .int .i8 0, .int .i64 n, .string ⟨#[]⟩, .string ⟨#[]⟩, .slice none 0 0]
theorem leaf_any (w : World) (n : Int) : Calls Tryd.prog 26 #[.int .i64 n] w fun e w' => e = .returned (.agg (leafC n)) ∧ Below w.heap.size w w' := by
  have HX := Lib.hid (heap_new w (.cells (leafC n) 58))
  have HB := Lib.hid ((Below.refl w.heap.size w).alloc (Nat.le_refl _) (.cells (leafC n) 58))
  go_enter Tryd.func26, Tryd.ntmps26
  go_wp2_with (with_reducible refine stop_op (o := ⟨_, .store 58 (.tmp 2) (.tmp 5), _, _, _, _⟩) ?_)
  refine Lib.hid ?_
  refine wpList_store_new (o := ⟨none, _, _, _, _, _⟩) rfl 58 (.tmp 2) (.tmp 5) rfl (leafC n) rfl rfl (infoWD _ rfl) rfl (by simp [leafC, Value.oneCell']) ?_
  go_wp2_with fail
  exact ret_row1 HX.out rfl Tryd.underlying58 rfl (infoWD _ rfl) rfl ⟨rfl, HB.out⟩
theorem cellw_any (w : World) (n : Int) : Calls Tryd.prog 27 #[.int .i64 n] w fun e w' => e = .returned (.agg (cellA n)) ∧ Below w.heap.size w w' := by
  have HX := Lib.hid (heap_new w (.cells (cellA n) 58))
  have HB := Lib.hid ((Below.refl w.heap.size w).alloc (Nat.le_refl _) (.cells (cellA n) 58))
  go_enter Tryd.func27, Tryd.ntmps27
  go_wp2_with (with_reducible refine stop_op (o := ⟨_, .store 58 (.tmp 2) (.tmp 4), _, _, _, _⟩) ?_)
  refine Lib.hid ?_
  refine wpList_store_new (o := ⟨none, _, _, _, _, _⟩) rfl 58 (.tmp 2) (.tmp 4) rfl (cellA n) rfl rfl (infoWD _ rfl) rfl (by simp [cellA, Value.oneCell']) ?_
  go_wp2_with fail
  exact ret_row1 HX.out rfl Tryd.underlying58 rfl (infoWD _ rfl) rfl ⟨rfl, HB.out⟩
/-- a part's word -/
def Wd.w (x : Wd) : Wd := if x.c then ⟨true, x.a, 0, 0, ⟨#[]⟩, ⟨#[]⟩, none, 0, []⟩ else ⟨false, 0, x.k, x.n, x.s, x.u, x.ao, x.cap, x.l⟩
theorem word_any (w : World) (x : Wd) : Calls Tryd.prog 21 #[x.V] w fun e w' => e = .returned (.agg x.w.cells.toArray) ∧ Below w.heap.size w w' := by
  obtain ⟨xc, xa, xk, xn, xs, xu, xao, xcap, xl⟩ := x
  have hb := (Below.refl w.heap.size w).alloc (Nat.le_refl _) (.cells #[.bool xc, .int .i64 xa, .int .i8 xk, .int .i64 xn, .string xs, .string xu, .slice xao xl.length xcap] 49)
  have hs : (w.alloc (.cells #[.bool xc, .int .i64 xa, .int .i8 xk, .int .i64 xn, .string xs, .string xu, .slice xao xl.length xcap] 49)).heap.size = w.heap.size + 1 := by simp
  cases xc
  · have HX := Lib.hid (heap_new (w.alloc (.cells #[.bool false, .int .i64 xa, .int .i8 xk, .int .i64 xn, .string xs, .string xu, .slice xao xl.length xcap] 49)) (.cells #[.bool false, .int .i64 0, .int .i8 xk, .int .i64 xn, .string xs, .string xu, .slice xao xl.length xcap] 58))
    have HB := Lib.hid (hb.alloc hb.size (.cells #[.bool false, .int .i64 0, .int .i8 xk, .int .i64 xn, .string xs, .string xu, .slice xao xl.length xcap] 58))
    rw [hs] at HX
    clear hb hs
    go_enter Tryd.func21, Tryd.ntmps21
    simp only [Wd.V]
    go_wp2_with (with_reducible refine stop_op (o := ⟨_, .store 58 (.tmp 2) (.tmp 10), _, _, _, _⟩) ?_)
    refine Lib.hid ?_
    refine wpList_store_new (o := ⟨none, _, _, _, _, _⟩) rfl 58 (.tmp 2) (.tmp 10) rfl #[.bool false, .int .i64 0, .int .i8 xk, .int .i64 xn, .string xs, .string xu, .slice xao xl.length xcap] (by rw [World.size_alloc]; rfl) rfl (infoWD _ rfl) rfl (by simp [Value.oneCell']) ?_
    go_wp2_with fail
    exact ret_row1 HX.out rfl Tryd.underlying58 rfl (infoWD _ rfl) rfl ⟨rfl, HB.out⟩
  · have HX := Lib.hid (heap_new (w.alloc (.cells #[.bool true, .int .i64 xa, .int .i8 xk, .int .i64 xn, .string xs, .string xu, .slice xao xl.length xcap] 49)) (.cells (cellA xa) 58))
    have HB := Lib.hid (hb.alloc hb.size (.cells (cellA xa) 58))
    rw [hs] at HX
    clear hb hs
    go_enter Tryd.func21, Tryd.ntmps21
    simp only [Wd.V]
    go_wp2_with (with_reducible refine stop_op (o := ⟨_, .store 58 (.tmp 2) (.tmp 7), _, _, _, _⟩) ?_)
    refine Lib.hid ?_
    refine wpList_store_new (o := ⟨none, _, _, _, _, _⟩) rfl 58 (.tmp 2) (.tmp 7) rfl (cellA xa) (by rw [World.size_alloc]; rfl) rfl (infoWD _ rfl) rfl (by simp [cellA, Value.oneCell']) ?_
    go_wp2_with fail
    exact ret_row1 HX.out rfl Tryd.underlying58 rfl (infoWD _ rfl) rfl ⟨rfl, HB.out⟩
end Go.Proofs.YtfbohajojaaiaaaDoor
