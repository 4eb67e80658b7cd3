/- spec.FromChild at the one process that the law makes: no ErrArg. Conditions: the letters stand. -/
/- start.New of nothing. No conditions. -/
/- start.New of the one process that the law makes. Conditions: the letters stand; the record lies in a row of one. -/
/- pleachlaw28.proc: the one process that wakes starts. No conditions. -/
import Derived.Test.YtepfmanbllegiaaDoorMt19
import Derived.Test.YtepfmanbllegiaaDoorMt18
import Derived.Test.YtepfmanbllegiaaDoorMt15
namespace Go.Proofs.YtepfmanbllegiaaDoor
open Go.ChangeShapes Go.WideShapes Go.ChangeAt Go.RowKit
set_option linter.unusedVariables false
set_option linter.unusedSimpArgs false
set_option maxRecDepth 100000
def FcP (w : World) (e : Ending) (w' : World) : Prop := Below w.heap.size w w' ∧ ∃ (y : TE) (en : Int), e = .returned (.tuple #[.agg #[.int .i8 y.k, .int .i64 y.n, .string y.s, .string y.u, .slice y.ao y.l.length y.cap], .int .i64 en]) ∧ en ≠ 2
set_option maxHeartbeats 4000000 in
theorem fromchild_c0 (w : World) (hc : Cells w 0 letL) : Calls Tryd.prog 26 #[.agg #[.int .i8 1, .int .i64 0, .string ⟨#[97]⟩, .string ⟨#[]⟩, .slice none 0 0, .int .i8 1, .int .i8 0, .int .i64 5, .string ⟨#[109]⟩, .string ⟨#[102]⟩, .slice none 0 0, .slice none 0 0]] w (FcP w) := by
  have hlv : 0 < w.heap.size := World.block_lt_of_cell? w _ (hc 0 _ rfl).1
  have hb1 := (Below.refl w.heap.size w).alloc (Nat.le_refl _) (.cells #[.int .i8 1, .int .i64 0, .string ⟨#[97]⟩, .string ⟨#[]⟩, .slice none 0 0, .int .i8 1, .int .i8 0, .int .i64 5, .string ⟨#[109]⟩, .string ⟨#[102]⟩, .slice none 0 0, .slice none 0 0] 44)
  have hb2 := hb1.alloc (by simp) (.cells zT 27)
  have hb3 := hb2.alloc (by simp; omega) (.cells #[.bool false] 93)
  have z0 := heap_old (heap_old (heap_new w (.cells #[.int .i8 1, .int .i64 0, .string ⟨#[97]⟩, .string ⟨#[]⟩, .slice none 0 0, .int .i8 1, .int .i8 0, .int .i64 5, .string ⟨#[109]⟩, .string ⟨#[102]⟩, .slice none 0 0, .slice none 0 0] 44)) (.cells zT 27)) (.cells #[.bool false] 93)
  have z1 := heap_old (heap_new (w.alloc (.cells #[.int .i8 1, .int .i64 0, .string ⟨#[97]⟩, .string ⟨#[]⟩, .slice none 0 0, .int .i8 1, .int .i8 0, .int .i64 5, .string ⟨#[109]⟩, .string ⟨#[102]⟩, .slice none 0 0, .slice none 0 0] 44)) (.cells zT 27)) (.cells #[.bool false] 93)
  have z2 := heap_new ((w.alloc (.cells #[.int .i8 1, .int .i64 0, .string ⟨#[97]⟩, .string ⟨#[]⟩, .slice none 0 0, .int .i8 1, .int .i8 0, .int .i64 5, .string ⟨#[109]⟩, .string ⟨#[102]⟩, .slice none 0 0, .slice none 0 0] 44)).alloc (.cells zT 27)) (.cells #[.bool false] 93)
  simp only [World.size_alloc] at z1 z2
  have HCH := Lib.hid (child_c0 (((w.alloc (.cells #[.int .i8 1, .int .i64 0, .string ⟨#[97]⟩, .string ⟨#[]⟩, .slice none 0 0, .int .i8 1, .int .i8 0, .int .i64 5, .string ⟨#[109]⟩, .string ⟨#[102]⟩, .slice none 0 0, .slice none 0 0] 44)).alloc (.cells zT 27)).alloc (.cells #[.bool false] 93)) 5 (by decide) (by decide) (by decide) (by decide) (by decide) (by decide) (keepCells hc hb3) (w.heap.size + 2) w.heap.size false z2 z0 (by omega) (by omega))
  have HB := Lib.hid (And.intro hb3 (show (((w.alloc (.cells #[.int .i8 1, .int .i64 0, .string ⟨#[97]⟩, .string ⟨#[]⟩, .slice none 0 0, .int .i8 1, .int .i8 0, .int .i64 5, .string ⟨#[109]⟩, .string ⟨#[102]⟩, .slice none 0 0, .slice none 0 0] 44)).alloc (.cells zT 27)).alloc (.cells #[.bool false] 93)).heap[w.heap.size + 1]? = some (.cells zT 27 (0, 0)) from z1))
  clear hb1 hb2 hb3 z0 z1 z2 hlv hc
  go_enter Tryd.func26, Tryd.ntmps26
  go_wp2_with fail
  generalize ((w.alloc (.cells #[.int .i8 1, .int .i64 0, .string ⟨#[97]⟩, .string ⟨#[]⟩, .slice none 0 0, .int .i8 1, .int .i8 0, .int .i64 5, .string ⟨#[109]⟩, .string ⟨#[102]⟩, .slice none 0 0, .slice none 0 0] 44)).alloc (.cells zT 27)).alloc (.cells #[.bool false] 93) = W3 at *
  refine HCH.out.mono ?_
  clear HCH
  rintro e W4 ⟨x, b1, rfl, hq4, hcz⟩
  have HB4 := Lib.hid (And.intro (HB.out.1.trans (hcz.below HB.out.1.size (fun k e => by have e : k = w.heap.size + 2 := e; omega))) (And.intro (hcz.heap HB.out.2 (by show ¬ _ = w.heap.size + 2; omega)) hq4))
  clear hcz hq4 HB
  go_wp2_with (with_reducible refine stop_op (o := ⟨_, .store 27 (.tmp 5) (.tmp 9), _, _, _, _⟩) ?_)
  refine Lib.hid ?_
  refine wpList_store_new (o := ⟨none, _, _, _, _, _⟩) rfl 27 (.tmp 5) (.tmp 9) rfl #[.int .i8 x.k, .int .i64 x.n, .string x.s, .string x.u, .slice x.ao x.l.length x.cap] rfl rfl (infoTM' _ rfl) rfl (by simp [Value.oneCell']) ?_
  have hb5 := (Below.refl W4.heap.size W4).alloc (Nat.le_refl _) (.cells #[.int .i8 x.k, .int .i64 x.n, .string x.s, .string x.u, .slice x.ao x.l.length x.cap] 27)
  have HB5 := Lib.hid (And.intro (HB4.out.1.trans (hb5.mono HB4.out.1.size)) (And.intro (keep_heap HB4.out.2.1 hb5) (keep_heap HB4.out.2.2 hb5)))
  obtain ⟨y0, y1, y2, y3, y4⟩ := BxS.of (x := x) (heap_new W4 (.cells #[.int .i8 x.k, .int .i64 x.n, .string x.s, .string x.u, .slice x.ao x.l.length x.cap] 27))
  clear hb5 HB4
  generalize W4.alloc (.cells #[.int .i8 x.k, .int .i64 x.n, .string x.s, .string x.u, .slice x.ao x.l.length x.cap] 27) = W5 at *
  generalize W4.heap.size = g at *
  have yq := (cells_at HB5.out.2.2 0 _ rfl).1
  cases b1
  · skip
    go_wp2_with (with_reducible refine stop_op (o := ⟨_, .store 27 (.tmp 2) (.tmp 19), _, _, _, _⟩) ?_)
    refine Lib.hid ?_
    clear yq
    refine wpList_store_row (o := ⟨none, _, _, _, _, _⟩) rfl 27 (.tmp 2) (.tmp 19) rfl (w.heap.size + 1) #[.int .i8 x.k, .int .i64 x.n, .string x.s, .string x.u, .slice x.ao x.l.length x.cap] rfl rfl 27 zT HB5.out.2.1 (infoTM' _ rfl) rfl (by simp [Value.oneCell']) ?_
    have hc6 := chg_setRow W5 (w.heap.size + 1) #[.int .i8 x.k, .int .i64 x.n, .string x.s, .string x.u, .slice x.ao x.l.length x.cap]
    have HZ := Lib.hid (And.intro (HB5.out.1.trans (hc6.below HB5.out.1.size (fun k e => by have e : k = w.heap.size + 1 := e; omega))) (setRow_heap W5 (w.heap.size + 1) zT #[.int .i8 x.k, .int .i64 x.n, .string x.s, .string x.u, .slice x.ao x.l.length x.cap] 27 (0, 0) HB5.out.2.1))
    clear hc6 HB5
    generalize W5.setRow (w.heap.size + 1) #[.int .i8 x.k, .int .i64 x.n, .string x.s, .string x.u, .slice x.ao x.l.length x.cap] = W6 at *
    go_wp2_with fail
    exact ret_row HZ.out.2 rfl Tryd.underlying27 rfl (infoTM' _ rfl) rfl rfl ⟨HZ.out.1, x, 0, rfl, by decide⟩
  · skip
    go_wp2_with (with_reducible refine stop_op (o := ⟨_, .store 27 (.tmp 2) (.tmp 18), _, _, _, _⟩) ?_)
    refine Lib.hid ?_
    clear yq
    refine wpList_store_row (o := ⟨none, _, _, _, _, _⟩) rfl 27 (.tmp 2) (.tmp 18) rfl (w.heap.size + 1) zT rfl rfl 27 zT HB5.out.2.1 (infoTM' _ rfl) rfl (by simp [Value.oneCell']) ?_
    have hc6 := chg_setRow W5 (w.heap.size + 1) zT
    have HZ := Lib.hid (And.intro (HB5.out.1.trans (hc6.below HB5.out.1.size (fun k e => by have e : k = w.heap.size + 1 := e; omega))) (setRow_heap W5 (w.heap.size + 1) zT zT 27 (0, 0) HB5.out.2.1))
    clear hc6 HB5
    generalize W5.setRow (w.heap.size + 1) zT = W6 at *
    go_wp2_with fail
    exact ret_row HZ.out.2 rfl Tryd.underlying27 rfl (infoTM' _ rfl) rfl rfl ⟨HZ.out.1, (numT 0 0), 11, rfl, by decide⟩
end Go.Proofs.YtepfmanbllegiaaDoor
namespace Go.Proofs.YtepfmanbllegiaaDoor
open Go.ChangeShapes Go.WideShapes Go.ChangeAt Go.RowKit
set_option linter.unusedVariables false
set_option linter.unusedSimpArgs false
set_option maxRecDepth 100000
def faS : Fa := { faZ with k := 4 }
theorem new_nil (w : World) : Calls Tryd.prog 13 #[.slice none 0 0, .bool false] w fun e w' => e = .returned (.tuple #[.agg (flL faS mmZ).toArray, .int .i64 0]) ∧ Below w.heap.size w w' := by
  have hb1 := (Below.refl w.heap.size w).alloc (Nat.le_refl _) (.cells #[.int .i8 4, .int .i64 0, .int .i64 0, .slice none 0 0, .slice none 0 0, .slice none 0 0, .slice none 0 0, .int .i64 0, .int .i8 0, .int .i64 0, .int .i64 0, .int .i64 0, .int .i64 0, .int .i8 0, .int .i64 0, .string ⟨#[]⟩, .string ⟨#[]⟩, .slice none 0 0, .int .i8 0, .int .i64 0, .string ⟨#[]⟩, .string ⟨#[]⟩, .slice none 0 0, .int .i8 0, .int .i64 0, .string ⟨#[]⟩, .string ⟨#[]⟩, .slice none 0 0, .slice none 0 0, .int .i8 0, .int .i64 0, .int .i64 0, .slice none 0 0, .slice none 0 0, .slice none 0 0] 36)
  have hx1 := heap_new w (.cells #[.int .i8 4, .int .i64 0, .int .i64 0, .slice none 0 0, .slice none 0 0, .slice none 0 0, .slice none 0 0, .int .i64 0, .int .i8 0, .int .i64 0, .int .i64 0, .int .i64 0, .int .i64 0, .int .i8 0, .int .i64 0, .string ⟨#[]⟩, .string ⟨#[]⟩, .slice none 0 0, .int .i8 0, .int .i64 0, .string ⟨#[]⟩, .string ⟨#[]⟩, .slice none 0 0, .int .i8 0, .int .i64 0, .string ⟨#[]⟩, .string ⟨#[]⟩, .slice none 0 0, .slice none 0 0, .int .i8 0, .int .i64 0, .int .i64 0, .slice none 0 0, .slice none 0 0, .slice none 0 0] 36)
  have HB := Lib.hid (And.intro hb1 (show (w.alloc (.cells #[.int .i8 4, .int .i64 0, .int .i64 0, .slice none 0 0, .slice none 0 0, .slice none 0 0, .slice none 0 0, .int .i64 0, .int .i8 0, .int .i64 0, .int .i64 0, .int .i64 0, .int .i64 0, .int .i8 0, .int .i64 0, .string ⟨#[]⟩, .string ⟨#[]⟩, .slice none 0 0, .int .i8 0, .int .i64 0, .string ⟨#[]⟩, .string ⟨#[]⟩, .slice none 0 0, .int .i8 0, .int .i64 0, .string ⟨#[]⟩, .string ⟨#[]⟩, .slice none 0 0, .slice none 0 0, .int .i8 0, .int .i64 0, .int .i64 0, .slice none 0 0, .slice none 0 0, .slice none 0 0] 36)).heap[w.heap.size]? = some (.cells (flL faS mmZ).toArray 36 (0, 0)) from hx1))
  clear hb1 hx1
  go_enter Tryd.func13, Tryd.ntmps13
  go_wp2_with fail
  generalize w.alloc (.cells #[.int .i8 4, .int .i64 0, .int .i64 0, .slice none 0 0, .slice none 0 0, .slice none 0 0, .slice none 0 0, .int .i64 0, .int .i8 0, .int .i64 0, .int .i64 0, .int .i64 0, .int .i64 0, .int .i8 0, .int .i64 0, .string ⟨#[]⟩, .string ⟨#[]⟩, .slice none 0 0, .int .i8 0, .int .i64 0, .string ⟨#[]⟩, .string ⟨#[]⟩, .slice none 0 0, .int .i8 0, .int .i64 0, .string ⟨#[]⟩, .string ⟨#[]⟩, .slice none 0 0, .slice none 0 0, .int .i8 0, .int .i64 0, .int .i64 0, .slice none 0 0, .slice none 0 0, .slice none 0 0] 36) = w2 at *
  go_loopw [6, 8, 9, 10, 17] (fun bv _ _ _ iv wr => bv = .bool false ∧ iv = .int .i64 0 ∧ wr = w2) (fun _ _ _ _ _ _ => 0)
  case atStart => exact ⟨rfl, rfl, rfl⟩
  case round =>
    obtain ⟨rfl, rfl, rfl⟩ := hrel
    go_wp2_with (with_reducible refine stop_op (o := ⟨_, .load 36 (.tmp 4), _, _, _, _⟩) ?_)
    refine Lib.hid ?_
    refine wpList_load_row (o := ⟨_, _, _, _, _, _⟩) rfl 36 (.tmp 4) rfl w.heap.size rfl 36 (flL faS mmZ).toArray (0, 0) _ HB.out.2 Tryd.underlying36 rfl (infoFR rfl) ?_
    go_wp2_with (with_reducible refine stop_op (o := ⟨_, .store 36 (.tmp 4) (.tmp 48), _, _, _, _⟩) ?_)
    refine Lib.hid ?_
    refine wpList_store_row (o := ⟨none, _, _, _, _, _⟩) rfl 36 (.tmp 4) (.tmp 48) rfl w.heap.size (flL faS mmZ).toArray rfl rfl 36 _ HB.out.2 (infoFR rfl) rfl (all_oneCell_toArray (flL_one faS mmZ)) ?_
    rw [setRow_self _ _ _ _ _ HB.out.2]
    go_wp2_with fail
    exact ret_row HB.out.2 rfl Tryd.underlying36 rfl (infoFR rfl) rfl rfl ⟨rfl, HB.out.1⟩
end Go.Proofs.YtepfmanbllegiaaDoor
namespace Go.Proofs.YtepfmanbllegiaaDoor
open Go.ChangeShapes Go.WideShapes Go.ChangeAt Go.RowKit
set_option linter.unusedVariables false
set_option linter.unusedSimpArgs false
set_option maxRecDepth 100000
/-- the law's record -/
def r0 : Rc := ⟨⟨atomT ⟨#[97]⟩, 1, 0, 5, ⟨#[109]⟩, ⟨#[102]⟩, none, 0, 0, none, 0, 0⟩, 0⟩
/-- where the loop stands -/
def NoS (w : World) (g i : Nat) (W : World) : Prop := Below w.heap.size w W ∧ Cells W 0 letL ∧ W.heap[g]? = some (.cells #[.int .i8 1, .int .i64 0, .string ⟨#[97]⟩, .string ⟨#[]⟩, .slice none 0 0, .int .i8 1, .int .i8 0, .int .i64 5, .string ⟨#[109]⟩, .string ⟨#[102]⟩, .slice none 0 0, .slice none 0 0, .int .i64 0] 46 (0, 0)) ∧ ∃ rs : Sl, W.heap[w.heap.size]? = some (.cells (flL faS { mmZ with rs := rs }).toArray 36 (0, 0)) ∧ (i = 0 → rs = slZ) ∧ (i = 1 → W.ownsRow (w.heap.size + 1) 46 13 (.slice rs.o rs.n rs.c) 1 (rcs [r0]))
theorem NoS.keep {w W W' : World} {g i : Nat} (h : NoS w g i W) (hb : Below W.heap.size W W') : NoS w g i W' := by
  obtain ⟨h1, h2, h3, rs, h4, h5, h6⟩ := h
  exact ⟨h1.trans (hb.mono h1.size), keepCells h2 hb, keep_heap h3 hb, rs, keep_heap h4 hb, h5, fun e => own_keep (h6 e) hb⟩
def NwQ (w : World) (e : Ending) (w' : World) : Prop := Below w.heap.size w w' ∧ ∃ rs : Sl, e = .returned (.tuple #[.agg (flL faS { mmZ with ref := 1, rs := rs }).toArray, .int .i64 0]) ∧ w'.ownsRow (w.heap.size + 1) 46 13 (.slice rs.o rs.n rs.c) 1 (rcs [r0])
set_option maxHeartbeats 8000000 in
theorem new_one (w : World) (hc : Cells w 0 letL) (g : Nat) (hg : w.heap[g]? = some (.cells #[.int .i8 1, .int .i64 0, .string ⟨#[97]⟩, .string ⟨#[]⟩, .slice none 0 0, .int .i8 1, .int .i8 0, .int .i64 5, .string ⟨#[109]⟩, .string ⟨#[102]⟩, .slice none 0 0, .slice none 0 0, .int .i64 0] 46 (0, 0))) : Calls Tryd.prog 13 #[.slice (some ⟨g, 0, none⟩) 1 1, .bool true] w (NwQ w) := by
  have hb1 := (Below.refl w.heap.size w).alloc (Nat.le_refl _) (.cells #[.int .i8 4, .int .i64 0, .int .i64 0, .slice none 0 0, .slice none 0 0, .slice none 0 0, .slice none 0 0, .int .i64 0, .int .i8 0, .int .i64 0, .int .i64 0, .int .i64 0, .int .i64 0, .int .i8 0, .int .i64 0, .string ⟨#[]⟩, .string ⟨#[]⟩, .slice none 0 0, .int .i8 0, .int .i64 0, .string ⟨#[]⟩, .string ⟨#[]⟩, .slice none 0 0, .int .i8 0, .int .i64 0, .string ⟨#[]⟩, .string ⟨#[]⟩, .slice none 0 0, .slice none 0 0, .int .i8 0, .int .i64 0, .int .i64 0, .slice none 0 0, .slice none 0 0, .slice none 0 0] 36)
  have hx1 := heap_new w (.cells #[.int .i8 4, .int .i64 0, .int .i64 0, .slice none 0 0, .slice none 0 0, .slice none 0 0, .slice none 0 0, .int .i64 0, .int .i8 0, .int .i64 0, .int .i64 0, .int .i64 0, .int .i64 0, .int .i8 0, .int .i64 0, .string ⟨#[]⟩, .string ⟨#[]⟩, .slice none 0 0, .int .i8 0, .int .i64 0, .string ⟨#[]⟩, .string ⟨#[]⟩, .slice none 0 0, .int .i8 0, .int .i64 0, .string ⟨#[]⟩, .string ⟨#[]⟩, .slice none 0 0, .slice none 0 0, .int .i8 0, .int .i64 0, .int .i64 0, .slice none 0 0, .slice none 0 0, .slice none 0 0] 36)
  have HS := Lib.hid (And.intro (heap_lt hg) (show 0 < w.heap.size from World.block_lt_of_cell? w _ (hc 0 _ rfl).1))
  have HB : Hid (NoS w g 0 (w.alloc (.cells #[.int .i8 4, .int .i64 0, .int .i64 0, .slice none 0 0, .slice none 0 0, .slice none 0 0, .slice none 0 0, .int .i64 0, .int .i8 0, .int .i64 0, .int .i64 0, .int .i64 0, .int .i64 0, .int .i8 0, .int .i64 0, .string ⟨#[]⟩, .string ⟨#[]⟩, .slice none 0 0, .int .i8 0, .int .i64 0, .string ⟨#[]⟩, .string ⟨#[]⟩, .slice none 0 0, .int .i8 0, .int .i64 0, .string ⟨#[]⟩, .string ⟨#[]⟩, .slice none 0 0, .slice none 0 0, .int .i8 0, .int .i64 0, .int .i64 0, .slice none 0 0, .slice none 0 0, .slice none 0 0] 36))) := Lib.hid ⟨hb1, keepCells hc hb1, keep_heap hg hb1, slZ, hx1, fun _ => rfl, fun e => by cases e⟩
  clear hb1 hx1 hg hc
  go_enter Tryd.func13, Tryd.ntmps13
  go_wp2_with fail
  generalize w.alloc (.cells #[.int .i8 4, .int .i64 0, .int .i64 0, .slice none 0 0, .slice none 0 0, .slice none 0 0, .slice none 0 0, .int .i64 0, .int .i8 0, .int .i64 0, .int .i64 0, .int .i64 0, .int .i64 0, .int .i8 0, .int .i64 0, .string ⟨#[]⟩, .string ⟨#[]⟩, .slice none 0 0, .int .i8 0, .int .i64 0, .string ⟨#[]⟩, .string ⟨#[]⟩, .slice none 0 0, .int .i8 0, .int .i64 0, .string ⟨#[]⟩, .string ⟨#[]⟩, .slice none 0 0, .slice none 0 0, .int .i8 0, .int .i64 0, .int .i64 0, .slice none 0 0, .slice none 0 0, .slice none 0 0] 36) = w1 at *
  go_loopw [6, 8, 9, 10, 17] (fun bv _ _ _ iv wr => ∃ i : Nat, i ≤ 1 ∧ bv = .bool false ∧ iv = .int .i64 i ∧ Hid (NoS w g i wr)) (fun _ _ _ _ iv _ => 1 - (intOf iv).toNat)
  case atStart => exact ⟨0, by omega, rfl, rfl, HB⟩
  case round =>
    clear HB
    obtain ⟨i, hi, rfl, rfl, HI⟩ := hrel
    by_cases hlt : i < 1
    · obtain rfl : i = 0 := by omega
      go_wp2_with (with_reducible refine stop_op (o := ⟨_, .load 46 (.tmp 19), _, _, _, _⟩) ?_)
      refine Lib.hid ?_
      refine wpList_load_row (o := ⟨_, _, _, _, _, _⟩) rfl 46 (.tmp 19) rfl g rfl 46 #[.int .i8 1, .int .i64 0, .string ⟨#[97]⟩, .string ⟨#[]⟩, .slice none 0 0, .int .i8 1, .int .i8 0, .int .i64 5, .string ⟨#[109]⟩, .string ⟨#[102]⟩, .slice none 0 0, .slice none 0 0, .int .i64 0] (0, 0) _ HI.out.2.2.1 Tryd.underlying46 rfl (infoRC rfl) ?_
      go_wp2_with (with_reducible refine stop_op (o := ⟨_, .store 46 (.tmp 8) (.tmp 20), _, _, _, _⟩) ?_)
      refine Lib.hid ?_
      refine wpList_store_new (o := ⟨none, _, _, _, _, _⟩) rfl 46 (.tmp 8) (.tmp 20) rfl #[.int .i8 1, .int .i64 0, .string ⟨#[97]⟩, .string ⟨#[]⟩, .slice none 0 0, .int .i8 1, .int .i8 0, .int .i64 5, .string ⟨#[109]⟩, .string ⟨#[102]⟩, .slice none 0 0, .slice none 0 0, .int .i64 0] rfl rfl (infoRC rfl) rfl (by simp [Value.oneCell']) ?_
      have hb2 := (Below.refl wr.heap.size wr).alloc (Nat.le_refl _) (.cells #[.int .i8 1, .int .i64 0, .string ⟨#[97]⟩, .string ⟨#[]⟩, .slice none 0 0, .int .i8 1, .int .i8 0, .int .i64 5, .string ⟨#[109]⟩, .string ⟨#[102]⟩, .slice none 0 0, .slice none 0 0, .int .i64 0] 46)
      have H2 := Lib.hid (And.intro (HI.out.keep hb2) (heap_new wr (.cells #[.int .i8 1, .int .i64 0, .string ⟨#[97]⟩, .string ⟨#[]⟩, .slice none 0 0, .int .i8 1, .int .i8 0, .int .i64 5, .string ⟨#[109]⟩, .string ⟨#[102]⟩, .slice none 0 0, .slice none 0 0, .int .i64 0] 46)))
      clear hb2 HI
      generalize wr.alloc (.cells #[.int .i8 1, .int .i64 0, .string ⟨#[97]⟩, .string ⟨#[]⟩, .slice none 0 0, .int .i8 1, .int .i8 0, .int .i64 5, .string ⟨#[109]⟩, .string ⟨#[102]⟩, .slice none 0 0, .slice none 0 0, .int .i64 0] 46) = w2 at *
      generalize wr.heap.size = p8 at *
      go_wp2_with (with_reducible refine stop_op (o := ⟨_, .load 44 (.tmp 22), _, _, _, _⟩) ?_)
      refine Lib.hid ?_
      refine wpList_load_mid (op := ⟨_, _, _, _, _, _⟩) rfl 44 (.tmp 22) rfl p8 0 rfl [.int .i8 1, .int .i64 0, .string ⟨#[97]⟩, .string ⟨#[]⟩, .slice none 0 0, .int .i8 1, .int .i8 0, .int .i64 5, .string ⟨#[109]⟩, .string ⟨#[102]⟩, .slice none 0 0, .slice none 0 0] _ (mid_range (pre := []) (post := [.int .i64 0]) H2.out.2 rfl) Tryd.underlying44 rfl (infoCH rfl) ?_
      go_wp2_with fail
      refine (fromchild_c0 w2 H2.out.1.2.1).mono ?_
      rintro e w3 ⟨hb3, y, en, rfl, hen⟩
      have H3 := Lib.hid (And.intro (H2.out.1.keep hb3) (keep_heap H2.out.2 hb3))
      clear hb3 H2
      go_wp2_with (with_reducible refine stop_op (o := ⟨_, .store 27 (.tmp 9) (.tmp 25), _, _, _, _⟩) ?_)
      refine Lib.hid ?_
      refine wpList_store_new (o := ⟨none, _, _, _, _, _⟩) rfl 27 (.tmp 9) (.tmp 25) rfl #[.int .i8 y.k, .int .i64 y.n, .string y.s, .string y.u, .slice y.ao y.l.length y.cap] rfl rfl (infoTM' _ rfl) rfl (by simp [Value.oneCell']) ?_
      have hb4 := (Below.refl w3.heap.size w3).alloc (Nat.le_refl _) (.cells #[.int .i8 y.k, .int .i64 y.n, .string y.s, .string y.u, .slice y.ao y.l.length y.cap] 27)
      have H4 := Lib.hid (And.intro (H3.out.1.keep hb4) (keep_heap H3.out.2 hb4))
      clear hb4 H3
      generalize w3.alloc (.cells #[.int .i8 y.k, .int .i64 y.n, .string y.s, .string y.u, .slice y.ao y.l.length y.cap] 27) = w4 at *
      have q2 : (en == 2) = false := by simp [hen]
      obtain ⟨⟨hbw, hcl, hgc, rs, hfr, hrs, -⟩, hp8⟩ := H4.out
      obtain rfl := hrs rfl
      obtain ⟨c28, f28⟩ := cells_at hfr 28 (.slice none 0 0) rfl
      have H5 := Lib.hid (And.intro hbw (And.intro hcl (And.intro hgc (And.intro hfr hp8))))
      clear H4 hen hbw hcl hgc hfr hp8 hrs
      go_wp2_with (with_reducible refine stop_op (o := ⟨_, .load 44 (.tmp 35), _, _, _, _⟩) ?_)
      refine Lib.hid ?_
      refine wpList_load_mid (op := ⟨_, _, _, _, _, _⟩) rfl 44 (.tmp 35) rfl p8 0 rfl [.int .i8 1, .int .i64 0, .string ⟨#[97]⟩, .string ⟨#[]⟩, .slice none 0 0, .int .i8 1, .int .i8 0, .int .i64 5, .string ⟨#[109]⟩, .string ⟨#[102]⟩, .slice none 0 0, .slice none 0 0] _ (mid_range (pre := []) (post := [.int .i64 0]) H5.out.2.2.2.2 rfl) Tryd.underlying44 rfl (infoCH rfl) ?_
      go_wp2_with (at_builtin; refine stop_here ?_)
      refine Lib.hid ?_
      have hb6 := (Below.refl w4.heap.size w4).alloc (Nat.le_refl _) (.cells #[.int .i8 1, .int .i64 0, .string ⟨#[97]⟩, .string ⟨#[]⟩, .slice none 0 0, .int .i8 1, .int .i8 0, .int .i64 5, .string ⟨#[109]⟩, .string ⟨#[102]⟩, .slice none 0 0, .slice none 0 0, .int .i64 0] 46)
      have H6 := Lib.hid (And.intro hb6 (heap_new w4 (.cells #[.int .i8 1, .int .i64 0, .string ⟨#[97]⟩, .string ⟨#[]⟩, .slice none 0 0, .int .i8 1, .int .i8 0, .int .i64 5, .string ⟨#[109]⟩, .string ⟨#[102]⟩, .slice none 0 0, .slice none 0 0, .int .i64 0] 46)))
      clear hb6 c28 f28
      refine wpList_append_rc rfl (.tmp 34) (.tmp 38) rfl (M := fun _ => False) ⟨some ⟨w4.heap.size, 0, none⟩, 1, 1⟩ [r0] rfl rfl ⟨rfl, Nat.le_refl _, (by decide : (1 : Nat) ≤ 9223372036854775807), .inr ⟨w4.heap.size, 0, rfl, fun h => h, fun j u hj => by
        rw [Nat.zero_add]
        exact (cells_at H6.out.2 j u (by rw [List.getElem?_toArray]; exact hj)).1⟩⟩ (by decide) ?_
      intro rv w7 hown hb7
      change w7.ownsRow _ _ _ _ 1 _ at hown
      obtain ⟨ro, rcc, rfl⟩ := own_slice hown
      have hsz : w.heap.size + 1 ≤ (w4.alloc (.cells #[.int .i8 1, .int .i64 0, .string ⟨#[97]⟩, .string ⟨#[]⟩, .slice none 0 0, .int .i8 1, .int .i8 0, .int .i64 5, .string ⟨#[109]⟩, .string ⟨#[102]⟩, .slice none 0 0, .slice none 0 0, .int .i64 0] 46)).heap.size := by
        have := heap_lt H5.out.2.2.2.1
        have := H6.out.1.size
        omega
      have hfr7 := keep_heap (keep_heap H5.out.2.2.2.1 H6.out.1) hb7
      obtain ⟨c28, f28⟩ := cells_at hfr7 28 (.slice none 0 0) rfl
      have hown := own_lower hown hsz
      have hc8 := chg_set (w := w7) (p := ⟨w.heap.size, 28, none⟩) (.slice ro 1 rcc)
      have hbb := H5.out.1.trans ((H6.out.1.trans (hb7.mono H6.out.1.size)).mono H5.out.1.size)
      have HN : Hid (NoS w g 1 (w7.setCell ⟨w.heap.size, 28, none⟩ (.slice ro 1 rcc))) := Lib.hid ⟨hbb.trans (hc8.below hbb.size fun k e => by have e : k = w.heap.size := e; omega), let_chg (keepCells (keepCells H5.out.2.1 H6.out.1) hb7) hc8 (fun e => by
        have e : 0 = w.heap.size := e
        have := HS.out.2
        omega), hc8.heap (keep_heap (keep_heap H5.out.2.2.1 H6.out.1) hb7) (by have := HS.out.1; show ¬ g = w.heap.size; omega), ⟨ro, 1, rcc⟩, set_at (i := 28) hfr7 _, fun e => (by cases e), fun _ => own_chg hown hc8 fun k hk e => by
        have := own_base hown k hk
        have e : k = w.heap.size := e
        omega⟩
      clear hown hc8 hbb hfr7 hsz hb7 H6 H5
      go_wp2_with fail
      go_roundw
      case rel => exact ⟨1, by omega, rfl, rfl, HN⟩
      case measure => simp [intOf]
    · obtain rfl : i = 1 := by omega
      obtain ⟨hbw, hcl, hgc, rs, hfr, -, hrs⟩ := HI.out
      obtain ⟨c10, f10⟩ := cells_at hfr 10 (.int .i64 0) rfl
      have hrs := hrs rfl
      have hc := chg_set (w := wr) (p := ⟨w.heap.size, 10, none⟩) (.int .i64 1)
      have H2 := Lib.hid (And.intro (show (wr.setCell ⟨w.heap.size, 10, none⟩ (.int .i64 1)).heap[w.heap.size]? = some (.cells (flL faS { mmZ with ref := 1, rs := rs }).toArray 36 (0, 0)) from set_at (i := 10) hfr (.int .i64 1)) (And.intro (hbw.trans (hc.below hbw.size fun k e => by have e : k = w.heap.size := e; omega)) (own_chg hrs hc fun k hk e => by
        have := own_base hrs k hk
        have e : k = w.heap.size := e
        omega)))
      clear hbw hcl hgc hfr hrs hc HI
      go_wp2_with (with_reducible refine stop_op (o := ⟨_, .load 36 (.tmp 4), _, _, _, _⟩) ?_)
      refine Lib.hid ?_
      clear c10 f10
      generalize wr.setCell ⟨w.heap.size, 10, none⟩ (.int .i64 1) = w5 at *
      refine wpList_load_row (o := ⟨_, _, _, _, _, _⟩) rfl 36 (.tmp 4) rfl w.heap.size rfl 36 (flL faS { mmZ with ref := 1, rs := rs }).toArray (0, 0) _ H2.out.1 Tryd.underlying36 rfl (infoFR rfl) ?_
      go_wp2_with (with_reducible refine stop_op (o := ⟨_, .store 36 (.tmp 4) (.tmp 48), _, _, _, _⟩) ?_)
      refine Lib.hid ?_
      refine wpList_store_row (o := ⟨none, _, _, _, _, _⟩) rfl 36 (.tmp 4) (.tmp 48) rfl w.heap.size (flL faS { mmZ with ref := 1, rs := rs }).toArray rfl rfl 36 _ H2.out.1 (infoFR rfl) rfl (all_oneCell_toArray (flL_one _ _)) ?_
      rw [setRow_self _ _ _ _ _ H2.out.1]
      go_wp2_with fail
      exact ret_row H2.out.1 rfl Tryd.underlying36 rfl (infoFR rfl) rfl rfl ⟨H2.out.2.1, rs, rfl, H2.out.2.2⟩
end Go.Proofs.YtepfmanbllegiaaDoor
namespace Go.Proofs.YtepfmanbllegiaaDoor
open Go.ChangeShapes Go.WideShapes Go.ChangeAt Go.RowKit
set_option linter.unusedVariables false
set_option linter.unusedSimpArgs false
set_option maxRecDepth 100000
theorem ratom_x (w : World) (s : ByteArray) : Calls Tryd.prog 27 #[.string s] w fun e w' => e = .returned (.agg #[.int .i8 1, .int .i64 0, .string s, .string ⟨#[]⟩, .slice none 0 0]) ∧ Below w.heap.size w w' := by
  have hb1 := (Below.refl w.heap.size w).alloc (Nat.le_refl _) (.cells #[.int .i8 1, .int .i64 0, .string s, .string ⟨#[]⟩, .slice none 0 0] 27)
  have hx1 := heap_new w (.cells #[.int .i8 1, .int .i64 0, .string s, .string ⟨#[]⟩, .slice none 0 0] 27)
  have HB := Lib.hid (And.intro hb1 hx1)
  clear hb1 hx1
  go_enter Tryd.func27, Tryd.ntmps27
  go_wp2_with fail
  exact ret_cell HB.out.2 rfl Tryd.underlying27 rfl (infoTM' _ rfl) rfl ⟨rfl, HB.out.1⟩
theorem proc_x (w : World) : Calls Tryd.prog 14 #[] w fun e w' => e = .returned (.agg #[.int .i8 1, .int .i64 0, .string ⟨#[97]⟩, .string ⟨#[]⟩, .slice none 0 0, .int .i8 1, .int .i8 0, .int .i64 5, .string ⟨#[109]⟩, .string ⟨#[102]⟩, .slice none 0 0, .slice none 0 0, .int .i64 0]) ∧ Below w.heap.size w w' := by
  have hb1 := (Below.refl w.heap.size w).alloc (Nat.le_refl _) (.cells #[.int .i8 0, .int .i64 0, .string ⟨#[]⟩, .string ⟨#[]⟩, .slice none 0 0, .int .i8 0, .int .i8 0, .int .i64 0, .string ⟨#[]⟩, .string ⟨#[]⟩, .slice none 0 0, .slice none 0 0, .int .i64 0] 46)
  have hx1 := heap_new w (.cells #[.int .i8 0, .int .i64 0, .string ⟨#[]⟩, .string ⟨#[]⟩, .slice none 0 0, .int .i8 0, .int .i8 0, .int .i64 0, .string ⟨#[]⟩, .string ⟨#[]⟩, .slice none 0 0, .slice none 0 0, .int .i64 0] 46)
  have HB := Lib.hid (And.intro hb1 hx1)
  clear hb1 hx1
  go_enter Tryd.func14, Tryd.ntmps14
  go_wp2_with fail
  generalize w.alloc (.cells #[.int .i8 0, .int .i64 0, .string ⟨#[]⟩, .string ⟨#[]⟩, .slice none 0 0, .int .i8 0, .int .i8 0, .int .i64 0, .string ⟨#[]⟩, .string ⟨#[]⟩, .slice none 0 0, .slice none 0 0, .int .i64 0] 46) = w1 at *
  refine (ratom_x w1 _).mono ?_
  rintro e w2 ⟨rfl, hb2⟩
  have HB2 := Lib.hid (And.intro (HB.out.1.trans (hb2.mono HB.out.1.size)) (keep_heap HB.out.2 hb2))
  clear hb2 HB
  go_wp2_with (with_reducible refine stop_op (o := ⟨_, .store 46 (.tmp 0) (.tmp 3), _, _, _, _⟩) ?_)
  refine Lib.hid ?_
  refine wpList_store_row (o := ⟨none, _, _, _, _, _⟩) rfl 46 (.tmp 0) (.tmp 3) rfl w.heap.size #[.int .i8 1, .int .i64 0, .string ⟨#[97]⟩, .string ⟨#[]⟩, .slice none 0 0, .int .i8 1, .int .i8 0, .int .i64 5, .string ⟨#[109]⟩, .string ⟨#[102]⟩, .slice none 0 0, .slice none 0 0, .int .i64 0] rfl rfl 46 #[.int .i8 0, .int .i64 0, .string ⟨#[]⟩, .string ⟨#[]⟩, .slice none 0 0, .int .i8 0, .int .i8 0, .int .i64 0, .string ⟨#[]⟩, .string ⟨#[]⟩, .slice none 0 0, .slice none 0 0, .int .i64 0] HB2.out.2 (infoRC rfl) rfl (by simp [Value.oneCell']) ?_
  have HZ := Lib.hid (And.intro (setRow_heap w2 w.heap.size #[.int .i8 0, .int .i64 0, .string ⟨#[]⟩, .string ⟨#[]⟩, .slice none 0 0, .int .i8 0, .int .i8 0, .int .i64 0, .string ⟨#[]⟩, .string ⟨#[]⟩, .slice none 0 0, .slice none 0 0, .int .i64 0] #[.int .i8 1, .int .i64 0, .string ⟨#[97]⟩, .string ⟨#[]⟩, .slice none 0 0, .int .i8 1, .int .i8 0, .int .i64 5, .string ⟨#[109]⟩, .string ⟨#[102]⟩, .slice none 0 0, .slice none 0 0, .int .i64 0] 46 (0, 0) HB2.out.2) (bel_setRow HB2.out.1 HB2.out.1.size (Nat.le_refl _) #[.int .i8 1, .int .i64 0, .string ⟨#[97]⟩, .string ⟨#[]⟩, .slice none 0 0, .int .i8 1, .int .i8 0, .int .i64 5, .string ⟨#[109]⟩, .string ⟨#[102]⟩, .slice none 0 0, .slice none 0 0, .int .i64 0]))
  generalize w2.setRow w.heap.size #[.int .i8 1, .int .i64 0, .string ⟨#[97]⟩, .string ⟨#[]⟩, .slice none 0 0, .int .i8 1, .int .i8 0, .int .i64 5, .string ⟨#[109]⟩, .string ⟨#[102]⟩, .slice none 0 0, .slice none 0 0, .int .i64 0] = w3 at *
  go_wp2_with fail
  exact ret_cell HZ.out.1 rfl Tryd.underlying46 rfl (infoRC rfl) rfl ⟨rfl, HZ.out.2⟩
end Go.Proofs.YtepfmanbllegiaaDoor
