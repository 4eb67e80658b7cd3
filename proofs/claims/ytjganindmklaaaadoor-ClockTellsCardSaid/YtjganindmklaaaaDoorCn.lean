/- The law ClockTells, walked. Conditions: the table of letters reads as laid; arguments read. -/
import Derived.Test.YtjganindmklaaaaDoorCk
namespace Go.Proofs.YtjganindmklaaaaDoor
open Go.ChangeShapes Go.WideShapes Go.ChangeAt Go.RowKit
set_option linter.unusedVariables false
set_option maxHeartbeats 1000000 in
theorem tells_out (now k d : Int) (f : Nat) (t : Tm) (v : Value) (w : World) (hw : Cells w 0 letL) (hv : TermV f w v t) (ao : Option Addr) (len cap : Nat) (h : greatB t = true ∨ 1000 < len) :
    Calls Tryd.prog 6 #[.int .i64 now, .int .i64 k, .int .i64 d, v, .slice ao len cap] w (IsPost w true) := by
  have hv0 := hv
  obtain ⟨lv, rfl, hat⟩ := hv.boxed
  have hb0 := (Below.refl w.heap.size w).alloc (Nat.le_refl _) (.cells #[.int .i8 t.k, .int .i64 t.n, .string t.s, .string t.u, lv] 34)
  have hh : (w.alloc (.cells #[.int .i8 t.k, .int .i64 t.n, .string t.s, .string t.u, lv] 34)).heap[w.heap.size]? = some (.cells #[.int .i8 t.k, .int .i64 t.n, .string t.s, .string t.u, lv] 34 (0, 0)) := (MapKept.heap_alloc w _).1
  have HV := Lib.hid hv0
  have HH := Lib.hid hh
  have HG := Lib.hid (great_any f t _ _ (hv0.keep hb0))
  have HW := Lib.hid (fun (W : World) (hb : Below w.heap.size w W) => keepCells hw hb)
  clear hat hv hv0 hh hw
  by_cases hg : greatB t = true
  · rw [hg] at HG
    clear hg h
    go_enter Tryd.func6, Tryd.ntmps6
    go_wp2_with fail
    refine HG.out.mono ?_
    rintro e w1 ⟨rfl, hb1⟩
    have hB1 := hb0.trans (hb1.mono (by simp))
    go_wp2_with fail
    refine (wakes_any w1 (HW.out _ hB1)).mono ?_
    rintro e w2 ⟨rfl, hb2⟩
    go_wp2_with fail
    go_ret
    exact ⟨rfl, hB1.trans (hb2.mono hB1.size)⟩
  · have hd : decide ((1000 : Int) < (len : Int)) = true := by
      simp
      rcases h with h | h
      · exact absurd h hg
      · omega
    have hg2 : greatB t = false := by simpa using hg
    rw [hg2] at HG
    clear hg h hg2
    go_enter Tryd.func6, Tryd.ntmps6
    go_wp2_with fail
    refine HG.out.mono ?_
    rintro e w1 ⟨rfl, hb1⟩
    have hB1 := hb0.trans (hb1.mono (by simp))
    go_wp2_with fail
    refine (wakes_any w1 (HW.out _ hB1)).mono ?_
    rintro e w2 ⟨rfl, hb2⟩
    go_wp2_with fail
    go_ret
    exact ⟨rfl, hB1.trans (hb2.mono hB1.size)⟩
set_option maxRecDepth 100000 in
set_option maxHeartbeats 2000000 in
theorem tells_in (now k d : Int) (f : Nat) (t : Tm) (v : Value) (w : World) (hw : Cells w 0 letL) (hv : TermV f w v t) (ao : Option Addr) (cap : Nat) (l : List Int) (hg : greatB t = false) (hl : l.length ≤ 1000) (hs : SlV w (.slice ao l.length cap) (l.map (Value.int .i64))) :
    Calls Tryd.prog 6 #[.int .i64 now, .int .i64 k, .int .i64 d, v, .slice ao l.length cap] w (IsPost w true) := by
  have hv0 := hv
  obtain ⟨lv, rfl, hat⟩ := hv.boxed
  have hb0 := (Below.refl w.heap.size w).alloc (Nat.le_refl _) (.cells #[.int .i8 t.k, .int .i64 t.n, .string t.s, .string t.u, lv] 34)
  have hh : (w.alloc (.cells #[.int .i8 t.k, .int .i64 t.n, .string t.s, .string t.u, lv] 34)).heap[w.heap.size]? = some (.cells #[.int .i8 t.k, .int .i64 t.n, .string t.s, .string t.u, lv] 34 (0, 0)) := (MapKept.heap_alloc w _).1
  have HV := Lib.hid hv0
  have HH := Lib.hid hh
  have HG := Lib.hid (great_any f t _ _ (hv0.keep hb0))
  have HW := Lib.hid (fun (W : World) (hb : Below w.heap.size w W) => keepCells hw hb)
  clear hat hv hv0 hh hw
  have hd : decide ((1000 : Int) < (l.length : Int)) = false := by simp; omega
  rw [hg] at HG
  have HS := Lib.hid hs
  have hT : ∀ W, Calls Tryd.prog _ #[.int .i64 now, .int .i64 k] W (TwoPost W (turnN now k) (turnB now k)) := fun W => turn_any now k W
  have hRT : ∀ W, Calls Tryd.prog _ #[.int .i64 now, .int .i64 k] W (TwoPost W (turnN now k) (turnB now k)) := fun W => rturn_any now k W
  have hD : ∀ W, Below w.heap.size w W → Calls Tryd.prog _ #[.int .i64 now, _] W (DeadPost W (deadN now t)) := fun W hb => dead_any now f t _ W (HW.out W hb) (HV.out.keep hb)
  have hRD : ∀ W, Below w.heap.size w W → Calls Tryd.prog _ #[.int .i64 now, _] W (DeadPost W (deadN now t)) := fun W hb => rdead_any now f t _ W (HV.out.keep hb)
  have hN : ∀ W, Below w.heap.size w W → Calls Tryd.prog _ #[.slice ao l.length cap] W (LeastPost W (lst l)) := fun W hb => next_any W ao cap l (by omega) (HS.out.keep hb)
  have hRN : ∀ W, Below w.heap.size w W → Calls Tryd.prog _ #[.slice ao l.length cap] W (LeastPost W (lst l)) := fun W hb => rnext_any W ao cap l (by omega) (HS.out.keep hb)
  have hDU : ∀ W, Calls Tryd.prog _ #[.int .i64 now, .int .i64 d] W (SameB W (dueB now d)) := fun W => due_any now d W
  have hRDU : ∀ W, Calls Tryd.prog _ #[.int .i64 now, .int .i64 d] W (SameB W (dueB now d)) := fun W => rdue_any now d W
  have hL : ∀ W, Calls Tryd.prog _ #[.int .i64 now, .int .i64 d] W (NumPost W (leftN now d)) := fun W => left_any now d W
  have hRL : ∀ W, Calls Tryd.prog _ #[.int .i64 now, .int .i64 d] W (NumPost W (leftN now d)) := fun W => rleft_any now d W
  generalize turnN now k = a1 at *
  generalize turnB now k = a2 at *
  generalize deadN now t = a3 at *
  generalize lst l = a4 at *
  generalize dueB now d = a5 at *
  generalize leftN now d = a6 at *
  obtain ⟨a31, a32⟩ := a3
  obtain ⟨a41, a42⟩ := a4
  have H1 := Lib.hid hT
  have H2 := Lib.hid hRT
  have H3 := Lib.hid hD
  have H4 := Lib.hid hRD
  have H5 := Lib.hid hN
  have H6 := Lib.hid hRN
  have H7 := Lib.hid hDU
  have H8 := Lib.hid hRDU
  have H9 := Lib.hid hL
  have H10 := Lib.hid hRL
  clear hg hT hRT hD hRD hN hRN hDU hRDU hL hRL hs
  go_enter Tryd.func6, Tryd.ntmps6
  go_wp2_with fail
  refine HG.out.mono ?_
  rintro e w1 ⟨rfl, hb1⟩
  have hB1 := hb0.trans (hb1.mono (by simp))
  have hh1 := Lib.hid (keep_heap HH.out hb1)
  clear hb1 hb0 hd HG
  go_wp2_with fail
  refine (H1.out _).mono ?_
  rintro e w2 ⟨rfl, rfl⟩
  go_wp2_with fail
  refine (H2.out _).mono ?_
  rintro e w2 ⟨rfl, rfl⟩
  have x0 := (cells_at hh1.out 0 _ rfl).1
  have x1 := (cells_at hh1.out 1 _ rfl).1
  have x2 := (cells_at hh1.out 2 _ rfl).1
  have x3 := (cells_at hh1.out 3 _ rfl).1
  have x4 := (cells_at hh1.out 4 _ rfl).1
  go_wp2_with fail
  refine (H3.out _ hB1).mono ?_
  rintro e w2 ⟨rfl, hb2⟩
  have hB2 := hB1.trans (hb2.mono hB1.size)
  have hh2 := Lib.hid (keep_heap hh1.out hb2)
  clear hb2 hB1 x0 x1 x2 x3 x4 hh1
  have x0 := (cells_at hh2.out 0 _ rfl).1
  have x1 := (cells_at hh2.out 1 _ rfl).1
  have x2 := (cells_at hh2.out 2 _ rfl).1
  have x3 := (cells_at hh2.out 3 _ rfl).1
  have x4 := (cells_at hh2.out 4 _ rfl).1
  go_wp2_with fail
  refine (H4.out _ hB2).mono ?_
  rintro e w3 ⟨rfl, hb3⟩
  have hB3 := hB2.trans (hb3.mono hB2.size)
  clear hb3 hB2 x0 x1 x2 x3 x4 hh2
  go_wp2_with fail
  refine (H5.out _ hB3).mono ?_
  rintro e w4 ⟨rfl, rfl⟩
  go_wp2_with fail
  refine (H6.out _ hB3).mono ?_
  rintro e w4 ⟨rfl, rfl⟩
  go_wp2_with fail
  refine (H7.out _).mono ?_
  rintro e w4 ⟨rfl, rfl⟩
  go_wp2_with fail
  refine (H8.out _).mono ?_
  rintro e w4 ⟨rfl, rfl⟩
  go_wp2_with fail
  refine (H9.out _).mono ?_
  rintro e w4 ⟨rfl, rfl⟩
  go_wp2_with fail
  refine (H10.out _).mono ?_
  rintro e w4 ⟨rfl, rfl⟩
  go_wp2_with fail
  refine (wakes_any _ (HW.out _ hB3)).mono ?_
  rintro e w5 ⟨rfl, hb5⟩
  go_wp2_with fail
  go_ret
  exact ⟨rfl, hB3.trans (hb5.mono hB3.size)⟩
end Go.Proofs.YtjganindmklaaaaDoor
