/- the law HeapNil, walked. Conditions: the table of letters reads as laid; what comes reads. -/
import Derived.Test.YtfbmjcblnemkgaaDoorGv
import Derived.Test.YtfbmjcblnemkgaaDoorTr
import Derived.Test.YtfbmjcblnemkgaaDoorLt
namespace Go.Proofs.YtfbmjcblnemkgaaDoor
open Go.ChangeShapes Go.WideShapes Go.ChangeAt Go.RowKit
set_option linter.unusedVariables false
set_option maxRecDepth 100000
theorem flatWD : flat Tryd.prog 9 33 = some [4, 3, 29, 3, 9, 9, 22] := by kernel_rfl
/-- a word as an argument -/
theorem word_of_cells {H : Type} {enc : TypeId × Value → H} {W : World} {fuel : Nat} {cs : List Value} {x : DataW H × List MemPlace} (h : Rd enc Tryd.prog W fuel 33 cs x) : ∃ y : Wd, cs = y.cells ∧ WOk fuel W y := by
  obtain ⟨hl, hc⟩ := flat_trod 9 33 _ fuel cs x flatWD h
  obtain ⟨u0, n0, y0, c0, l0, r0⟩ := hc 0 _ rfl
  obtain ⟨u1, n1, y1, c1, l1, r1⟩ := hc 1 _ rfl
  obtain ⟨u2, n2, y2, c2, l2, r2⟩ := hc 2 _ rfl
  obtain ⟨u3, n3, y3, c3, l3, r3⟩ := hc 3 _ rfl
  obtain ⟨u4, n4, y4, c4, l4, r4⟩ := hc 4 _ rfl
  obtain ⟨u5, n5, y5, c5, l5, r5⟩ := hc 5 _ rfl
  obtain ⟨u6, n6, y6, c6, l6, r6⟩ := hc 6 _ rfl
  obtain ⟨a0, rfl⟩ := leaf_bool Tryd.underlying4 r0
  obtain ⟨a1, rfl, w1⟩ := leaf_int Tryd.underlying3 r1
  obtain ⟨a2, rfl, w2⟩ := leaf_int Tryd.underlying29 r2
  obtain ⟨a3, rfl, w3⟩ := leaf_int Tryd.underlying3 r3
  obtain ⟨a4, rfl, w4⟩ := leaf_str Tryd.underlying9 r4
  obtain ⟨a5, rfl, w5⟩ := leaf_str Tryd.underlying9 r5
  obtain ⟨l, hl6⟩ := row_of_trod r6
  have hl' := hl6.le l6
  obtain ⟨ao6, cap6, rfl, g⟩ := hl6
  refine ⟨⟨a0, a1, a2, a3, a4, a5, ao6, cap6, l⟩, ?_, bd w1, ⟨i8_bd w2, bd w3, w4, w5⟩, hl'⟩
  match cs, hl with
  | [e0, e1, e2, e3, e4, e5, e6], _ =>
    simp at c0 c1 c2 c3 c4 c5 c6
    subst c0 c1 c2 c3 c4 c5 c6
    rfl
theorem word_of_trod {H : Type} {enc : TypeId × Value → H} {W : World} {base : Nat} {v0 : Value} {d0 : DataW H} {p0 : List MemPlace} (hv0 : Value.okWide Tryd.prog W .any base 33 v0) (h0 : DataW.Trod enc Tryd.prog W 0 (fun _ => true) true 33 v0 d0 p0) : ∃ (f : Nat) (y : Wd), v0 = y.V ∧ WOk f W y := by
  obtain ⟨cs, rfl, hsz⟩ := okWide_struct Tryd.underlying33 hv0
  obtain ⟨fuel, hf⟩ := h0
  obtain ⟨y, e, hy⟩ := word_of_cells hf
  refine ⟨fuel, y, ?_, hy⟩
  obtain ⟨l⟩ := cs
  simp [Value.cells] at e
  rw [e]
  rfl
set_option maxHeartbeats 4000000 in
theorem nil_law (w : World) (f g : Nat) (t : Tm) (tv : Value) (y : Wd) (n : Int) (hL : Cells w 0 letL) (ht : TermV f w tv t) (hy : WOk g w y) : Calls Tryd.prog 4 #[tv, y.V, .int .i64 n] w (IsPost w true) := by
  obtain ⟨k, m, s, u, l, ao, cap, rfl, rfl, hfd, hlc, hcap, hrow⟩ := ht.mk'
  have hb := ((Below.refl w.heap.size w).alloc (Nat.le_refl _) (.cells #[.int .i8 k, .int .i64 m, .string s, .string u, .slice ao l.length cap] 31)).alloc (by simp) (.cells y.cells.toArray 33)
  have n0 := heap_old (heap_new w (.cells #[.int .i8 k, .int .i64 m, .string s, .string u, .slice ao l.length cap] 31)) (.cells y.cells.toArray 33)
  have n1 := heap_new (w.alloc (.cells #[.int .i8 k, .int .i64 m, .string s, .string u, .slice ao l.length cap] 31)) (.cells y.cells.toArray 33)
  rw [World.size_alloc] at n1
  have HB := Lib.hid hb
  have HN := Lib.hid n1
  have HL := Lib.hid hL
  obtain ⟨x0, -⟩ := cells_at n0 0 _ rfl
  obtain ⟨x1, -⟩ := cells_at n0 1 _ rfl
  obtain ⟨x2, -⟩ := cells_at n0 2 _ rfl
  obtain ⟨x3, -⟩ := cells_at n0 3 _ rfl
  obtain ⟨x4, -⟩ := cells_at n0 4 _ rfl
  clear hb n0 n1 hL ht hy hrow
  obtain ⟨yc, ya, yk, yn, ys, yu, yao, ycap, yl⟩ := y
  simp only [Wd.V, Wd.cells] at *
  go_enter Tryd.func4, Tryd.ntmps4
  go_wp2_with fail
  generalize (w.alloc (.cells #[.int .i8 k, .int .i64 m, .string s, .string u, .slice ao l.length cap] 31)).alloc (.cells #[.bool yc, .int .i64 ya, .int .i8 yk, .int .i64 yn, .string ys, .string yu, .slice yao yl.length ycap] 33) = w1 at *
  refine (put_nil k m s u ao l.length cap w1).mono ?_
  rintro e w2 ⟨rfl, hb2⟩
  have HB2 := Lib.hid (HB.out.trans (hb2.mono HB.out.size))
  have HN2 := Lib.hid (keep_heap HN.out hb2)
  clear hb2 HB HN x0 x1 x2 x3 x4
  go_wp2_with (with_reducible refine stop_op (o := ⟨_, .store 33 (.tmp 8) (.tmp 22), _, _, _, _⟩) ?_)
  refine Lib.hid ?_
  refine wpList_store_new (o := ⟨none, _, _, _, _, _⟩) rfl 33 (.tmp 8) (.tmp 22) rfl wzC rfl rfl (infoWD _ rfl) rfl (by simp [Value.oneCell']) ?_
  have hba := (Below.refl w2.heap.size w2).alloc (Nat.le_refl _) (.cells wzC 33)
  have HB3 := Lib.hid (HB2.out.trans (hba.mono HB2.out.size))
  have HN3 := Lib.hid (keep_heap HN2.out hba)
  clear hba HB2 HN2
  generalize w2.alloc (.cells wzC 33) = w3 at *
  go_wp2_with fail
  refine (make_nil w3 5).mono ?_
  rintro e w4 ⟨rfl, hb4⟩
  have HB4 := Lib.hid (HB3.out.trans (hb4.mono HB3.out.size))
  have HN4 := Lib.hid (keep_heap HN3.out hb4)
  clear hb4 HB3 HN3
  go_wp2_with (with_reducible refine stop_op (o := ⟨_, .store 33 (.tmp 10) (.tmp 27), _, _, _, _⟩) ?_)
  refine Lib.hid ?_
  refine wpList_store_new (o := ⟨none, _, _, _, _, _⟩) rfl 33 (.tmp 10) (.tmp 27) rfl wzC rfl rfl (infoWD _ rfl) rfl (by simp [Value.oneCell']) ?_
  have hba := (Below.refl w4.heap.size w4).alloc (Nat.le_refl _) (.cells wzC 33)
  have HB5 := Lib.hid (HB4.out.trans (hba.mono HB4.out.size))
  have hn := keep_heap HN4.out hba
  have HN5 := Lib.hid hn
  obtain ⟨x0, -⟩ := cells_at hn 0 _ rfl
  obtain ⟨x1, -⟩ := cells_at hn 1 _ rfl
  obtain ⟨x2, -⟩ := cells_at hn 2 _ rfl
  obtain ⟨x3, -⟩ := cells_at hn 3 _ rfl
  obtain ⟨x4, -⟩ := cells_at hn 4 _ rfl
  obtain ⟨x5, -⟩ := cells_at hn 5 _ rfl
  obtain ⟨x6, -⟩ := cells_at hn 6 _ rfl
  clear hba hn HB4 HN4
  generalize w4.alloc (.cells wzC 33) = w5 at *
  have HT := Lib.hid (take_nil ⟨yc, ya, yk, yn, ys, yu, yao, ycap, yl⟩ w5)
  simp only [Wd.V] at HT
  go_wp2_with fail
  refine HT.out.mono ?_
  rintro e w6 ⟨rfl, hb6⟩
  have HB6 := Lib.hid (HB5.out.trans (hb6.mono HB5.out.size))
  have HN6 := Lib.hid (keep_heap HN5.out hb6)
  clear hb6 HB5 HN5 x0 x1 x2 x3 x4 x5 x6 HT
  go_wp2_with (with_reducible refine stop_op (o := ⟨_, .store 31 (.tmp 12) (.tmp 33), _, _, _, _⟩) ?_)
  refine Lib.hid ?_
  refine wpList_store_new (o := ⟨none, _, _, _, _, _⟩) rfl 31 (.tmp 12) (.tmp 33) rfl zT rfl rfl (infoTM' _ rfl) rfl (by simp [Value.oneCell']) ?_
  have hba := (Below.refl w6.heap.size w6).alloc (Nat.le_refl _) (.cells zT 31)
  have HB7 := Lib.hid (HB6.out.trans (hba.mono HB6.out.size))
  have hn := keep_heap HN6.out hba
  have HN7 := Lib.hid hn
  obtain ⟨x0, -⟩ := cells_at hn 0 _ rfl
  obtain ⟨x1, -⟩ := cells_at hn 1 _ rfl
  obtain ⟨x2, -⟩ := cells_at hn 2 _ rfl
  obtain ⟨x3, -⟩ := cells_at hn 3 _ rfl
  obtain ⟨x4, -⟩ := cells_at hn 4 _ rfl
  obtain ⟨x5, -⟩ := cells_at hn 5 _ rfl
  obtain ⟨x6, -⟩ := cells_at hn 6 _ rfl
  clear hba hn HB6 HN6
  generalize w6.alloc (.cells zT 31) = w7 at *
  have HT := Lib.hid (size_nil ⟨yc, ya, yk, yn, ys, yu, yao, ycap, yl⟩ w7)
  simp only [Wd.V] at HT
  go_wp2_with fail
  refine HT.out.mono ?_
  rintro e w8 ⟨rfl, hb8⟩
  have HB8 := Lib.hid (HB7.out.trans (hb8.mono HB7.out.size))
  have HN8 := Lib.hid (keep_heap HN7.out hb8)
  clear hb8 HB7 HN7 x0 x1 x2 x3 x4 x5 x6 HT
  go_wp2_with fail
  refine (cell_nil w8 n).mono ?_
  rintro e w9 ⟨rfl, hb9⟩
  have HB9 := Lib.hid (HB8.out.trans (hb9.mono HB8.out.size))
  have HN9 := Lib.hid (keep_heap HN8.out hb9)
  clear hb9 HB8 HN8
  go_wp2_with (with_reducible refine stop_op (o := ⟨_, .store 46 (.tmp 16) (.tmp 45), _, _, _, _⟩) ?_)
  refine Lib.hid ?_
  refine wpList_store_new (o := ⟨none, _, _, _, _, _⟩) rfl 46 (.tmp 16) (.tmp 45) rfl czC rfl rfl (infoCL _ rfl) rfl (by simp [Value.oneCell']) ?_
  have hba := (Below.refl w9.heap.size w9).alloc (Nat.le_refl _) (.cells czC 46)
  have HB10 := Lib.hid (HB9.out.trans (hba.mono HB9.out.size))
  have hn := keep_heap HN9.out hba
  obtain ⟨x0, -⟩ := cells_at hn 0 _ rfl
  obtain ⟨x1, -⟩ := cells_at hn 1 _ rfl
  obtain ⟨x2, -⟩ := cells_at hn 2 _ rfl
  obtain ⟨x3, -⟩ := cells_at hn 3 _ rfl
  obtain ⟨x4, -⟩ := cells_at hn 4 _ rfl
  obtain ⟨x5, -⟩ := cells_at hn 5 _ rfl
  obtain ⟨x6, -⟩ := cells_at hn 6 _ rfl
  clear hba hn HB9 HN9
  generalize w9.alloc (.cells czC 46) = w10 at *
  have HT := Lib.hid (may_nil w10 ⟨yc, ya, yk, yn, ys, yu, yao, ycap, yl⟩)
  simp only [Wd.V] at HT
  go_wp2_with fail
  refine HT.out.mono ?_
  rintro e w11 ⟨rfl, hb11⟩
  have HB11 := Lib.hid (HB10.out.trans (hb11.mono HB10.out.size))
  clear hb11 HB10 x0 x1 x2 x3 x4 x5 x6 HT
  go_wp2_with fail
  refine (len_nil w11).mono ?_
  rintro e w' ⟨rfl, rfl⟩
  go_wp2_with fail
  refine (words_nil _).mono ?_
  rintro e w' ⟨rfl, rfl⟩
  go_wp2_with fail
  refine (wakes_any _ (keep_let HL.out HB11.out)).mono ?_
  rintro e w12 ⟨rfl, hb12⟩
  have HB12 := Lib.hid (HB11.out.trans (hb12.mono HB11.out.size))
  go_wp2_with fail
  go_ret
  exact ⟨rfl, HB12.out⟩
theorem nil_row {H : Type} {enc : TypeId × Value → H} (W : World) {base : Nat} {v0 v1 v2 : Value} {d0 d1 d2 : DataW H} {p0 p1 p2 : List MemPlace} (hv0 : Value.okWide Tryd.prog W .any base 31 v0) (h0 : DataW.Trod enc Tryd.prog W 0 (fun _ => true) true 31 v0 d0 p0)
    (hv1 : Value.okWide Tryd.prog W .any base 33 v1) (h1 : DataW.Trod enc Tryd.prog W 0 (fun _ => true) true 33 v1 d1 p1) (hv2 : Value.okWide Tryd.prog W .any base 3 v2) (h2 : DataW.Trod enc Tryd.prog W 0 (fun _ => true) true 3 v2 d2 p2)
    (hL : laidMetH Tryd.prog [("pleach/atoms.letters", letD)] W) : Calls Tryd.prog 4 #[v0, v1, v2] W (IsPost W true) := by
  obtain ⟨f, t, ht⟩ := term_of_trod hv0 h0
  obtain ⟨g, y, rfl, hy⟩ := word_of_trod hv1 h1
  obtain ⟨n, rfl⟩ := okWide_int Tryd.underlying3 hv2
  exact nil_law W f g t v0 y n (letters_of W hL) ht hy
end Go.Proofs.YtfbmjcblnemkgaaDoor
