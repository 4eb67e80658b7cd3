/- heap: Size, Words; no heap; the law's one. Conditions: the table of letters reads as laid; what comes reads. -/
import Derived.Test.YtfbmjcblnemkgaaDoorGs
namespace Go.Proofs.YtfbmjcblnemkgaaDoor
open Go.ChangeShapes Go.WideShapes Go.ChangeAt Go.RowKit
set_option linter.unusedVariables false
set_option maxRecDepth 100000
theorem int_any (w : World) (n : Int) : Calls Tryd.prog 34 #[.int .i64 n] w fun e w' => e = .returned (.agg #[.int .i8 0, .int .i64 n, .string ⟨#[]⟩, .string ⟨#[]⟩, .slice none 0 0]) ∧ Below w.heap.size w w' := by
  have HX := Lib.hid (heap_new w (.cells #[.int .i8 0, .int .i64 n, .string ⟨#[]⟩, .string ⟨#[]⟩, .slice none 0 0] 31))
  have HB := Lib.hid ((Below.refl w.heap.size w).alloc (Nat.le_refl _) (.cells #[.int .i8 0, .int .i64 n, .string ⟨#[]⟩, .string ⟨#[]⟩, .slice none 0 0] 31))
  go_enter Tryd.func34, Tryd.ntmps34
  go_wp2_with (with_reducible refine stop_op (o := ⟨_, .store 31 (.tmp 2) (.tmp 4), _, _, _, _⟩) ?_)
  refine Lib.hid ?_
  refine wpList_store_new (o := ⟨none, _, _, _, _, _⟩) rfl 31 (.tmp 2) (.tmp 4) rfl #[.int .i8 0, .int .i64 n, .string ⟨#[]⟩, .string ⟨#[]⟩, .slice none 0 0] rfl rfl (infoTM' _ rfl) rfl (by simp [Value.oneCell']) ?_
  go_wp2_with fail
  exact ret_row1 HX.out rfl Tryd.underlying31 rfl (infoTM' _ rfl) rfl ⟨rfl, HB.out⟩
def oneC (n : Int) : Array Value := #[.bool false, .int .i64 0, .int .i8 0, .int .i64 n, .string ⟨#[]⟩, .string ⟨#[]⟩, .slice none 0 0]
theorem one1_any (w : World) (n : Int) : Calls Tryd.prog 22 #[.int .i64 n] w fun e w' => e = .returned (.agg (oneC n)) ∧ Below w.heap.size w w' := by
  have hb := (Below.refl w.heap.size w).alloc (Nat.le_refl _) (.cells wzC 33)
  have hn := heap_new w (.cells wzC 33)
  have HI := Lib.hid (int_any (w.alloc (.cells wzC 33)) n)
  have HN := Lib.hid hn
  have HB := Lib.hid hb
  clear hb hn
  go_enter Tryd.func22, Tryd.ntmps22
  go_wp2_with fail
  generalize w.alloc (.cells wzC 33) = W1 at *
  refine HI.out.mono ?_
  rintro e W2 ⟨rfl, hb2⟩
  have hn2 := keep_heap HN.out hb2
  have hb3 := HB.out.trans (hb2.mono HB.out.size)
  have HX := Lib.hid (setRow_heap _ w.heap.size _ (oneC n) _ _ hn2)
  have HF := Lib.hid (hb3.trans ((chg_setRow W2 w.heap.size (oneC n)).below hb3.size (fun k e => by have e : k = w.heap.size := e; omega)))
  clear hb2 hb3
  go_wp2_with (with_reducible refine stop_op (o := ⟨_, .store 33 (.tmp 2) (.tmp 5), _, _, _, _⟩) ?_)
  refine Lib.hid ?_
  refine wpList_store_row (o := ⟨none, _, _, _, _, _⟩) rfl 33 (.tmp 2) (.tmp 5) rfl w.heap.size (oneC n) rfl rfl 33 wzC hn2 (infoWD _ rfl) rfl (by simp [oneC, Value.oneCell']) ?_
  go_wp2_with fail
  exact ret_row1 HX.out rfl Tryd.underlying33 rfl (infoWD _ rfl) rfl ⟨rfl, HF.out⟩
theorem wordsH_any (w : World) (base p : Nat) (v : Value) (C : List HC) (h : Hp w base p v C) : Calls Tryd.prog 19 #[.pointer (some ⟨p, 0, none⟩)] w fun e w' => e = .returned (.int .i64 (wordsN C)) ∧ w' = w := by
  obtain ⟨c1, -⟩ := cells_at h.1 1 _ rfl
  have hl := heap_lt h.1
  clear h
  go_enter Tryd.func19, Tryd.ntmps19
  go_wp2_with fail
  go_ret
  exact ⟨rfl, rfl⟩
def SizeP (C : List HC) (x : Wd) (w : World) (e : Ending) (w' : World) : Prop :=
  Below w.heap.size w w' ∧ ((mayW C.length x = true ∧ e = .returned (.tuple #[.int .i64 (nodesW C x), .int .i64 0])) ∨ (mayW C.length x = false ∧ e = .returned (.tuple #[.int .i64 0, .int .i64 2])))
theorem sizeH_any (f : Nat) (w : World) (base p : Nat) (v : Value) (C : List HC) (x : Wd) (h : Hp w base p v C) (hL : Cells w 0 letL) (hx : WOk f w x) :
    Calls Tryd.prog 13 #[.pointer (some ⟨p, 0, none⟩), x.V] w (SizeP C x w) := by
  have hb := (Below.refl w.heap.size w).alloc (Nat.le_refl _) (.cells x.cells.toArray 33)
  have hn := heap_new w (.cells x.cells.toArray 33)
  have HM := Lib.hid (may_any f _ base p v C x (h.keep hb) (keep_let hL hb) (hx.keep hb))
  have HP := Lib.hid h
  have HB := Lib.hid hb
  have HN := Lib.hid hn
  clear h hL hx hb hn
  obtain ⟨xc, xa, xk, xn, xs, xu, xao, xcap, xl⟩ := x
  simp only [Wd.V, Wd.cells] at *
  have n1 := HN.out
  obtain ⟨x0, -⟩ := cells_at n1 0 _ rfl
  obtain ⟨x1, -⟩ := cells_at n1 1 _ rfl
  obtain ⟨x2, -⟩ := cells_at n1 2 _ rfl
  obtain ⟨x3, -⟩ := cells_at n1 3 _ rfl
  obtain ⟨x4, -⟩ := cells_at n1 4 _ rfl
  obtain ⟨x5, -⟩ := cells_at n1 5 _ rfl
  obtain ⟨x6, -⟩ := cells_at n1 6 _ rfl
  clear n1
  go_enter Tryd.func13, Tryd.ntmps13
  go_wp2_with fail
  refine HM.out.mono ?_
  rintro e w2 ⟨rfl, hb2⟩
  have HB2 := Lib.hid (HB.out.trans (hb2.mono HB.out.size))
  have n1 := keep_heap HN.out hb2
  have HP2 := Lib.hid (HP.out.keep HB2.out)
  clear hb2 x0 x1 x2 x3 x4 x5 x6 HM HN HB
  cases hm : mayW C.length ⟨xc, xa, xk, xn, xs, xu, xao, xcap, xl⟩
  · have HMM := Lib.hid hm
    clear hm n1
    go_wp2_with fail
    go_ret2
    exact ⟨HB2.out, .inr ⟨HMM.out, rfl⟩⟩
  · have HMM := Lib.hid hm
    obtain ⟨x0, -⟩ := cells_at n1 0 _ rfl
    obtain ⟨x1, -⟩ := cells_at n1 1 _ rfl
    obtain ⟨x2, -⟩ := cells_at n1 2 _ rfl
    obtain ⟨x3, -⟩ := cells_at n1 3 _ rfl
    obtain ⟨x4, -⟩ := cells_at n1 4 _ rfl
    obtain ⟨x5, -⟩ := cells_at n1 5 _ rfl
    obtain ⟨x6, -⟩ := cells_at n1 6 _ rfl
    clear hm n1
    have HD := Lib.hid (nodes_any w2 base p v C ⟨xc, xa, xk, xn, xs, xu, xao, xcap, xl⟩ HP2.out HMM.out)
    simp only [Wd.V] at HD
    go_wp2_with fail
    refine HD.out.mono ?_
    rintro e w3 ⟨rfl, hb3⟩
    have HB3 := Lib.hid (HB2.out.trans (hb3.mono HB2.out.size))
    clear hb3 x0 x1 x2 x3 x4 x5 x6 HD
    go_wp2_with fail
    go_ret2
    exact ⟨HB3.out, .inl ⟨HMM.out, rfl⟩⟩
/- no heap -/
theorem words_nil (w : World) : Calls Tryd.prog 19 #[.pointer none] w fun e w' => e = .returned (.int .i64 0) ∧ w' = w := by
  go_enter Tryd.func19, Tryd.ntmps19
  go_wp2_with fail
  go_ret
  exact ⟨rfl, rfl⟩
theorem size_nil (x : Wd) (w : World) : Calls Tryd.prog 13 #[.pointer none, x.V] w fun e w' => e = .returned (.tuple #[.int .i64 0, .int .i64 1]) ∧ Below w.heap.size w w' := by
  have HB := Lib.hid ((Below.refl w.heap.size w).alloc (Nat.le_refl _) (.cells x.cells.toArray 33))
  obtain ⟨xc, xa, xk, xn, xs, xu, xao, xcap, xl⟩ := x
  simp only [Wd.V, Wd.cells] at *
  go_enter Tryd.func13, Tryd.ntmps13
  go_wp2_with fail
  go_ret2
  exact ⟨rfl, HB.out⟩
theorem make_nil (w : World) (k : Int) : Calls Tryd.prog 10 #[.pointer none, .int .i8 k, .slice none 0 0] w fun e w' => e = .returned (.tuple #[.agg wzC, .int .i64 1]) ∧ Below w.heap.size w w' := by
  have hb := (Below.refl w.heap.size w).alloc (Nat.le_refl _) (.cells wzC 33)
  have hn := heap_new w (.cells wzC 33)
  have HX := Lib.hid hn
  have HB := Lib.hid hb
  clear hb hn
  go_enter Tryd.func10, Tryd.ntmps10
  go_wp2_with (with_reducible refine stop_op (o := ⟨_, .load 33 (.tmp 6), _, _, _, _⟩) ?_)
  refine Lib.hid ?_
  refine wpList_load_row (o := ⟨_, _, _, _, _, _⟩) rfl 33 (.tmp 6) rfl w.heap.size rfl 33 wzC (0, 0) _ HX.out Tryd.underlying33 rfl (infoWD _ rfl) ?_
  go_wp2_with (with_reducible refine stop_op (o := ⟨_, .store 33 (.tmp 6) (.tmp 15), _, _, _, _⟩) ?_)
  refine Lib.hid ?_
  refine wpList_store_row (o := ⟨none, _, _, _, _, _⟩) rfl 33 (.tmp 6) (.tmp 15) rfl w.heap.size wzC rfl rfl 33 wzC HX.out (infoWD _ rfl) rfl (by simp [Value.oneCell']) ?_
  rw [setRow_self _ _ _ _ _ HX.out]
  go_wp2_with fail
  exact ret_row HX.out rfl Tryd.underlying33 rfl (infoWD _ rfl) rfl rfl ⟨rfl, HB.out⟩
theorem take_nil (x : Wd) (w : World) : Calls Tryd.prog 12 #[.pointer none, x.V] w fun e w' => e = .returned (.tuple #[.agg zT, .int .i64 1]) ∧ Below w.heap.size w w' := by
  have hb := ((Below.refl w.heap.size w).alloc (Nat.le_refl _) (.cells #[.pointer none] 24)).alloc (by simp) (.cells x.cells.toArray 33)
  have hb3 := hb.alloc hb.size (.cells zT 31)
  have n2 := heap_new ((w.alloc (.cells #[.pointer none] 24)).alloc (.cells x.cells.toArray 33)) (.cells zT 31)
  simp only [World.size_alloc] at n2
  have HX := Lib.hid n2
  have HB := Lib.hid hb3
  clear hb hb3 n2
  obtain ⟨xc, xa, xk, xn, xs, xu, xao, xcap, xl⟩ := x
  simp only [Wd.V, Wd.cells] at *
  go_enter Tryd.func12, Tryd.ntmps12
  go_wp2_with (with_reducible refine stop_op (o := ⟨_, .store 31 (.tmp 4) (.tmp 10), _, _, _, _⟩) ?_)
  refine Lib.hid ?_
  refine wpList_store_row (o := ⟨none, _, _, _, _, _⟩) rfl 31 (.tmp 4) (.tmp 10) rfl (w.heap.size + 1 + 1) zT rfl rfl 31 zT HX.out (infoTM' _ rfl) rfl (by simp [Value.oneCell']) ?_
  rw [setRow_self _ _ _ _ _ HX.out]
  go_wp2_with fail
  exact ret_row HX.out rfl Tryd.underlying31 rfl (infoTM' _ rfl) rfl rfl ⟨rfl, HB.out⟩
theorem put_nil (k n : Int) (s u : ByteArray) (ao : Option Addr) (len cap : Nat) (w : World) : Calls Tryd.prog 9 #[.pointer none, .agg #[.int .i8 k, .int .i64 n, .string s, .string u, .slice ao len cap]] w fun e w' => e = .returned (.tuple #[.agg wzC, .int .i64 1]) ∧ Below w.heap.size w w' := by
  have hb := ((Below.refl w.heap.size w).alloc (Nat.le_refl _) (.cells #[.pointer none] 24)).alloc (by simp) (.cells #[.int .i8 k, .int .i64 n, .string s, .string u, .slice ao len cap] 31)
  have hb3 := hb.alloc hb.size (.cells wzC 33)
  have n2 := heap_new ((w.alloc (.cells #[.pointer none] 24)).alloc (.cells #[.int .i8 k, .int .i64 n, .string s, .string u, .slice ao len cap] 31)) (.cells wzC 33)
  simp only [World.size_alloc] at n2
  have HX := Lib.hid n2
  have HB := Lib.hid hb3
  clear hb hb3 n2
  go_enter Tryd.func9, Tryd.ntmps9
  go_wp2_with (with_reducible refine stop_op (o := ⟨_, .store 33 (.tmp 4) (.tmp 10), _, _, _, _⟩) ?_)
  refine Lib.hid ?_
  refine wpList_store_row (o := ⟨none, _, _, _, _, _⟩) rfl 33 (.tmp 4) (.tmp 10) rfl (w.heap.size + 1 + 1) wzC rfl rfl 33 wzC HX.out (infoWD _ rfl) rfl (by simp [Value.oneCell']) ?_
  rw [setRow_self _ _ _ _ _ HX.out]
  go_wp2_with fail
  exact ret_row HX.out rfl Tryd.underlying33 rfl (infoWD _ rfl) rfl rfl ⟨rfl, HB.out⟩
end Go.Proofs.YtfbmjcblnemkgaaDoor
