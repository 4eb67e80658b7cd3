/- heap: Put, walked. Conditions: the table of letters reads as laid; the term reads; there is room. -/
import Derived.Test.YtfbmjcblnemkgaaDoorGq
namespace Go.Proofs.YtfbmjcblnemkgaaDoor
open Go.ChangeShapes Go.WideShapes Go.ChangeAt Go.RowKit
set_option linter.unusedVariables false
set_option maxRecDepth 100000
def PutQ (w0 : World) (f p : Nat) (v : Value) (C : List HC) (t : Tm) (W : World) (e : Ending) (W' : World) : Prop :=
  (checkN t = 0 ∧ okT t ∧ nT t ≤ 256 ∧ PutP w0 f p v C t W e W') ∨ (checkN t ≠ 0 ∧ e = .returned (.tuple #[.agg wzC, .int .i64 (checkN t)]) ∧ Below W.heap.size W W')
theorem PutP.keep {w0 : World} {f p : Nat} {v : Value} {C : List HC} {t : Tm} {W W1 : World} {e : Ending} {W' : World} (hb : Below W.heap.size W W1) (h : PutP w0 f p v C t W1 e W') : PutP w0 f p v C t W e W' := by
  obtain ⟨x, v', C', he, h1, h2, h3, h4, h5, h6, h7, h8, h9⟩ := h
  exact ⟨x, v', C', he, h1, (Up.below hb).trans h2, h3, h4, h5, h6, h7, h8, h9⟩
set_option maxHeartbeats 8000000 in
theorem put_any (w0 : World) (f p : Nat) (hL0 : Cells w0 0 letL) (t : Tm) (tv : Value) (W : World) (v : Value) (C : List HC) (hp : Hp W p p v C) (hb0 : Below w0.heap.size w0 W) (hl : w0.heap.size ≤ p) (htv : TermV f w0 tv t) (hroom : C.length + 256 ≤ 1048576) :
    Calls Tryd.prog 9 #[.pointer (some ⟨p, 0, none⟩), tv] W (PutQ w0 f p v C t W) := by
  obtain ⟨k, n, s, u, l, ao, cap, rfl, rfl, hfd, hlc, hcap, hrow⟩ := htv.mk'
  have hb3 : Below W.heap.size W (((W.alloc (.cells #[.pointer (some ⟨p, 0, none⟩)] 24)).alloc (.cells #[.int .i8 k, .int .i64 n, .string s, .string u, .slice ao l.length cap] 31)).alloc (.cells wzC 33)) := ((((Below.refl W.heap.size W).alloc (Nat.le_refl _) _).alloc (by simp) _).alloc (by simp; omega) _)
  have hs3 : (((W.alloc (.cells #[.pointer (some ⟨p, 0, none⟩)] 24)).alloc (.cells #[.int .i8 k, .int .i64 n, .string s, .string u, .slice ao l.length cap] 31)).alloc (.cells wzC 33)).heap.size = W.heap.size + 3 := by simp
  have n0 := heap_old (heap_old (heap_new W (.cells #[.pointer (some ⟨p, 0, none⟩)] 24)) (.cells #[.int .i8 k, .int .i64 n, .string s, .string u, .slice ao l.length cap] 31)) (.cells wzC 33)
  have n1 := heap_old (heap_new (W.alloc (.cells #[.pointer (some ⟨p, 0, none⟩)] 24)) (.cells #[.int .i8 k, .int .i64 n, .string s, .string u, .slice ao l.length cap] 31)) (.cells wzC 33)
  have n2 := heap_new ((W.alloc (.cells #[.pointer (some ⟨p, 0, none⟩)] 24)).alloc (.cells #[.int .i8 k, .int .i64 n, .string s, .string u, .slice ao l.length cap] 31)) (.cells wzC 33)
  simp only [World.size_alloc] at n0 n1 n2
  have hB3 := hb0.trans (hb3.mono hb0.size)
  have HC := Lib.hid (check_any f (.mk k n s u l) _ _ (keep_let hL0 hB3) (htv.keep hB3))
  have HTV := Lib.hid htv
  have HP := Lib.hid hp
  have HB0 := Lib.hid hb0
  have HB3 := Lib.hid hb3
  have N0 := Lib.hid n0
  have N1 := Lib.hid n1
  have N2 := Lib.hid n2
  have HS3 := Lib.hid hs3
  obtain ⟨x0, -⟩ := cells_at n1 0 _ rfl
  obtain ⟨x1, -⟩ := cells_at n1 1 _ rfl
  obtain ⟨x2, -⟩ := cells_at n1 2 _ rfl
  obtain ⟨x3, -⟩ := cells_at n1 3 _ rfl
  obtain ⟨x4, -⟩ := cells_at n1 4 _ rfl
  have x5 := (cells_at n0 0 _ rfl).1
  have hW3 := heap_lt n2
  clear htv hp hb0 hb3 hB3 hs3 n0 n1 n2 hrow
  go_enter Tryd.func9, Tryd.ntmps9
  go_wp2_with fail
  generalize (((W.alloc (.cells #[.pointer (some ⟨p, 0, none⟩)] 24)).alloc (.cells #[.int .i8 k, .int .i64 n, .string s, .string u, .slice ao l.length cap] 31)).alloc (.cells wzC 33)) = W3 at *
  refine HC.out.mono ?_
  rintro e W4 ⟨rfl, hb4⟩
  have HB4 := Lib.hid (HB3.out.trans (hb4.mono HB3.out.size))
  have HN0 := Lib.hid (keep_heap N0.out hb4)
  have HN1 := Lib.hid (keep_heap N1.out hb4)
  have HN2 := Lib.hid (keep_heap N2.out hb4)
  have hs4 := hb4.size
  clear hb4 N0 N1 N2 HC HB3 x0 x1 x2 x3 x4 x5
  by_cases hc : checkN (.mk k n s u l) = 0
  · rw [hc]
    obtain ⟨hok, hnt⟩ := check_ok hc
    have HOK := Lib.hid hok
    have HCC := Lib.hid hc
    have hb5 := (Below.refl W4.heap.size W4).alloc (Nat.le_refl _) (.cells #[.func (.func 26) #[] #[.pointer (some ⟨W4.heap.size, 0, none⟩), .pointer (some ⟨W.heap.size, 0, none⟩)]] 35)
    have hn5 := heap_new W4 (.cells #[.func (.func 26) #[] #[.pointer (some ⟨W4.heap.size, 0, none⟩), .pointer (some ⟨W.heap.size, 0, none⟩)]] 35)
    have hB5 := HB4.out.trans (hb5.mono HB4.out.size)
    have hpk : PkC w0 p W.heap.size W4.heap.size v C (W4.alloc (.cells #[.func (.func 26) #[] #[.pointer (some ⟨W4.heap.size, 0, none⟩), .pointer (some ⟨W.heap.size, 0, none⟩)]] 35)) := ⟨HP.out.keep hB5, keep_heap HN0.out hb5, hn5, HB0.out.trans (hB5.mono HB0.out.size), hl⟩
    have HPK := Lib.hid hpk
    have HB5 := Lib.hid hB5
    have HN25 := Lib.hid (keep_heap HN2.out hb5)
    have n1 := keep_heap HN1.out hb5
    obtain ⟨x0, -⟩ := cells_at n1 0 _ rfl
    obtain ⟨x1, -⟩ := cells_at n1 1 _ rfl
    obtain ⟨x2, -⟩ := cells_at n1 2 _ rfl
    obtain ⟨x3, -⟩ := cells_at n1 3 _ rfl
    obtain ⟨x4, -⟩ := cells_at n1 4 _ rfl
    clear hok hc hb5 hn5 hB5 hpk n1 HN1 HN2
    go_wp2_with fail
    have hl2 := heap_lt HN25.out
    generalize W4.alloc (.cells #[.func (.func 26) #[] #[.pointer (some ⟨W4.heap.size, 0, none⟩), .pointer (some ⟨W.heap.size, 0, none⟩)]] 35) = W5 at *
    refine (put1_any w0 f p W.heap.size W4.heap.size hL0 f (.mk k n s u l) _ W5 v C (Nat.le_refl _) HPK.out HTV.out HOK.out hnt (by omega)).mono ?_
    rintro e W6 ⟨x, v', C', rfl, hpt⟩
    have hY6 := hpt.up.hc.heap HN25.out (heapS_not HPK.out.hp HN25.out (by decide) (by decide))
    have hcs := chg_setRow W6 (W.heap.size + 1 + 1) x.cells.toArray
    have hp9 : Hp (W6.setRow (W.heap.size + 1 + 1) x.cells.toArray) p p v' C' := hpt.hp.turn hcs (fun g hg => ⟨wzC, by rw [show g = W.heap.size + 1 + 1 from hg]; exact hY6⟩) (fun c hc g hg e => by
      have e : g = W.heap.size + 1 + 1 := e
      rcases hpt.up.rows c hc with hc | hc
      · have := own_lt (HP.out.2.2.1.2 c hc) (Nat.le_refl _) g hg
        omega
      · have := hc g hg
        omega)
    have hu9 := ((Up.below HB5.out).trans hpt.up).turn hcs (fun g hg => by rw [show g = W.heap.size + 1 + 1 from hg]; omega)
    have HX9 := Lib.hid (setRow_heap _ (W.heap.size + 1 + 1) _ x.cells.toArray _ _ hY6)
    have HFIN : Hid (PutQ w0 f p v C (.mk k n s u l) W (.returned (.tuple #[.agg x.cells.toArray, .int .i64 0])) (W6.setRow (W.heap.size + 1 + 1) x.cells.toArray)) := Lib.hid (.inl ⟨HCC.out, HOK.out, hnt, x, v', C', rfl, hp9, hu9, hpt.len, hpt.wok, hpt.may, hpt.tk, hpt.nod, hpt.oks, hpt.made⟩)
    clear hpt hcs hp9 hu9 x0 x1 x2 x3 x4
    obtain ⟨xc, xa, xk, xn, xs, xu, xao, xcap, xl⟩ := x
    simp only [Wd.cells] at *
    go_wp2_with (with_reducible refine stop_op (o := ⟨_, .store 33 (.tmp 4) (.tmp 21), _, _, _, _⟩) ?_)
    refine Lib.hid ?_
    refine wpList_store_row (o := ⟨none, _, _, _, _, _⟩) rfl 33 (.tmp 4) (.tmp 21) rfl (W.heap.size + 1 + 1) #[.bool xc, .int .i64 xa, .int .i8 xk, .int .i64 xn, .string xs, .string xu, .slice xao xl.length xcap] rfl rfl 33 wzC hY6 (infoWD _ rfl) rfl (by simp [Value.oneCell']) ?_
    generalize W6.setRow (W.heap.size + 1 + 1) #[.bool xc, .int .i64 xa, .int .i8 xk, .int .i64 xn, .string xs, .string xu, .slice xao xl.length xcap] = W9 at *
    go_wp2_with fail
    exact ret_row HX9.out rfl Tryd.underlying33 rfl (infoWD _ rfl) rfl rfl HFIN.out
  · have HCC := Lib.hid hc
    have hc1 : (checkN (.mk k n s u l) != 0) = true := by simpa using hc
    go_wp2_with (with_reducible refine stop_op (o := ⟨_, .store 33 (.tmp 4) (.tmp 15), _, _, _, _⟩) ?_)
    refine Lib.hid ?_
    refine wpList_store_row (o := ⟨none, _, _, _, _, _⟩) rfl 33 (.tmp 4) (.tmp 15) rfl (W.heap.size + 1 + 1) wzC rfl rfl 33 wzC HN2.out (infoWD _ rfl) rfl (by simp [Value.oneCell']) ?_
    rw [setRow_self _ _ _ _ _ HN2.out]
    go_wp2_with fail
    exact ret_row HN2.out rfl Tryd.underlying33 rfl (infoWD _ rfl) rfl rfl (.inr ⟨HCC.out, rfl, HB4.out⟩)
end Go.Proofs.YtfbmjcblnemkgaaDoor
