/- collect: Same. Conditions: the table of letters reads as laid; what comes reads. -/
import Derived.Test.YtfbohajojaaiaaaDoorJd
import Derived.Test.YtfbohajojaaiaaaDoorJf
import Derived.Test.YtfbohajojaaiaaaDoorHi
namespace Go.Proofs.YtfbohajojaaiaaaDoor
open Go.ChangeShapes Go.WideShapes Go.ChangeAt Go.RowKit
set_option linter.unusedVariables false
set_option maxRecDepth 100000
/-- a word of one heap reads as a word of the other -/
def sameW (C C2 : List HC) (x y : Wd) : Bool := mayW C.length x && (mayW C2.length y && decide (cmpT (tkN C C.length x) (tkN C2 C2.length y) = 0))
theorem take_uni (w0 : World) (f base p : Nat) (v : Value) (C : List HC) (x : Wd) (W : World) (hO : ∀ c ∈ C, ∀ x ∈ c.l, WOk f w0 x) (hp : Hp W base p v C) (hL : Cells W 0 letL) (hx : WOk f w0 x) (hb0 : Below w0.heap.size w0 W) :
    Calls Tryd.prog 42 #[.pointer (some ⟨p, 0, none⟩), x.V] W fun e W' => ∃ (te : TE) (ee : Int), e = .returned (.tuple #[.agg #[.int .i8 te.k, .int .i64 te.n, .string te.s, .string te.u, .slice te.ao te.l.length te.cap], .int .i64 ee]) ∧ Below W.heap.size W W' ∧
      Hid ((mayW C.length x = true ∧ ee = 0 ∧ TermV (f + C.length) W' (.agg #[.int .i8 te.k, .int .i64 te.n, .string te.s, .string te.u, .slice te.ao te.l.length te.cap]) (tkN C C.length x)) ∨ (mayW C.length x = false ∧ ee = 2)) := by
  refine (take_any w0 f base p v C x W hO hp hL hx hb0).mono ?_
  rintro e W' ⟨hb, (⟨h1, te, rfl, h2, h3, h4⟩ | ⟨h1, rfl⟩)⟩
  · exact ⟨te, 0, rfl, hb, Lib.hid (.inl ⟨h1, rfl, by rw [← h2]; exact ⟨h3, _, rfl, h4.row⟩⟩)⟩
  · exact ⟨⟨0, 0, ⟨#[]⟩, ⟨#[]⟩, none, 0, []⟩, 2, rfl, hb, Lib.hid (.inr ⟨h1, rfl⟩)⟩
set_option maxHeartbeats 8000000 in
theorem same_any (w0 : World) (f : Nat) (base p base2 p2 : Nat) (v v2 : Value) (C C2 : List HC) (x y : Wd) (W : World) (hO : ∀ c ∈ C, ∀ x ∈ c.l, WOk f w0 x) (hO2 : ∀ c ∈ C2, ∀ x ∈ c.l, WOk f w0 x) (hp : Hp W base p v C) (hp2 : Hp W base2 p2 v2 C2) (hL : Cells W 0 letL) (hx : WOk f w0 x) (hy : WOk f w0 y) (hb0 : Below w0.heap.size w0 W) :
    Calls Tryd.prog 20 #[.pointer (some ⟨p, 0, none⟩), x.V, .pointer (some ⟨p2, 0, none⟩), y.V] W (IsPost W (sameW C C2 x y)) := by
  have hb2 := ((Below.refl W.heap.size W).alloc (Nat.le_refl _) (.cells x.cells.toArray 58)).alloc (by simp) (.cells y.cells.toArray 58)
  have n1 := heap_old (heap_new W (.cells x.cells.toArray 58)) (.cells y.cells.toArray 58)
  have n2 := heap_new (W.alloc (.cells x.cells.toArray 58)) (.cells y.cells.toArray 58)
  rw [World.size_alloc] at n2
  have HT1 : Hid (∀ W', Below W.heap.size W W' → _) := Lib.hid (fun W' h => take_uni w0 f base p v C x W' hO (hp.keep h) (keep_letters hL h) hx (hb0.trans (h.mono hb0.size)))
  have HT2 : Hid (∀ W', Below W.heap.size W W' → _) := Lib.hid (fun W' h => take_uni w0 f base2 p2 v2 C2 y W' hO2 (hp2.keep h) (keep_letters hL h) hy (hb0.trans (h.mono hb0.size)))
  have HL := Lib.hid hL
  have HB2 := Lib.hid hb2
  have N1 := Lib.hid n1
  have N2 := Lib.hid n2
  have hsE : sameW C C2 x y = (mayW C.length x && (mayW C2.length y && decide (cmpT (tkN C C.length x) (tkN C2 C2.length y) = 0))) := rfl
  have HSE := Lib.hid hsE
  clear hO hO2 hp hp2 hL hx hy hb0 hb2 n1 n2 hsE
  generalize sameW C C2 x y = res at *
  generalize mayW C.length x = m1 at *
  generalize mayW C2.length y = m2 at *
  generalize tkN C C.length x = t1 at *
  generalize tkN C2 C2.length y = t2 at *
  obtain ⟨xc, xa, xk, xn, xs, xu, xao, xcap, xl⟩ := x
  obtain ⟨yc, ya, yk, yn, ys, yu, yao, ycap, yl⟩ := y
  simp only [Wd.V, Wd.cells] at *
  go_enter Tryd.func20, Tryd.ntmps20
  go_wp2_with fail
  generalize (W.alloc (.cells #[.bool xc, .int .i64 xa, .int .i8 xk, .int .i64 xn, .string xs, .string xu, .slice xao xl.length xcap] 58)).alloc (.cells #[.bool yc, .int .i64 ya, .int .i8 yk, .int .i64 yn, .string ys, .string yu, .slice yao yl.length ycap] 58) = W2 at *
  refine (HT1.out W2 HB2.out).mono ?_
  rintro e W3 ⟨te, ee, rfl, hb3, HR1⟩
  have HB3 := Lib.hid (HB2.out.trans (hb3.mono HB2.out.size))
  have HN2 := Lib.hid (keep_heap N2.out hb3)
  clear hb3 N1 N2 HB2 HT1
  go_wp2_with (with_reducible refine stop_op (o := ⟨_, .store 47 (.tmp 9) (.tmp 17), _, _, _, _⟩) ?_)
  refine Lib.hid ?_
  refine wpList_store_new (o := ⟨none, _, _, _, _, _⟩) rfl 47 (.tmp 9) (.tmp 17) rfl #[.int .i8 te.k, .int .i64 te.n, .string te.s, .string te.u, .slice te.ao te.l.length te.cap] rfl rfl (infoTM' _ rfl) rfl (by simp [Value.oneCell']) ?_
  have hb4 := (Below.refl W3.heap.size W3).alloc (Nat.le_refl _) (.cells #[.int .i8 te.k, .int .i64 te.n, .string te.s, .string te.u, .slice te.ao te.l.length te.cap] 47)
  have HX := Lib.hid (heap_new W3 (.cells #[.int .i8 te.k, .int .i64 te.n, .string te.s, .string te.u, .slice te.ao te.l.length te.cap] 47))
  have hm2 := keep_heap HN2.out hb4
  have HB4 := Lib.hid (HB3.out.trans (hb4.mono HB3.out.size))
  have HR1' : Hid ((m1 = true ∧ ee = 0 ∧ TermV (f + C.length) (W3.alloc (.cells #[.int .i8 te.k, .int .i64 te.n, .string te.s, .string te.u, .slice te.ao te.l.length te.cap] 47)) (.agg #[.int .i8 te.k, .int .i64 te.n, .string te.s, .string te.u, .slice te.ao te.l.length te.cap]) t1) ∨ (m1 = false ∧ ee = 2)) := Lib.hid (HR1.out.imp (fun h => ⟨h.1, h.2.1, h.2.2.keep hb4⟩) id)
  clear HR1 hb4 HB3 HN2
  generalize W3.alloc (.cells #[.int .i8 te.k, .int .i64 te.n, .string te.s, .string te.u, .slice te.ao te.l.length te.cap] 47) = W4 at *
  obtain ⟨y0, -⟩ := cells_at hm2 0 _ rfl
  obtain ⟨y1, -⟩ := cells_at hm2 1 _ rfl
  obtain ⟨y2, -⟩ := cells_at hm2 2 _ rfl
  obtain ⟨y3, -⟩ := cells_at hm2 3 _ rfl
  obtain ⟨y4, -⟩ := cells_at hm2 4 _ rfl
  obtain ⟨y5, -⟩ := cells_at hm2 5 _ rfl
  obtain ⟨y6, -⟩ := cells_at hm2 6 _ rfl
  clear hm2
  go_wp2_with fail
  refine (HT2.out W4 HB4.out).mono ?_
  rintro e W5 ⟨te2, ee2, rfl, hb5, HR2⟩
  have HB5 := Lib.hid (HB4.out.trans (hb5.mono HB4.out.size))
  have hX5 := keep_heap HX.out hb5
  have HR5 : Hid ((m1 = true ∧ ee = 0 ∧ TermV (f + C.length) W5 (.agg #[.int .i8 te.k, .int .i64 te.n, .string te.s, .string te.u, .slice te.ao te.l.length te.cap]) t1) ∨ (m1 = false ∧ ee = 2)) := Lib.hid (HR1'.out.imp (fun h => ⟨h.1, h.2.1, h.2.2.keep hb5⟩) id)
  have HX5 := Lib.hid hX5
  clear hb5 HR1' HX HB4 HT2 y0 y1 y2 y3 y4 y5 y6 hX5
  go_wp2_with (with_reducible refine stop_op (o := ⟨_, .store 47 (.tmp 11) (.tmp 23), _, _, _, _⟩) ?_)
  refine Lib.hid ?_
  refine wpList_store_new (o := ⟨none, _, _, _, _, _⟩) rfl 47 (.tmp 11) (.tmp 23) rfl #[.int .i8 te2.k, .int .i64 te2.n, .string te2.s, .string te2.u, .slice te2.ao te2.l.length te2.cap] rfl rfl (infoTM' _ rfl) rfl (by simp [Value.oneCell']) ?_
  have hb6 := (Below.refl W5.heap.size W5).alloc (Nat.le_refl _) (.cells #[.int .i8 te2.k, .int .i64 te2.n, .string te2.s, .string te2.u, .slice te2.ao te2.l.length te2.cap] 47)
  have hY6 := heap_new W5 (.cells #[.int .i8 te2.k, .int .i64 te2.n, .string te2.s, .string te2.u, .slice te2.ao te2.l.length te2.cap] 47)
  have hX6 := keep_heap HX5.out hb6
  have HB6 := Lib.hid (HB5.out.trans (hb6.mono HB5.out.size))
  have HR6 : Hid ((m1 = true ∧ ee = 0 ∧ TermV (f + C.length) (W5.alloc (.cells #[.int .i8 te2.k, .int .i64 te2.n, .string te2.s, .string te2.u, .slice te2.ao te2.l.length te2.cap] 47)) (.agg #[.int .i8 te.k, .int .i64 te.n, .string te.s, .string te.u, .slice te.ao te.l.length te.cap]) t1) ∨ (m1 = false ∧ ee = 2)) := Lib.hid (HR5.out.imp (fun h => ⟨h.1, h.2.1, h.2.2.keep hb6⟩) id)
  have HQ6 : Hid ((m2 = true ∧ ee2 = 0 ∧ TermV (f + C2.length) (W5.alloc (.cells #[.int .i8 te2.k, .int .i64 te2.n, .string te2.s, .string te2.u, .slice te2.ao te2.l.length te2.cap] 47)) (.agg #[.int .i8 te2.k, .int .i64 te2.n, .string te2.s, .string te2.u, .slice te2.ao te2.l.length te2.cap]) t2) ∨ (m2 = false ∧ ee2 = 2)) := Lib.hid (HR2.out.imp (fun h => ⟨h.1, h.2.1, h.2.2.keep hb6⟩) id)
  clear hb6 HR5 HR2 HB5
  generalize W5.alloc (.cells #[.int .i8 te2.k, .int .i64 te2.n, .string te2.s, .string te2.u, .slice te2.ao te2.l.length te2.cap] 47) = W6 at *
  rcases HR6.out with ⟨rfl, rfl, hv1⟩ | ⟨rfl, rfl⟩
  · rcases HQ6.out with ⟨rfl, rfl, hv2⟩ | ⟨rfl, rfl⟩
    · obtain ⟨x0, -⟩ := cells_at hX6 0 _ rfl
      obtain ⟨x1, -⟩ := cells_at hX6 1 _ rfl
      obtain ⟨x2, -⟩ := cells_at hX6 2 _ rfl
      obtain ⟨x3, -⟩ := cells_at hX6 3 _ rfl
      obtain ⟨x4, -⟩ := cells_at hX6 4 _ rfl
      obtain ⟨y0, -⟩ := cells_at hY6 0 _ rfl
      obtain ⟨y1, -⟩ := cells_at hY6 1 _ rfl
      obtain ⟨y2, -⟩ := cells_at hY6 2 _ rfl
      obtain ⟨y3, -⟩ := cells_at hY6 3 _ rfl
      obtain ⟨y4, -⟩ := cells_at hY6 4 _ rfl
      have hlx := heap_lt hX6
      have HC := Lib.hid (compare_any _ _ t1 t2 _ _ W6 (keep_letters HL.out HB6.out) hv1 hv2)
      have hse := HSE.out
      simp only [Bool.true_and] at hse
      clear hX6 hY6 hv1 hv2 HR6 HQ6 HX5
      generalize cmpT t1 t2 = c at *
      have HE : Hid ((c == 0) = res) := Lib.hid (by rw [hse]; rfl)
      clear hse HSE
      go_wp2_with fail
      refine HC.out.mono ?_
      rintro e W7 ⟨rfl, hb7⟩
      have HB7 := Lib.hid (HB6.out.trans (hb7.mono HB6.out.size))
      clear hb7 x0 x1 x2 x3 x4 y0 y1 y2 y3 y4
      go_wp2_with fail
      go_ret
      exact ⟨by rw [← HE.out]; rfl, HB7.out⟩
    · have hse : Hid (res = false) := Lib.hid (by rw [HSE.out]; rfl)
      clear hX6 hY6 HR6 HQ6 HX5 HSE
      go_wp2_with fail
      go_ret
      exact ⟨by rw [hse.out]; rfl, HB6.out⟩
  · have hse : Hid (res = false) := Lib.hid (by rw [HSE.out]; rfl)
    clear hX6 hY6 HR6 HQ6 HX5 HSE
    go_wp2_with fail
    go_ret
    exact ⟨by rw [hse.out]; rfl, HB6.out⟩
end Go.Proofs.YtfbohajojaaiaaaDoor
