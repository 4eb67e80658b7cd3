/- words that are the same. Conditions: the terms read. -/
import Derived.Test.YtfbohajojaaiaaaDoorJi
namespace Go.Proofs.YtfbohajojaaiaaaDoor
open Go.ChangeShapes Go.WideShapes Go.ChangeAt Go.RowKit
set_option linter.unusedVariables false
set_option maxRecDepth 100000
def eqW (x y : Wd) : Bool := decide (x.c = y.c) && (decide (x.a = y.a) && eqT x.t y.t)
theorem eqW_refl (x : Wd) : eqW x x = true := by simp [eqW, eqT_refl]
set_option maxHeartbeats 8000000 in
theorem sameword_any (f g : Nat) (x y : Wd) (w : World) (hx : WOk f w x) (hy : WOk g w y) : Calls Tryd.prog 37 #[x.V, y.V] w (IsPost w (eqW x y)) := by
  have hb := ((Below.refl w.heap.size w).alloc (Nat.le_refl _) (.cells x.cells.toArray 58)).alloc (by simp) (.cells y.cells.toArray 58)
  have HC := Lib.hid (rsame_any f g x.t y.t _ _ _ ((hx.keep hb).term) ((hy.keep hb).term))
  have HB := Lib.hid hb
  have HE0 : Hid (eqW x y = (decide (x.c = y.c) && (decide (x.a = y.a) && eqT x.t y.t))) := Lib.hid rfl
  clear hx hy hb
  generalize eqW x y = res at *
  generalize eqT x.t y.t = te at *
  obtain ⟨xc, xa, xk, xn, xs, xu, xao, xcap, xl⟩ := x
  obtain ⟨yc, ya, yk, yn, ys, yu, yao, ycap, yl⟩ := y
  simp only [Wd.V, Wd.cells] at *
  by_cases h1 : xc = yc
  · subst h1
    have d1 : (xc == xc) = true := by simp
    by_cases h1 : xa = ya
    · subst h1
      have d2 : (xa == xa) = true := by simp
      have HE : Hid (res = te) := Lib.hid (by rw [HE0.out]; simp)
      clear HE0
      go_enter Tryd.func37, Tryd.ntmps37
      go_wp2_with fail
      refine HC.out.mono ?_
      rintro e w2 ⟨rfl, hb2⟩
      have HB2 := Lib.hid (HB.out.trans (hb2.mono HB.out.size))
      clear hb2
      go_wp2_with fail
      go_ret
      exact ⟨by rw [HE.out]; rfl, HB2.out⟩
    · have d2 : (xa == ya) = false := by simp [h1]
      have HE : Hid (res = false) := Lib.hid (by rw [HE0.out]; simp [h1])
      clear HE0
      clear h1
      go_enter Tryd.func37, Tryd.ntmps37
      go_wp2_with fail
      go_ret
      exact ⟨by rw [HE.out]; rfl, HB.out⟩
  · have HE : Hid (res = false) := Lib.hid (by rw [HE0.out]; simp [h1])
    cases xc <;> cases yc <;> first | exact absurd rfl h1 | skip
    all_goals
      clear HE0
      clear h1
      go_enter Tryd.func37, Tryd.ntmps37
      go_wp2_with fail
      go_ret
      exact ⟨by rw [HE.out]; rfl, HB.out⟩
def eqWs (L L2 : List Wd) : Bool := decide (L.length = L2.length) && (L.zip L2).all fun p => eqW p.1 p.2
theorem eqWs_refl (L : List Wd) : eqWs L L = true := by
  simp only [eqWs, decide_true, Bool.true_and, List.all_eq_true]
  intro p hp
  obtain ⟨i, hi⟩ := List.getElem?_of_mem hp
  rw [List.getElem?_zip_eq_some] at hi
  have : p.1 = p.2 := by rw [hi.1] at hi; exact Option.some.inj hi.2
  rw [this]
  exact eqW_refl _
/-- what a round reads -/
def SwS (b1 o1 b2 o2 : Nat) (x y : Wd) (W : World) : Prop :=
  W.cell? ⟨b1, o1, none⟩ = some (.bool x.c) ∧ W.cell? ⟨b1, o1 + 1, none⟩ = some (.int .i64 x.a) ∧ W.cell? ⟨b1, o1 + 2, none⟩ = some (.int .i8 x.k) ∧ W.cell? ⟨b1, o1 + 3, none⟩ = some (.int .i64 x.n) ∧ W.cell? ⟨b1, o1 + 4, none⟩ = some (.string x.s) ∧ W.cell? ⟨b1, o1 + 5, none⟩ = some (.string x.u) ∧ W.cell? ⟨b1, o1 + 6, none⟩ = some (.slice x.ao x.l.length x.cap) ∧
  W.cell? ⟨b2, o2, none⟩ = some (.bool y.c) ∧ W.cell? ⟨b2, o2 + 1, none⟩ = some (.int .i64 y.a) ∧ W.cell? ⟨b2, o2 + 2, none⟩ = some (.int .i8 y.k) ∧ W.cell? ⟨b2, o2 + 3, none⟩ = some (.int .i64 y.n) ∧ W.cell? ⟨b2, o2 + 4, none⟩ = some (.string y.s) ∧ W.cell? ⟨b2, o2 + 5, none⟩ = some (.string y.u) ∧ W.cell? ⟨b2, o2 + 6, none⟩ = some (.slice y.ao y.l.length y.cap)
theorem SwS.keep {b1 o1 b2 o2 : Nat} {x y : Wd} {W W' : World} (h : SwS b1 o1 b2 o2 x y W) (hb : Below W.heap.size W W') : SwS b1 o1 b2 o2 x y W' := by
  obtain ⟨h1, h2, h3, h4, h5, h6, h7, g1, g2, g3, g4, g5, g6, g7⟩ := h
  exact ⟨keep_cell h1 hb, keep_cell h2 hb, keep_cell h3 hb, keep_cell h4 hb, keep_cell h5 hb, keep_cell h6 hb, keep_cell h7 hb, keep_cell g1 hb, keep_cell g2 hb, keep_cell g3 hb, keep_cell g4 hb, keep_cell g5 hb, keep_cell g6 hb, keep_cell g7 hb⟩
theorem sws_of {w : World} {b1 o1 b2 o2 : Nat} {x y : Wd} (h1 : ∀ j u, x.cells[j]? = some u → w.cell? ⟨b1, o1 + j, none⟩ = some u) (h2 : ∀ j u, y.cells[j]? = some u → w.cell? ⟨b2, o2 + j, none⟩ = some u) : SwS b1 o1 b2 o2 x y w :=
  ⟨h1 0 _ rfl, h1 1 _ rfl, h1 2 _ rfl, h1 3 _ rfl, h1 4 _ rfl, h1 5 _ rfl, h1 6 _ rfl, h2 0 _ rfl, h2 1 _ rfl, h2 2 _ rfl, h2 3 _ rfl, h2 4 _ rfl, h2 5 _ rfl, h2 6 _ rfl⟩
set_option maxHeartbeats 8000000 in
theorem samewords_any (f g : Nat) (w : World) (L L2 : List Wd) (ao ao2 : Option Addr) (cap cap2 : Nat) (hr : WRow w ao L) (hr2 : WRow w ao2 L2) (ho : ∀ x ∈ L, WOk f w x) (ho2 : ∀ x ∈ L2, WOk g w x) (hn : L.length ≤ 1099511627776) (hn2 : L2.length ≤ 1099511627776) :
    Calls Tryd.prog 18 #[.slice ao L.length cap, .slice ao2 L2.length cap2] w (IsPost w (eqWs L L2)) := by
  have HR := Lib.hid hr
  have HR2 := Lib.hid hr2
  have HO := Lib.hid ho
  have HO2 := Lib.hid ho2
  clear hr hr2 ho ho2
  by_cases h1 : L.length = L2.length
  · have d1 : ((L.length : Int) != (L2.length : Int)) = false := by simp [h1]
    have HE : Hid (eqWs L L2 = (L.zip L2).all fun p => eqW p.1 p.2) := Lib.hid (by simp [eqWs, h1])
    generalize eqWs L L2 = res at *
    have HLL := Lib.hid h1
    clear h1
    go_enter Tryd.func18, Tryd.ntmps18
    go_wp2_with fail
    go_loopw [13] (fun iv wr => ∃ (i : Nat), i ≤ L.length ∧ iv = .int .i64 i ∧ Hid (Below w.heap.size w wr ∧ ∀ p ∈ (L.zip L2).take i, eqW p.1 p.2 = true))
      (fun iv _ => L.length - (intOf iv).toNat)
    case atStart => exact ⟨0, by omega, rfl, Lib.hid ⟨Below.refl _ _, by simp⟩⟩
    case round =>
      obtain ⟨i, hi, rfl, HI⟩ := hrel
      by_cases hlt : i < L.length
      · obtain ⟨x, hx⟩ : ∃ x, L[i]? = some x := ⟨L[i]'(by omega), List.getElem?_eq_getElem (by omega)⟩
        obtain ⟨y, hy⟩ : ∃ y, L2[i]? = some y := ⟨L2[i]'(by rw [← HLL.out]; omega), List.getElem?_eq_getElem (by rw [← HLL.out]; omega)⟩
        have HX := Lib.hid hx
        have HY := Lib.hid hy
        obtain ⟨b1, o1, rfl, -, hc1⟩ := HR.out.keep HI.out.1 i x hx
        obtain ⟨b2, o2, rfl, -, hc2⟩ := HR2.out.keep HI.out.1 i y hy
        have hS : SwS b1 (o1 + i * 7) b2 (o2 + i * 7) x y wr.drew := sws_of hc1 hc2
        have hdr : Below wr.heap.size wr wr.drew := (Below.refl _ _).drew
        have HBD := Lib.hid (HI.out.1.trans (hdr.mono HI.out.1.size))
        have HCALL := Lib.hid (sameword_any f g x y wr.drew ((HO.out x (List.mem_of_getElem? hx)).keep HBD.out) ((HO2.out y (List.mem_of_getElem? hy)).keep HBD.out))
        have HZ : Hid ((L.zip L2).take (i + 1) = (L.zip L2).take i ++ [(x, y)]) := Lib.hid (by
          rw [List.take_add_one]
          congr 1
          have : (L.zip L2)[i]? = some (x, y) := by rw [List.getElem?_zip_eq_some]; exact ⟨hx, hy⟩
          rw [this]
          rfl)
        have HMEM : Hid ((x, y) ∈ L.zip L2) := Lib.hid (List.mem_of_getElem? (by rw [List.getElem?_zip_eq_some]; exact ⟨hx, hy⟩ : (L.zip L2)[i]? = some (x, y)))
        clear hx hy hc1 hc2 hdr
        go_wp2_with fail
        have hi1 : i < L.length := (List.getElem?_eq_some_iff.1 HX.out).1
        have hi2 : i < L2.length := (List.getElem?_eq_some_iff.1 HY.out).1
        refine region_plan (SwS b1 (o1 + i * 7) b2 (o2 + i * 7) x y) [(0, 0), (1, 0), (2, 0), (3, 0), (4, 0), (5, 0), (6, 0), (7, 0), (8, 1), (9, 0)] (by kernel_rfl) (by kernel_rfl) (by kernel_rfl) hS ?_
        generalize wr.drew = WD at *
        simp only [Wd.V] at HCALL
        iterate 8 (first | (refine plan_skip rfl ?_ ?_; (focus (rfl)); (try simp only [Act.put, List.setIfInBounds_toArray, List.set_cons_zero, List.set_cons_succ])) | (refine plan_take (v := ?_) rfl ?_ (fun w hSw => ?_) ?_; rotate_left; (focus (rfl)); (focus (unfold SwS at hSw; (go_simp <;> with_reducible rfl))); (try simp only [Act.put, List.setIfInBounds_toArray, List.set_cons_zero, List.set_cons_succ])))
        refine plan_run rfl ?_ (fun K hK => ?_)
        focus (rfl)
        go_simp
        refine (HCALL.out).mono ?_
        rintro e W1 ⟨rfl, hb1⟩
        have hS1 := hS.keep hb1
        have HB1 := Lib.hid (HBD.out.trans (hb1.mono HBD.out.size))
        refine hK.out _ _ hS1 ?_
        clear hK K 
        (try simp only [Act.put, List.setIfInBounds_toArray, List.set_cons_zero, List.set_cons_succ])
        iterate 1 (first | (refine plan_skip rfl ?_ ?_; (focus (rfl)); (try simp only [Act.put, List.setIfInBounds_toArray, List.set_cons_zero, List.set_cons_succ])) | (refine plan_take (v := ?_) rfl ?_ (fun w hSw => ?_) ?_; rotate_left; (focus (rfl)); (focus (unfold SwS at hSw; (go_simp <;> with_reducible rfl))); (try simp only [Act.put, List.setIfInBounds_toArray, List.set_cons_zero, List.set_cons_succ])))
        refine plan_done ?_
        clear hS hS1 hb1
        cases hc : eqW x y
        · have HF : Hid (res = false) := Lib.hid (by
            rw [HE.out, List.all_eq_false]
            exact ⟨_, HMEM.out, by rw [hc]; simp⟩)
          clear hc
          go_wp2_with fail
          go_ret
          exact ⟨by rw [HF.out]; rfl, HB1.out⟩
        · have HC := Lib.hid hc
          clear hc
          go_wp2_with fail
          go_roundw
          case rel => exact ⟨i + 1, by omega, by go_num, Lib.hid ⟨HB1.out, fun p hp => by
            rw [HZ.out, List.mem_append] at hp
            rcases hp with hp | hp
            · exact HI.out.2 p hp
            · obtain rfl := List.mem_singleton.1 hp
              exact HC.out⟩⟩
          case measure => simp [intOf]; omega
      · have hil : i = L.length := by omega
        have HF : Hid (res = true) := Lib.hid (by
          rw [HE.out, List.all_eq_true]
          intro p hp
          exact HI.out.2 p (by rw [List.take_of_length_le (by rw [List.length_zip]; omega)]; exact hp))
        go_wp2_with fail
        go_ret
        exact ⟨by rw [HF.out]; rfl, HI.out.1⟩
  · have d1 : ((L.length : Int) != (L2.length : Int)) = true := by simp; omega
    have HE : Hid (eqWs L L2 = false) := Lib.hid (by simp [eqWs, h1])
    generalize eqWs L L2 = res at *
    clear h1
    go_enter Tryd.func18, Tryd.ntmps18
    go_wp2_with fail
    go_ret
    exact ⟨by rw [HE.out]; rfl, Below.refl _ _⟩
end Go.Proofs.YtfbohajojaaiaaaDoor
