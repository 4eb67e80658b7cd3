/- the same integers, the same cells. Conditions: what comes reads. -/
import Derived.Test.YtfbmjcblnemkgaaDoorGj
import Derived.Test.YtfbmjcblnemkgaaDoorGd
namespace Go.Proofs.YtfbmjcblnemkgaaDoor
open Go.ChangeShapes Go.WideShapes Go.ChangeAt Go.RowKit
set_option linter.unusedVariables false
set_option maxRecDepth 100000
/-- what a round of SameCell reads -/
def ScS (q1 q2 : Nat) (s1 s2 : Value) (b1 o1 b2 o2 : Nat) (x : Wd) (W : World) : Prop := W.cell? ⟨q1, 2, none⟩ = some s1 ∧ W.cell? ⟨q2, 2, none⟩ = some s2 ∧
  W.cell? ⟨b1, o1, none⟩ = some (.bool x.c) ∧ W.cell? ⟨b1, o1 + 1, none⟩ = some (.int .i64 x.a) ∧ W.cell? ⟨b1, o1 + 2, none⟩ = some (.int .i8 x.k) ∧ W.cell? ⟨b1, o1 + 3, none⟩ = some (.int .i64 x.n) ∧ W.cell? ⟨b1, o1 + 4, none⟩ = some (.string x.s) ∧ W.cell? ⟨b1, o1 + 5, none⟩ = some (.string x.u) ∧ W.cell? ⟨b1, o1 + 6, none⟩ = some (.slice x.ao x.l.length x.cap) ∧
  W.cell? ⟨b2, o2, none⟩ = some (.bool x.c) ∧ W.cell? ⟨b2, o2 + 1, none⟩ = some (.int .i64 x.a) ∧ W.cell? ⟨b2, o2 + 2, none⟩ = some (.int .i8 x.k) ∧ W.cell? ⟨b2, o2 + 3, none⟩ = some (.int .i64 x.n) ∧ W.cell? ⟨b2, o2 + 4, none⟩ = some (.string x.s) ∧ W.cell? ⟨b2, o2 + 5, none⟩ = some (.string x.u) ∧ W.cell? ⟨b2, o2 + 6, none⟩ = some (.slice x.ao x.l.length x.cap)
theorem ScS.keep {q1 q2 : Nat} {s1 s2 : Value} {b1 o1 b2 o2 : Nat} {x : Wd} {W W' : World} (h : ScS q1 q2 s1 s2 b1 o1 b2 o2 x W) (hb : Below W.heap.size W W') : ScS q1 q2 s1 s2 b1 o1 b2 o2 x W' := by
  obtain ⟨a1, a2, h1, h2, h3, h4, h5, h6, h7, g1, g2, g3, g4, g5, g6, g7⟩ := h
  exact ⟨keep_cell a1 hb, keep_cell a2 hb, keep_cell h1 hb, keep_cell h2 hb, keep_cell h3 hb, keep_cell h4 hb, keep_cell h5 hb, keep_cell h6 hb, keep_cell h7 hb, keep_cell g1 hb, keep_cell g2 hb, keep_cell g3 hb, keep_cell g4 hb, keep_cell g5 hb, keep_cell g6 hb, keep_cell g7 hb⟩
set_option maxHeartbeats 8000000 in
theorem samecell_same (f : Nat) (w : World) (k sz : Int) (L : List Wd) (ao ao2 : Option Addr) (cap cap2 : Nat) (hr : WRow w ao L) (hr2 : WRow w ao2 L) (ho : ∀ x ∈ L, WOk f w x) (hn : L.length ≤ 1099511627776) :
    Calls Tryd.prog 21 #[.agg #[.int .i8 k, .int .i64 sz, .slice ao L.length cap], .agg #[.int .i8 k, .int .i64 sz, .slice ao2 L.length cap2]] w (IsPost w true) := by
  have hb := ((Below.refl w.heap.size w).alloc (Nat.le_refl _) (.cells #[.int .i8 k, .int .i64 sz, .slice ao L.length cap] 46)).alloc (by simp) (.cells #[.int .i8 k, .int .i64 sz, .slice ao2 L.length cap2] 46)
  have n1 := heap_old (heap_new w (.cells #[.int .i8 k, .int .i64 sz, .slice ao L.length cap] 46)) (.cells #[.int .i8 k, .int .i64 sz, .slice ao2 L.length cap2] 46)
  have n2 := heap_new (w.alloc (.cells #[.int .i8 k, .int .i64 sz, .slice ao L.length cap] 46)) (.cells #[.int .i8 k, .int .i64 sz, .slice ao2 L.length cap2] 46)
  rw [World.size_alloc] at n2
  have HB := Lib.hid hb
  have HR := Lib.hid hr
  have HR2 := Lib.hid hr2
  have HO := Lib.hid ho
  have HN1 := Lib.hid n1
  have HN2 := Lib.hid n2
  have d1 : (k != k) = false := by simp
  have d2 : (sz != sz) = false := by simp
  have d3 : ((L.length : Int) != (L.length : Int)) = false := by simp
  clear hb hr hr2 ho n1 n2
  go_enter Tryd.func21, Tryd.ntmps21
  go_wp2_with fail
  generalize (w.alloc (.cells #[.int .i8 k, .int .i64 sz, .slice ao L.length cap] 46)).alloc (.cells #[.int .i8 k, .int .i64 sz, .slice ao2 L.length cap2] 46) = W0 at *
  go_loopw [5] (fun iv wr => ∃ (i : Nat), i ≤ L.length ∧ iv = .int .i64 i ∧ Hid (Below W0.heap.size W0 wr)) (fun iv _ => L.length - (intOf iv).toNat)
  case atStart => exact ⟨0, by omega, rfl, Lib.hid (Below.refl _ _)⟩
  case round =>
    obtain ⟨i, hi, rfl, HI⟩ := hrel
    have m1 := keep_heap HN1.out HI.out
    have m2 := keep_heap HN2.out HI.out
    obtain ⟨x2, -⟩ := cells_at m1 2 _ rfl
    obtain ⟨y2, -⟩ := cells_at m2 2 _ rfl
    by_cases hlt : i < L.length
    · obtain ⟨x, hx⟩ : ∃ x, L[i]? = some x := ⟨L[i]'(by omega), List.getElem?_eq_getElem (by omega)⟩
      have HX := Lib.hid hx
      have hdr : Below wr.heap.size wr wr.drew := (Below.refl _ _).drew
      have hBD := HI.out.trans (hdr.mono HI.out.size)
      have HBW := Lib.hid (HB.out.trans (hBD.mono HB.out.size))
      obtain ⟨b1, o1, rfl, -, hc1⟩ := HR.out.keep HBW.out i x hx
      obtain ⟨b2, o2, rfl, -, hc2⟩ := HR2.out.keep HBW.out i x hx
      have hS : ScS w.heap.size (w.heap.size + 1) (.slice (some ⟨b1, o1, none⟩) L.length cap) (.slice (some ⟨b2, o2, none⟩) L.length cap2) b1 (o1 + i * 7) b2 (o2 + i * 7) x wr.drew :=
        ⟨x2, y2, hc1 0 _ rfl, hc1 1 _ rfl, hc1 2 _ rfl, hc1 3 _ rfl, hc1 4 _ rfl, hc1 5 _ rfl, hc1 6 _ rfl, hc2 0 _ rfl, hc2 1 _ rfl, hc2 2 _ rfl, hc2 3 _ rfl, hc2 4 _ rfl, hc2 5 _ rfl, hc2 6 _ rfl⟩
      have hcall := sameword_any f f x x wr.drew ((HO.out x (List.mem_of_getElem? hx)).keep HBW.out) ((HO.out x (List.mem_of_getElem? hx)).keep HBW.out)
      rw [eqW_refl] at hcall
      have HCALL := Lib.hid hcall
      have HBD := Lib.hid hBD
      clear hx hc1 hc2 hdr hBD hcall m1 m2
      go_wp2_with fail
      have hi1 : i < L.length := (List.getElem?_eq_some_iff.1 HX.out).1
      refine region_plan (ScS w.heap.size (w.heap.size + 1) (.slice (some ⟨b1, o1, none⟩) L.length cap) (.slice (some ⟨b2, o2, none⟩) L.length cap2) b1 (o1 + i * 7) b2 (o2 + i * 7) x) [(0, 0), (1, 0), (2, 0), (3, 0), (4, 0), (5, 0), (6, 0), (7, 0), (8, 0), (9, 0), (10, 1), (11, 0)] (by kernel_rfl) (by kernel_rfl) (by kernel_rfl) hS ?_
      generalize wr.drew = WD at *
      simp only [Wd.V] at HCALL
      iterate 10 (first | (refine plan_skip rfl ?_ ?_; (focus (rfl)); (try simp only [Act.put, List.setIfInBounds_toArray, List.set_cons_zero, List.set_cons_succ])) | (refine plan_take (v := ?_) rfl ?_ (fun w hSw => ?_) ?_; rotate_left; (focus (rfl)); (focus (unfold ScS at hSw; (go_simp <;> with_reducible rfl))); (try simp only [Act.put, List.setIfInBounds_toArray, List.set_cons_zero, List.set_cons_succ])))
      refine plan_run rfl ?_ (fun K hK => ?_)
      focus (rfl)
      go_simp
      refine (HCALL.out).mono ?_
      rintro e W1 ⟨rfl, hb1⟩
      have hS1 := hS.keep hb1
      have HB1 := Lib.hid (HBD.out.trans (hb1.mono HBD.out.size))
      refine hK.out _ _ hS1 ?_
      clear hK K 
      (try simp only [Act.put, List.setIfInBounds_toArray, List.set_cons_zero, List.set_cons_succ])
      iterate 1 (first | (refine plan_skip rfl ?_ ?_; (focus (rfl)); (try simp only [Act.put, List.setIfInBounds_toArray, List.set_cons_zero, List.set_cons_succ])) | (refine plan_take (v := ?_) rfl ?_ (fun w hSw => ?_) ?_; rotate_left; (focus (rfl)); (focus (unfold ScS at hSw; (go_simp <;> with_reducible rfl))); (try simp only [Act.put, List.setIfInBounds_toArray, List.set_cons_zero, List.set_cons_succ])))
      refine plan_done ?_
      clear hS hS1 hb1 x2 y2
      go_wp2_with fail
      go_roundw
      case rel => exact ⟨i + 1, by omega, by go_num, HB1⟩
      case measure => simp [intOf]; omega
    · have HF := Lib.hid (HB.out.trans (HI.out.mono HB.out.size))
      go_wp2_with fail
      go_ret
      exact ⟨rfl, HF.out⟩
end Go.Proofs.YtfbmjcblnemkgaaDoor
