/- the reference's comparisons of rows of the same cells: integers, bools, monitors, handlers. Conditions: the rows read. -/
import Derived.Test.YtemgnljegbaobaaGreatDoorNu
namespace Go.Proofs.YtemgnljegbaobaaGreatDoor
open Go.ChangeShapes Go.WideShapes Go.ChangeAt Go.RowKit
set_option linter.unusedVariables false
set_option linter.unusedSimpArgs false
set_option maxRecDepth 100000
def I1 (b off b2 off2 i : Nat) (x : Int) (W : World) : Prop := W.cell? ⟨b, off + i, none⟩ = some (.int .i64 x) ∧ W.cell? ⟨b2, off2 + i, none⟩ = some (.int .i64 x)
theorem I1.keep {b off b2 off2 i : Nat} {x : Int} {W W' : World} (h : I1 b off b2 off2 i x W) (hb : Below W.heap.size W W') : I1 b off b2 off2 i x W' := ⟨keep_cell h.1 hb, keep_cell h.2 hb⟩
def B1 (b off b2 off2 i : Nat) (x : Bool) (W : World) : Prop := W.cell? ⟨b, off + i, none⟩ = some (.bool x) ∧ W.cell? ⟨b2, off2 + i, none⟩ = some (.bool x)
theorem B1.keep {b off b2 off2 i : Nat} {x : Bool} {W W' : World} (h : B1 b off b2 off2 i x W) (hb : Below W.heap.size W W') : B1 b off b2 off2 i x W' := ⟨keep_cell h.1 hb, keep_cell h.2 hb⟩
def P1 (b off b2 off2 i : Nat) (x : Int × Int) (W : World) : Prop := W.cell? ⟨b, off + i * 2, none⟩ = some (.int .i64 x.1) ∧ W.cell? ⟨b, off + i * 2 + 1, none⟩ = some (.int .i64 x.2) ∧ W.cell? ⟨b2, off2 + i * 2, none⟩ = some (.int .i64 x.1) ∧ W.cell? ⟨b2, off2 + i * 2 + 1, none⟩ = some (.int .i64 x.2)
theorem P1.keep {b off b2 off2 i : Nat} {x : Int × Int} {W W' : World} (h : P1 b off b2 off2 i x W) (hb : Below W.heap.size W W') : P1 b off b2 off2 i x W' := ⟨keep_cell h.1 hb, keep_cell h.2.1 hb, keep_cell h.2.2.1 hb, keep_cell h.2.2.2 hb⟩
set_option maxHeartbeats 8000000 in
theorem sameI_any (w : World) (v v' : Value) (ps : List Int) (h : Rw w v ps.length 1 (iv ps)) (h' : Rw w v' ps.length 1 (iv ps)) : Calls Tryz.prog 35 #[v, v'] w (IsPost w true) := by
  obtain ⟨ao, c, rfl, hc1, hc2⟩ := h.slice
  obtain ⟨ao', c', rfl, hc1', hc2'⟩ := h'.slice
  have HR := Lib.hid (And.intro h h')
  clear h h'
  go_enter Tryz.func35, Tryz.ntmps35
  go_wp2_with fail
  go_loopw [5] (fun jw wr => ∃ i : Nat, i ≤ ps.length ∧ jw = .int .i64 i ∧ Hid (Below w.heap.size w wr)) (fun jw _ => ps.length - (intOf jw).toNat)
  case atStart => exact ⟨0, Nat.zero_le _, rfl, Lib.hid (Below.refl _ _)⟩
  case round =>
    obtain ⟨i, hi, rfl, HI⟩ := hrel
    by_cases hlt : i < ps.length
    · obtain ⟨x, hx⟩ : ∃ x, ps[i]? = some x := ⟨ps[i], List.getElem?_eq_getElem hlt⟩
      obtain ⟨-, b, off, e1, a1⟩ := (HR.out.1.keep HI.out).at (by omega)
      obtain ⟨-, b2, off2, e2, a2⟩ := (HR.out.2.keep HI.out).at (by omega)
      subst e1 e2
      have hd := (Below.refl wr.heap.size wr).drew
      have hS : I1 b off b2 off2 i x wr := ⟨a1 i _ (iv_at hx), a2 i _ (iv_at hx)⟩
      have hi0 : (0 : Int) ≤ (i : Int) := by omega
      have HI1 := Lib.hid (HI.out.trans (hd.mono HI.out.size))
      have hS1 := hS.keep hd
      clear hx a1 a2 hd hS
      go_wp2_with fail
      refine region_plan (I1 b off b2 off2 i x) [(0, 0), (1, 0), (2, 0), (3, 0), (4, 0), (5, 0), (6, 0), (7, 0), (8, 0)] (by kernel_rfl) (by kernel_rfl) (by kernel_rfl) hS1 ?_
      generalize wr.drew = w1 at *
      iterate 9 (first | (refine plan_skip rfl ?_ ?_; (focus (rfl)); (try simp only [Act.put, List.setIfInBounds_toArray, List.set_cons_zero, List.set_cons_succ])) | (refine plan_take (v := ?_) rfl ?_ (fun w hSw => ?_) ?_; rotate_left; (focus (rfl)); (focus (unfold I1 at hSw; (go_simp <;> with_reducible rfl))); (try simp only [Act.put, List.setIfInBounds_toArray, List.set_cons_zero, List.set_cons_succ])))
      refine plan_done ?_
      clear hS1
      go_wp2_with fail
      go_roundw
      case rel => exact ⟨i + 1, hlt, by go_num, HI1⟩
      case measure => simp [intOf]; omega
    · have hlt' : ¬ ((i : Int) < (ps.length : Int)) := by omega
      go_wp2_with fail
      go_ret
      exact ⟨rfl, HI.out⟩
set_option maxHeartbeats 8000000 in
theorem sameB_any (w : World) (v v' : Value) (ps : List Bool) (h : Rw w v ps.length 1 (bvs ps)) (h' : Rw w v' ps.length 1 (bvs ps)) : Calls Tryz.prog 105 #[v, v'] w (IsPost w true) := by
  obtain ⟨ao, c, rfl, hc1, hc2⟩ := h.slice
  obtain ⟨ao', c', rfl, hc1', hc2'⟩ := h'.slice
  have HR := Lib.hid (And.intro h h')
  clear h h'
  go_enter Tryz.func105, Tryz.ntmps105
  go_wp2_with fail
  go_loopw [5] (fun jw wr => ∃ i : Nat, i ≤ ps.length ∧ jw = .int .i64 i ∧ Hid (Below w.heap.size w wr)) (fun jw _ => ps.length - (intOf jw).toNat)
  case atStart => exact ⟨0, Nat.zero_le _, rfl, Lib.hid (Below.refl _ _)⟩
  case round =>
    obtain ⟨i, hi, rfl, HI⟩ := hrel
    by_cases hlt : i < ps.length
    · obtain ⟨x, hx⟩ : ∃ x, ps[i]? = some x := ⟨ps[i], List.getElem?_eq_getElem hlt⟩
      obtain ⟨-, b, off, e1, a1⟩ := (HR.out.1.keep HI.out).at (by omega)
      obtain ⟨-, b2, off2, e2, a2⟩ := (HR.out.2.keep HI.out).at (by omega)
      subst e1 e2
      have hd := (Below.refl wr.heap.size wr).drew
      have hS : B1 b off b2 off2 i x wr := ⟨a1 i _ (bvs_at hx), a2 i _ (bvs_at hx)⟩
      have hi0 : (0 : Int) ≤ (i : Int) := by omega
      have HI1 := Lib.hid (HI.out.trans (hd.mono HI.out.size))
      have hS1 := hS.keep hd
      clear hx a1 a2 hd hS
      go_wp2_with fail
      refine region_plan (B1 b off b2 off2 i x) [(0, 0), (1, 0), (2, 0), (3, 0), (4, 0), (5, 0), (6, 0), (7, 0), (8, 0)] (by kernel_rfl) (by kernel_rfl) (by kernel_rfl) hS1 ?_
      generalize wr.drew = w1 at *
      iterate 9 (first | (refine plan_skip rfl ?_ ?_; (focus (rfl)); (try simp only [Act.put, List.setIfInBounds_toArray, List.set_cons_zero, List.set_cons_succ])) | (refine plan_take (v := ?_) rfl ?_ (fun w hSw => ?_) ?_; rotate_left; (focus (rfl)); (focus (unfold B1 at hSw; (go_simp <;> with_reducible rfl))); (try simp only [Act.put, List.setIfInBounds_toArray, List.set_cons_zero, List.set_cons_succ])))
      refine plan_done ?_
      clear hS1
      go_wp2_with fail
      go_roundw
      case rel => exact ⟨i + 1, hlt, by go_num, HI1⟩
      case measure => simp [intOf]; omega
    · have hlt' : ¬ ((i : Int) < (ps.length : Int)) := by omega
      go_wp2_with fail
      go_ret
      exact ⟨rfl, HI.out⟩
set_option maxHeartbeats 8000000 in
theorem sameW_any (w : World) (v v' : Value) (ps : List (Int × Int)) (h : Rw w v ps.length 2 (wv ps)) (h' : Rw w v' ps.length 2 (wv ps)) : Calls Tryz.prog 36 #[v, v'] w (IsPost w true) := by
  obtain ⟨ao, c, rfl, hc1, hc2⟩ := h.slice
  obtain ⟨ao', c', rfl, hc1', hc2'⟩ := h'.slice
  have HR := Lib.hid (And.intro h h')
  clear h h'
  go_enter Tryz.func36, Tryz.ntmps36
  go_wp2_with fail
  go_loopw [5] (fun jw wr => ∃ i : Nat, i ≤ ps.length ∧ jw = .int .i64 i ∧ Hid (Below w.heap.size w wr)) (fun jw _ => ps.length - (intOf jw).toNat)
  case atStart => exact ⟨0, Nat.zero_le _, rfl, Lib.hid (Below.refl _ _)⟩
  case round =>
    obtain ⟨i, hi, rfl, HI⟩ := hrel
    by_cases hlt : i < ps.length
    · obtain ⟨x, hx⟩ : ∃ x, ps[i]? = some x := ⟨ps[i], List.getElem?_eq_getElem hlt⟩
      obtain ⟨-, b, off, e1, a1⟩ := (HR.out.1.keep HI.out).at (by omega)
      obtain ⟨-, b2, off2, e2, a2⟩ := (HR.out.2.keep HI.out).at (by omega)
      subst e1 e2
      have hd := (Below.refl wr.heap.size wr).drew
      have hS : P1 b off b2 off2 i x wr := ⟨a1 _ _ (wv_at hx).1, (by rw [Nat.add_assoc]; exact a1 _ _ (wv_at hx).2), a2 _ _ (wv_at hx).1, (by rw [Nat.add_assoc]; exact a2 _ _ (wv_at hx).2)⟩
      have hi0 : (0 : Int) ≤ (i : Int) := by omega
      have HI1 := Lib.hid (HI.out.trans (hd.mono HI.out.size))
      have hS1 := hS.keep hd
      clear hx a1 a2 hd hS
      go_wp2_with fail
      refine region_plan (P1 b off b2 off2 i x) [(0, 0), (1, 0), (2, 0), (3, 0), (4, 0), (5, 0), (6, 0), (7, 0), (8, 0)] (by kernel_rfl) (by kernel_rfl) (by kernel_rfl) hS1 ?_
      generalize wr.drew = w1 at *
      iterate 9 (first | (refine plan_skip rfl ?_ ?_; (focus (rfl)); (try simp only [Act.put, List.setIfInBounds_toArray, List.set_cons_zero, List.set_cons_succ])) | (refine plan_take (v := ?_) rfl ?_ (fun w hSw => ?_) ?_; rotate_left; (focus (rfl)); (focus (unfold P1 at hSw; (go_simp <;> with_reducible rfl))); (try simp only [Act.put, List.setIfInBounds_toArray, List.set_cons_zero, List.set_cons_succ])))
      refine plan_done ?_
      clear hS1
      go_wp2_with fail
      go_roundw
      case rel => exact ⟨i + 1, hlt, by go_num, HI1⟩
      case measure => simp [intOf]; omega
    · have hlt' : ¬ ((i : Int) < (ps.length : Int)) := by omega
      go_wp2_with fail
      go_ret
      exact ⟨rfl, HI.out⟩
set_option maxHeartbeats 8000000 in
theorem sameY_any (w : World) (v v' : Value) (ps : List (Int × Int)) (h : Rw w v ps.length 2 (wv ps)) (h' : Rw w v' ps.length 2 (wv ps)) : Calls Tryz.prog 106 #[v, v'] w (IsPost w true) := by
  obtain ⟨ao, c, rfl, hc1, hc2⟩ := h.slice
  obtain ⟨ao', c', rfl, hc1', hc2'⟩ := h'.slice
  have HR := Lib.hid (And.intro h h')
  clear h h'
  go_enter Tryz.func106, Tryz.ntmps106
  go_wp2_with fail
  go_loopw [5] (fun jw wr => ∃ i : Nat, i ≤ ps.length ∧ jw = .int .i64 i ∧ Hid (Below w.heap.size w wr)) (fun jw _ => ps.length - (intOf jw).toNat)
  case atStart => exact ⟨0, Nat.zero_le _, rfl, Lib.hid (Below.refl _ _)⟩
  case round =>
    obtain ⟨i, hi, rfl, HI⟩ := hrel
    by_cases hlt : i < ps.length
    · obtain ⟨x, hx⟩ : ∃ x, ps[i]? = some x := ⟨ps[i], List.getElem?_eq_getElem hlt⟩
      obtain ⟨-, b, off, e1, a1⟩ := (HR.out.1.keep HI.out).at (by omega)
      obtain ⟨-, b2, off2, e2, a2⟩ := (HR.out.2.keep HI.out).at (by omega)
      subst e1 e2
      have hd := (Below.refl wr.heap.size wr).drew
      have hS : P1 b off b2 off2 i x wr := ⟨a1 _ _ (wv_at hx).1, (by rw [Nat.add_assoc]; exact a1 _ _ (wv_at hx).2), a2 _ _ (wv_at hx).1, (by rw [Nat.add_assoc]; exact a2 _ _ (wv_at hx).2)⟩
      have hi0 : (0 : Int) ≤ (i : Int) := by omega
      have HI1 := Lib.hid (HI.out.trans (hd.mono HI.out.size))
      have hS1 := hS.keep hd
      clear hx a1 a2 hd hS
      go_wp2_with fail
      refine region_plan (P1 b off b2 off2 i x) [(0, 0), (1, 0), (2, 0), (3, 0), (4, 0), (5, 0), (6, 0), (7, 0), (8, 0)] (by kernel_rfl) (by kernel_rfl) (by kernel_rfl) hS1 ?_
      generalize wr.drew = w1 at *
      iterate 9 (first | (refine plan_skip rfl ?_ ?_; (focus (rfl)); (try simp only [Act.put, List.setIfInBounds_toArray, List.set_cons_zero, List.set_cons_succ])) | (refine plan_take (v := ?_) rfl ?_ (fun w hSw => ?_) ?_; rotate_left; (focus (rfl)); (focus (unfold P1 at hSw; (go_simp <;> with_reducible rfl))); (try simp only [Act.put, List.setIfInBounds_toArray, List.set_cons_zero, List.set_cons_succ])))
      refine plan_done ?_
      clear hS1
      go_wp2_with fail
      go_roundw
      case rel => exact ⟨i + 1, hlt, by go_num, HI1⟩
      case measure => simp [intOf]; omega
    · have hlt' : ¬ ((i : Int) < (ps.length : Int)) := by omega
      go_wp2_with fail
      go_ret
      exact ⟨rfl, HI.out⟩
end Go.Proofs.YtemgnljegbaobaaGreatDoor
