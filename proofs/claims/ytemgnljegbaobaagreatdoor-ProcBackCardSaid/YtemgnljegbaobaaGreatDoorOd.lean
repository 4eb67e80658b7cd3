/- the reference's comparison of rows of records of the same cells. Conditions: they read. -/
import Derived.Test.YtemgnljegbaobaaGreatDoorOc
namespace Go.Proofs.YtemgnljegbaobaaGreatDoor
open Go.ChangeShapes Go.WideShapes Go.ChangeAt Go.RowKit
set_option linter.unusedVariables false
set_option linter.unusedSimpArgs false
set_option maxRecDepth 100000
/-- records: a child's twelve cells, a number -/
def RsOk (w : World) (xs : List Value) (n : Nat) : Prop := ∀ i, i < n → ∃ f cs p, piece xs i 13 = cs ++ [.int .i64 p] ∧ cs.length = 12 ∧ CdOk f w cs
theorem RsOk.keep {w w' : World} {xs : List Value} {n : Nat} (h : RsOk w xs n) (hb : Below w.heap.size w w') : RsOk w' xs n := fun i hi => by
  obtain ⟨f, cs, p, e, hl, h⟩ := h i hi
  exact ⟨f, cs, p, e, hl, h.keep hb⟩
def R2 (b o b2 o2 : Nat) (p : Int) (cs : List Value) (W : World) : Prop := W.cell? ⟨b, o + 12, none⟩ = some (.int .i64 p) ∧ W.cell? ⟨b2, o2 + 12, none⟩ = some (.int .i64 p) ∧ W.rangeAt b o cs ∧ W.rangeAt b2 o2 cs
theorem R2.keep {b o b2 o2 : Nat} {p : Int} {cs : List Value} {W W' : World} (h : R2 b o b2 o2 p cs W) (hb : Below W.heap.size W W') : R2 b o b2 o2 p cs W' :=
  ⟨keep_cell h.1 hb, keep_cell h.2.1 hb, fun j v hj => keep_cell (h.2.2.1 j v hj) hb, fun j v hj => keep_cell (h.2.2.2 j v hj) hb⟩
set_option maxHeartbeats 8000000 in
theorem samerecs_any (w : World) (v v' : Value) (n : Nat) (xs : List Value) (h : Rw w v n 13 xs) (h' : Rw w v' n 13 xs) (ht : RsOk w xs n) : Calls Tryz.prog 107 #[v, v'] w (IsPost w true) := by
  obtain ⟨ao, c, rfl, hc1, hc2⟩ := h.slice
  obtain ⟨ao', c', rfl, hc1', hc2'⟩ := h'.slice
  have HR := Lib.hid (And.intro h (And.intro h' ht))
  clear h h' ht
  go_enter Tryz.func107, Tryz.ntmps107
  go_wp2_with fail
  go_loopw [5] (fun jw wr => ∃ i : Nat, i ≤ n ∧ jw = .int .i64 i ∧ Hid (Below w.heap.size w wr)) (fun jw _ => n - (intOf jw).toNat)
  case atStart => exact ⟨0, Nat.zero_le _, rfl, Lib.hid (Below.refl _ _)⟩
  case round =>
    obtain ⟨i, hi, rfl, HI⟩ := hrel
    by_cases hlt : i < n
    · obtain ⟨b, off, d1, e1, a1⟩ := rw_piece (HR.out.1.keep HI.out) hlt
      obtain ⟨b2, off2, d2, e2, a2⟩ := rw_piece (HR.out.2.1.keep HI.out) hlt
      injection e1 with e1 _ e3
      injection e2 with e2 _ e4
      subst e1 e2 e3 e4
      obtain ⟨f, cs, p, ep, hl, hcd⟩ := HR.out.2.2 i hlt
      rw [ep] at a1 a2
      have hd := (Below.refl wr.heap.size wr).drew
      have h12 : (cs ++ [Value.int .i64 p])[12]? = some (.int .i64 p) := by rw [← hl]; simp
      have hpre : ∀ (j : Nat) (u : Value), cs[j]? = some u → (cs ++ [Value.int .i64 p])[j]? = some u := fun j u hj => by rw [List.getElem?_append_left (List.getElem?_eq_some_iff.1 hj).1]; exact hj
      have hS : R2 b (off + i * 13) b2 (off2 + i * 13) p cs wr := ⟨a1 12 _ h12, a2 12 _ h12, fun j u hj => a1 j u (hpre j u hj), fun j u hj => a2 j u (hpre j u hj)⟩
      have hi0 : (0 : Int) ≤ (i : Int) := by omega
      have HI1 := Lib.hid (HI.out.trans (hd.mono HI.out.size))
      have HC := Lib.hid (samechild_any f wr.drew cs (hcd.keep HI1.out))
      have HL := Lib.hid hl
      have hS1 := hS.keep hd
      clear a1 a2 hd hS ep h12 hpre hl hcd
      go_wp2_with fail
      refine region_plan (R2 b (off + i * 13) b2 (off2 + i * 13) p cs) [(0, 0), (1, 0), (2, 0), (3, 0), (4, 0), (5, 0), (6, 0), (7, 0), (8, 0), (9, 0), (10, 0), (11, 0), (12, 0), (13, 0), (14, 0), (15, 0), (16, 0), (17, 0), (18, 0), (19, 0), (20, 0), (21, 0), (22, 1), (23, 0), (24, 0)] (by kernel_rfl) (by kernel_rfl) (by kernel_rfl) hS1 ?_
      generalize wr.drew = w1 at *
      iterate 16 (first | (refine plan_skip rfl ?_ ?_; (focus (rfl)); (try simp only [Act.put, List.setIfInBounds_toArray, List.set_cons_zero, List.set_cons_succ])) | (refine plan_take (v := ?_) rfl ?_ (fun w hSw => ?_) ?_; rotate_left; (focus (rfl)); (focus (unfold R2 at hSw; (go_simp <;> with_reducible rfl))); (try simp only [Act.put, List.setIfInBounds_toArray, List.set_cons_zero, List.set_cons_succ])))
      refine plan_take rfl ?_ (fun wS hSw => exec_load_mid 174 (.tmp 32) rfl b (off + i * 13) rfl cs _ hSw.2.2.1 Tryz.underlying174 rfl (infoCH HL.out)) ?_
      focus (rfl)
      (try simp only [Act.put, List.setIfInBounds_toArray, List.set_cons_zero, List.set_cons_succ])
      iterate 4 (first | (refine plan_skip rfl ?_ ?_; (focus (rfl)); (try simp only [Act.put, List.setIfInBounds_toArray, List.set_cons_zero, List.set_cons_succ])) | (refine plan_take (v := ?_) rfl ?_ (fun w hSw => ?_) ?_; rotate_left; (focus (rfl)); (focus (unfold R2 at hSw; (go_simp <;> with_reducible rfl))); (try simp only [Act.put, List.setIfInBounds_toArray, List.set_cons_zero, List.set_cons_succ])))
      refine plan_take rfl ?_ (fun wS hSw => exec_load_mid 174 (.tmp 37) rfl b2 (off2 + i * 13) rfl cs _ hSw.2.2.2 Tryz.underlying174 rfl (infoCH HL.out)) ?_
      focus (rfl)
      (try simp only [Act.put, List.setIfInBounds_toArray, List.set_cons_zero, List.set_cons_succ])
      refine plan_run rfl ?_ (fun K hK => ?_)
      focus (rfl)
      go_simp
      refine (HC.out).mono ?_
      rintro e w2 ⟨rfl, hb2⟩
      have hS2 := hS1.keep hb2
      have HI2 := Lib.hid (HI1.out.trans (hb2.mono HI1.out.size))
      refine hK.out _ _ hS2 ?_
      clear hK K 
      (try simp only [Act.put, List.setIfInBounds_toArray, List.set_cons_zero, List.set_cons_succ])
      clear hS1 hb2
      iterate 2 (first | (refine plan_skip rfl ?_ ?_; (focus (rfl)); (try simp only [Act.put, List.setIfInBounds_toArray, List.set_cons_zero, List.set_cons_succ])) | (refine plan_take (v := ?_) rfl ?_ (fun w hSw => ?_) ?_; rotate_left; (focus (rfl)); (focus (unfold R2 at hSw; (go_simp <;> with_reducible rfl))); (try simp only [Act.put, List.setIfInBounds_toArray, List.set_cons_zero, List.set_cons_succ])))
      refine plan_done ?_
      clear hS2 HC HI1
      go_wp2_with fail
      go_roundw
      case rel => exact ⟨i + 1, hlt, by go_num, HI2⟩
      case measure => simp [intOf]; omega
    · have hlt' : ¬ ((i : Int) < (n : Int)) := by omega
      go_wp2_with fail
      go_ret
      exact ⟨rfl, HI.out⟩
end Go.Proofs.YtemgnljegbaobaaGreatDoor
