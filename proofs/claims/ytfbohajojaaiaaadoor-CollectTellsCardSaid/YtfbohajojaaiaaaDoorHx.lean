/- the reference's heap: New, parts, empty, size, May. Conditions: what comes reads. -/
import Derived.Test.YtfbohajojaaiaaaDoorHc
import Derived.Test.YtfbohajojaaiaaaDoorTj
namespace Go.Proofs.YtfbohajojaaiaaaDoor
open Go.ChangeShapes Go.WideShapes Go.ChangeAt Go.RowKit
set_option linter.unusedVariables false
set_option maxRecDepth 100000
/-- the reference's heap at a place -/
def RHp (w : World) (base p : Nat) (v : Value) (C : List HC) : Prop := w.heap[p]? = some (.cells #[v] 63 (0, 0)) ∧ base ≤ p ∧ CRow w base v C ∧ Good C
theorem RHp.keep {w w' : World} {base p : Nat} {v : Value} {C : List HC} (h : RHp w base p v C) (hb : Below w.heap.size w w') : RHp w' base p v C := ⟨keep_heap h.1 hb, h.2.1, h.2.2.1.keep hb, h.2.2.2⟩
theorem RHp.facts {w : World} {base p : Nat} {v : Value} {C : List HC} (h : RHp w base p v C) : ∃ ao cap, v = .slice ao C.length cap ∧ C.length ≤ cap ∧ cap ≤ 9223372036854775807 ∧ w.cell? ⟨p, 0, none⟩ = some (.slice ao C.length cap) ∧ w.frozen? ⟨p, 0, none⟩ = false ∧
    p < w.heap.size ∧ ∀ i c, C[i]? = some c → ∃ b, ao = some ⟨b, 0, none⟩ ∧ ∀ j u, c.cells[j]? = some u → w.cell? ⟨b, i * 3 + j, none⟩ = some u := by
  obtain ⟨h1, -, ⟨h2, -⟩, -⟩ := h
  obtain ⟨c1, c1f⟩ := cells_at h1 0 _ rfl
  have hcap : ∃ ao cap, v = .slice ao C.length cap ∧ C.length ≤ cap ∧ cap ≤ 9223372036854775807 := by
    obtain ⟨-, ⟨rfl, e⟩ | ⟨g, cap, cur, rfl, hg, hh, h3, h4, r⟩⟩ := h2
    · exact ⟨none, 0, by rw [List.eq_nil_of_length_eq_zero e]; rfl, by omega, by omega⟩
    · exact ⟨_, cap, rfl, h3, by unfold maxLen at h4; omega⟩
  obtain ⟨ao, cap, rfl, h3, h4⟩ := hcap
  refine ⟨ao, cap, rfl, h3, h4, c1, c1f, heap_lt h1, fun i c hi => ?_⟩
  have hlt := (List.getElem?_eq_some_iff.1 hi).1
  rcases h2.2 with ⟨_, h0⟩ | ⟨g, cap', cur, hv, hg, hh, r⟩
  · omega
  · injection hv with e1 e2 e3
    subst e1 e3
    refine ⟨g, rfl, fun j u hj => ?_⟩
    have hj3 : j < 3 := by have := (List.getElem?_eq_some_iff.1 hj).1; simpa [HC.cells] using this
    rw [h2.cellAt (i * 3 + j) (by omega), ccs_at C i j c hi hj3]
    exact hj
theorem rnew_any (w : World) : Calls Tryd.prog 35 #[] w fun e w' => e = .returned (.pointer (some ⟨w.heap.size, 0, none⟩)) ∧ RHp w' w.heap.size w.heap.size (.slice none 0 0) [] ∧ Below w.heap.size w w' := by
  have h := heap_new w (.cells #[.slice none 0 0] 63)
  have hp : RHp (w.alloc (.cells #[.slice none 0 0] 63)) w.heap.size w.heap.size (.slice none 0 0) [] := ⟨h, Nat.le_refl _, ⟨World.ownsRow_nil _ _ _ _, fun c hc => by cases hc⟩, by simp, fun i c hi => by simp at hi⟩
  have HH := Lib.hid hp
  clear h hp
  go_enter Tryd.func35, Tryd.ntmps35
  go_wp2_with fail
  go_ret
  exact ⟨rfl, HH.out, (Below.refl _ _).alloc (Nat.le_refl _) _⟩
theorem rparts_any (w : World) (k : Int) : Calls Tryd.prog 50 #[.int .i8 k] w (SameB w (partsB k)) := by
  by_cases h5 : k = 5
  · subst h5
    go_enter Tryd.func50, Tryd.ntmps50
    go_wp2_with fail
    go_ret
    exact ⟨rfl, rfl⟩
  · by_cases h7 : k = 7
    · subst h7
      go_enter Tryd.func50, Tryd.ntmps50
      go_wp2_with fail
      go_ret
      exact ⟨rfl, rfl⟩
    · have e : partsB k = false := by simp [partsB, h5, h7]
      rw [e]
      have d5 : (k == 5) = false := by simp [h5]
      have d7 : (k == 7) = false := by simp [h7]
      clear h5 h7 e
      go_enter Tryd.func50, Tryd.ntmps50
      go_wp2_with fail
      go_ret
      exact ⟨rfl, rfl⟩
theorem rempty_any (w : World) (ao : Option Addr) (cap : Nat) : Calls Tryd.prog 52 #[.agg #[.int .i8 0, .int .i64 0, .string ⟨#[]⟩, .string ⟨#[]⟩, .slice ao 0 cap]] w fun e w' => e = .returned (.bool true) ∧ Below w.heap.size w w' := by
  go_enter Tryd.func52, Tryd.ntmps52
  go_wp2_with fail
  go_ret
  exact ⟨rfl, (Below.refl _ _).alloc (Nat.le_refl _) _⟩
/-- a word such as words makes them -/
def Pure (x : Wd) : Prop := if x.c then x.k = 0 ∧ x.n = 0 ∧ x.s = ⟨#[]⟩ ∧ x.u = ⟨#[]⟩ ∧ x.l = [] else x.a = 0
theorem Wd.w_pure (x : Wd) : ∀ y, y = (if x.c then ⟨true, x.a, 0, 0, ⟨#[]⟩, ⟨#[]⟩, none, 0, []⟩ else ⟨false, 0, x.k, x.n, x.s, x.u, x.ao, x.cap, x.l⟩ : Wd) → Pure y := by
  rintro y rfl
  cases h : x.c <;> simp [Pure]
theorem rsize_any (w : World) (base p : Nat) (v : Value) (C : List HC) (x : Wd) (h : RHp w base p v C) (hm : mayW C.length x = true) : Calls Tryd.prog 51 #[.pointer (some ⟨p, 0, none⟩), x.V] w fun e w' => e = .returned (.int .i64 (nodesW C x)) ∧ Below w.heap.size w w' := by
  obtain ⟨c, a, k, n, s, u, ao, cap, l⟩ := x
  cases c
  · clear h hm
    go_enter Tryd.func51, Tryd.ntmps51
    simp only [Wd.V]
    go_wp2_with fail
    go_ret
    exact ⟨rfl, (Below.refl _ _).alloc (Nat.le_refl _) _⟩
  · simp only [mayW, if_true, Bool.and_eq_true, decide_eq_true_eq] at hm
    obtain ⟨h1, h2, -⟩ := hm
    obtain ⟨i, rfl⟩ := Int.eq_ofNat_of_zero_le h1
    have hi : i < C.length := by omega
    obtain ⟨d, hd⟩ : ∃ d, C[i]? = some d := ⟨C[i], by simp [hi]⟩
    obtain ⟨vo, vc, -, -, hcm, c1, -, hps, hcell⟩ := h.facts
    obtain ⟨g, rfl, hg⟩ := hcell i d hd
    have e1 := hg 1 _ rfl
    have hgs := World.block_lt_of_cell? w _ e1
    have HE : Hid (nodesW C ⟨true, i, k, n, s, u, ao, cap, l⟩ = d.sz) := Lib.hid (by simp [nodesW, hd])
    clear h hcell hg hd h1 h2
    go_enter Tryd.func51, Tryd.ntmps51
    simp only [Wd.V]
    go_wp2_with fail
    go_quiet (fail)
    go_wp2_with fail
    go_ret
    exact ⟨by rw [HE.out]; rfl, below_drewN ((Below.refl _ _).alloc (Nat.le_refl _) _) _⟩
/-- what the region of May reads -/
def RMayS (p q : Nat) (v : Value) (a : Int) (ao : Option Addr) (cap : Nat) (W : World) : Prop := W.cell? ⟨p, 0, none⟩ = some v ∧ W.cell? ⟨q, 1, none⟩ = some (.int .i64 a) ∧ W.cell? ⟨q, 2, none⟩ = some (.int .i8 0) ∧ W.cell? ⟨q, 3, none⟩ = some (.int .i64 0) ∧ W.cell? ⟨q, 4, none⟩ = some (.string ⟨#[]⟩) ∧ W.cell? ⟨q, 5, none⟩ = some (.string ⟨#[]⟩) ∧ W.cell? ⟨q, 6, none⟩ = some (.slice ao 0 cap)
theorem RMayS.keep {p q : Nat} {v : Value} {a : Int} {ao : Option Addr} {cap : Nat} {W W' : World} (h : RMayS p q v a ao cap W) (hb : Below W.heap.size W W') : RMayS p q v a ao cap W' := by
  obtain ⟨h1, h2, h3, h4, h5, h6, h7⟩ := h
  exact ⟨keep_cell h1 hb, keep_cell h2 hb, keep_cell h3 hb, keep_cell h4 hb, keep_cell h5 hb, keep_cell h6 hb, keep_cell h7 hb⟩
set_option maxHeartbeats 4000000 in
theorem rmay_cell (w : World) (base p : Nat) (v : Value) (C : List HC) (a : Int) (ao : Option Addr) (cap : Nat) (h : RHp w base p v C) :
    Calls Tryd.prog 41 #[.pointer (some ⟨p, 0, none⟩), Wd.V ⟨true, a, 0, 0, ⟨#[]⟩, ⟨#[]⟩, ao, cap, []⟩] w (IsPost w (mayW C.length ⟨true, a, 0, 0, ⟨#[]⟩, ⟨#[]⟩, ao, cap, []⟩)) := by
  obtain ⟨vo, vc, -, -, hcm, c1, -, hps, -⟩ := h.facts
  have hC : C.length ≤ 1048576 := h.2.2.2.1
  clear h
  by_cases h1 : 0 ≤ a
  · have d1 : decide (0 ≤ a) = true := by simpa using h1
    by_cases h2 : a < C.length
    · have d2 : decide (a < (C.length : Int)) = true := by simpa using h2
      have e : mayW C.length ⟨true, a, 0, 0, ⟨#[]⟩, ⟨#[]⟩, ao, cap, []⟩ = true := by simp [mayW, h1, h2, empty]
      rw [e]
      clear e
      have hbx := (Below.refl w.heap.size w).alloc (Nat.le_refl _) (.cells #[.bool true, .int .i64 a, .int .i8 0, .int .i64 0, .string ⟨#[]⟩, .string ⟨#[]⟩, .slice ao 0 cap] 58)
      have hnw := heap_new w (.cells #[.bool true, .int .i64 a, .int .i8 0, .int .i64 0, .string ⟨#[]⟩, .string ⟨#[]⟩, .slice ao 0 cap] 58)
      have hS0 : RMayS p w.heap.size (.slice vo C.length vc) a ao cap (w.alloc (.cells #[.bool true, .int .i64 a, .int .i8 0, .int .i64 0, .string ⟨#[]⟩, .string ⟨#[]⟩, .slice ao 0 cap] 58)) := ⟨keep_cell c1 hbx, (cells_at hnw 1 _ rfl).1, (cells_at hnw 2 _ rfl).1, (cells_at hnw 3 _ rfl).1, (cells_at hnw 4 _ rfl).1, (cells_at hnw 5 _ rfl).1, (cells_at hnw 6 _ rfl).1⟩
      have HB := Lib.hid hbx
      clear hnw hbx
      go_enter Tryd.func41, Tryd.ntmps41
      simp only [Wd.V, List.length_nil]
      go_wp2_with fail
      have hS1 := hS0.keep (Below.refl _ _).drew
      have HB1 := Lib.hid (HB.out.trans ((Below.refl _ _).drew.mono HB.out.size))
      clear hS0 HB
      refine region_plan (RMayS p w.heap.size (.slice vo C.length vc) a ao cap) [(0, 0), (1, 0), (2, 1), (3, 0), (4, 0), (5, 0), (6, 0), (7, 0), (8, 0), (9, 0), (10, 0), (11, 0), (12, 0), (13, 0), (14, 0), (15, 0), (16, 0), (17, 0), (18, 0)] (by kernel_rfl) (by kernel_rfl) (by kernel_rfl) hS1 ?_
      generalize (w.alloc (.cells #[.bool true, .int .i64 a, .int .i8 0, .int .i64 0, .string ⟨#[]⟩, .string ⟨#[]⟩, .slice ao 0 cap] 58)).drew = W1 at *
      iterate 2 (first | (refine plan_skip rfl ?_ ?_; (focus (rfl)); (try simp only [Act.put, List.setIfInBounds_toArray, List.set_cons_zero, List.set_cons_succ])) | (refine plan_take (v := ?_) rfl ?_ (fun w hSw => ?_) ?_; rotate_left; (focus (rfl)); (focus (unfold RMayS at hSw; (go_simp <;> with_reducible rfl))); (try simp only [Act.put, List.setIfInBounds_toArray, List.set_cons_zero, List.set_cons_succ])))
      refine plan_run rfl ?_ (fun K hK => ?_)
      focus (rfl)
      go_simp
      refine (rempty_any _ _ _).mono ?_
      rintro e W2 ⟨rfl, hb2⟩
      have hS2 := hS1.keep hb2
      have HB2 := Lib.hid (HB1.out.trans (hb2.mono HB1.out.size))
      refine hK.out _ _ hS2 ?_
      clear hK K 
      (try simp only [Act.put, List.setIfInBounds_toArray, List.set_cons_zero, List.set_cons_succ])
      iterate 16 ((first | (refine plan_skip rfl ?_ ?_; (focus (rfl)); (try simp only [Act.put, List.setIfInBounds_toArray, List.set_cons_zero, List.set_cons_succ])) | (refine plan_take (v := ?_) rfl ?_ (fun w hSw => ?_) ?_; rotate_left; (focus (rfl)); (focus (unfold RMayS at hSw; (go_simp <;> with_reducible rfl))); (try simp only [Act.put, List.setIfInBounds_toArray, List.set_cons_zero, List.set_cons_succ]))); (try simp only [ge_iff_le, d1, d2]))
      refine plan_done ?_
      go_wp2_with fail
      go_ret
      exact ⟨rfl, HB2.out⟩
    · have d2 : decide (a < (C.length : Int)) = false := by simpa using h2
      have e : mayW C.length ⟨true, a, 0, 0, ⟨#[]⟩, ⟨#[]⟩, ao, cap, []⟩ = false := by simp [mayW, h2]
      clear h2
      rw [e]
      clear e
      have hbx := (Below.refl w.heap.size w).alloc (Nat.le_refl _) (.cells #[.bool true, .int .i64 a, .int .i8 0, .int .i64 0, .string ⟨#[]⟩, .string ⟨#[]⟩, .slice ao 0 cap] 58)
      have hnw := heap_new w (.cells #[.bool true, .int .i64 a, .int .i8 0, .int .i64 0, .string ⟨#[]⟩, .string ⟨#[]⟩, .slice ao 0 cap] 58)
      have hS0 : RMayS p w.heap.size (.slice vo C.length vc) a ao cap (w.alloc (.cells #[.bool true, .int .i64 a, .int .i8 0, .int .i64 0, .string ⟨#[]⟩, .string ⟨#[]⟩, .slice ao 0 cap] 58)) := ⟨keep_cell c1 hbx, (cells_at hnw 1 _ rfl).1, (cells_at hnw 2 _ rfl).1, (cells_at hnw 3 _ rfl).1, (cells_at hnw 4 _ rfl).1, (cells_at hnw 5 _ rfl).1, (cells_at hnw 6 _ rfl).1⟩
      have HB := Lib.hid hbx
      clear hnw hbx
      go_enter Tryd.func41, Tryd.ntmps41
      simp only [Wd.V, List.length_nil]
      go_wp2_with fail
      have hS1 := hS0.keep (Below.refl _ _).drew
      have HB1 := Lib.hid (HB.out.trans ((Below.refl _ _).drew.mono HB.out.size))
      clear hS0 HB
      refine region_plan (RMayS p w.heap.size (.slice vo C.length vc) a ao cap) [(0, 0), (1, 0), (2, 1), (3, 0), (4, 0), (5, 0), (6, 0), (7, 0), (8, 0), (9, 0), (10, 0), (11, 0), (12, 0), (13, 0), (14, 0), (15, 0), (16, 0), (17, 0), (18, 0)] (by kernel_rfl) (by kernel_rfl) (by kernel_rfl) hS1 ?_
      generalize (w.alloc (.cells #[.bool true, .int .i64 a, .int .i8 0, .int .i64 0, .string ⟨#[]⟩, .string ⟨#[]⟩, .slice ao 0 cap] 58)).drew = W1 at *
      iterate 2 (first | (refine plan_skip rfl ?_ ?_; (focus (rfl)); (try simp only [Act.put, List.setIfInBounds_toArray, List.set_cons_zero, List.set_cons_succ])) | (refine plan_take (v := ?_) rfl ?_ (fun w hSw => ?_) ?_; rotate_left; (focus (rfl)); (focus (unfold RMayS at hSw; (go_simp <;> with_reducible rfl))); (try simp only [Act.put, List.setIfInBounds_toArray, List.set_cons_zero, List.set_cons_succ])))
      refine plan_run rfl ?_ (fun K hK => ?_)
      focus (rfl)
      go_simp
      refine (rempty_any _ _ _).mono ?_
      rintro e W2 ⟨rfl, hb2⟩
      have hS2 := hS1.keep hb2
      have HB2 := Lib.hid (HB1.out.trans (hb2.mono HB1.out.size))
      refine hK.out _ _ hS2 ?_
      clear hK K 
      (try simp only [Act.put, List.setIfInBounds_toArray, List.set_cons_zero, List.set_cons_succ])
      iterate 16 ((first | (refine plan_skip rfl ?_ ?_; (focus (rfl)); (try simp only [Act.put, List.setIfInBounds_toArray, List.set_cons_zero, List.set_cons_succ])) | (refine plan_take (v := ?_) rfl ?_ (fun w hSw => ?_) ?_; rotate_left; (focus (rfl)); (focus (unfold RMayS at hSw; (go_simp <;> with_reducible rfl))); (try simp only [Act.put, List.setIfInBounds_toArray, List.set_cons_zero, List.set_cons_succ]))); (try simp only [ge_iff_le, d1, d2]))
      refine plan_done ?_
      go_wp2_with fail
      go_ret
      exact ⟨rfl, HB2.out⟩
  · have d1 : decide (0 ≤ a) = false := by simpa using h1
    have d2 : True := trivial
    have e : mayW C.length ⟨true, a, 0, 0, ⟨#[]⟩, ⟨#[]⟩, ao, cap, []⟩ = false := by simp [mayW, h1]
    clear h1
    rw [e]
    clear e
    have hbx := (Below.refl w.heap.size w).alloc (Nat.le_refl _) (.cells #[.bool true, .int .i64 a, .int .i8 0, .int .i64 0, .string ⟨#[]⟩, .string ⟨#[]⟩, .slice ao 0 cap] 58)
    have hnw := heap_new w (.cells #[.bool true, .int .i64 a, .int .i8 0, .int .i64 0, .string ⟨#[]⟩, .string ⟨#[]⟩, .slice ao 0 cap] 58)
    have hS0 : RMayS p w.heap.size (.slice vo C.length vc) a ao cap (w.alloc (.cells #[.bool true, .int .i64 a, .int .i8 0, .int .i64 0, .string ⟨#[]⟩, .string ⟨#[]⟩, .slice ao 0 cap] 58)) := ⟨keep_cell c1 hbx, (cells_at hnw 1 _ rfl).1, (cells_at hnw 2 _ rfl).1, (cells_at hnw 3 _ rfl).1, (cells_at hnw 4 _ rfl).1, (cells_at hnw 5 _ rfl).1, (cells_at hnw 6 _ rfl).1⟩
    have HB := Lib.hid hbx
    clear hnw hbx
    go_enter Tryd.func41, Tryd.ntmps41
    simp only [Wd.V, List.length_nil]
    go_wp2_with fail
    have hS1 := hS0.keep (Below.refl _ _).drew
    have HB1 := Lib.hid (HB.out.trans ((Below.refl _ _).drew.mono HB.out.size))
    clear hS0 HB
    refine region_plan (RMayS p w.heap.size (.slice vo C.length vc) a ao cap) [(0, 0), (1, 0), (2, 1), (3, 0), (4, 0), (5, 0), (6, 0), (7, 0), (8, 0), (9, 0), (10, 0), (11, 0), (12, 0), (13, 0), (14, 0), (15, 0), (16, 0), (17, 0), (18, 0)] (by kernel_rfl) (by kernel_rfl) (by kernel_rfl) hS1 ?_
    generalize (w.alloc (.cells #[.bool true, .int .i64 a, .int .i8 0, .int .i64 0, .string ⟨#[]⟩, .string ⟨#[]⟩, .slice ao 0 cap] 58)).drew = W1 at *
    iterate 2 (first | (refine plan_skip rfl ?_ ?_; (focus (rfl)); (try simp only [Act.put, List.setIfInBounds_toArray, List.set_cons_zero, List.set_cons_succ])) | (refine plan_take (v := ?_) rfl ?_ (fun w hSw => ?_) ?_; rotate_left; (focus (rfl)); (focus (unfold RMayS at hSw; (go_simp <;> with_reducible rfl))); (try simp only [Act.put, List.setIfInBounds_toArray, List.set_cons_zero, List.set_cons_succ])))
    refine plan_run rfl ?_ (fun K hK => ?_)
    focus (rfl)
    go_simp
    refine (rempty_any _ _ _).mono ?_
    rintro e W2 ⟨rfl, hb2⟩
    have hS2 := hS1.keep hb2
    have HB2 := Lib.hid (HB1.out.trans (hb2.mono HB1.out.size))
    refine hK.out _ _ hS2 ?_
    clear hK K 
    (try simp only [Act.put, List.setIfInBounds_toArray, List.set_cons_zero, List.set_cons_succ])
    iterate 16 ((first | (refine plan_skip rfl ?_ ?_; (focus (rfl)); (try simp only [Act.put, List.setIfInBounds_toArray, List.set_cons_zero, List.set_cons_succ])) | (refine plan_take (v := ?_) rfl ?_ (fun w hSw => ?_) ?_; rotate_left; (focus (rfl)); (focus (unfold RMayS at hSw; (go_simp <;> with_reducible rfl))); (try simp only [Act.put, List.setIfInBounds_toArray, List.set_cons_zero, List.set_cons_succ]))); (try simp only [ge_iff_le, d1, d2]))
    refine plan_done ?_
    go_wp2_with fail
    go_ret
    exact ⟨rfl, HB2.out⟩
set_option maxHeartbeats 4000000 in
theorem rmay_leaf (f : Nat) (w : World) (base p : Nat) (v : Value) (C : List HC) (k n : Int) (s u : ByteArray) (ao : Option Addr) (cap : Nat) (l : List Tm) (hx : WOk f w ⟨false, 0, k, n, s, u, ao, cap, l⟩) :
    Calls Tryd.prog 41 #[.pointer (some ⟨p, 0, none⟩), Wd.V ⟨false, 0, k, n, s, u, ao, cap, l⟩] w (IsPost w (mayW C.length ⟨false, 0, k, n, s, u, ao, cap, l⟩)) := by
  have hb := (Below.refl w.heap.size w).alloc (Nat.le_refl _) (.cells #[.bool false, .int .i64 0, .int .i8 k, .int .i64 n, .string s, .string u, .slice ao l.length cap] 58)
  have hC := rcheck_any f (.mk k n s u l) (.agg #[.int .i8 k, .int .i64 n, .string s, .string u, .slice ao l.length cap]) (w.alloc (.cells #[.bool false, .int .i64 0, .int .i8 k, .int .i64 n, .string s, .string u, .slice ao l.length cap] 58)) ⟨hx.2.1, _, rfl, hx.2.2.keep hb⟩
  rw [check_eq] at hC
  have HCK := Lib.hid hC
  have HP := Lib.hid (fun W => rparts_any W k)
  have HB := Lib.hid hb
  have hnw := heap_new w (.cells #[.bool false, .int .i64 0, .int .i8 k, .int .i64 n, .string s, .string u, .slice ao l.length cap] 58)
  have HN := Lib.hid hnw
  clear hb hC hx hnw
  have e : mayW C.length ⟨false, 0, k, n, s, u, ao, cap, l⟩ = (decide (checkN (.mk k n s u l) = 0) && !partsB k) := by
    show (decide ((0 : Int) = 0) && (!partsB k && decide (checkN (.mk k n s u l) = 0))) = _
    rw [Bool.and_comm (!partsB k)]
    rfl
  rw [e]
  clear e
  have d : (checkN (.mk k n s u l) == 0) = decide (checkN (.mk k n s u l) = 0) := rfl
  generalize checkN (.mk k n s u l) = q at *
  generalize partsB k = pb at *
  by_cases hq : q = 0
  · subst hq
    go_enter Tryd.func41, Tryd.ntmps41
    simp only [Wd.V]
    go_wp2_with fail
    refine HCK.out.mono ?_
    rintro e w2 ⟨rfl, hb2⟩
    have HB2 := Lib.hid (HB.out.trans (hb2.mono HB.out.size))
    have c2 := (cells_at (keep_heap HN.out hb2) 2 _ rfl).1
    clear hb2
    go_wp2_with fail
    refine (HP.out _).mono ?_
    rintro e w' ⟨rfl, rfl⟩
    go_wp2_with fail
    go_ret
    exact ⟨by simp, HB2.out⟩
  · have d1 : (q == 0) = false := by simp [hq]
    have HE : Hid ((decide (q = 0) && !pb) = false) := Lib.hid (by simp [hq])
    clear hq d
    go_enter Tryd.func41, Tryd.ntmps41
    simp only [Wd.V]
    go_wp2_with fail
    refine HCK.out.mono ?_
    rintro e w2 ⟨rfl, hb2⟩
    have HB2 := Lib.hid (HB.out.trans (hb2.mono HB.out.size))
    clear hb2
    go_wp2_with fail
    go_ret
    exact ⟨by rw [HE.out]; rfl, HB2.out⟩
theorem rmay_any (f : Nat) (w : World) (base p : Nat) (v : Value) (C : List HC) (x : Wd) (h : RHp w base p v C) (hx : WOk f w x) (hp : Pure x) : Calls Tryd.prog 41 #[.pointer (some ⟨p, 0, none⟩), x.V] w (IsPost w (mayW C.length x)) := by
  obtain ⟨c, a, k, n, s, u, ao, cap, l⟩ := x
  cases c
  · simp only [Pure, Bool.false_eq_true, if_false] at hp
    subst hp
    exact rmay_leaf f w base p v C k n s u ao cap l hx
  · simp only [Pure, if_true] at hp
    obtain ⟨rfl, rfl, rfl, rfl, rfl⟩ := hp
    exact rmay_cell w base p v C a ao cap h
end Go.Proofs.YtfbohajojaaiaaaDoor
