/- the reference's may, New, State; the program's State of any frame. Conditions: what is handed over reads. -/
import Derived.Test.YthpmdeofdlcccaaGreatDoorMs14
import Derived.Test.YthpmdeofdlcccaaGreatDoorMs12
import Derived.Test.YthpmdeofdlcccaaGreatDoorMs9
namespace Go.Proofs.YthpmdeofdlcccaaGreatDoor
open Go.ChangeShapes Go.WideShapes Go.ChangeAt Go.RowKit
set_option linter.unusedVariables false
set_option linter.unusedSimpArgs false
set_option maxRecDepth 100000
set_option maxHeartbeats 1000000 in
theorem rmay_any (M : Nat → Prop) (w : World) (c : Ch) (E : List TE) (hE : TesOk M w c.ar E) (hm : c.m.size ≤ 9223372036854775807) : Calls Tryz.prog 27 #[.agg c.cells.toArray] w (IsPost w (mayC c E)) := by
  have hb1 := (Below.refl w.heap.size w).alloc (Nat.le_refl _) (.cells c.cells.toArray 28)
  have n1 := heap_new w (.cells c.cells.toArray 28)
  have x5 : (w.alloc (.cells c.cells.toArray 28)).cell? ⟨w.heap.size, 5, none⟩ = some (.int .i8 c.ki) := (cells_at n1 5 _ rfl).1
  have x8 : (w.alloc (.cells c.cells.toArray 28)).cell? ⟨w.heap.size, 8, none⟩ = some (.string c.m) := (cells_at n1 8 _ rfl).1
  have x10 : (w.alloc (.cells c.cells.toArray 28)).cell? ⟨w.heap.size, 10, none⟩ = some (.slice c.ao c.an c.ac) := (cells_at n1 10 _ rfl).1
  have HB := Lib.hid hb1
  have HM := Lib.hid (refmay8 c.m hm (w.alloc (.cells c.cells.toArray 28)))
  have HE1 := Lib.hid (hE.keep hb1)
  have hR : mayC c E = (decide (c.ki = 0) && (mayS c.m && oneOk E)) := rfl
  obtain ⟨ao0, cap0, e0, -⟩ := hE.slice
  have e1 : (.slice c.ao c.an c.ac : Value) = .slice ao0 E.length cap0 := e0
  injection e1 with e1 e2 e3
  have hn : c.an = E.length := e2
  clear hb1 n1 hE hm e0 e1 e2 e3
  generalize mayC c E = res at *
  by_cases hk : c.ki = 0
  · rw [hk] at x5
    cases hms : mayS c.m
    · have HE := Lib.hid (show res = false by rw [hR, hms]; simp)
      rw [hms] at HM
      clear hR hk hn x10 HE1
      go_enter Tryz.func27, Tryz.ntmps27
      go_wp2_with fail
      refine HM.out.mono ?_
      rintro e w2 ⟨rfl, hb2⟩
      have HB2 := Lib.hid (HB.out.trans (hb2.mono HB.out.size))
      clear hb2 HM
      go_wp2_with fail
      go_ret
      exact ⟨by rw [HE.out]; rfl, HB2.out⟩
    · rw [hms] at HM hR
      have hR1 : res = oneOk E := by rw [hR]; simp [hk]
      have HR1 := Lib.hid hR1
      clear hR hk hms hR1
      by_cases hl : c.an = 1
      · obtain ⟨x, rfl⟩ : ∃ x, E = [x] := by
          match E, hn with
          | [], h => rw [hl] at h; cases h
          | [x], _ => exact ⟨x, rfl⟩
          | _ :: _ :: _, h => rw [hl] at h; simp at h
        obtain ⟨b, off, cap, e1, hx, c0, c1, c2, c3, c4⟩ := HE1.out.at (i := 0) rfl
        have e2 : (.slice c.ao c.an c.ac : Value) = .slice (some ⟨b, off, none⟩) 1 cap := e1
        injection e2 with e2 e3 e4
        rw [e2, hl] at x10
        have HR := Lib.hid (show res = decide (checkN x.t = 0) from HR1.out)
        rw [show off + 0 * 5 = off by omega] at c0 c1 c2 c3 c4
        have HX := Lib.hid hx
        clear hn hl e1 e2 e3 e4 HR1 hx
        go_enter Tryz.func27, Tryz.ntmps27
        go_wp2_with fail
        refine HM.out.mono ?_
        rintro e w2 ⟨rfl, hb2⟩
        have HB2 := Lib.hid (HB.out.trans (hb2.mono HB.out.size))
        have x10b := keep_cell x10 hb2
        have d0 := keep_cell c0 hb2
        have d1 := keep_cell c1 hb2
        have d2 := keep_cell c2 hb2
        have d3 := keep_cell c3 hb2
        have d4 := keep_cell c4 hb2
        have HX2 := Lib.hid (rcheck_any _ _ _ _ (HX.out.keep hb2).tv.choose_spec)
        rw [check_eq] at HX2
        clear hb2 HM x10 x5 x8 c0 c1 c2 c3 c4 HX HE1
        have d4 : w2.cell? ⟨b, off + 4, none⟩ = some (.slice x.ao x.l.length x.cap) := d4
        go_wp2_with fail
        generalize checkN x.t = n at *
        refine HX2.out.mono ?_
        rintro e w3 ⟨rfl, hb3⟩
        have HB3 := Lib.hid (HB2.out.trans (hb3.mono HB2.out.size))
        clear hb3 HX2
        go_wp2_with fail
        go_ret
        exact ⟨by rw [HR.out]; by_cases h : n = 0 <;> simp [h], HB3.out⟩
      · have q1 : ((c.an : Int) == 1) = false := by simp; omega
        have HE := Lib.hid (show res = false by
          rw [HR1.out]
          match E, hn with
          | [], _ => rfl
          | [x], h => exact absurd h hl
          | _ :: _ :: _, _ => rfl)
        clear hn hl HR1 HE1
        go_enter Tryz.func27, Tryz.ntmps27
        go_wp2_with fail
        refine HM.out.mono ?_
        rintro e w2 ⟨rfl, hb2⟩
        have HB2 := Lib.hid (HB.out.trans (hb2.mono HB.out.size))
        have x10b := keep_cell x10 hb2
        clear hb2 HM x10 x5 x8
        go_wp2_with fail
        go_ret
        exact ⟨by rw [HE.out]; rfl, HB2.out⟩
  · have q1 : (c.ki == 0) = false := by simp [hk]
    have HE := Lib.hid (show res = false by rw [hR]; simp [hk])
    clear hk hR hn x10 x8 HM HE1
    go_enter Tryz.func27, Tryz.ntmps27
    go_wp2_with fail
    go_ret
    exact ⟨by rw [HE.out]; rfl, HB.out⟩
/-- does a frame tell a state? -/
def st2B (a : Fa) (m : Mm) : Bool := decide (a.k = 2) && (decide (2 ≤ m.ph) && decide (m.ph ≤ 6))
def st2T (a : Fa) (m : Mm) : TE := if st2B a m then m.V else numT 0 0
def S2P (w : World) (a : Fa) (m : Mm) (e : Ending) (w' : World) : Prop := e = .returned (.tuple #[.agg (st2T a m).cells.toArray, .bool (st2B a m)]) ∧ Below w.heap.size w w'
set_option maxHeartbeats 8000000 in
theorem state2_any (w : World) (a : Fa) (m : Mm) : Calls Tryz.prog 10 #[.agg (flL a m).toArray] w (S2P w a m) := by
  have hb1 := ((Below.refl w.heap.size w).alloc (Nat.le_refl _) (.cells (flL a m).toArray 39)).alloc (by simp) (.cells zT 25)
  have z1 := heap_old (heap_new w (.cells (flL a m).toArray 39)) (.cells zT 25)
  have z2 := heap_new (w.alloc (.cells (flL a m).toArray 39)) (.cells zT 25)
  rw [World.size_alloc] at z2
  have HB := Lib.hid (And.intro hb1 (And.intro z1 z2))
  have c0 : ((w.alloc (.cells (flL a m).toArray 39)).alloc (.cells zT 25)).cell? ⟨w.heap.size, 0, none⟩ = some (.int .i8 a.k) := (cells_at z1 0 _ rfl).1
  have c8 : ((w.alloc (.cells (flL a m).toArray 39)).alloc (.cells zT 25)).cell? ⟨w.heap.size, 8, none⟩ = some (.int .i8 m.ph) := (cells_at z1 8 _ rfl).1
  have v0 : ((w.alloc (.cells (flL a m).toArray 39)).alloc (.cells zT 25)).cell? ⟨w.heap.size, 23, none⟩ = some (.int .i8 m.V.k) := (cells_at z1 23 _ rfl).1
  have v1 : ((w.alloc (.cells (flL a m).toArray 39)).alloc (.cells zT 25)).cell? ⟨w.heap.size, 24, none⟩ = some (.int .i64 m.V.n) := (cells_at z1 24 _ rfl).1
  have v2 : ((w.alloc (.cells (flL a m).toArray 39)).alloc (.cells zT 25)).cell? ⟨w.heap.size, 25, none⟩ = some (.string m.V.s) := (cells_at z1 25 _ rfl).1
  have v3 : ((w.alloc (.cells (flL a m).toArray 39)).alloc (.cells zT 25)).cell? ⟨w.heap.size, 26, none⟩ = some (.string m.V.u) := (cells_at z1 26 _ rfl).1
  have v4 : ((w.alloc (.cells (flL a m).toArray 39)).alloc (.cells zT 25)).cell? ⟨w.heap.size, 27, none⟩ = some (.slice m.V.ao m.V.l.length m.V.cap) := (cells_at z1 27 _ rfl).1
  obtain ⟨t0, t1, t2, t3, t4⟩ := BxS.of (x := numT 0 0) z2
  clear hb1 z1 z2
  go_enter Tryz.func10, Tryz.ntmps10
  by_cases hk : a.k = 2
  · rw [hk] at c0
    by_cases h2 : m.ph < 2
    · have HE := Lib.hid (show st2B a m = false by simp [st2B, hk]; omega)
      have q1 : decide (m.ph < 2) = true := by simp [h2]
      clear h2
      go_wp2_with (with_reducible refine stop_op (o := ⟨_, .store 25 (.tmp 2) (.tmp 19), _, _, _, _⟩) ?_)
      refine Lib.hid ?_
      generalize (w.alloc (.cells (flL a m).toArray 39)).alloc (.cells zT 25) = W1 at *
      refine wpList_store_row (o := ⟨none, _, _, _, _, _⟩) rfl 25 (.tmp 2) (.tmp 19) rfl (w.heap.size + 1) zT rfl rfl 25 zT HB.out.2.2 (infoTM' _ rfl) rfl (by simp [Value.oneCell', numT]) ?_
      have hcF := chg_setRow W1 (w.heap.size + 1) zT
      have HQ := Lib.hid (And.intro (setRow_heap W1 (w.heap.size + 1) _ zT 25 (0, 0) HB.out.2.2) (HB.out.1.trans (hcF.below HB.out.1.size fun k hk => by have hk : k = w.heap.size + 1 := hk; omega)))
      clear hcF HB
      generalize W1.setRow (w.heap.size + 1) zT = W2 at *
      go_wp2_with fail
      refine ret_row HQ.out.1 rfl Tryz.underlying25 rfl (infoTM' _ rfl) rfl rfl ⟨?_, HQ.out.2⟩
      unfold st2T
      rw [HE.out]
      rfl
    · by_cases h6 : 6 < m.ph
      · have HE := Lib.hid (show st2B a m = false by simp [st2B, hk]; omega)
        have q1 : decide (m.ph < 2) = false := by simp [h2]
        have q2 : decide (6 < m.ph) = true := by simp [h6]
        clear h2 h6
        go_wp2_with (with_reducible refine stop_op (o := ⟨_, .store 25 (.tmp 2) (.tmp 19), _, _, _, _⟩) ?_)
        refine Lib.hid ?_
        generalize (w.alloc (.cells (flL a m).toArray 39)).alloc (.cells zT 25) = W1 at *
        refine wpList_store_row (o := ⟨none, _, _, _, _, _⟩) rfl 25 (.tmp 2) (.tmp 19) rfl (w.heap.size + 1) zT rfl rfl 25 zT HB.out.2.2 (infoTM' _ rfl) rfl (by simp [Value.oneCell', numT]) ?_
        have hcF := chg_setRow W1 (w.heap.size + 1) zT
        have HQ := Lib.hid (And.intro (setRow_heap W1 (w.heap.size + 1) _ zT 25 (0, 0) HB.out.2.2) (HB.out.1.trans (hcF.below HB.out.1.size fun k hk => by have hk : k = w.heap.size + 1 := hk; omega)))
        clear hcF HB
        generalize W1.setRow (w.heap.size + 1) zT = W2 at *
        go_wp2_with fail
        refine ret_row HQ.out.1 rfl Tryz.underlying25 rfl (infoTM' _ rfl) rfl rfl ⟨?_, HQ.out.2⟩
        unfold st2T
        rw [HE.out]
        rfl
      · have HE := Lib.hid (show st2B a m = true by simp [st2B, hk]; omega)
        have q1 : decide (m.ph < 2) = false := by simp [h2]
        have q2 : decide (6 < m.ph) = false := by simp [h6]
        clear h2 h6
        go_wp2_with (with_reducible refine stop_op (o := ⟨_, .store 25 (.tmp 2) (.tmp 22), _, _, _, _⟩) ?_)
        refine Lib.hid ?_
        generalize (w.alloc (.cells (flL a m).toArray 39)).alloc (.cells zT 25) = W1 at *
        refine wpList_store_row (o := ⟨none, _, _, _, _, _⟩) rfl 25 (.tmp 2) (.tmp 22) rfl (w.heap.size + 1) #[.int .i8 m.V.k, .int .i64 m.V.n, .string m.V.s, .string m.V.u, .slice m.V.ao m.V.l.length m.V.cap] rfl rfl 25 zT HB.out.2.2 (infoTM' _ rfl) rfl (by simp [Value.oneCell', numT]) ?_
        have hcF := chg_setRow W1 (w.heap.size + 1) #[.int .i8 m.V.k, .int .i64 m.V.n, .string m.V.s, .string m.V.u, .slice m.V.ao m.V.l.length m.V.cap]
        have HQ := Lib.hid (And.intro (setRow_heap W1 (w.heap.size + 1) _ #[.int .i8 m.V.k, .int .i64 m.V.n, .string m.V.s, .string m.V.u, .slice m.V.ao m.V.l.length m.V.cap] 25 (0, 0) HB.out.2.2) (HB.out.1.trans (hcF.below HB.out.1.size fun k hk => by have hk : k = w.heap.size + 1 := hk; omega)))
        clear hcF HB
        generalize W1.setRow (w.heap.size + 1) #[.int .i8 m.V.k, .int .i64 m.V.n, .string m.V.s, .string m.V.u, .slice m.V.ao m.V.l.length m.V.cap] = W2 at *
        go_wp2_with fail
        refine ret_row HQ.out.1 rfl Tryz.underlying25 rfl (infoTM' _ rfl) rfl rfl ⟨?_, HQ.out.2⟩
        unfold st2T
        rw [HE.out]
        rfl
  · have HE := Lib.hid (show st2B a m = false by simp [st2B, hk])
    have q0 : (a.k != 2) = true := by simp [hk]
    clear hk
    go_wp2_with (with_reducible refine stop_op (o := ⟨_, .store 25 (.tmp 2) (.tmp 19), _, _, _, _⟩) ?_)
    refine Lib.hid ?_
    generalize (w.alloc (.cells (flL a m).toArray 39)).alloc (.cells zT 25) = W1 at *
    refine wpList_store_row (o := ⟨none, _, _, _, _, _⟩) rfl 25 (.tmp 2) (.tmp 19) rfl (w.heap.size + 1) zT rfl rfl 25 zT HB.out.2.2 (infoTM' _ rfl) rfl (by simp [Value.oneCell', numT]) ?_
    have hcF := chg_setRow W1 (w.heap.size + 1) zT
    have HQ := Lib.hid (And.intro (setRow_heap W1 (w.heap.size + 1) _ zT 25 (0, 0) HB.out.2.2) (HB.out.1.trans (hcF.below HB.out.1.size fun k hk => by have hk : k = w.heap.size + 1 := hk; omega)))
    clear hcF HB
    generalize W1.setRow (w.heap.size + 1) zT = W2 at *
    go_wp2_with fail
    refine ret_row HQ.out.1 rfl Tryz.underlying25 rfl (infoTM' _ rfl) rfl rfl ⟨?_, HQ.out.2⟩
    unfold st2T
    rw [HE.out]
    rfl
set_option maxHeartbeats 8000000 in
theorem rstate_any (w : World) (a : Fa) (m : Mm) : Calls Tryz.prog 11 #[.agg (flL a m).toArray] w (S2P w a m) := by
  have hb1 := ((Below.refl w.heap.size w).alloc (Nat.le_refl _) (.cells (flL a m).toArray 39)).alloc (by simp) (.cells zT 25)
  have z1 := heap_old (heap_new w (.cells (flL a m).toArray 39)) (.cells zT 25)
  have z2 := heap_new (w.alloc (.cells (flL a m).toArray 39)) (.cells zT 25)
  rw [World.size_alloc] at z2
  have HB := Lib.hid (And.intro hb1 (And.intro z1 z2))
  have c0 : ((w.alloc (.cells (flL a m).toArray 39)).alloc (.cells zT 25)).cell? ⟨w.heap.size, 0, none⟩ = some (.int .i8 a.k) := (cells_at z1 0 _ rfl).1
  have c8 : ((w.alloc (.cells (flL a m).toArray 39)).alloc (.cells zT 25)).cell? ⟨w.heap.size, 8, none⟩ = some (.int .i8 m.ph) := (cells_at z1 8 _ rfl).1
  have v0 : ((w.alloc (.cells (flL a m).toArray 39)).alloc (.cells zT 25)).cell? ⟨w.heap.size, 23, none⟩ = some (.int .i8 m.V.k) := (cells_at z1 23 _ rfl).1
  have v1 : ((w.alloc (.cells (flL a m).toArray 39)).alloc (.cells zT 25)).cell? ⟨w.heap.size, 24, none⟩ = some (.int .i64 m.V.n) := (cells_at z1 24 _ rfl).1
  have v2 : ((w.alloc (.cells (flL a m).toArray 39)).alloc (.cells zT 25)).cell? ⟨w.heap.size, 25, none⟩ = some (.string m.V.s) := (cells_at z1 25 _ rfl).1
  have v3 : ((w.alloc (.cells (flL a m).toArray 39)).alloc (.cells zT 25)).cell? ⟨w.heap.size, 26, none⟩ = some (.string m.V.u) := (cells_at z1 26 _ rfl).1
  have v4 : ((w.alloc (.cells (flL a m).toArray 39)).alloc (.cells zT 25)).cell? ⟨w.heap.size, 27, none⟩ = some (.slice m.V.ao m.V.l.length m.V.cap) := (cells_at z1 27 _ rfl).1
  obtain ⟨t0, t1, t2, t3, t4⟩ := BxS.of (x := numT 0 0) z2
  clear hb1 z1 z2
  go_enter Tryz.func11, Tryz.ntmps11
  by_cases hk : a.k = 2
  · rw [hk] at c0
    by_cases h2 : m.ph < 2
    · have HE := Lib.hid (show st2B a m = false by simp [st2B, hk]; omega)
      have q1 : decide (m.ph < 2) = true := by simp [h2]
      clear h2
      go_wp2_with (with_reducible refine stop_op (o := ⟨_, .store 25 (.tmp 2) (.tmp 19), _, _, _, _⟩) ?_)
      refine Lib.hid ?_
      generalize (w.alloc (.cells (flL a m).toArray 39)).alloc (.cells zT 25) = W1 at *
      refine wpList_store_row (o := ⟨none, _, _, _, _, _⟩) rfl 25 (.tmp 2) (.tmp 19) rfl (w.heap.size + 1) zT rfl rfl 25 zT HB.out.2.2 (infoTM' _ rfl) rfl (by simp [Value.oneCell', numT]) ?_
      have hcF := chg_setRow W1 (w.heap.size + 1) zT
      have HQ := Lib.hid (And.intro (setRow_heap W1 (w.heap.size + 1) _ zT 25 (0, 0) HB.out.2.2) (HB.out.1.trans (hcF.below HB.out.1.size fun k hk => by have hk : k = w.heap.size + 1 := hk; omega)))
      clear hcF HB
      generalize W1.setRow (w.heap.size + 1) zT = W2 at *
      go_wp2_with fail
      refine ret_row HQ.out.1 rfl Tryz.underlying25 rfl (infoTM' _ rfl) rfl rfl ⟨?_, HQ.out.2⟩
      unfold st2T
      rw [HE.out]
      rfl
    · by_cases h6 : 6 < m.ph
      · have HE := Lib.hid (show st2B a m = false by simp [st2B, hk]; omega)
        have q1 : decide (m.ph < 2) = false := by simp [h2]
        have q2 : decide (6 < m.ph) = true := by simp [h6]
        clear h2 h6
        go_wp2_with (with_reducible refine stop_op (o := ⟨_, .store 25 (.tmp 2) (.tmp 19), _, _, _, _⟩) ?_)
        refine Lib.hid ?_
        generalize (w.alloc (.cells (flL a m).toArray 39)).alloc (.cells zT 25) = W1 at *
        refine wpList_store_row (o := ⟨none, _, _, _, _, _⟩) rfl 25 (.tmp 2) (.tmp 19) rfl (w.heap.size + 1) zT rfl rfl 25 zT HB.out.2.2 (infoTM' _ rfl) rfl (by simp [Value.oneCell', numT]) ?_
        have hcF := chg_setRow W1 (w.heap.size + 1) zT
        have HQ := Lib.hid (And.intro (setRow_heap W1 (w.heap.size + 1) _ zT 25 (0, 0) HB.out.2.2) (HB.out.1.trans (hcF.below HB.out.1.size fun k hk => by have hk : k = w.heap.size + 1 := hk; omega)))
        clear hcF HB
        generalize W1.setRow (w.heap.size + 1) zT = W2 at *
        go_wp2_with fail
        refine ret_row HQ.out.1 rfl Tryz.underlying25 rfl (infoTM' _ rfl) rfl rfl ⟨?_, HQ.out.2⟩
        unfold st2T
        rw [HE.out]
        rfl
      · have HE := Lib.hid (show st2B a m = true by simp [st2B, hk]; omega)
        have q1 : decide (m.ph < 2) = false := by simp [h2]
        have q2 : decide (6 < m.ph) = false := by simp [h6]
        clear h2 h6
        go_wp2_with (with_reducible refine stop_op (o := ⟨_, .store 25 (.tmp 2) (.tmp 22), _, _, _, _⟩) ?_)
        refine Lib.hid ?_
        generalize (w.alloc (.cells (flL a m).toArray 39)).alloc (.cells zT 25) = W1 at *
        refine wpList_store_row (o := ⟨none, _, _, _, _, _⟩) rfl 25 (.tmp 2) (.tmp 22) rfl (w.heap.size + 1) #[.int .i8 m.V.k, .int .i64 m.V.n, .string m.V.s, .string m.V.u, .slice m.V.ao m.V.l.length m.V.cap] rfl rfl 25 zT HB.out.2.2 (infoTM' _ rfl) rfl (by simp [Value.oneCell', numT]) ?_
        have hcF := chg_setRow W1 (w.heap.size + 1) #[.int .i8 m.V.k, .int .i64 m.V.n, .string m.V.s, .string m.V.u, .slice m.V.ao m.V.l.length m.V.cap]
        have HQ := Lib.hid (And.intro (setRow_heap W1 (w.heap.size + 1) _ #[.int .i8 m.V.k, .int .i64 m.V.n, .string m.V.s, .string m.V.u, .slice m.V.ao m.V.l.length m.V.cap] 25 (0, 0) HB.out.2.2) (HB.out.1.trans (hcF.below HB.out.1.size fun k hk => by have hk : k = w.heap.size + 1 := hk; omega)))
        clear hcF HB
        generalize W1.setRow (w.heap.size + 1) #[.int .i8 m.V.k, .int .i64 m.V.n, .string m.V.s, .string m.V.u, .slice m.V.ao m.V.l.length m.V.cap] = W2 at *
        go_wp2_with fail
        refine ret_row HQ.out.1 rfl Tryz.underlying25 rfl (infoTM' _ rfl) rfl rfl ⟨?_, HQ.out.2⟩
        unfold st2T
        rw [HE.out]
        rfl
  · have HE := Lib.hid (show st2B a m = false by simp [st2B, hk])
    have q0 : (a.k != 2) = true := by simp [hk]
    clear hk
    go_wp2_with (with_reducible refine stop_op (o := ⟨_, .store 25 (.tmp 2) (.tmp 19), _, _, _, _⟩) ?_)
    refine Lib.hid ?_
    generalize (w.alloc (.cells (flL a m).toArray 39)).alloc (.cells zT 25) = W1 at *
    refine wpList_store_row (o := ⟨none, _, _, _, _, _⟩) rfl 25 (.tmp 2) (.tmp 19) rfl (w.heap.size + 1) zT rfl rfl 25 zT HB.out.2.2 (infoTM' _ rfl) rfl (by simp [Value.oneCell', numT]) ?_
    have hcF := chg_setRow W1 (w.heap.size + 1) zT
    have HQ := Lib.hid (And.intro (setRow_heap W1 (w.heap.size + 1) _ zT 25 (0, 0) HB.out.2.2) (HB.out.1.trans (hcF.below HB.out.1.size fun k hk => by have hk : k = w.heap.size + 1 := hk; omega)))
    clear hcF HB
    generalize W1.setRow (w.heap.size + 1) zT = W2 at *
    go_wp2_with fail
    refine ret_row HQ.out.1 rfl Tryz.underlying25 rfl (infoTM' _ rfl) rfl rfl ⟨?_, HQ.out.2⟩
    unfold st2T
    rw [HE.out]
    rfl
set_option maxHeartbeats 8000000 in
theorem rnew_any (M : Nat → Prop) (w : World) (hM : ∀ k, M k → k < w.heap.size) (c : Ch) (EA : List TE) (hE : TesOk M w c.ar EA) (hm : c.m.size ≤ 9223372036854775807) (pid : Int) :
    Calls Tryz.prog 9 #[.agg #[.int .i8 c.id.k, .int .i64 c.id.n, .string c.id.s, .string c.id.u, .slice c.id.ao c.id.l.length c.id.cap, .int .i8 c.ki, .int .i8 c.re, .int .i64 c.sh, .string c.m, .string c.f, .slice c.ao c.an c.ac, .slice c.so c.sn c.sc], .int .i64 pid] w (NwP M w c EA pid) := by
  have hb1 := ((Below.refl w.heap.size w).alloc (Nat.le_refl _) (.cells #[.int .i8 c.id.k, .int .i64 c.id.n, .string c.id.s, .string c.id.u, .slice c.id.ao c.id.l.length c.id.cap, .int .i8 c.ki, .int .i8 c.re, .int .i64 c.sh, .string c.m, .string c.f, .slice c.ao c.an c.ac, .slice c.so c.sn c.sc] 28)).alloc (by simp) (.cells #[.int .i8 0, .int .i64 0, .int .i64 0, .slice none 0 0, .slice none 0 0, .slice none 0 0, .slice none 0 0, .int .i64 0, .int .i8 0, .int .i64 0, .int .i64 0, .int .i64 0, .int .i64 0, .int .i8 0, .int .i64 0, .string ⟨#[]⟩, .string ⟨#[]⟩, .slice none 0 0, .int .i8 0, .int .i64 0, .string ⟨#[]⟩, .string ⟨#[]⟩, .slice none 0 0, .int .i8 0, .int .i64 0, .string ⟨#[]⟩, .string ⟨#[]⟩, .slice none 0 0, .slice none 0 0, .int .i8 0, .int .i64 0, .int .i64 0, .slice none 0 0, .slice none 0 0, .slice none 0 0] 39)
  have z1 := heap_old (heap_new w (.cells #[.int .i8 c.id.k, .int .i64 c.id.n, .string c.id.s, .string c.id.u, .slice c.id.ao c.id.l.length c.id.cap, .int .i8 c.ki, .int .i8 c.re, .int .i64 c.sh, .string c.m, .string c.f, .slice c.ao c.an c.ac, .slice c.so c.sn c.sc] 28)) (.cells #[.int .i8 0, .int .i64 0, .int .i64 0, .slice none 0 0, .slice none 0 0, .slice none 0 0, .slice none 0 0, .int .i64 0, .int .i8 0, .int .i64 0, .int .i64 0, .int .i64 0, .int .i64 0, .int .i8 0, .int .i64 0, .string ⟨#[]⟩, .string ⟨#[]⟩, .slice none 0 0, .int .i8 0, .int .i64 0, .string ⟨#[]⟩, .string ⟨#[]⟩, .slice none 0 0, .int .i8 0, .int .i64 0, .string ⟨#[]⟩, .string ⟨#[]⟩, .slice none 0 0, .slice none 0 0, .int .i8 0, .int .i64 0, .int .i64 0, .slice none 0 0, .slice none 0 0, .slice none 0 0] 39)
  have z2 := heap_new (w.alloc (.cells #[.int .i8 c.id.k, .int .i64 c.id.n, .string c.id.s, .string c.id.u, .slice c.id.ao c.id.l.length c.id.cap, .int .i8 c.ki, .int .i8 c.re, .int .i64 c.sh, .string c.m, .string c.f, .slice c.ao c.an c.ac, .slice c.so c.sn c.sc] 28)) (.cells #[.int .i8 0, .int .i64 0, .int .i64 0, .slice none 0 0, .slice none 0 0, .slice none 0 0, .slice none 0 0, .int .i64 0, .int .i8 0, .int .i64 0, .int .i64 0, .int .i64 0, .int .i64 0, .int .i8 0, .int .i64 0, .string ⟨#[]⟩, .string ⟨#[]⟩, .slice none 0 0, .int .i8 0, .int .i64 0, .string ⟨#[]⟩, .string ⟨#[]⟩, .slice none 0 0, .int .i8 0, .int .i64 0, .string ⟨#[]⟩, .string ⟨#[]⟩, .slice none 0 0, .slice none 0 0, .int .i8 0, .int .i64 0, .int .i64 0, .slice none 0 0, .slice none 0 0, .slice none 0 0] 39)
  rw [World.size_alloc] at z2
  have HB := Lib.hid (And.intro hb1 (And.intro z2 z1))
  have HX := Lib.hid (And.intro hM (And.intro hE hm))
  clear hb1 z1 z2 hM hE hm
  go_enter Tryz.func9, Tryz.ntmps9
  go_wp2_with (with_reducible refine stop_op (o := ⟨_, .load 28 (.tmp 2), _, _, _, _⟩) ?_)
  refine Lib.hid ?_
  generalize (w.alloc (.cells #[.int .i8 c.id.k, .int .i64 c.id.n, .string c.id.s, .string c.id.u, .slice c.id.ao c.id.l.length c.id.cap, .int .i8 c.ki, .int .i8 c.re, .int .i64 c.sh, .string c.m, .string c.f, .slice c.ao c.an c.ac, .slice c.so c.sn c.sc] 28)).alloc (.cells #[.int .i8 0, .int .i64 0, .int .i64 0, .slice none 0 0, .slice none 0 0, .slice none 0 0, .slice none 0 0, .int .i64 0, .int .i8 0, .int .i64 0, .int .i64 0, .int .i64 0, .int .i64 0, .int .i8 0, .int .i64 0, .string ⟨#[]⟩, .string ⟨#[]⟩, .slice none 0 0, .int .i8 0, .int .i64 0, .string ⟨#[]⟩, .string ⟨#[]⟩, .slice none 0 0, .int .i8 0, .int .i64 0, .string ⟨#[]⟩, .string ⟨#[]⟩, .slice none 0 0, .slice none 0 0, .int .i8 0, .int .i64 0, .int .i64 0, .slice none 0 0, .slice none 0 0, .slice none 0 0] 39) = W1 at *
  refine wpList_load_row (o := ⟨_, _, _, _, _, _⟩) rfl 28 (.tmp 2) rfl w.heap.size rfl 28 #[.int .i8 c.id.k, .int .i64 c.id.n, .string c.id.s, .string c.id.u, .slice c.id.ao c.id.l.length c.id.cap, .int .i8 c.ki, .int .i8 c.re, .int .i64 c.sh, .string c.m, .string c.f, .slice c.ao c.an c.ac, .slice c.so c.sn c.sc] (0, 0) _ HB.out.2.2 Tryz.underlying28 rfl (infoCH rfl) ?_
  have HC := Lib.hid (rmay_any M W1 c EA (HX.out.2.1.keep HB.out.1) HX.out.2.2)
  change Hid (Calls Tryz.prog 27 #[.agg #[.int .i8 c.id.k, .int .i64 c.id.n, .string c.id.s, .string c.id.u, .slice c.id.ao c.id.l.length c.id.cap, .int .i8 c.ki, .int .i8 c.re, .int .i64 c.sh, .string c.m, .string c.f, .slice c.ao c.an c.ac, .slice c.so c.sn c.sc]] W1 (IsPost W1 (mayC c EA))) at HC
  go_wp2_with fail
  refine HC.out.mono ?_
  clear HC
  rintro e W2 ⟨rfl, hb2⟩
  have H2 := Lib.hid (And.intro (HB.out.1.trans (hb2.mono HB.out.1.size)) (And.intro (keep_heap HB.out.2.1 hb2) (keep_heap HB.out.2.2 hb2)))
  clear hb2 HB
  cases hmay : mayC c EA
  · have HW := Lib.hid (Or.inl (b := pid < 0) hmay)
    clear hmay
    go_wp2_with (with_reducible refine stop_op (o := ⟨_, .store 39 (.tmp 4) (.tmp 13), _, _, _, _⟩) ?_)
    refine Lib.hid ?_
    refine wpList_store_row (o := ⟨none, _, _, _, _, _⟩) rfl 39 (.tmp 4) (.tmp 13) rfl (w.heap.size + 1) frZ.toArray rfl rfl 39 frZ.toArray H2.out.2.1 (infoFR rfl) rfl (all_oneCell_toArray frZ_one) ?_
    have hcF := chg_setRow W2 (w.heap.size + 1) frZ.toArray
    have HQ := Lib.hid (And.intro (setRow_heap W2 (w.heap.size + 1) _ frZ.toArray 39 (0, 0) H2.out.2.1) (H2.out.1.trans (hcF.below H2.out.1.size fun k hk => by have hk : k = w.heap.size + 1 := hk; omega)))
    clear hcF H2
    generalize W2.setRow (w.heap.size + 1) frZ.toArray = W3 at *
    go_wp2_with fail
    exact ret_row HQ.out.1 rfl Tryz.underlying39 rfl (infoFR rfl) rfl rfl ⟨HQ.out.2, .inr ⟨HW.out, rfl⟩⟩
  · by_cases hp : pid < 0
    · have HW := Lib.hid (Or.inr (a := mayC c EA = false) hp)
      have q1 : decide (pid < 0) = true := by simp [hp]
      clear hmay
      go_wp2_with (with_reducible refine stop_op (o := ⟨_, .store 39 (.tmp 4) (.tmp 13), _, _, _, _⟩) ?_)
      refine Lib.hid ?_
      refine wpList_store_row (o := ⟨none, _, _, _, _, _⟩) rfl 39 (.tmp 4) (.tmp 13) rfl (w.heap.size + 1) frZ.toArray rfl rfl 39 frZ.toArray H2.out.2.1 (infoFR rfl) rfl (all_oneCell_toArray frZ_one) ?_
      have hcF := chg_setRow W2 (w.heap.size + 1) frZ.toArray
      have HQ := Lib.hid (And.intro (setRow_heap W2 (w.heap.size + 1) _ frZ.toArray 39 (0, 0) H2.out.2.1) (H2.out.1.trans (hcF.below H2.out.1.size fun k hk => by have hk : k = w.heap.size + 1 := hk; omega)))
      clear hcF H2
      generalize W2.setRow (w.heap.size + 1) frZ.toArray = W3 at *
      go_wp2_with fail
      exact ret_row HQ.out.1 rfl Tryz.underlying39 rfl (infoFR rfl) rfl rfl ⟨HQ.out.2, .inr ⟨HW.out, rfl⟩⟩
    · have HW := Lib.hid (And.intro hmay (Int.not_lt.1 hp))
      have q1 : decide (pid < 0) = false := by simp [hp]
      clear hmay hp
      go_wp2_with (with_reducible refine stop_op (o := ⟨_, .load 28 (.tmp 2), _, _, _, _⟩) ?_)
      refine Lib.hid ?_
      refine wpList_load_row (o := ⟨_, _, _, _, _, _⟩) rfl 28 (.tmp 2) rfl w.heap.size rfl 28 #[.int .i8 c.id.k, .int .i64 c.id.n, .string c.id.s, .string c.id.u, .slice c.id.ao c.id.l.length c.id.cap, .int .i8 c.ki, .int .i8 c.re, .int .i64 c.sh, .string c.m, .string c.f, .slice c.ao c.an c.ac, .slice c.so c.sn c.sc] (0, 0) _ H2.out.2.2 Tryz.underlying28 rfl (infoCH rfl) ?_
      have hb3 := (Below.refl W2.heap.size W2).alloc (Nat.le_refl _) (.cells #[.int .i8 c.id.k, .int .i64 c.id.n, .string c.id.s, .string c.id.u, .slice c.id.ao c.id.l.length c.id.cap, .int .i8 c.ki, .int .i8 c.re, .int .i64 c.sh, .string c.m, .string c.f, .slice c.ao c.an c.ac, .slice c.so c.sn c.sc, .int .i64 0] 64)
      have H3 := Lib.hid (And.intro (H2.out.1.trans (hb3.mono H2.out.1.size)) (And.intro (keep_heap H2.out.2.1 hb3) (And.intro (heap_new W2 (.cells #[.int .i8 c.id.k, .int .i64 c.id.n, .string c.id.s, .string c.id.u, .slice c.id.ao c.id.l.length c.id.cap, .int .i8 c.ki, .int .i8 c.re, .int .i64 c.sh, .string c.m, .string c.f, .slice c.ao c.an c.ac, .slice c.so c.sn c.sc, .int .i64 0] 64)) (heap_lt H2.out.2.1))))
      clear hb3 H2
      go_wp2_with (with_reducible refine stop_op (o := ⟨_, .store 39 (.tmp 4) (.tmp 19), _, _, _, _⟩) ?_)
      refine Lib.hid ?_
      generalize W2.alloc (.cells #[.int .i8 c.id.k, .int .i64 c.id.n, .string c.id.s, .string c.id.u, .slice c.id.ao c.id.l.length c.id.cap, .int .i8 c.ki, .int .i8 c.re, .int .i64 c.sh, .string c.m, .string c.f, .slice c.ao c.an c.ac, .slice c.so c.sn c.sc, .int .i64 0] 64) = W3 at *
      generalize W2.heap.size = rb at *
      refine wpList_store_row (o := ⟨none, _, _, _, _, _⟩) rfl 39 (.tmp 4) (.tmp 19) rfl (w.heap.size + 1) (frL (mc0 pid rb)).toArray rfl rfl 39 frZ.toArray H3.out.2.1 (infoFR rfl) rfl (all_oneCell_toArray (frL_one _)) ?_
      have hcF := chg_setRow W3 (w.heap.size + 1) (frL (mc0 pid rb)).toArray
      have hbF := H3.out.1.trans (hcF.below H3.out.1.size fun k hk => by have hk : k = w.heap.size + 1 := hk; omega)
      have HQ := Lib.hid (setRow_heap W3 (w.heap.size + 1) _ (frL (mc0 pid rb)).toArray 39 (0, 0) H3.out.2.1)
      have hlt := H3.out.2.2.2
      have hMK : McOk M (W3.setRow (w.heap.size + 1) (frL (mc0 pid rb)).toArray) (mc0 pid rb) c EA := ⟨by simp [mc0], numT_ok _ _ _ _ (by omega) (by omega), numT_ok _ _ _ _ (by omega) (by omega), numT_ok _ _ _ _ (by omega) (by omega), hcF.heap H3.out.2.2.1 (by show ¬ rb = w.heap.size + 1; omega), (fun hm => by have := HX.out.1 _ hm; have hm : rb < w.heap.size := this; omega), HX.out.2.1.keep hbF, HX.out.2.2⟩
      have HP : Hid (NwP M w c EA pid (.returned (.tuple #[.agg (frL (mc0 pid rb)).toArray, .int .i64 0])) (W3.setRow (w.heap.size + 1) (frL (mc0 pid rb)).toArray)) := Lib.hid ⟨hbF, .inl ⟨HW.out.1, HW.out.2, rb, rfl, by omega, hMK⟩⟩
      clear hcF hbF hMK H3 hlt
      generalize W3.setRow (w.heap.size + 1) (frL (mc0 pid rb)).toArray = W7 at *
      go_wp2_with fail
      exact ret_row HQ.out rfl Tryz.underlying39 rfl (infoFR rfl) rfl rfl HP.out
end Go.Proofs.YthpmdeofdlcccaaGreatDoor
