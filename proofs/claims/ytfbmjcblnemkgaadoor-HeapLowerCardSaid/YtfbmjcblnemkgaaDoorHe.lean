/- heap: Cell. Conditions: what comes reads. -/
import Derived.Test.YtfbmjcblnemkgaaDoorHc
namespace Go.Proofs.YtfbmjcblnemkgaaDoor
open Go.ChangeShapes Go.WideShapes Go.ChangeAt Go.RowKit
set_option linter.unusedVariables false
theorem infoCL (cs : Array Value) (h : cs.size = 3) : (Tryd.prog.info? 46).map (·.size) = some cs.size := by
  rw [h]
  kernel_rfl
theorem own_wrow {w : World} {base : Nat} {v : Value} {L : List Wd} (h : w.ownsRow base 33 7 v L.length (wcs L)) : ∃ ao cap, v = .slice ao L.length cap ∧ L.length ≤ cap ∧ cap ≤ 9223372036854775807 ∧ WRow w ao L ∧ (ao = none → L = [] ∧ cap = 0) := by
  obtain ⟨hl, ⟨rfl, e⟩ | ⟨g, cap, cur, rfl, hg, hh, h3, h4, r⟩⟩ := id h
  · have e0 := List.eq_nil_of_length_eq_zero e
    subst e0
    exact ⟨none, 0, rfl, by simp, by omega, fun i x hi => by simp at hi, fun _ => ⟨rfl, rfl⟩⟩
  · refine ⟨_, cap, rfl, h3, by unfold maxLen at h4; omega, fun i x hi => ⟨g, 0, rfl, heap_lt hh, fun j u hj => ?_⟩, fun e => by cases e⟩
    have hlt := (List.getElem?_eq_some_iff.1 hi).1
    have hj7 : j < 7 := by have := (List.getElem?_eq_some_iff.1 hj).1; simpa [Wd.cells] using this
    rw [Nat.zero_add, h.cellAt (i * 7 + j) (by omega), wcs_at L i j x hi hj7]
    exact hj
abbrev czC : Array Value := #[.int .i8 0, .int .i64 0, .slice none 0 0]
def CellP (w : World) (C : List HC) (n : Int) (e : Ending) (w' : World) : Prop :=
  Below w.heap.size w w' ∧ ((∃ i c lo lc, n = (i : Nat) ∧ C[i]? = some c ∧ e = .returned (.tuple #[.agg #[.int .i8 c.k, .int .i64 c.sz, .slice lo c.l.length lc], .int .i64 0]) ∧ w'.ownsRow w.heap.size 33 7 (.slice lo c.l.length lc) c.l.length (wcs c.l)) ∨
    (¬ (0 ≤ n ∧ n < C.length) ∧ e = .returned (.tuple #[.agg czC, .int .i64 2])))
theorem cell_nil (w : World) (n : Int) : Calls Tryd.prog 16 #[.pointer none, .int .i64 n] w fun e w' => e = .returned (.tuple #[.agg czC, .int .i64 1]) ∧ Below w.heap.size w w' := by
  have HX := Lib.hid (heap_new w (.cells czC 46))
  have HB := Lib.hid ((Below.refl w.heap.size w).alloc (Nat.le_refl _) (.cells czC 46))
  go_enter Tryd.func16, Tryd.ntmps16
  go_wp2_with (with_reducible refine stop_op (o := ⟨_, .load 46 (.tmp 4), _, _, _, _⟩) ?_)
  refine Lib.hid ?_
  generalize w.alloc (.cells czC 46) = W0 at *
  refine wpList_load_row (o := ⟨_, _, _, _, _, _⟩) rfl 46 (.tmp 4) rfl w.heap.size rfl 46 czC (0, 0) _ HX.out Tryd.underlying46 rfl (infoCL _ rfl) ?_
  go_wp2_with (with_reducible refine stop_op (o := ⟨_, .store 46 (.tmp 4) (.tmp 9), _, _, _, _⟩) ?_)
  refine Lib.hid ?_
  refine wpList_store_row (o := ⟨none, _, _, _, _, _⟩) rfl 46 (.tmp 4) (.tmp 9) rfl w.heap.size czC rfl rfl 46 czC HX.out (infoCL _ rfl) rfl (by simp [Value.oneCell']) ?_
  rw [setRow_self _ _ _ _ _ HX.out]
  go_wp2_with fail
  exact ret_row HX.out rfl Tryd.underlying46 rfl (infoCL _ rfl) rfl rfl ⟨rfl, HB.out⟩
set_option maxRecDepth 100000 in
set_option maxHeartbeats 4000000 in
theorem cell_any (w : World) (base p : Nat) (v : Value) (C : List HC) (n : Int) (hH : Hp w base p v C) : Calls Tryd.prog 16 #[.pointer (some ⟨p, 0, none⟩), .int .i64 n] w (CellP w C n) := by
  have hb := (Below.refl w.heap.size w).alloc (Nat.le_refl _) (.cells czC 46)
  have HX := Lib.hid (heap_new w (.cells czC 46))
  have HB := Lib.hid hb
  obtain ⟨vo, vc, -, -, hvc, p0, -, -, -, hps, hcells⟩ := hH.facts
  have hC : C.length ≤ 1048576 := hH.2.2.2.1
  by_cases h0 : n < 0
  · have d0 : decide (n < 0) = true := by simpa using h0
    have HE : Hid (¬ (0 ≤ n ∧ n < C.length)) := Lib.hid (by omega)
    clear hcells hH h0 hb
    go_enter Tryd.func16, Tryd.ntmps16
    go_wp2_with (with_reducible refine stop_op (o := ⟨_, .load 46 (.tmp 4), _, _, _, _⟩) ?_)
    refine Lib.hid ?_
    generalize w.alloc (.cells czC 46) = W0 at *
    refine wpList_load_row (o := ⟨_, _, _, _, _, _⟩) rfl 46 (.tmp 4) rfl w.heap.size rfl 46 czC (0, 0) _ HX.out Tryd.underlying46 rfl (infoCL _ rfl) ?_
    go_wp2_with (with_reducible refine stop_op (o := ⟨_, .store 46 (.tmp 4) (.tmp 22), _, _, _, _⟩) ?_)
    refine Lib.hid ?_
    refine wpList_store_row (o := ⟨none, _, _, _, _, _⟩) rfl 46 (.tmp 4) (.tmp 22) rfl w.heap.size czC rfl rfl 46 czC HX.out (infoCL _ rfl) rfl (by simp [Value.oneCell']) ?_
    rw [setRow_self _ _ _ _ _ HX.out]
    go_wp2_with fail
    exact ret_row HX.out rfl Tryd.underlying46 rfl (infoCL _ rfl) rfl rfl ⟨HB.out, .inr ⟨HE.out, rfl⟩⟩
  · have d0 : decide (n < 0) = false := by simpa using h0
    obtain ⟨i, rfl⟩ := Int.eq_ofNat_of_zero_le (Int.not_lt.1 h0)
    by_cases h1 : i < C.length
    · obtain ⟨c, hc⟩ : ∃ c, C[i]? = some c := ⟨C[i], by simp [h1]⟩
      obtain ⟨g, rfl, hcc⟩ := hcells i c hc
      have hgood := hH.2.2.2.2 i c hc
      have hown := hH.2.2.1.2 c (List.mem_of_getElem? hc)
      obtain ⟨i0, z0, q1, q2, q3, q4, q5⟩ := infoWD2
      have e0 : w.cell? ⟨g, i * 3, none⟩ = some (.int .i8 c.k) := hcc 0 _ rfl
      have e1 : w.cell? ⟨g, i * 3 + 1, none⟩ = some (.int .i64 c.sz) := hcc 1 _ rfl
      have e2 : w.cell? ⟨g, i * 3 + 2, none⟩ = some (.slice c.lo c.l.length c.lc) := hcc 2 _ rfl
      have hgs := World.block_lt_of_cell? w _ e0
      have d1 : decide ((C.length : Int) ≤ i) = false := by simp; omega
      have hl := hgood.2.2.2.1
      have HC := Lib.hid hc
      have HO := Lib.hid hown
      clear hcells hcc hH hgood hc hown h0 hb
      obtain ⟨ck, csz, clo, clc, cl⟩ := c
      dsimp only at e0 e1 e2 hl
      go_enter Tryd.func16, Tryd.ntmps16
      go_wp2_with (with_reducible refine stop_op (o := ⟨_, .store 46 (.tmp 4) (.tmp 29), _, _, _, _⟩) ?_)
      refine Lib.hid ?_
      refine wpList_store_new (o := ⟨none, _, _, _, _, _⟩) rfl 46 (.tmp 4) (.tmp 29) rfl #[.int .i8 ck, .int .i64 csz, .slice clo cl.length clc] rfl rfl (infoCL _ rfl) rfl (by simp [Value.oneCell']) ?_
      have hf := heap_new w (.cells #[.int .i8 ck, .int .i64 csz, .slice clo cl.length clc] 46)
      have hb := (Below.refl w.heap.size w).alloc (Nat.le_refl _) (.cells #[.int .i8 ck, .int .i64 csz, .slice clo cl.length clc] 46)
      have hO1 := own_keep HO.out hb
      have hss : (w.alloc (.cells #[.int .i8 ck, .int .i64 csz, .slice clo cl.length clc] 46)).heap.size = w.heap.size + 1 := by simp
      generalize w.alloc (.cells #[.int .i8 ck, .int .i64 csz, .slice clo cl.length clc] 46) = W0 at *
      obtain ⟨f2, f2f⟩ := cells_at hf 2 _ rfl
      have hf2 : W0.cell? ⟨w.heap.size, 2, none⟩ = some (.slice clo cl.length clc) := f2
      have HF := Lib.hid hf
      have HB0 := Lib.hid hb
      have HO1 := Lib.hid hO1
      clear hf hb hO1 e0 e1 e2 f2
      go_wp2_with (at_builtin; refine stop_here ?_)
      refine Lib.hid ?_
      obtain ⟨so, sc, hsl, hs1, hs2, hwr, hno⟩ := own_wrow HO1.out
      injection hsl with a1 a2 a3
      subst a1 a3
      have HWR := Lib.hid hwr
      have HNO := Lib.hid hno
      clear hwr hno a2
      refine wpList_plain rfl fun K hK => op_append_any (.const (.slice none 0 0)) (.tmp 31) 26 rfl w.heap.size 33 i0 z0 7 88 Tryd.underlying26 q1 q2 q3 q4 q5 (by decide) _ 0 [] rfl (World.ownsRow_nil _ _ _ _) clo cl.length clc (wcs cl) rfl (wcs_len cl) (fun e => by obtain ⟨e1, e2⟩ := HNO.out e; exact ⟨by rw [e1]; rfl, e2⟩) HWR.out.news wcs_one (by unfold maxLen; omega) (by omega) (by omega) (fun v1 W1 hown1 hg1 _ => hK _ _ ?_)
      clear hK K
      obtain ⟨lo, lc, rfl⟩ := own_slice hown1
      rw [List.nil_append, Nat.zero_add] at hown1
      simp only [Nat.zero_add]
      have hb1 : Below W0.heap.size W0 W1 := (chg_grown hg1).below (Nat.le_refl _) (fun k h => by cases h)
      have hf1 := keep_heap HF.out hb1
      obtain ⟨f3, f3f⟩ := cells_at hf1 2 _ rfl
      have hl1 := heap_lt hf1
      have hc := chg_set (w := W1) (p := ⟨w.heap.size, 2, none⟩) (.slice lo cl.length lc)
      have hx2 : (W1.setCell ⟨w.heap.size, 2, none⟩ (.slice lo cl.length lc)).heap[w.heap.size]? = some (.cells #[.int .i8 ck, .int .i64 csz, .slice lo cl.length lc] 46 (0, 0)) := set_at (i := 2) hf1 (.slice lo cl.length lc)
      have HX2 := Lib.hid hx2
      have HOW := Lib.hid (own_chg hown1 hc (fun j hj hs => by
        have hs : j = w.heap.size := hs
        obtain ⟨cur, hcur⟩ := own_type hown1 j hj
        rw [hs, hf1] at hcur
        cases hcur))
      have HBW := Lib.hid ((HB0.out.trans (hb1.mono HB0.out.size)).setCell (p := ⟨w.heap.size, 2, none⟩) (Nat.le_refl _) (.slice lo cl.length lc))
      clear hown1 hg1 hb1 hf1 hc hx2 hf2 f2f
      go_wp2_with (with_reducible refine stop_op (o := ⟨_, .load 46 (.tmp 4), _, _, _, _⟩) ?_)
      refine Lib.hid ?_
      generalize W1.setCell ⟨w.heap.size, 2, none⟩ (.slice lo cl.length lc) = W2 at *
      refine wpList_load_row (o := ⟨_, _, _, _, _, _⟩) rfl 46 (.tmp 4) rfl w.heap.size rfl 46 #[.int .i8 ck, .int .i64 csz, .slice lo cl.length lc] (0, 0) _ HX2.out Tryd.underlying46 rfl (infoCL _ rfl) ?_
      go_wp2_with (with_reducible refine stop_op (o := ⟨_, .store 46 (.tmp 4) (.tmp 34), _, _, _, _⟩) ?_)
      refine Lib.hid ?_
      refine wpList_store_row (o := ⟨none, _, _, _, _, _⟩) rfl 46 (.tmp 4) (.tmp 34) rfl w.heap.size #[.int .i8 ck, .int .i64 csz, .slice lo cl.length lc] rfl rfl 46 #[.int .i8 ck, .int .i64 csz, .slice lo cl.length lc] HX2.out (infoCL _ rfl) rfl (by simp [Value.oneCell']) ?_
      rw [setRow_self _ _ _ _ _ HX2.out]
      go_wp2_with fail
      exact ret_row HX2.out rfl Tryd.underlying46 rfl (infoCL _ rfl) rfl rfl ⟨HBW.out, .inl ⟨i, _, lo, lc, rfl, HC.out, rfl, HOW.out⟩⟩
    · have HE : Hid (¬ (0 ≤ (i : Int) ∧ (i : Int) < C.length)) := Lib.hid (by omega)
      have d1 : decide ((C.length : Int) ≤ i) = true := by simp; omega
      clear hcells hH h0 hb
      go_enter Tryd.func16, Tryd.ntmps16
      go_wp2_with (with_reducible refine stop_op (o := ⟨_, .load 46 (.tmp 4), _, _, _, _⟩) ?_)
      refine Lib.hid ?_
      generalize w.alloc (.cells czC 46) = W0 at *
      refine wpList_load_row (o := ⟨_, _, _, _, _, _⟩) rfl 46 (.tmp 4) rfl w.heap.size rfl 46 czC (0, 0) _ HX.out Tryd.underlying46 rfl (infoCL _ rfl) ?_
      go_wp2_with (with_reducible refine stop_op (o := ⟨_, .store 46 (.tmp 4) (.tmp 22), _, _, _, _⟩) ?_)
      refine Lib.hid ?_
      refine wpList_store_row (o := ⟨none, _, _, _, _, _⟩) rfl 46 (.tmp 4) (.tmp 22) rfl w.heap.size czC rfl rfl 46 czC HX.out (infoCL _ rfl) rfl (by simp [Value.oneCell']) ?_
      rw [setRow_self _ _ _ _ _ HX.out]
      go_wp2_with fail
      exact ret_row HX.out rfl Tryd.underlying46 rfl (infoCL _ rfl) rfl rfl ⟨HB.out, .inr ⟨HE.out, rfl⟩⟩
end Go.Proofs.YtfbmjcblnemkgaaDoor
