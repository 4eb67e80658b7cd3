/- stop: the law's wakes. No conditions. -/
import Derived.Test.YtjepiimggaiejaaPg
namespace Go.Proofs.Ytjepiimggaiejaa
open Go.ChangeShapes Go.WideShapes Go.ChangeAt Go.RowKit
set_option linter.unusedVariables false
theorem lgreat_any (w : World) (ao : Option Addr) (n cap : Nat) (h : n ≤ 9223372036854775807) : Calls Try.prog 5 #[.slice ao n cap] w fun e w' => e = .returned (.bool (decide (40 < n))) ∧ w = w' := by
  have e : decide (40 < (n : Int)) = decide (40 < n) := by
    by_cases h : 40 < n
    · rw [decide_eq_true h, decide_eq_true (by omega)]
    · rw [decide_eq_false h, decide_eq_false (by omega)]
  go_enter Try.func5, Try.ntmps5
  go_wp2_with fail
  all_goals (go_ret; exact ⟨by rw [← e]; rfl, rfl⟩)
section
variable {P : Program}
theorem wpList_store_new {ops : Array Oper} {rest : List Oper} {o : Oper} {a : Act} {W : World} {zs : Array Value} {T : TypeId} {Q : Exit → Act → World → Prop} (hgd : o.guard = none) (ty : TypeId) (x y : Operand) (ho : o.op = .store ty x y)
    (cells : Array Value) (hx : a.eval x = .pointer (some ⟨W.heap.size, 0, none⟩)) (hy : a.eval y = .agg cells) (hi : (P.info? ty).map (·.size) = some cells.size) (hold : zs.size = cells.size) (h1 : cells.all (·.oneCell') = true)
    (h : wpList P ops Q rest (a.put o.dst undef) (W.alloc (.cells cells T))) : wpList P ops Q (o :: rest) a (W.alloc (.cells zs T)) := by
  refine wpList_store_row hgd ty x y ho W.heap.size cells hx hy T zs (heap_new W _) hi hold h1 ?_
  rw [setRow_alloc]
  exact h
end
def R3 : List Rc :=
  [⟨0, 0, ⟨#[]⟩, ⟨#[]⟩, none, 0, 0, 0, 0, 9, ⟨#[]⟩, ⟨#[]⟩, none, 0, 0, none, 0, 0, 5⟩, ⟨0, 0, ⟨#[]⟩, ⟨#[]⟩, none, 0, 0, 0, 0, 0, ⟨#[]⟩, ⟨#[]⟩, none, 0, 0, none, 0, 0, 0⟩, ⟨0, 0, ⟨#[]⟩, ⟨#[]⟩, none, 0, 0, 0, 0, 0, ⟨#[]⟩, ⟨#[]⟩, none, 0, 0, none, 0, 0, 7⟩]
theorem R3_ok : ∀ r ∈ R3, r.ok := by
  intro r hr
  simp only [R3, List.mem_cons, List.not_mem_nil, or_false] at hr
  rcases hr with rfl | rfl | rfl <;> exact ⟨by decide, by decide⟩
theorem R3_pids : okPs (pidsL R3) := by
  intro j hb
  obtain ⟨p, h1, h2⟩ := hb
  match j, h1 with
  | 0, h1 => simp [pidsL, R3] at h1; subst h1; simp at h2
  | 1, h1 => simp [pidsL, R3] at h1; subst h1; simp at h2
  | 2, h1 => simp [pidsL, R3] at h1; subst h1; simp [pidsL, R3] at h2
  | j + 3, h1 => simp [pidsL, R3] at h1
set_option maxRecDepth 100000 in
set_option maxHeartbeats 4000000 in
theorem wakes_any (w : World) : Calls Try.prog 6 #[] w (IsPost w true) := by
  go_enter Try.func6, Try.ntmps6
  go_wp2_with fail
  have hcs : ∀ j u, (rcs R3)[j]? = some u → (w.alloc (.cells (rcs R3).toArray 47)).cell? ⟨w.heap.size, j, none⟩ = some u := fun j u hj => (cells_at (heap_new w _) j u (by simpa using hj)).1
  have hrow : RRow (w.alloc (.cells (rcs R3).toArray 47)) (some ⟨w.heap.size, 0, none⟩) R3 := by
    intro i r hi
    refine ⟨w.heap.size, 0, rfl, by simp, fun j u hj => ?_⟩
    have hj13 : j < 13 := by have := (List.getElem?_eq_some_iff.1 hj).1; simpa [Rc.cells] using this
    rw [Nat.zero_add]
    exact hcs _ _ ((rcs_at R3 i j r hi hj13).trans hj)
  have hB : Below w.heap.size w (w.alloc (.cells (rcs R3).toArray 47)) := (Below.refl _ w).alloc (Nat.le_refl _) _
  show Calls Try.prog 7 #[.slice (some ⟨w.heap.size, 0, none⟩) R3.length 3] (w.alloc (.cells (rcs R3).toArray 47)) _
  have hls : (w.alloc (.cells (rcs R3).toArray 47)).heap.size = w.heap.size + 1 := by simp
  generalize (w.alloc (.cells (rcs R3).toArray 47)) = W0 at *
  clear hcs
  refine (new_any W0 (some ⟨w.heap.size, 0, none⟩) 3 R3 (by decide) R3_ok hrow (fun h => by cases h)).mono ?_
  rintro e w1 ⟨hb1, (⟨-, -, v, rfl, hown⟩ | ⟨hn, -⟩)⟩
  · obtain ⟨ao, cap, rfl, hr1⟩ := row_of hown
    have hao : ∀ ad, ao = some ad → ad.block < w1.heap.size := by
      rintro ad rfl
      exact own_lt hown (Nat.le_refl _) _ rfl
    have HB1 := Lib.hid (hB.trans (hb1.mono hB.size))
    have HA := Lib.hid hao
    have HR1 := Lib.hid hr1
    clear hrow hB hb1 hown hao hr1
    go_wp2_with (with_reducible refine stop_op (o := ⟨_, .store 38 (.tmp 1) (.tmp 13), _, _, _, _⟩) ?_)
    refine Lib.hid ?_
    refine wpList_store_new (o := ⟨none, _, _, _, _, _⟩) rfl 38 (.tmp 1) (.tmp 13) rfl (frC 3 0 0 (.slice ao R3.length cap)) rfl rfl (infoFR _ _ _ _) rfl (frC_one _ _ _ rfl) ?_
    have hF2 := heap_new w1 (.cells (frC 3 0 0 (.slice ao R3.length cap)) 38)
    have hb2 := (Below.refl _ w1).alloc (Nat.le_refl _) (.cells (frC 3 0 0 (.slice ao R3.length cap)) 38)
    generalize (w1.alloc (.cells (frC 3 0 0 (.slice ao R3.length cap)) 38)) = W2 at *
    have HB2 := Lib.hid (HB1.out.trans (hb2.mono HB1.out.size))
    have HR2 := Lib.hid (HR1.out.keep hb2)
    have hs2 := hb2.size
    have HF2 := Lib.hid hF2
    clear hF2 hb2 HR1 HB1
    go_wp2_with (with_reducible refine stop_op (o := ⟨_, .load 38 (.tmp 1), _, _, _, _⟩) ?_)
    refine Lib.hid ?_
    refine wpList_load_row (o := ⟨_, _, _, _, _, _⟩) rfl 38 (.tmp 1) rfl w1.heap.size rfl 38 (frC 3 0 0 (.slice ao R3.length cap)) (0, 0) _ HF2.out Try.underlying38 rfl (infoFR _ _ _ _) ?_
    have HL := Lib.hid (left_any W2 ao cap R3 (by decide) R3_ok HR2.out)
    go_wp2_with fail
    refine HL.out.mono ?_
    rintro e W3 ⟨v3, rfl, hb3, hown3⟩
    have hdn : dn (pidsL R3) R3.length = [2, 0] := by decide
    rw [hdn] at hown3
    obtain ⟨g3, cap3, rfl, hg3, hgs3, -, hcm3, hc3⟩ := own_facts hown3 (by decide)
    have d0 : W3.cell? ⟨g3, 0, none⟩ = some (.int .i64 7) := hc3 0 _ rfl
    have d1 : W3.cell? ⟨g3, 1, none⟩ = some (.int .i64 5) := hc3 1 _ rfl
    have HF3 := Lib.hid (keep_heap HF2.out hb3)
    have HR3 := Lib.hid (HR2.out.keep hb3)
    have HB3 := Lib.hid (HB2.out.trans (hb3.mono HB2.out.size))
    have hs3 := hb3.size
    clear HL hown3 hg3 hc3 hb3 hdn HF2 HB2
    go_wp2_with (with_reducible refine stop_op (o := ⟨_, .load 38 (.tmp 1), _, _, _, _⟩) ?_)
    refine Lib.hid ?_
    refine wpList_load_row (o := ⟨_, _, _, _, _, _⟩) rfl 38 (.tmp 1) rfl w1.heap.size rfl 38 (frC 3 0 0 (.slice ao R3.length cap)) (0, 0) _ HF3.out Try.underlying38 rfl (infoFR _ _ _ _) ?_
    have HS := Lib.hid (step_any W3 ao cap zI (.int .i64 1) nS z8 (.bool false) z8 zI zS zS nS zI R3 (by decide) R3_ok HR3.out (fun ad e => by have := HA.out ad e; omega))
    go_wp2_with fail
    refine HS.out.mono ?_
    rintro e W4 ⟨g, ph, n, rfl, hb4, ef, hef, hcase⟩
    have hdn : dn (pidsL R3) R3.length = [2, 0] := by decide
    obtain ⟨rfl, rfl, rfl⟩ : ph = 1 ∧ n = 3 ∧ ef = efC 6 7 0 ⟨#[]⟩ := by
      rcases hcase with ⟨h, -⟩ | ⟨k, t, h, h1, h2, h3⟩
      · rw [hdn] at h; cases h
      · rw [hdn] at h
        injection h with h _
        subst h
        exact ⟨h1, h2, h3⟩
    have e0 := keep_cell d0 hb4
    have e1 := keep_cell d1 hb4
    have f0 : W4.cell? ⟨g, 0, none⟩ = some (.int .i8 6) := (cells_at hef 0 _ rfl).1
    have f1 : W4.cell? ⟨g, 1, none⟩ = some (.int .i64 7) := (cells_at hef 1 _ rfl).1
    have HB4 := Lib.hid (HB3.out.trans (hb4.mono HB3.out.size))
    have hgs := heap_lt hef
    have hs4 := hb4.size
    have hg3 : g3 < W4.heap.size := by omega
    clear HS hb4 hef hcase hdn d0 d1 HF3 HB3 hs2 hs3 hgs3
    go_wp2_with (with_reducible refine stop_op (o := ⟨_, .store 38 (.tmp 4) (.tmp 21), _, _, _, _⟩) ?_)
    refine Lib.hid ?_
    refine wpList_store_new (o := ⟨none, _, _, _, _, _⟩) rfl 38 (.tmp 4) (.tmp 21) rfl (frC 3 1 3 (.slice ao R3.length cap)) rfl rfl (infoFR _ _ _ _) rfl (frC_one _ _ _ rfl) ?_
    go_wp2_with fail
    go_ret
    exact ⟨rfl, HB4.out.trans ((Below.refl _ _).alloc HB4.out.size _)⟩
  · exact absurd ⟨R3_pids, by decide⟩ hn
end Go.Proofs.Ytjepiimggaiejaa
