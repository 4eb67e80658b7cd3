/- window.found at any row. Conditions: at most 100000 events, the row lies in old memory. -/
import Derived.Test.YtjjlfaknebbhfaaWg
namespace Go.Proofs.Ytjjlfaknebbhfaa
open Go.ChangeShapes Go.WideShapes Go.ChangeAt Go.RowKit
set_option linter.unusedVariables false
def FE (w : World) (ao : Option Addr) (cap : Nat) (now maxT : Int) (w' : World) : Prop :=
  w'.cell? ⟨w.heap.size, 0, none⟩ = some (.slice ao 0 cap) ∧ w'.cell? ⟨w.heap.size + 1, 0, none⟩ = some (.int .i64 now) ∧ w'.cell? ⟨w.heap.size + 1 + 1, 0, none⟩ = some (.int .i64 maxT) ∧ Below w.heap.size w w'
theorem FE.keep {w : World} {ao : Option Addr} {cap : Nat} {now maxT : Int} {W W' : World} (h : FE w ao cap now maxT W) (hb : Below W.heap.size W W') : FE w ao cap now maxT W' := by
  obtain ⟨d0, d1, d2, d5⟩ := h
  exact ⟨keep_cell d0 hb, keep_cell d1 hb, keep_cell d2 hb, keep_below d5 d5.size hb⟩
theorem fin_e1 (now maxT : Int) (h : wmay [now] = false) : Value.bool true = .bool (!fvalid [] now maxT) := by simp [fvalid, h]
theorem wmay_nil : wmay [] = true := by decide
theorem fin_e3 (now maxT : Int) (h : decide (maxT < 0) = true) : Value.bool true = .bool (!fvalid [] now maxT) := by
  have : decide (0 ≤ maxT) = false := by simp at *; omega
  simp [fvalid, this]
theorem fin_e4 (now maxT : Int) (h : decide (1073741824 < maxT) = true) : Value.bool true = .bool (!fvalid [] now maxT) := by
  have : decide (maxT ≤ 1073741824) = false := by simp at *; omega
  simp [fvalid, this]
theorem fin_e5 (now maxT : Int) (h1 : wmay [now] = true) (h3 : decide (maxT < 0) = false) (h4 : decide (1073741824 < maxT) = false) : Value.bool false = .bool (!fvalid [] now maxT) := by
  have e3 : decide (0 ≤ maxT) = true := by simp at *; omega
  have e4 : decide (maxT ≤ 1073741824) = true := by simp at *; omega
  simp [fvalid, h1, wmay_nil, lastOk]
  simp at e3 e4
  exact ⟨e3, e4⟩
theorem good_e {w w' : World} (ao : Option Addr) {now maxT : Int} (hb : Below w.heap.size w w') : FoundGood w [] now maxT (.returned (.tuple #[.slice ao 0 0, .int .i64 0])) w' :=
  ⟨ao, rfl, ⟨ao, 0, rfl, Nat.le_refl _, by omega, .inl ⟨rfl, fun _ => rfl⟩⟩, hb⟩
theorem SlI_one {w : World} {g c : Nat} {now : Int} (q2 : g < w.heap.size) (q3 : 0 + 1 ≤ c) (q4 : c ≤ 9223372036854775807) (q5 : ∀ j u, (([] : List Value) ++ [Value.int .i64 now])[j]? = some u → w.cell? ⟨g, j, none⟩ = some u) :
    SlI w (.slice (some ⟨g, 0, none⟩) 1 c) [now] :=
  ⟨some ⟨g, 0, none⟩, c, rfl, by simpa using q3, q4, .inr ⟨g, 0, rfl, q2, by simp, fun i hi => by
    have : i = 0 := by simpa using hi
    subst this
    exact q5 0 _ rfl⟩⟩
set_option maxRecDepth 100000 in
set_option maxHeartbeats 4000000 in
theorem found_empty (w : World) (ao : Option Addr) (cap : Nat) (now maxT : Int) :
    Calls Try.prog 25 #[.slice ao 0 cap, .int .i64 now, .int .i64 maxT] w (FoundPost w [] now maxT) := by
  obtain ⟨i0, hi, hz0, hz1, hz2⟩ := info_parts Try_info3
  have m1 : min (0 : Int) 1 = 0 := by decide
  go_enter Try.func25, Try.ntmps25
  go_wp2_with fail
  have c0 : (((w.alloc (.cells #[.slice ao 0 cap] 22)).alloc (.cells #[.int .i64 now] 3)).alloc (.cells #[.int .i64 maxT] 3)).cell? ⟨w.heap.size, 0, none⟩ = some (.slice ao 0 cap) := by go_cell
  have c1 : (((w.alloc (.cells #[.slice ao 0 cap] 22)).alloc (.cells #[.int .i64 now] 3)).alloc (.cells #[.int .i64 maxT] 3)).cell? ⟨w.heap.size + 1, 0, none⟩ = some (.int .i64 now) := by go_cell
  have c2 : (((w.alloc (.cells #[.slice ao 0 cap] 22)).alloc (.cells #[.int .i64 now] 3)).alloc (.cells #[.int .i64 maxT] 3)).cell? ⟨w.heap.size + 1 + 1, 0, none⟩ = some (.int .i64 maxT) := by go_cell
  have hbx : Below w.heap.size w (((w.alloc (.cells #[.slice ao 0 cap] 22)).alloc (.cells #[.int .i64 now] 3)).alloc (.cells #[.int .i64 maxT] 3)) := by go_grown
  generalize ((w.alloc (.cells #[.slice ao 0 cap] 22)).alloc (.cells #[.int .i64 now] 3)).alloc (.cells #[.int .i64 maxT] 3) = W at *
  have hS0 : FE w ao cap now maxT W.drew := ⟨c0, c1, c2, hbx.drew⟩
  go_cut [50] (fun s50 wx => s50 = .bool (!fvalid [] now maxT) ∧ FE w ao cap now maxT wx)
  case first =>
    refine region_plan (FE w ao cap now maxT) [(0, 0), (1, 0), (2, 0), (3, 0), (4, 0), (7, 0), (8, 0), (5, 1), (6, 1), (9, 0), (10, 1), (11, 0), (12, 0), (13, 0), (14, 1), (15, 0), (16, 0), (17, 0), (18, 0), (19, 0), (20, 0), (21, 0), (22, 0), (23, 0), (24, 0), (25, 0), (26, 0), (27, 0), (28, 0), (29, 0), (30, 0), (31, 0), (32, 0), (33, 0), (34, 0), (35, 0), (36, 0), (37, 0)] (by kernel_rfl) (by kernel_rfl) (by kernel_rfl) hS0 ?_
    generalize W.drew = W0 at hS0 ⊢
    iterate 7 (first | (refine plan_skip rfl ?_ ?_; (focus (rfl)); (try simp only [Act.put, List.setIfInBounds_toArray, List.set_cons_zero, List.set_cons_succ])) | (refine plan_take (v := ?_) rfl ?_ (fun w hSw => ?_) ?_; rotate_left; (focus (rfl)); (focus (unfold FE at hSw; (go_simp <;> with_reducible rfl))); (try simp only [Act.put, List.setIfInBounds_toArray, List.set_cons_zero, List.set_cons_succ])))
    refine plan_run rfl ?_ (fun K hK => ?_)
    focus (rfl)
    go_simp
    have hb1 : Below W0.heap.size W0 (W0.alloc (.cells #[.int .i64 now] 3)) := Below.alloc (Below.refl _ _) (Nat.le_refl _) _
    have hn1 := one_new W0 (.int .i64 now) 3
    have hS1 := hS0.keep hb1
    refine hK.out _ _ hS1 ?_
    clear hK K
    (try simp only [Act.put, List.setIfInBounds_toArray, List.set_cons_zero, List.set_cons_succ])
    clear hS0
    generalize hW1 : W0.alloc (.cells #[.int .i64 now] 3) = W1 at hb1 hS1 hn1 ⊢
    clear hW1
    refine plan_run rfl ?_ (fun K hK => ?_)
    focus (rfl)
    refine op_of_step (ops := #[]) rfl (step_append_grows (ops := #[]) rfl (.tmp 16) (.tmp 18) 22 rfl 3 i0 (.int .i64 0) 1 8 Try.underlying22 hi hz0 hz1 hz2 rfl (by decide) ao 0 0 [] rfl (fun h => ⟨rfl, rfl⟩) rfl (fun _ _ j u hj => by simp at hj) ⟨W0.heap.size, 0, none⟩ 1 1 [.int .i64 now] rfl rfl hn1 (by simp [Value.oneCell']) (by omega) (by unfold maxLen; omega) (by omega) ?_)
    intro v' W2 hown hgrow
    obtain ⟨g, c', hvv, q1, q2, q3, q4, q5⟩ := own_facts hown (by omega)
    have hb2 := grown_below hgrow
    clear hown hgrow hn1 hb1
    rw [hvv]
    clear hvv
    have q6 : ¬ (c' = 0) := (by omega)
    have hsh := SlI_one q2 q3 q4 q5
    have hS2 := hS1.keep hb2
    refine hK.out _ _ hS2 ?_
    clear hK K hS1 hb2 q5
    (try simp only [Act.put, List.setIfInBounds_toArray, List.set_cons_zero, List.set_cons_succ])
    iterate 1 (first | (refine plan_skip rfl ?_ ?_; (focus (rfl)); (try simp only [Act.put, List.setIfInBounds_toArray, List.set_cons_zero, List.set_cons_succ])) | (refine plan_take (v := ?_) rfl ?_ (fun w hSw => ?_) ?_; rotate_left; (focus (rfl)); (focus (unfold FE at hSw; (go_simp <;> with_reducible rfl))); (try simp only [Act.put, List.setIfInBounds_toArray, List.set_cons_zero, List.set_cons_succ])))
    refine plan_run rfl ?_ (fun K hK => ?_)
    focus (rfl)
    go_simp
    refine (may_sl _ _ _ hsh).mono ?_
    rintro e W3 ⟨rfl, hb3⟩
    have hS3 := hS2.keep hb3
    refine hK.out _ _ hS3 ?_
    clear hK K hS2 hb3 hsh
    (try simp only [Act.put, List.setIfInBounds_toArray, List.set_cons_zero, List.set_cons_succ])
    generalize hg1 : wmay [now] = G1
    have HG1 := Lib.hid hg1
    clear hg1
    cases G1
    · iterate 3 (first | (refine plan_skip rfl ?_ ?_; (focus (rfl)); (try simp only [Act.put, List.setIfInBounds_toArray, List.set_cons_zero, List.set_cons_succ])) | (refine plan_take (v := ?_) rfl ?_ (fun w hSw => ?_) ?_; rotate_left; (focus (rfl)); (focus (unfold FE at hSw; (go_simp <;> with_reducible rfl))); (try simp only [Act.put, List.setIfInBounds_toArray, List.set_cons_zero, List.set_cons_succ])))
      (refine plan_run_skip rfl ?_ hS3 ?_; (focus (rfl)); (try simp only [Act.put, List.setIfInBounds_toArray, List.set_cons_zero, List.set_cons_succ]))
      iterate 23 (first | (refine plan_skip rfl ?_ ?_; (focus (rfl)); (try simp only [Act.put, List.setIfInBounds_toArray, List.set_cons_zero, List.set_cons_succ])) | (refine plan_take (v := ?_) rfl ?_ (fun w hSw => ?_) ?_; rotate_left; (focus (rfl)); (focus (unfold FE at hSw; (go_simp <;> with_reducible rfl))); (try simp only [Act.put, List.setIfInBounds_toArray, List.set_cons_zero, List.set_cons_succ])))
      refine plan_done ?_
      go_wp2_with fail
      go_meet
      exact ⟨fin_e1 now maxT HG1.out, hS3⟩
    · iterate 3 (first | (refine plan_skip rfl ?_ ?_; (focus (rfl)); (try simp only [Act.put, List.setIfInBounds_toArray, List.set_cons_zero, List.set_cons_succ])) | (refine plan_take (v := ?_) rfl ?_ (fun w hSw => ?_) ?_; rotate_left; (focus (rfl)); (focus (unfold FE at hSw; (go_simp <;> with_reducible rfl))); (try simp only [Act.put, List.setIfInBounds_toArray, List.set_cons_zero, List.set_cons_succ])))
      refine plan_run rfl ?_ (fun K hK => ?_)
      focus (rfl)
      go_simp
      refine (may_empty _ ao cap).mono ?_
      rintro e W4 ⟨rfl, hb4⟩
      have hS4 := hS3.keep hb4
      refine hK.out _ _ hS4 ?_
      clear hK K hS3 hb4
      (try simp only [Act.put, List.setIfInBounds_toArray, List.set_cons_zero, List.set_cons_succ])
      iterate 5 (first | (refine plan_skip rfl ?_ ?_; (focus (rfl)); (try simp only [Act.put, List.setIfInBounds_toArray, List.set_cons_zero, List.set_cons_succ])) | (refine plan_take (v := ?_) rfl ?_ (fun w hSw => ?_) ?_; rotate_left; (focus (rfl)); (focus (unfold FE at hSw; (go_simp <;> with_reducible rfl))); (try simp only [Act.put, List.setIfInBounds_toArray, List.set_cons_zero, List.set_cons_succ])))
      generalize hg3 : decide (maxT < 0) = G3
      have HG3 := Lib.hid hg3
      clear hg3
      cases G3
      rotate_left
      · iterate 18 (first | (refine plan_skip rfl ?_ ?_; (focus (rfl)); (try simp only [Act.put, List.setIfInBounds_toArray, List.set_cons_zero, List.set_cons_succ])) | (refine plan_take (v := ?_) rfl ?_ (fun w hSw => ?_) ?_; rotate_left; (focus (rfl)); (focus (unfold FE at hSw; (go_simp <;> with_reducible rfl))); (try simp only [Act.put, List.setIfInBounds_toArray, List.set_cons_zero, List.set_cons_succ])))
        refine plan_done ?_
        go_wp2_with fail
        go_meet
        exact ⟨fin_e3 now maxT HG3.out, hS4⟩
      · iterate 4 (first | (refine plan_skip rfl ?_ ?_; (focus (rfl)); (try simp only [Act.put, List.setIfInBounds_toArray, List.set_cons_zero, List.set_cons_succ])) | (refine plan_take (v := ?_) rfl ?_ (fun w hSw => ?_) ?_; rotate_left; (focus (rfl)); (focus (unfold FE at hSw; (go_simp <;> with_reducible rfl))); (try simp only [Act.put, List.setIfInBounds_toArray, List.set_cons_zero, List.set_cons_succ])))
        generalize hg4 : decide (1073741824 < maxT) = G4
        have HG4 := Lib.hid hg4
        clear hg4
        cases G4
        rotate_left
        · iterate 14 (first | (refine plan_skip rfl ?_ ?_; (focus (rfl)); (try simp only [Act.put, List.setIfInBounds_toArray, List.set_cons_zero, List.set_cons_succ])) | (refine plan_take (v := ?_) rfl ?_ (fun w hSw => ?_) ?_; rotate_left; (focus (rfl)); (focus (unfold FE at hSw; (go_simp <;> with_reducible rfl))); (try simp only [Act.put, List.setIfInBounds_toArray, List.set_cons_zero, List.set_cons_succ])))
          refine plan_done ?_
          go_wp2_with fail
          go_meet
          exact ⟨fin_e4 now maxT HG4.out, hS4⟩
        · iterate 14 (first | (refine plan_skip rfl ?_ ?_; (focus (rfl)); (try simp only [Act.put, List.setIfInBounds_toArray, List.set_cons_zero, List.set_cons_succ])) | (refine plan_take (v := ?_) rfl ?_ (fun w hSw => ?_) ?_; rotate_left; (focus (rfl)); (focus (unfold FE at hSw; (go_simp <;> with_reducible rfl))); (try simp only [Act.put, List.setIfInBounds_toArray, List.set_cons_zero, List.set_cons_succ])))
          refine plan_done ?_
          go_wp2_with fail
          go_meet
          exact ⟨fin_e5 now maxT HG1.out HG3.out HG4.out, hS4⟩
  case rest =>
    obtain ⟨rfl, hS⟩ := hcut
    clear c0 c1 c2 hbx hS0
    generalize hfv : fvalid [] now maxT = fv
    have HF := Lib.hid hfv
    clear hfv
    have hS0 := hS
    unfold FE at hS
    obtain ⟨d0, d1, d2, d5⟩ := hS
    cases fv
    · go_wp2
      go_ret2
      exact FoundPost.bad HF.out hS0.2.2.2
    · go_wp2_with fail
      refine wp_loop_rounds 1 ?_
      rw [rounds_succ]
      go_wp2
      go_ret2
      exact FoundPost.good HF.out (good_e ao hS0.2.2.2)
theorem found_sl (w : World) (v : Value) (xs : List Int) (now maxT : Int) (h : SlI w v xs) (hm : xs.length ≤ 100000) :
    Calls Try.prog 25 #[v, .int .i64 now, .int .i64 maxT] w (FoundPost w xs now maxT) := by
  obtain ⟨ao, cap, rfl, h2, h3, h4⟩ := h
  rcases h4 with ⟨rfl, _⟩ | ⟨b, off, rfl, e2, e3, e4⟩
  · exact found_empty w ao cap now maxT
  · exact found_any w b off cap xs now maxT hm h2 h3 e2 (by cases xs; exact absurd rfl e3; simp) e4
end Go.Proofs.Ytjjlfaknebbhfaa
