/- proc.Check. Conditions: the process reads; its rows are not too long; what is asked of its mail and of its name is told. -/
import Derived.Test.YtemgnljegbaobaaGreatDoorNq
namespace Go.Proofs.YtemgnljegbaobaaGreatDoor
open Go.ChangeShapes Go.WideShapes Go.ChangeAt Go.RowKit
set_option linter.unusedVariables false
set_option linter.unusedSimpArgs false
set_option maxRecDepth 100000
def chkP (pid par : Int) (name : ByteArray) (D : Pd) (own bN bM : Bool) : Int :=
  if pid < 1 then 2 else if par < 0 then 2 else if 64 < D.lk.length then 2 else if 32 < D.ws.length then 2 else if 64 < D.L.length then 2 else if bN = true then 2 else
  if (!risesL 0 D.lk) = true then 2 else if own = true then 2 else if (!risesL 0 (D.ws.map Prod.fst)) = true then 2 else if (D.ws.any fun x => decide (x.2 < 1)) = true then 2 else if bM = true then 2 else 0
/-- what stands while it is checked -/
structure ChS (w W : World) (p : Pv) (D : Pd) : Prop where
  hb : Below w.heap.size w W
  hX : W.heap[w.heap.size]? = some (.cells p.cells 27 (0, 0))
  pr : PrX W p D.X
theorem ChS.keep {w W W' : World} {p : Pv} {D : Pd} (h : ChS w W p D) (hb : Below W.heap.size W W') : ChS w W' p D := ⟨h.hb.trans (hb.mono h.hb.size), keep_heap h.hX hb, h.pr.keep hb⟩
def FS2 (x i j : Nat) (a b : Value) (W : World) : Prop := W.cell? ⟨x, i, none⟩ = some a ∧ W.cell? ⟨x, j, none⟩ = some b
theorem FS2.keep {x i j : Nat} {a b : Value} {W W' : World} (h : FS2 x i j a b W) (hb : Below W.heap.size W W') : FS2 x i j a b W' := ⟨keep_cell h.1 hb, keep_cell h.2 hb⟩
def CheckP (w : World) (p : Pv) (D : Pd) (bN bM : Bool) (e : Ending) (w' : World) : Prop := ∃ own : Bool, (Rises D.lk → (own = true ↔ p.pid ∈ D.lk)) ∧ e = .returned (.int .i64 (chkP p.pid p.par p.name D own bN bM)) ∧ Below w.heap.size w w'
set_option maxHeartbeats 16000000 in
theorem checkp_any (w : World) (p : Pv) (D : Pd) (bN bM : Bool) (h : PrX w p D.X) (hD : D.ok) (hN0 : p.name = ⟨#[]⟩ → bN = false) (hN : p.name ≠ ⟨#[]⟩ → ∀ W, Below w.heap.size w W → Calls Tryz.prog 22 #[.string p.name] W (IsPost W (!bN)))
    (hM : ∀ W, Below w.heap.size w W → Calls Tryz.prog 28 #[p.mv, .func (.func 29) #[] #[]] W (IsPost W bM)) : Calls Tryz.prog 6 #[.agg p.cells] w (CheckP w p D bN bM) := by
  obtain ⟨pid, par, sv, mv, name, trap, wait, lv, wv0⟩ := p
  have HP := Lib.hid h
  obtain ⟨h2, h3, h7, h8⟩ := h
  simp only [Pd.X] at h2 h3 h7 h8
  obtain ⟨so, sc, rfl, hs1, hs2⟩ := h2.row.slice
  obtain ⟨mo, mc, rfl, -, -⟩ := h3.slice
  obtain ⟨lo, lc, rfl, hl1, hl2⟩ := h7.slice
  obtain ⟨wo, wc, rfl, hw1, hw2⟩ := h8.slice
  clear h2 h3 h7 h8
  have hb := (Below.refl w.heap.size w).alloc (Nat.le_refl _) (.cells #[.int .i64 pid, .int .i64 par, .slice so D.L.length sc, .slice mo D.nm mc, .string name, .bool trap, .bool wait, .slice lo D.lk.length lc, .slice wo D.ws.length wc] 27)
  have H0 := Lib.hid (show ChS w (w.alloc (.cells #[.int .i64 pid, .int .i64 par, .slice so D.L.length sc, .slice mo D.nm mc, .string name, .bool trap, .bool wait, .slice lo D.lk.length lc, .slice wo D.ws.length wc] 27)) ⟨pid, par, .slice so D.L.length sc, .slice mo D.nm mc, name, trap, wait, .slice lo D.lk.length lc, .slice wo D.ws.length wc⟩ D from ⟨hb, heap_new w _, HP.out.keep hb⟩)
  have HN := Lib.hid (And.intro hN0 hN)
  have HM := Lib.hid hM
  clear hb hN0 hN hM HP
  go_enter Tryz.func6, Tryz.ntmps6
  go_wp2_with fail
  generalize w.alloc (.cells #[.int .i64 pid, .int .i64 par, .slice so D.L.length sc, .slice mo D.nm mc, .string name, .bool trap, .bool wait, .slice lo D.lk.length lc, .slice wo D.ws.length wc] 27) = w0 at *
  have hd := (Below.refl w0.heap.size w0).drew
  have H1 := Lib.hid (H0.out.keep hd)
  have hS : FS2 w.heap.size 7 0 (.slice lo D.lk.length lc) (.int .i64 pid) w0.drew := ⟨(cells_at H1.out.hX 7 _ rfl).1, (cells_at H1.out.hX 0 _ rfl).1⟩
  clear hd H0
  refine region_plan (FS2 w.heap.size 7 0 (.slice lo D.lk.length lc) (.int .i64 pid)) [(0, 0), (1, 0), (3, 0), (4, 0), (2, 1), (5, 1), (6, 0), (7, 0), (8, 0), (9, 0), (10, 0)] (by kernel_rfl) (by kernel_rfl) (by kernel_rfl) hS ?_
  generalize w0.drew = w1 at *
  iterate 4 (first | (refine plan_skip rfl ?_ ?_; (focus (rfl)); (try simp only [Act.put, List.setIfInBounds_toArray, List.set_cons_zero, List.set_cons_succ])) | (refine plan_take (v := ?_) rfl ?_ (fun w hSw => ?_) ?_; rotate_left; (focus (rfl)); (focus (unfold FS2 at hSw; (go_simp <;> with_reducible rfl))); (try simp only [Act.put, List.setIfInBounds_toArray, List.set_cons_zero, List.set_cons_succ])))
  refine plan_run rfl ?_ (fun K hK => ?_)
  focus (rfl)
  go_simp
  refine (mkI_any _ _ _ _).mono ?_
  rintro e w2 ⟨rfl, hb2⟩
  have hS2 := hS.keep hb2
  have H2 := Lib.hid (H1.out.keep hb2)
  refine hK.out _ _ hS2 ?_
  clear hK K 
  (try simp only [Act.put, List.setIfInBounds_toArray, List.set_cons_zero, List.set_cons_succ])
  clear hS hb2 H1
  refine plan_run rfl ?_ (fun K hK => ?_)
  focus (rfl)
  go_simp
  refine (find_any _ _ D.lk pid H2.out.pr.lk hD.hl).mono ?_
  rintro e w3 ⟨fi, own, rfl, hb3, hown⟩
  have hS3 := hS2.keep hb3
  have H := Lib.hid (And.intro (H2.out.keep hb3) hown)
  refine hK.out _ _ hS3 ?_
  clear hK K 
  (try simp only [Act.put, List.setIfInBounds_toArray, List.set_cons_zero, List.set_cons_succ])
  clear hS2 hb3 H2 hown
  iterate 5 (first | (refine plan_skip rfl ?_ ?_; (focus (rfl)); (try simp only [Act.put, List.setIfInBounds_toArray, List.set_cons_zero, List.set_cons_succ])) | (refine plan_take (v := ?_) rfl ?_ (fun w hSw => ?_) ?_; rotate_left; (focus (rfl)); (focus (unfold FS2 at hSw; (go_simp <;> with_reducible rfl))); (try simp only [Act.put, List.setIfInBounds_toArray, List.set_cons_zero, List.set_cons_succ])))
  refine plan_done ?_
  clear hS3
  have hE : chkP pid par name D own bN bM = if pid < 1 then 2 else if par < 0 then 2 else if 64 < D.lk.length then 2 else if 32 < D.ws.length then 2 else if 64 < D.L.length then 2 else if bN = true then 2 else
    if (!risesL 0 D.lk) = true then 2 else if own = true then 2 else if (!risesL 0 (D.ws.map Prod.fst)) = true then 2 else if (D.ws.any fun x => decide (x.2 < 1)) = true then 2 else if bM = true then 2 else 0 := rfl
  have HE := Lib.hid hE
  clear hE
  obtain ⟨c0, -⟩ := cells_at H.out.1.hX 0 _ rfl
  obtain ⟨c1, -⟩ := cells_at H.out.1.hX 1 _ rfl
  obtain ⟨c2, -⟩ := cells_at H.out.1.hX 2 _ rfl
  obtain ⟨c4, -⟩ := cells_at H.out.1.hX 4 _ rfl
  obtain ⟨c7, -⟩ := cells_at H.out.1.hX 7 _ rfl
  obtain ⟨c8, -⟩ := cells_at H.out.1.hX 8 _ rfl
  have HOWN := Lib.hid H.out.2
  by_cases h : pid < 1
  · have hd : decide (pid < 1) = true := decide_eq_true (by omega)
    have HF := Lib.hid (HE.out.trans (if_pos h))
    clear h HE
    go_wp2_with fail
    go_ret
    exact ⟨own, HOWN.out, by rw [HF.out]; rfl, H.out.1.hb⟩
  have hd1 : decide (pid < 1) = false := decide_eq_false (by omega)
  have HE2 := Lib.hid (HE.out.trans (if_neg h))
  clear h HE
  have HE := HE2
  clear HE2
  by_cases h : par < 0
  · have hd : decide (par < 0) = true := decide_eq_true (by omega)
    have HF := Lib.hid (HE.out.trans (if_pos h))
    clear h HE
    go_wp2_with fail
    go_ret
    exact ⟨own, HOWN.out, by rw [HF.out]; rfl, H.out.1.hb⟩
  have hd2 : decide (par < 0) = false := decide_eq_false (by omega)
  have HE2 := Lib.hid (HE.out.trans (if_neg h))
  clear h HE
  have HE := HE2
  clear HE2
  by_cases h : 64 < D.lk.length
  · have hd : decide ((64 : Int) < (D.lk.length : Int)) = true := decide_eq_true (by omega)
    have HF := Lib.hid (HE.out.trans (if_pos h))
    clear h HE
    go_wp2_with fail
    go_ret
    exact ⟨own, HOWN.out, by rw [HF.out]; rfl, H.out.1.hb⟩
  have hd3 : decide ((64 : Int) < (D.lk.length : Int)) = false := decide_eq_false (by omega)
  have HE2 := Lib.hid (HE.out.trans (if_neg h))
  clear h HE
  have HE := HE2
  clear HE2
  by_cases h : 32 < D.ws.length
  · have hd : decide ((32 : Int) < (D.ws.length : Int)) = true := decide_eq_true (by omega)
    have HF := Lib.hid (HE.out.trans (if_pos h))
    clear h HE
    go_wp2_with fail
    go_ret
    exact ⟨own, HOWN.out, by rw [HF.out]; rfl, H.out.1.hb⟩
  have hd4 : decide ((32 : Int) < (D.ws.length : Int)) = false := decide_eq_false (by omega)
  have HE2 := Lib.hid (HE.out.trans (if_neg h))
  clear h HE
  have HE := HE2
  clear HE2
  by_cases h : 64 < D.L.length
  · have hd : decide ((64 : Int) < (D.L.length : Int)) = true := decide_eq_true (by omega)
    have HF := Lib.hid (HE.out.trans (if_pos h))
    clear h HE
    go_wp2_with fail
    go_ret
    exact ⟨own, HOWN.out, by rw [HF.out]; rfl, H.out.1.hb⟩
  have hd5 : decide ((64 : Int) < (D.L.length : Int)) = false := decide_eq_false (by omega)
  have HE2 := Lib.hid (HE.out.trans (if_neg h))
  clear h HE
  have HE := HE2
  clear HE2
  by_cases hname : name = ⟨#[]⟩
  · subst hname
    have hb := HN.out.1 rfl
    have HE2 := Lib.hid (HE.out.trans (if_neg (by rw [hb]; simp)))
    clear HE hb
    have H5 := Lib.hid H.out.1
    clear H
    go_wp2_with fail
    refine (mkI_any _ _ _ _).mono ?_
    rintro e wA ⟨rfl, hbA⟩
    have HA := Lib.hid (H5.out.keep hbA)
    clear hbA H5
    go_wp2_with fail
    refine (risesI_any _ _ D.lk HA.out.pr.lk hD.hl).mono ?_
    rintro e wB ⟨rfl, hbB⟩
    have HB := Lib.hid (HA.out.keep hbB)
    clear hbB HA
    cases hri : risesL 0 D.lk
    · have HF := Lib.hid (HE2.out.trans (if_pos (by rw [hri]; rfl)))
      clear hri HE2
      go_wp2_with fail
      go_ret
      exact ⟨own, (by intro hr; simpa using HOWN.out hr), by rw [HF.out]; rfl, HB.out.hb⟩
    · have HE3 := Lib.hid (HE2.out.trans (if_neg (by rw [hri]; simp)))
      clear hri HE2
      cases own
      · have HE4 := Lib.hid (HE3.out.trans (if_neg (by simp)))
        have x8 := (cells_at HB.out.hX 8 _ rfl).1
        clear HE3
        go_wp2_with fail
        refine (mkW_any _ _ _ _).mono ?_
        rintro e wC ⟨rfl, hbC⟩
        have HC := Lib.hid (HB.out.keep hbC)
        clear hbC HB x8
        go_wp2_with fail
        refine (risesW_any _ _ D.ws HC.out.pr.wt hD.hw).mono ?_
        rintro e wD ⟨rfl, hbD⟩
        have HD := Lib.hid (HC.out.keep hbD)
        clear hbD HC
        cases hrw : risesL 0 (D.ws.map Prod.fst)
        · have HF := Lib.hid (HE4.out.trans (if_pos (by rw [hrw]; rfl)))
          clear hrw HE4
          go_wp2_with fail
          go_ret
          exact ⟨false, (by intro hr; simpa using HOWN.out hr), by rw [HF.out]; rfl, HD.out.hb⟩
        · have HE5 := Lib.hid (HE4.out.trans (if_neg (by rw [hrw]; simp)))
          have x8 := (cells_at HD.out.hX 8 _ rfl).1
          clear hrw HE4
          go_wp2_with fail
          refine (containsW_any _ _ D.ws HD.out.pr.wt hD.hw).mono ?_
          rintro e wE ⟨rfl, hbE⟩
          have HG := Lib.hid (HD.out.keep hbE)
          clear hbE HD x8
          cases hcw : D.ws.any fun x => decide (x.2 < 1)
          · have HE6 := Lib.hid (HE5.out.trans (if_neg (by rw [hcw]; simp)))
            have x3 := (cells_at HG.out.hX 3 _ rfl).1
            clear hcw HE5
            go_wp2_with fail
            refine (HM.out _ HG.out.hb).mono ?_
            rintro e wF ⟨rfl, hbF⟩
            have HI := Lib.hid (HG.out.keep hbF)
            clear hbF HG x3
            cases hbm : bM
            · have HF := Lib.hid (HE6.out.trans (if_neg (by rw [hbm]; simp)))
              clear HE6 hbm
              go_wp2_with fail
              go_ret
              exact ⟨false, (by intro hr; simpa using HOWN.out hr), by rw [HF.out]; rfl, HI.out.hb⟩
            · have HF := Lib.hid (HE6.out.trans (if_pos (by rw [hbm])))
              clear HE6 hbm
              go_wp2_with fail
              go_ret
              exact ⟨false, (by intro hr; simpa using HOWN.out hr), by rw [HF.out]; rfl, HI.out.hb⟩
          · have HF := Lib.hid (HE5.out.trans (if_pos (by rw [hcw])))
            clear hcw HE5
            go_wp2_with fail
            go_ret
            exact ⟨false, (by intro hr; simpa using HOWN.out hr), by rw [HF.out]; rfl, HG.out.hb⟩
      · have HF := Lib.hid (HE3.out.trans (if_pos rfl))
        clear HE3
        go_wp2_with fail
        go_ret
        exact ⟨true, (by intro hr; simpa using HOWN.out hr), by rw [HF.out]; rfl, HB.out.hb⟩
  · have hne := str_ne hname
    have hne2 := str_ne_of hname
    go_wp2_with fail
    refine (HN.out.2 hname _ H.out.1.hb).mono ?_
    rintro e w4 ⟨rfl, hb4⟩
    have H5 := Lib.hid (H.out.1.keep hb4)
    clear hb4 c0 c1 c2 c4 c7 c8
    obtain ⟨c7, -⟩ := cells_at H5.out.hX 7 _ rfl
    cases hbn : bN
    · have HE2 := Lib.hid (HE.out.trans (if_neg (by rw [hbn]; simp)))
      clear HE H hne hne2 hname
      go_wp2_with fail
      refine (mkI_any _ _ _ _).mono ?_
      rintro e wA ⟨rfl, hbA⟩
      have HA := Lib.hid (H5.out.keep hbA)
      clear hbA H5
      go_wp2_with fail
      refine (risesI_any _ _ D.lk HA.out.pr.lk hD.hl).mono ?_
      rintro e wB ⟨rfl, hbB⟩
      have HB := Lib.hid (HA.out.keep hbB)
      clear hbB HA
      cases hri : risesL 0 D.lk
      · have HF := Lib.hid (HE2.out.trans (if_pos (by rw [hri]; rfl)))
        clear hri HE2
        go_wp2_with fail
        go_ret
        exact ⟨own, (by intro hr; simpa using HOWN.out hr), by rw [HF.out]; rfl, HB.out.hb⟩
      · have HE3 := Lib.hid (HE2.out.trans (if_neg (by rw [hri]; simp)))
        clear hri HE2
        cases own
        · have HE4 := Lib.hid (HE3.out.trans (if_neg (by simp)))
          have x8 := (cells_at HB.out.hX 8 _ rfl).1
          clear HE3
          go_wp2_with fail
          refine (mkW_any _ _ _ _).mono ?_
          rintro e wC ⟨rfl, hbC⟩
          have HC := Lib.hid (HB.out.keep hbC)
          clear hbC HB x8
          go_wp2_with fail
          refine (risesW_any _ _ D.ws HC.out.pr.wt hD.hw).mono ?_
          rintro e wD ⟨rfl, hbD⟩
          have HD := Lib.hid (HC.out.keep hbD)
          clear hbD HC
          cases hrw : risesL 0 (D.ws.map Prod.fst)
          · have HF := Lib.hid (HE4.out.trans (if_pos (by rw [hrw]; rfl)))
            clear hrw HE4
            go_wp2_with fail
            go_ret
            exact ⟨false, (by intro hr; simpa using HOWN.out hr), by rw [HF.out]; rfl, HD.out.hb⟩
          · have HE5 := Lib.hid (HE4.out.trans (if_neg (by rw [hrw]; simp)))
            have x8 := (cells_at HD.out.hX 8 _ rfl).1
            clear hrw HE4
            go_wp2_with fail
            refine (containsW_any _ _ D.ws HD.out.pr.wt hD.hw).mono ?_
            rintro e wE ⟨rfl, hbE⟩
            have HG := Lib.hid (HD.out.keep hbE)
            clear hbE HD x8
            cases hcw : D.ws.any fun x => decide (x.2 < 1)
            · have HE6 := Lib.hid (HE5.out.trans (if_neg (by rw [hcw]; simp)))
              have x3 := (cells_at HG.out.hX 3 _ rfl).1
              clear hcw HE5
              go_wp2_with fail
              refine (HM.out _ HG.out.hb).mono ?_
              rintro e wF ⟨rfl, hbF⟩
              have HI := Lib.hid (HG.out.keep hbF)
              clear hbF HG x3
              cases hbm : bM
              · have HF := Lib.hid (HE6.out.trans (if_neg (by rw [hbm]; simp)))
                clear HE6 hbm
                go_wp2_with fail
                go_ret
                exact ⟨false, (by intro hr; simpa using HOWN.out hr), by rw [HF.out]; rfl, HI.out.hb⟩
              · have HF := Lib.hid (HE6.out.trans (if_pos (by rw [hbm])))
                clear HE6 hbm
                go_wp2_with fail
                go_ret
                exact ⟨false, (by intro hr; simpa using HOWN.out hr), by rw [HF.out]; rfl, HI.out.hb⟩
            · have HF := Lib.hid (HE5.out.trans (if_pos (by rw [hcw])))
              clear hcw HE5
              go_wp2_with fail
              go_ret
              exact ⟨false, (by intro hr; simpa using HOWN.out hr), by rw [HF.out]; rfl, HG.out.hb⟩
        · have HF := Lib.hid (HE3.out.trans (if_pos rfl))
          clear HE3
          go_wp2_with fail
          go_ret
          exact ⟨true, (by intro hr; simpa using HOWN.out hr), by rw [HF.out]; rfl, HB.out.hb⟩
    · have HF := Lib.hid (HE.out.trans (if_pos (by rw [hbn])))
      clear HE
      go_wp2_with fail
      go_ret
      exact ⟨own, HOWN.out, by rw [← hbn, HF.out]; rfl, H5.out.hb⟩
end Go.Proofs.YtemgnljegbaobaaGreatDoor
