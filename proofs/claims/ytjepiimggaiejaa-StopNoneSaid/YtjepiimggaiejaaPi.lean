/- stop: the law StopLeft, walked, at any argument that can be read. No further condition. -/
import Derived.Test.YtjepiimggaiejaaPh
import Derived.Test.YtjepiimggaiejaaFl
namespace Go.Proofs.Ytjepiimggaiejaa
open Go.ChangeShapes Go.WideShapes Go.ChangeAt Go.RowKit
set_option linter.unusedVariables false
def rcL : List TypeId := [25, 3, 9, 9, 26, 25, 25, 3, 9, 9, 26, 43, 3]
theorem flat_RC : flat Try.prog 4 47 = some rcL := by kernel_rfl
theorem cells_RC : Try.prog.cellsOf 47 = 13 := by kernel_rfl
section
variable {H : Type} {enc : TypeId × Value → H} {W : World}
theorem rc_of {fuel b o : Nat} (h : ∀ (j : Nat) (ty : TypeId), rcL[j]? = some ty → ∃ u n y, W.cell? ⟨b, o + j, none⟩ = some u ∧ n < fuel ∧ Rd enc Try.prog W n ty [u] y) : ∃ r : Rc, r.ok ∧ RcAt W b o r := by
  obtain ⟨u0, n0, y0, c0, -, r0⟩ := h 0 _ rfl
  obtain ⟨u1, n1, y1, c1, -, r1⟩ := h 1 _ rfl
  obtain ⟨u2, n2, y2, c2, -, r2⟩ := h 2 _ rfl
  obtain ⟨u3, n3, y3, c3, -, r3⟩ := h 3 _ rfl
  obtain ⟨u4, n4, y4, c4, -, r4⟩ := h 4 _ rfl
  obtain ⟨u5, n5, y5, c5, -, r5⟩ := h 5 _ rfl
  obtain ⟨u6, n6, y6, c6, -, r6⟩ := h 6 _ rfl
  obtain ⟨u7, n7, y7, c7, -, r7⟩ := h 7 _ rfl
  obtain ⟨u8, n8, y8, c8, -, r8⟩ := h 8 _ rfl
  obtain ⟨u9, n9, y9, c9, -, r9⟩ := h 9 _ rfl
  obtain ⟨u10, n10, y10, c10, -, r10⟩ := h 10 _ rfl
  obtain ⟨u11, n11, y11, c11, -, r11⟩ := h 11 _ rfl
  obtain ⟨u12, n12, y12, c12, -, r12⟩ := h 12 _ rfl
  obtain ⟨a0, rfl, -⟩ := leaf_int Try.underlying25 r0
  obtain ⟨a1, rfl, -⟩ := leaf_int Try.underlying3 r1
  obtain ⟨a2, rfl, -⟩ := leaf_str Try.underlying9 r2
  obtain ⟨a3, rfl, -⟩ := leaf_str Try.underlying9 r3
  obtain ⟨a4, l4, k4, rfl⟩ := leaf_slice Try.underlying26 r4
  obtain ⟨a5, rfl, -⟩ := leaf_int Try.underlying25 r5
  obtain ⟨a6, rfl, -⟩ := leaf_int Try.underlying25 r6
  obtain ⟨a7, rfl, -⟩ := leaf_int Try.underlying3 r7
  obtain ⟨a8, rfl, -⟩ := leaf_str Try.underlying9 r8
  obtain ⟨a9, rfl, -⟩ := leaf_str Try.underlying9 r9
  obtain ⟨a10, l10, k10, rfl⟩ := leaf_slice Try.underlying26 r10
  obtain ⟨a11, l11, k11, rfl⟩ := leaf_slice Try.underlying43 r11
  obtain ⟨a12, rfl, w12⟩ := leaf_int Try.underlying3 r12
  refine ⟨⟨a0, a1, a2, a3, a4, l4, k4, a5, a6, a7, a8, a9, a10, l10, k10, a11, l11, k11, a12⟩, bd w12, fun j u hj => ?_⟩
  match j, hj with
  | 0, hj | 1, hj | 2, hj | 3, hj | 4, hj | 5, hj | 6, hj | 7, hj | 8, hj | 9, hj | 10, hj | 11, hj | 12, hj => simp [Rc.cells] at hj; subst hj; assumption
  | j + 13, hj => simp [Rc.cells] at hj
theorem recs_of {base : Nat} {v0 : Value} {d0 : DataW H} {p0 : List MemPlace} (hv0 : Value.okWide Try.prog W .any base 22 v0) (h0 : DataW.Trod enc Try.prog W 0 (fun _ => true) true 22 v0 d0 p0) :
    ∃ ao n cap, v0 = .slice ao n cap ∧ n ≤ 9223372036854775807 ∧ ∃ R : List Rc, R.length = n ∧ (∀ r ∈ R, r.ok) ∧ RRow W ao R ∧ (ao = none → R = [] ∧ cap = 0) := by
  obtain ⟨ao, n, cap, rfl⟩ := okWide_slice Try.underlying22 hv0
  obtain ⟨fuel, hf⟩ := h0
  obtain ⟨ao', n', cap', e, h1, h2, h3, h4⟩ := elems_trod (k := 4) (L := rcL) Try.underlying22 flat_RC cells_RC (by decide) hf
  injection e with e1 e2 e3
  subst e1 e2 e3
  obtain ⟨R, hl, hR⟩ := list_choose (Q := fun i (r : Rc) => r.ok ∧ ∃ b off, ao = some ⟨b, off, none⟩ ∧ b < W.heap.size ∧ RcAt W b (off + i * 13) r) n (fun i hi => by
    obtain ⟨b, off, e, hb, hj⟩ := h4 i hi
    obtain ⟨r, ho, hat⟩ := rc_of (b := b) (o := off + i * 13) hj
    exact ⟨r, ho, b, off, e, hb, hat⟩)
  refine ⟨ao, n, cap, rfl, by omega, R, hl, fun r hr => ?_, fun i r hi => (hR i r hi).2, fun e => ?_⟩
  · obtain ⟨i, hi⟩ := List.getElem?_of_mem hr
    exact (hR i r hi).1
  · have := (h3 e).1
    exact ⟨List.eq_nil_of_length_eq_zero (by omega), (h3 e).2⟩
end
set_option maxRecDepth 100000 in
set_option maxHeartbeats 4000000 in
theorem left_law (w : World) (ao : Option Addr) (cap : Nat) (R : List Rc) (hR : R.length ≤ 9223372036854775807) (hok : ∀ r ∈ R, r.ok) (hr : RRow w ao R) (hn : ao = none → R = []) : Calls Try.prog 3 #[.slice ao R.length cap] w (IsPost w true) := by
  by_cases h40 : 40 < R.length
  · have HG := Lib.hid (lgreat_any w ao R.length cap hR)
    rw [decide_eq_true h40] at HG
    clear hok hr hn
    go_enter Try.func3, Try.ntmps3
    go_wp2_with fail
    refine HG.out.mono ?_
    rintro e w' ⟨rfl, rfl⟩
    go_wp2_with fail
    refine (wakes_any _).mono ?_
    rintro e w' ⟨rfl, hb⟩
    go_wp2_with fail
    go_ret
    exact ⟨rfl, hb⟩
  · have HG := Lib.hid (lgreat_any w ao R.length cap hR)
    rw [decide_eq_false h40] at HG
    have HN := Lib.hid (new_any w ao cap R (by omega) hok hr hn)
    have HK := Lib.hid hok
    have HR := Lib.hid hr
    clear hok hr hn
    go_enter Try.func3, Try.ntmps3
    go_wp2_with fail
    refine HG.out.mono ?_
    rintro e w' ⟨rfl, rfl⟩
    go_wp2_with fail
    refine HN.out.mono ?_
    rintro e w1 ⟨hb1, (⟨hps, -, v, rfl, hown⟩ | ⟨-, rfl⟩)⟩
    · obtain ⟨vo, vc, rfl⟩ := own_slice hown
      obtain ⟨ao1, c1, e1, hr1⟩ := row_of hown
      obtain ⟨rfl, -, rfl⟩ : vo = ao1 ∧ R.length = R.length ∧ vc = c1 := by injection e1 with a b c; exact ⟨a, b, c⟩
      have HPS := Lib.hid hps
      have HB1 := Lib.hid hb1
      have HR1 := Lib.hid hr1
      clear hps hb1 hr1 hown e1 HN HG
      go_wp2_with (with_reducible refine stop_op (o := ⟨_, .store 38 (.tmp 3) (.tmp 14), _, _, _, _⟩) ?_)
      refine Lib.hid ?_
      refine wpList_store_new (o := ⟨none, _, _, _, _, _⟩) rfl 38 (.tmp 3) (.tmp 14) rfl (frC 3 0 0 (.slice vo R.length vc)) rfl rfl (infoFR _ _ _ _) rfl (frC_one _ _ _ rfl) ?_
      have hF2 := heap_new w1 (.cells (frC 3 0 0 (.slice vo R.length vc)) 38)
      have hb2 := (Below.refl _ w1).alloc (Nat.le_refl _) (.cells (frC 3 0 0 (.slice vo R.length vc)) 38)
      generalize (w1.alloc (.cells (frC 3 0 0 (.slice vo R.length vc)) 38)) = W2 at *
      have HB2 := Lib.hid (HB1.out.trans (hb2.mono HB1.out.size))
      have HF2 := Lib.hid hF2
      have HL := Lib.hid (left_any W2 vo vc R (by omega) HK.out (HR1.out.keep hb2))
      clear hF2 hb2
      go_wp2_with (with_reducible refine stop_op (o := ⟨_, .load 38 (.tmp 3), _, _, _, _⟩) ?_)
      refine Lib.hid ?_
      refine wpList_load_row (o := ⟨_, _, _, _, _, _⟩) rfl 38 (.tmp 3) rfl w1.heap.size rfl 38 (frC 3 0 0 (.slice vo R.length vc)) (0, 0) _ HF2.out Try.underlying38 rfl (infoFR _ _ _ _) ?_
      go_wp2_with fail
      refine HL.out.mono ?_
      rintro e W3 ⟨v3, rfl, hb3, hown3⟩
      obtain ⟨lo, lc, rfl⟩ := own_slice hown3
      have HB3 := Lib.hid (HB2.out.trans (hb3.mono HB2.out.size))
      have HO3 := Lib.hid hown3
      have hdl := dn_len (pidsL R) R.length
      clear hown3 hb3 HF2 HL HB2
      go_wp2_with fail
      go_loopw [6, 7] (fun nv iv wr => ∃ (K : Nat) (pre : List Nat), K ≤ R.length ∧ iv = .int .i64 ((K : Int) - 1) ∧ nv = .int .i64 pre.length ∧ Below W3.heap.size W3 wr ∧ Hid (dn (pidsL R) R.length = pre ++ dn (pidsL R) K))
        (fun _ iv _ => (intOf iv + 1).toNat)
      case atStart => exact ⟨R.length, [], Nat.le_refl _, rfl, rfl, Below.refl _ _, Lib.hid rfl⟩
      case round =>
        obtain ⟨K, pre, hK, rfl, rfl, hbw, HD⟩ := hrel
        have HBW := Lib.hid hbw
        clear hbw
        cases K with
        | zero =>
          have hq : ((pre.length : Int) == ((dn (pidsL R) R.length).length : Int)) = true := by
            have := HD.out
            simp [dn] at this
            rw [this]
            simp
          go_wp2_with fail
          refine (wakes_any _).mono ?_
          rintro e w' ⟨rfl, hb⟩
          have HB4 := Lib.hid ((HB3.out.trans (HBW.out.mono HB3.out.size)).trans (hb.mono (Nat.le_trans HB3.out.size HBW.out.size)))
          clear hb
          go_wp2_with fail
          go_ret
          exact ⟨rfl, HB4.out⟩
        | succ k =>
          obtain ⟨r, hrk⟩ : ∃ r, R[k]? = some r := ⟨R[k], by simp⟩
          obtain ⟨b, off, rfl, hbs, hat⟩ := HR.out k r hrk
          have hp := keep_cell (keep_cell hat.pid HB3.out) HBW.out
          obtain ⟨hp1, hp2⟩ := HK.out r (List.mem_of_getElem? hrk)
          have hg : (pidsL R).getD k 0 = r.p := by simp [pidsL, hrk]
          have hp0 : 0 ≤ r.p := okPs_pos HPS.out (by simp only [pidsL, List.mem_map]; exact ⟨r, List.mem_of_getElem? hrk, rfl⟩)
          have e1 : ((k + 1 : Nat) : Int) - 1 = k := by omega
          rw [e1]
          have HG := Lib.hid hg
          generalize r.p = p at *
          clear hat hrk hg e1
          by_cases h0 : p = 0
          · subst h0
            have HS := Lib.hid (dn_not (ps := pidsL R) (k := k) (by rw [HG.out]; omega))
            go_wp2_with fail
            go_roundw
            case rel => exact ⟨k, pre, by omega, by go_num, rfl, HBW.out, Lib.hid (by rw [HD.out, HS.out])⟩
            case measure => simp [intOf]
          · have d0 : (p == 0) = false := by simpa using h0
            have HS := Lib.hid (dn_pos (ps := pidsL R) (k := k) (by rw [HG.out]; omega))
            have hlen : pre.length < (dn (pidsL R) R.length).length := by
              have h1 := congrArg List.length HD.out
              rw [HS.out] at h1
              simp at h1
              omega
            have hat : (dn (pidsL R) R.length)[pre.length]? = some k := by rw [HD.out, HS.out]; simp
            obtain ⟨g, cap4, e4, hg4, hgs4, -, hcm4, hc4⟩ := own_facts HO3.out (by omega)
            injection e4 with e5 e6 e7
            subst e5 e7
            have hl : wr.cell? ⟨g, pre.length, none⟩ = some (.int .i64 p) := by
              have h1 := hc4 pre.length (pidV R k) (by rw [List.getElem?_map, hat]; rfl)
              rw [pidV, HG.out] at h1
              exact keep_cell h1 HBW.out
            have d1 : decide ((dn (pidsL R) R.length).length ≤ pre.length) = false := by simp; omega
            have d2 : (p != p) = false := by simp
            have hl40 : (dn (pidsL R) R.length).length ≤ 40 := by omega
            clear hat hg4 hgs4 hc4 h0
            generalize (dn (pidsL R) R.length).length = m at *
            go_wp2_with fail
            go_quiet (fail)
            go_wp2_with fail
            go_roundw
            case rel => exact ⟨k, pre ++ [k], by omega, by go_num, by simp, below_drewN HBW.out _, Lib.hid (by rw [HD.out, HS.out]; simp)⟩
            case measure => simp [intOf]
    · have HB1 := Lib.hid hb1
      clear hb1 HN HG HR HK
      go_wp2_with (with_reducible refine stop_op (o := ⟨_, .store 38 (.tmp 3) (.tmp 14), _, _, _, _⟩) ?_)
      refine Lib.hid ?_
      refine wpList_store_new (o := ⟨none, _, _, _, _, _⟩) rfl 38 (.tmp 3) (.tmp 14) rfl (frC 0 0 0 nS) rfl rfl (infoFR _ _ _ _) rfl (frC_one _ _ _ rfl) ?_
      have hF2 := heap_new w1 (.cells (frC 0 0 0 nS) 38)
      have hb2 := (Below.refl _ w1).alloc (Nat.le_refl _) (.cells (frC 0 0 0 nS) 38)
      generalize (w1.alloc (.cells (frC 0 0 0 nS) 38)) = W2 at *
      have HB2 := Lib.hid (HB1.out.trans (hb2.mono HB1.out.size))
      have HF2 := Lib.hid hF2
      clear hF2 hb2
      go_wp2_with (with_reducible refine stop_op (o := ⟨_, .load 38 (.tmp 3), _, _, _, _⟩) ?_)
      refine Lib.hid ?_
      refine wpList_load_row (o := ⟨_, _, _, _, _, _⟩) rfl 38 (.tmp 3) rfl w1.heap.size rfl 38 (frC 0 0 0 nS) (0, 0) _ HF2.out Try.underlying38 rfl (infoFR _ _ _ _) ?_
      go_wp2_with fail
      refine (left_none W2).mono ?_
      rintro e w3 ⟨rfl, hb3⟩
      have HB3 := Lib.hid (HB2.out.trans (hb3.mono HB2.out.size))
      clear hb3
      go_wp2_with fail
      refine (wakes_any _).mono ?_
      rintro e w' ⟨rfl, hb⟩
      have HB4 := Lib.hid (HB3.out.trans (hb.mono HB3.out.size))
      clear hb
      go_wp2_with fail
      go_ret
      exact ⟨rfl, HB4.out⟩
end Go.Proofs.Ytjepiimggaiejaa
