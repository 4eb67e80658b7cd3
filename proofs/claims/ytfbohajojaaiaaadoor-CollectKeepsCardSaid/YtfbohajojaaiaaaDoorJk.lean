/- the law CollectKeeps, walked. Conditions: the table of letters reads as laid; what comes reads. -/
import Derived.Test.YtfbohajojaaiaaaDoorJb
import Derived.Test.YtfbohajojaaiaaaDoorJh
import Derived.Test.YtfbohajojaaiaaaDoorJj
namespace Go.Proofs.YtfbohajojaaiaaaDoor
open Go.ChangeShapes Go.WideShapes Go.ChangeAt Go.RowKit
set_option linter.unusedVariables false
set_option maxRecDepth 100000
theorem ran_ok {f : Nat} {w : World} {C C' : List HC} {S : List Int} (hr : Ran C S C') (hS : S.length ≤ 1048576) (h : ∀ c ∈ C, ∀ x ∈ c.l, WOk f w x) : ∀ c ∈ C', ∀ x ∈ c.l, WOk f w x := by
  intro c hc x hx
  obtain ⟨j, hj⟩ := List.getElem?_of_mem hc
  have hjl := (List.getElem?_eq_some_iff.1 hj).1
  rw [hr.len] at hjl
  obtain ⟨d, lo, lc, h1, h2⟩ := hr.cell j S[j] (List.getElem?_eq_getElem hjl)
  rw [hj] at h2
  injection h2 with h2
  subst h2
  obtain ⟨y, hy, rfl⟩ := List.mem_map.1 hx
  exact wok_mv (h d (List.mem_of_getElem? h1) y hy) (by rw [List.length_take]; omega)
/-- what the inner round reads -/
def Sh20 (b1 b2 oi ok ti tk : Nat) (xc zc : Bool) (xa za ya ua : Int) (W : World) : Prop :=
  W.cell? ⟨b1, oi, none⟩ = some (.bool xc) ∧ W.cell? ⟨b1, oi + 1, none⟩ = some (.int .i64 xa) ∧ W.cell? ⟨b1, ok, none⟩ = some (.bool zc) ∧ W.cell? ⟨b1, ok + 1, none⟩ = some (.int .i64 za) ∧ W.cell? ⟨b2, ti, none⟩ = some (.int .i64 ya) ∧ W.cell? ⟨b2, tk, none⟩ = some (.int .i64 ua)
set_option maxHeartbeats 16000000 in
theorem keeps_law (w : World) (f : Nat) (M : List Mk) (R : List Wd) (mo ro : Option Addr) (mc rc : Nat) (hL : Cells w 0 letL) (hM : MRow f w mo M) (hR : WRow w ro R) (hO : ∀ x ∈ R, WOk f w x)
    (h1 : M.length ≤ 140737488355328) (h2 : R.length ≤ 140737488355328) (h4 : ∀ m ∈ M, m.l.length ≤ 140737488355328) :
    Calls Tryd.prog 6 #[.slice mo M.length mc, .slice ro R.length rc] w (IsPost w true) := by
  have HG1 := Lib.hid (greatr_any w f M R mo ro mc rc hM hR hO h1 h2 h4)
  have HL := Lib.hid hL
  have HM := Lib.hid hM
  have HR := Lib.hid hR
  have HO := Lib.hid hO
  clear hL hM hR hO h4
  go_enter Tryd.func6, Tryd.ntmps6
  go_wp2_with fail
  refine HG1.out.mono ?_
  rintro e w1 ⟨b1, rfl, hb1, hf1⟩
  have HB1 := Lib.hid hb1
  have HF1 := Lib.hid hf1
  clear hb1 hf1 HG1
  cases b1
  case true =>
    go_wp2_with fail
    refine (wakes_any w1 (keep_letters HL.out HB1.out)).mono ?_
    rintro e w2 ⟨rfl, hb2⟩
    have HB2 := Lib.hid (HB1.out.trans (hb2.mono HB1.out.size))
    clear hb2
    go_wp2_with fail
    go_ret
    exact ⟨rfl, HB2.out⟩
  case false =>
    obtain ⟨hm4, hr4, hml4⟩ := fair_facts (HF1.out (by trivial))
    have HML := Lib.hid hml4
    have HO1 : Hid (∀ x ∈ R, WOk f w1 x) := Lib.hid (fun x hx => (HO.out x hx).keep HB1.out)
    clear hml4 HF1
    go_wp2_with fail
    refine (both_any w1 f M mo mc (keep_letters HL.out HB1.out) (HM.out.keep HB1.out) hm4 HML.out).mono ?_
    rintro e w3 ⟨p, q, v, v', C, C', rfl, hBI, hBP⟩
    have HB3 := Lib.hid (HB1.out.trans (hBI.hb.mono HB1.out.size))
    have HD3 := Lib.hid hBI.hb
    have HP := Lib.hid hBI.hp
    have HMD := Lib.hid hBP.made
    have HOK : Hid (∀ c ∈ C, ∀ x ∈ c.l, WOk f w1 x) := Lib.hid (fun c hc x hx => (hBP.ok c hc x hx).1)
    have hCl : C.length ≤ 400 := by have := hBP.len; omega
    clear hBI hBP HML HM
    have hlm : (R.map Wd.w).length = R.length := by simp
    go_wp2_with fail
    refine (words_any w3 R ro rc (HR.out.keep HB3.out) (by omega)).mono ?_
    rintro e w4 ⟨hb4, ao4, cap4, rfl, hown4⟩
    have HB4 := Lib.hid (HB3.out.trans (hb4.mono HB3.out.size))
    have HD4 := Lib.hid (HD3.out.trans (hb4.mono HD3.out.size))
    have HP4 := Lib.hid (HP.out.keep hb4)
    rw [← hlm] at hown4
    obtain ⟨ao4', cap4', e4, hrow4, hno4⟩ := own_prow hown4
    injection e4 with e41 e42 e43
    subst e41 e43
    have hrc := run_any w4 f p p v C ao4 cap4 (R.map Wd.w) HP4.out HMD.out (fun c hc x hx => (HOK.out c hc x hx).keep HD4.out) (keep_letters HL.out HB4.out) hrow4 (fun x hx => by
      obtain ⟨y, hy, rfl⟩ := List.mem_map.1 hx
      exact (wok_w (HO.out y hy)).keep HB4.out) (by rw [hlm]; omega)
    unfold RunP at hrc
    rw [hlm] at hrc
    have HRC := Lib.hid hrc
    clear hrc hrow4 hno4 hown4 hb4 e42 HB3 HP HD3
    go_wp2_with fail
    refine HRC.out.mono ?_
    rintro e w5 ⟨hb5, (⟨hbad, rfl⟩ | ⟨hgood, s, bo, vo, C9, ao9, cap9, hbo, hs, hran, hmade, hpo, rfl, hown9⟩)⟩
    · have HB5 := Lib.hid (HB4.out.trans (hb5.mono HB4.out.size))
      clear hb5 hbad HRC
      go_wp2_with fail
      refine (wakes_any w5 (keep_letters HL.out HB5.out)).mono ?_
      rintro e w6 ⟨rfl, hb6⟩
      have HB6 := Lib.hid (HB5.out.trans (hb6.mono HB5.out.size))
      clear hb6
      go_wp2_with fail
      go_ret
      exact ⟨rfl, HB6.out⟩
    · have hmay : ∀ x ∈ R.map Wd.w, mayW C.length x = true := fun x hx => by
        rw [List.any_eq_false] at hgood
        have := hgood x hx
        simpa using this
      have hcl := cl_outL HP4.out.2.2.2 hmay hs
      have hSm : ∀ x, x ∈ outL C.length s ↔ Rch C (R.map Wd.w) x := fun x => by
        rw [mem_outL, hs]
        exact ⟨fun h => h.2, fun h => ⟨rch_lt HP4.out.2.2.2 hmay h, h⟩⟩
      have hSl := outL_len C.length s
      have HSS := Lib.hid hs
      have HBAD := Lib.hid hgood
      obtain ⟨S, hSe⟩ : ∃ S, outL C.length s = S := ⟨_, rfl⟩
      rw [hSe] at hran hown9 hcl hSm hSl
      have HSE := Lib.hid hSe
      have HMAY := Lib.hid hmay
      have HCL := Lib.hid hcl
      have HSM := Lib.hid hSm
      have HRAN := Lib.hid hran
      have HMD9 := Lib.hid hmade
      have h9l : C9.length = S.length := hran.len
      have HB5 := Lib.hid (HB4.out.trans (hb5.mono HB4.out.size))
      have HD5 := Lib.hid (HD4.out.trans (hb5.mono HD4.out.size))
      have HP5 := Lib.hid (HP4.out.keep hb5)
      have HPO := Lib.hid hpo
      have HOK9 := Lib.hid (ran_ok hran (by omega) HOK.out)
      have hTl : ((R.map Wd.w).map (mv (gOf S))).length = R.length := by simp
      have HT : Hid (∀ x ∈ (R.map Wd.w).map (mv (gOf S)), WOk f w1 x) := Lib.hid (fun x hx => by
        obtain ⟨y, hy, rfl⟩ := List.mem_map.1 hx
        obtain ⟨z, hz, rfl⟩ := List.mem_map.1 hy
        exact wok_mv (wok_w (HO1.out z hz)) (by omega))
      rw [← hTl] at hown9
      obtain ⟨ao9', cap9', e9, hrow9, -⟩ := own_prow hown9
      injection e9 with e91 e92 e93
      subst e91 e93
      have HROW9 := Lib.hid hrow9
      clear hb5 hgood hs hSe hmay hcl hSm hran hmade hpo hown9 hrow9 e92 HRC hbo HP4 HMD
      go_wp2_with fail
      refine (words_any w5 R ro rc (HR.out.keep HB5.out) (by omega)).mono ?_
      rintro e w6 ⟨hb6, ao6, cap6, rfl, hown6⟩
      have HB6 := Lib.hid (HB5.out.trans (hb6.mono HB5.out.size))
      have HP6 := Lib.hid (HP5.out.keep hb6)
      have HPO6 := Lib.hid (HPO.out.keep hb6)
      have HD6 := Lib.hid (HD5.out.trans (hb6.mono HD5.out.size))
      have HROW6 := Lib.hid (HROW9.out.keep hb6)
      rw [← hlm] at hown6
      obtain ⟨ao6', cap6', e6, hrow6, -⟩ := own_prow hown6
      injection e6 with e61 e62 e63
      subst e61 e63
      have hrc := reached_any w6 f p p v C ao6 cap6 (R.map Wd.w) HP6.out (keep_letters HL.out HB6.out) hrow6 (fun x hx => by
        obtain ⟨y, hy, rfl⟩ := List.mem_map.1 hx
        exact (wok_w (HO.out y hy)).keep HB6.out) (by rw [hlm]; omega)
      unfold ReachP at hrc
      rw [hlm] at hrc
      have HRC := Lib.hid hrc
      clear hrc hrow6 hown6 hb6 e62 HP5 HPO HB5 HD5 HROW9
      go_wp2_with fail
      refine HRC.out.mono ?_
      rintro e w7 ⟨hb7, (⟨hbad, -⟩ | ⟨-, s7, v7, hs7, rfl, hown7⟩)⟩
      · have hbb := HBAD.out
        rw [hbad] at hbb
        cases hbb
      · have h7S : outL C.length s7 = S := by
          rw [← HSE.out]
          exact outL_same (fun x => (hs7 x).trans (HSS.out x).symm)
        rw [h7S, ← h9l] at hown7
        obtain ⟨vo7, vc7, rfl⟩ := own_slice hown7
        have HB7 := Lib.hid (HB6.out.trans (hb7.mono HB6.out.size))
        have HD7 := Lib.hid (HD6.out.trans (hb7.mono HD6.out.size))
        have HP7 := Lib.hid (HP6.out.keep hb7)
        have HPO7 := Lib.hid (HPO6.out.keep hb7)
        have HROW7 := Lib.hid (HROW6.out.keep hb7)
        have d0 : ((R.length : Int) != (R.length : Int)) = false := by simp
        have d1 : ((C9.length : Int) != (C9.length : Int)) = false := by simp
        have d2 : decide ((C.length : Int) < (C9.length : Int)) = false := by simp; omega
        clear hb7 hs7 h7S hown7 HRC HP6 HPO6 HB6 HD6 HROW6 HSS HBAD
        go_wp2_with fail
        refine (len_any w7 bo bo vo C9 HPO7.out).mono ?_
        rintro e w' ⟨rfl, rfl⟩
        go_wp2_with fail
        refine (len_any w7 p p v C HP7.out).mono ?_
        rintro e w' ⟨rfl, rfl⟩
        go_wp2_with fail
        refine (len_any w7 bo bo vo C9 HPO7.out).mono ?_
        rintro e w' ⟨rfl, rfl⟩
        have d3 : decide ((C.length : Int) < (S.length : Int)) = false := by simp; omega
        have d4 : decide (C.length < S.length) = false := by simp; omega
        go_wp2_with fail
        clear d0 d1 d2 d3 d4
        have HTL := Lib.hid hTl
        have HTG : Hid (∀ (i : Nat) (x : Wd), R[i]? = some x → ((R.map Wd.w).map (mv (gOf S)))[i]? = some (mv (gOf S) x.w)) := Lib.hid (fun i x hx => by simp [hx])
        clear hTl
        generalize hTT : (R.map Wd.w).map (mv (gOf S)) = T at *
        have HTT := Lib.hid hTT
        clear hTT
        go_loopw [86, 14] (fun iv _ wr => ∃ (i : Nat), i ≤ R.length ∧ iv = .int .i64 i ∧ Hid (Below w7.heap.size w7 wr)) (fun iv _ _ => R.length - (intOf iv).toNat)
        case atStart => exact ⟨0, by omega, rfl, Lib.hid (Below.refl _ _)⟩
        case round =>
          obtain ⟨i, hi, rfl, HI⟩ := hrel
          by_cases hlt : i < R.length
          · obtain ⟨x, hx⟩ : ∃ x, R[i]? = some x := ⟨R[i], by simp [hlt]⟩
            have HX := Lib.hid hx
            have hxm := List.mem_of_getElem? hx
            have hty := HTG.out i x hx
            have HBR := Lib.hid (HB7.out.trans (HI.out.mono HB7.out.size))
            obtain ⟨b1, o1, rfl, -, hc1⟩ := HR.out.keep HBR.out i x hx
            obtain ⟨b2, o2, rfl, -, hc2⟩ := HROW7.out.keep HI.out i _ hty
            have hS : SwS b1 (o1 + i * 7) b2 (o2 + i * 7) x (mv (gOf S) x.w) wr.drew := sws_of hc1 hc2
            have hdr : Below wr.heap.size wr wr.drew := (Below.refl _ _).drew
            have HWC := Lib.hid (word_any wr.drew x)
            have HBD := Lib.hid (HI.out.trans (hdr.mono HI.out.size))
            have hxw : x.w.c = true → x.w.a ∈ S := fun h => (HSM.out _).2 (.root (mem_named.2 ⟨_, List.mem_map_of_mem hxm, h, rfl⟩))
            have hsame := (root_same HP7.out.2.2.2 HCL.out HRAN.out hxw (HMAY.out _ (List.mem_map_of_mem hxm))).2
            have HSC : Hid (∀ W, Below w7.heap.size w7 W → Calls Tryd.prog 20 #[.pointer (some ⟨p, 0, none⟩), x.w.V, .pointer (some ⟨bo, 0, none⟩), (mv (gOf S) x.w).V] W (IsPost W true)) := Lib.hid (fun W hb => by
              have h := same_any w1 f p p bo bo v vo C C9 x.w (mv (gOf S) x.w) W HOK.out HOK9.out (HP7.out.keep hb) (HPO7.out.keep hb) (keep_letters HL.out (HB7.out.trans (hb.mono HB7.out.size))) (wok_w (HO1.out x hxm)) (HT.out _ (List.mem_of_getElem? hty)) (HD7.out.trans (hb.mono HD7.out.size))
              rw [hsame] at h
              exact h)
            obtain ⟨y, hy⟩ : ∃ y, mv (gOf S) x.w = y := ⟨_, rfl⟩
            obtain ⟨xw, hxw2⟩ : ∃ xw, x.w = xw := ⟨_, rfl⟩
            rw [hy] at hS HSC
            rw [hxw2] at HSC HWC
            have HY := Lib.hid hy
            have HTY := Lib.hid hty
            clear hx hty hc1 hc2 hdr hxw hsame hy hxw2 hxm
            go_wp2_with fail
            have hi2 : i < R.length := (List.getElem?_eq_some_iff.1 HX.out).1
            refine region_plan (SwS b1 (o1 + i * 7) b2 (o2 + i * 7) x y) [(0, 0), (1, 0), (2, 0), (3, 0), (4, 0), (6, 0), (7, 0), (8, 0), (9, 0), (10, 0), (5, 1), (11, 1), (12, 0)] (by kernel_rfl) (by kernel_rfl) (by kernel_rfl) hS ?_
            generalize wr.drew = WD at *
            iterate 10 (first | (refine plan_skip rfl ?_ ?_; (focus (rfl)); (try simp only [Act.put, List.setIfInBounds_toArray, List.set_cons_zero, List.set_cons_succ])) | (refine plan_take (v := ?_) rfl ?_ (fun w hSw => ?_) ?_; rotate_left; (focus (rfl)); (focus (unfold SwS at hSw; (go_simp <;> with_reducible rfl))); (try simp only [Act.put, List.setIfInBounds_toArray, List.set_cons_zero, List.set_cons_succ])))
            refine plan_run rfl ?_ (fun K hK => ?_)
            focus (rfl)
            go_simp
            refine (HWC.out).mono ?_
            rintro e W1 ⟨rfl, hb1⟩
            have hS1 := hS.keep hb1
            have HB1 := Lib.hid (HBD.out.trans (hb1.mono HBD.out.size))
            refine hK.out _ _ hS1 ?_
            clear hK K 
            (try simp only [Act.put, List.setIfInBounds_toArray, List.set_cons_zero, List.set_cons_succ])
            refine plan_run rfl ?_ (fun K hK => ?_)
            focus (rfl)
            go_simp
            refine (HSC.out _ HB1.out).mono ?_
            rintro e W2 ⟨rfl, hb2⟩
            have hS2 := hS1.keep hb2
            have HB2 := Lib.hid (HB1.out.trans (hb2.mono HB1.out.size))
            refine hK.out _ _ hS2 ?_
            clear hK K 
            (try simp only [Act.put, List.setIfInBounds_toArray, List.set_cons_zero, List.set_cons_succ])
            iterate 1 (first | (refine plan_skip rfl ?_ ?_; (focus (rfl)); (try simp only [Act.put, List.setIfInBounds_toArray, List.set_cons_zero, List.set_cons_succ])) | (refine plan_take (v := ?_) rfl ?_ (fun w hSw => ?_) ?_; rotate_left; (focus (rfl)); (focus (unfold SwS at hSw; (go_simp <;> with_reducible rfl))); (try simp only [Act.put, List.setIfInBounds_toArray, List.set_cons_zero, List.set_cons_succ])))
            refine plan_done ?_
            clear hS hS1 hS2 hb1 hb2
            go_wp2_with fail
            go_loopw [104] (fun iv wr => ∃ (k : Nat), k ≤ R.length ∧ iv = .int .i64 k ∧ Hid (Below w7.heap.size w7 wr)) (fun iv _ => R.length - (intOf iv).toNat)
            case atStart => exact ⟨0, by omega, rfl, HB2⟩
            case round =>
              clear HB2
              obtain ⟨k, hk, rfl, HK⟩ := hrel
              by_cases hltk : k < R.length
              · obtain ⟨z, hz⟩ : ∃ z, R[k]? = some z := ⟨R[k], by simp [hltk]⟩
                have HZ := Lib.hid hz
                have htz := HTG.out k z hz
                have HBZ := Lib.hid (HB7.out.trans (HK.out.mono HB7.out.size))
                obtain ⟨b1', o1', e1, -, hc1⟩ := HR.out.keep HBZ.out i x HX.out
                obtain ⟨b1'', o1'', e1', -, hc1'⟩ := HR.out.keep HBZ.out k z hz
                obtain ⟨b2', o2', e2, -, hc2⟩ := HROW7.out.keep HK.out i _ HTY.out
                obtain ⟨b2'', o2'', e2', -, hc2'⟩ := HROW7.out.keep HK.out k _ htz
                rw [HY.out] at hc2
                injection e1 with e1
                injection e1 with ea eb
                injection e1' with e1'
                injection e1' with ec ed
                injection e2 with e2
                injection e2 with ef eg
                injection e2' with e2'
                injection e2' with eh ei
                subst ea eb ec ed ef eg eh ei
                have hS20 : Sh20 b1 b2 (o1 + i * 7) (o1 + k * 7) (o2 + i * 7 + 1) (o2 + k * 7 + 1) x.c z.c x.a z.a y.a (mv (gOf S) z.w).a wr.drew := ⟨hc1 0 _ rfl, hc1 1 _ rfl, hc1' 0 _ rfl, hc1' 1 _ rfl, hc2 1 _ rfl, hc2' 1 _ rfl⟩
                have hneq : x.c = true → z.c = true → (y.a == (mv (gOf S) z.w).a) = (x.a == z.a) := fun hx hz2 => by
                  have hxm := List.mem_of_getElem? HX.out
                  have hzm := List.mem_of_getElem? HZ.out
                  have xwc : x.w.c = true ∧ x.w.a = x.a := by unfold Wd.w; rw [if_pos hx]; exact ⟨rfl, rfl⟩
                  have zwc : z.w.c = true ∧ z.w.a = z.a := by unfold Wd.w; rw [if_pos hz2]; exact ⟨rfl, rfl⟩
                  have hxs : x.w.a ∈ S := (HSM.out _).2 (.root (mem_named.2 ⟨_, List.mem_map_of_mem hxm, xwc.1, rfl⟩))
                  have hzs : z.w.a ∈ S := (HSM.out _).2 (.root (mem_named.2 ⟨_, List.mem_map_of_mem hzm, zwc.1, rfl⟩))
                  have h := share_moved HCL.out xwc.1 zwc.1 hxs hzs
                  rw [HY.out, xwc.2, zwc.2] at h
                  exact h
                have HNEQ := Lib.hid hneq
                have hBd : Below w7.heap.size w7 wr.drew := HK.out.trans ((Below.refl _ _).drew.mono HK.out.size)
                have HBK := Lib.hid hBd
                have hi2 : i < R.length := (List.getElem?_eq_some_iff.1 HX.out).1
                clear hz htz hc1 hc1' hc2 hc2' hneq hBd
                obtain ⟨xc, hxc⟩ : ∃ c, x.c = c := ⟨_, rfl⟩
                obtain ⟨zc, hzc⟩ : ∃ c, z.c = c := ⟨_, rfl⟩
                obtain ⟨ua, hua⟩ : ∃ c, (mv (gOf S) z.w).a = c := ⟨_, rfl⟩
                rw [hxc, hzc, hua] at hS20 HNEQ
                clear hxc hzc hua
                cases xc
                · go_wp2_with fail
                  refine region_plan (Sh20 b1 b2 (o1 + i * 7) (o1 + k * 7) (o2 + i * 7 + 1) (o2 + k * 7 + 1) false zc x.a z.a y.a ua) [(0, 0), (1, 0), (2, 0), (3, 0), (4, 0), (5, 0), (6, 0), (7, 0), (8, 0), (9, 0), (10, 0), (11, 0), (12, 0), (13, 0), (14, 0), (15, 0), (16, 0), (17, 0), (18, 0), (19, 0), (20, 0), (21, 0), (22, 0), (23, 0), (24, 0), (25, 0), (26, 0), (27, 0), (28, 0), (29, 0), (30, 0), (31, 0), (32, 0), (33, 0), (34, 0), (35, 0), (36, 0)] (by kernel_rfl) (by kernel_rfl) (by kernel_rfl) hS20 ?_
                  generalize wr.drew = WD at *
                  iterate 37 (first | (refine plan_skip rfl ?_ ?_; (focus (rfl)); (try simp only [Act.put, List.setIfInBounds_toArray, List.set_cons_zero, List.set_cons_succ])) | (refine plan_take (v := ?_) rfl ?_ (fun w hSw => ?_) ?_; rotate_left; (focus (rfl)); (focus (unfold Sh20 at hSw; (go_simp <;> with_reducible rfl))); (try simp only [Act.put, List.setIfInBounds_toArray, List.set_cons_zero, List.set_cons_succ])))
                  refine plan_done ?_
                  clear hS20
                  go_wp2_with fail
                  go_roundw
                  case rel => exact ⟨k + 1, by omega, by go_num, HBK⟩
                  case measure => simp [intOf]; omega
                · cases zc
                  · go_wp2_with fail
                    refine region_plan (Sh20 b1 b2 (o1 + i * 7) (o1 + k * 7) (o2 + i * 7 + 1) (o2 + k * 7 + 1) true false x.a z.a y.a ua) [(0, 0), (1, 0), (2, 0), (3, 0), (4, 0), (5, 0), (6, 0), (7, 0), (8, 0), (9, 0), (10, 0), (11, 0), (12, 0), (13, 0), (14, 0), (15, 0), (16, 0), (17, 0), (18, 0), (19, 0), (20, 0), (21, 0), (22, 0), (23, 0), (24, 0), (25, 0), (26, 0), (27, 0), (28, 0), (29, 0), (30, 0), (31, 0), (32, 0), (33, 0), (34, 0), (35, 0), (36, 0)] (by kernel_rfl) (by kernel_rfl) (by kernel_rfl) hS20 ?_
                    generalize wr.drew = WD at *
                    iterate 37 (first | (refine plan_skip rfl ?_ ?_; (focus (rfl)); (try simp only [Act.put, List.setIfInBounds_toArray, List.set_cons_zero, List.set_cons_succ])) | (refine plan_take (v := ?_) rfl ?_ (fun w hSw => ?_) ?_; rotate_left; (focus (rfl)); (focus (unfold Sh20 at hSw; (go_simp <;> with_reducible rfl))); (try simp only [Act.put, List.setIfInBounds_toArray, List.set_cons_zero, List.set_cons_succ])))
                    refine plan_done ?_
                    clear hS20
                    go_wp2_with fail
                    go_roundw
                    case rel => exact ⟨k + 1, by omega, by go_num, HBK⟩
                    case measure => simp [intOf]; omega
                  · obtain ⟨bb, hbb⟩ : ∃ bb, (x.a == z.a) = bb := ⟨_, rfl⟩
                    have HBB := Lib.hid hbb
                    have HCC : Hid ((y.a == ua) = bb) := Lib.hid ((HNEQ.out rfl rfl).trans hbb)
                    clear hbb
                    cases bb
                    all_goals
                      go_wp2_with fail
                      have e1 := HBB.out
                      have e2 := HCC.out
                      refine region_plan (Sh20 b1 b2 (o1 + i * 7) (o1 + k * 7) (o2 + i * 7 + 1) (o2 + k * 7 + 1) true true x.a z.a y.a ua) [(0, 0), (1, 0), (2, 0), (3, 0), (4, 0), (5, 0), (6, 0), (7, 0), (8, 0), (9, 0), (10, 0), (11, 0), (12, 0), (13, 0), (14, 0), (15, 0), (16, 0), (17, 0), (18, 0), (19, 0), (20, 0), (21, 0), (22, 0), (23, 0), (24, 0), (25, 0), (26, 0), (27, 0), (28, 0), (29, 0), (30, 0), (31, 0), (32, 0), (33, 0), (34, 0), (35, 0), (36, 0)] (by kernel_rfl) (by kernel_rfl) (by kernel_rfl) hS20 ?_
                      generalize wr.drew = WD at *
                      iterate 37 ((first | (refine plan_skip rfl ?_ ?_; (focus (rfl)); (try simp only [Act.put, List.setIfInBounds_toArray, List.set_cons_zero, List.set_cons_succ])) | (refine plan_take (v := ?_) rfl ?_ (fun w hSw => ?_) ?_; rotate_left; (focus (rfl)); (focus (unfold Sh20 at hSw; (go_simp <;> with_reducible rfl))); (try simp only [Act.put, List.setIfInBounds_toArray, List.set_cons_zero, List.set_cons_succ]))); (try simp only [e1, e2]))
                      refine plan_done ?_
                      clear hS20
                      go_wp2_with fail
                      go_roundw
                      case rel => exact ⟨k + 1, by omega, by go_num, HBK⟩
                      case measure => simp [intOf]; omega
              · have hkR : k = R.length := by omega
                go_wp2_with fail
                go_roundw
                case rel => exact ⟨i + 1, by omega, by go_num, HK⟩
                case measure => simp [intOf]; omega
          · have HBR := Lib.hid (HB7.out.trans (HI.out.mono HB7.out.size))
            have hany : (T.any fun x => !mayW C9.length x) = false := by
              rw [List.any_eq_false]
              intro t ht
              rw [← HTT.out] at ht
              obtain ⟨y, hy, rfl⟩ := List.mem_map.1 ht
              have hxw : y.c = true → y.a ∈ S := fun h => (HSM.out _).2 (.root (mem_named.2 ⟨_, hy, h, rfl⟩))
              have := (root_same HP7.out.2.2.2 HCL.out HRAN.out hxw (HMAY.out _ hy)).1
              simp [this]
            have HANY := Lib.hid hany
            have hrc := run_any wr f bo bo vo C9 ao9 cap9 T (HPO7.out.keep HI.out) HMD9.out (fun c hc x hx => (HOK9.out c hc x hx).keep (HD7.out.trans (HI.out.mono HD7.out.size))) (keep_letters HL.out HBR.out) (HROW7.out.keep HI.out) (fun x hx => (HT.out x hx).keep (HD7.out.trans (HI.out.mono HD7.out.size))) (by rw [HTL.out]; omega)
            unfold RunP at hrc
            rw [HTL.out] at hrc
            have HRC := Lib.hid hrc
            clear hany hrc
            go_wp2_with fail
            refine HRC.out.mono ?_
            rintro e w20 ⟨hb20, (⟨hbad, -⟩ | ⟨-, s2, b2, v2, C10, ao10, cap10, -, hs2, hran2, -, hp10, rfl, hown10⟩)⟩
            · have hbb := HANY.out
              rw [hbad] at hbb
              cases hbb
            · rw [← HTT.out] at hs2 hown10
              have hall := again_all HP7.out.2.2.2 HPO7.out.2.2.2 HCL.out HRAN.out HSM.out HMAY.out hs2
              rw [hall] at hran2 hown10
              have hxw : ∀ x ∈ R.map Wd.w, x.c = true → x.a ∈ S := fun y hy h => (HSM.out _).2 (.root (mem_named.2 ⟨_, hy, h, rfl⟩))
              rw [again_words HCL.out HRAN.out hxw, HTT.out] at hown10
              have hl10 : C10.length = S.length := by rw [hran2.len, again_len, h9l]
              have hown' := hown10
              rw [← HTL.out] at hown'
              obtain ⟨ao10', cap10', e10, hrow10, -⟩ := own_prow hown'
              injection e10 with e101 e102 e103
              subst e101 e103
              have HB20 := Lib.hid (HBR.out.trans (hb20.mono HBR.out.size))
              have hi20 := HI.out.trans (hb20.mono HI.out.size)
              have hlen1 := len_any w20 b2 b2 v2 C10 hp10
              rw [hl10] at hlen1
              have hlen2 := len_any w20 bo bo vo C9 (HPO7.out.keep hi20)
              rw [h9l] at hlen2
              have HLEN1 := Lib.hid hlen1
              have HLEN2 := Lib.hid hlen2
              have hd20 := HD7.out.trans (hi20.mono HD7.out.size)
              have hsw := samewords_any f f w20 T T ao10 ao9 cap10 cap9 hrow10 (HROW7.out.keep hi20) (fun x hx => (HT.out x hx).keep hd20) (fun x hx => (HT.out x hx).keep hd20) (by rw [HTL.out]; omega) (by rw [HTL.out]; omega)
              rw [eqWs_refl, HTL.out] at hsw
              have HSW := Lib.hid hsw
              have dq : ((S.length : Int) == (S.length : Int)) = true := by simp
              clear hb20 hs2 hran2 hp10 hown10 hown' hrow10 hall hxw hi20 hlen1 hlen2 hd20 hsw e102 HRC hl10
              go_wp2_with fail
              refine HLEN1.out.mono ?_
              rintro e w' ⟨rfl, rfl⟩
              go_wp2_with fail
              refine HLEN2.out.mono ?_
              rintro e w' ⟨rfl, rfl⟩
              go_wp2_with fail
              refine HSW.out.mono ?_
              rintro e w21 ⟨rfl, hb21⟩
              have HB21 := Lib.hid (HB20.out.trans (hb21.mono HB20.out.size))
              clear hb21
              go_wp2_with fail
              refine (wakes_any w21 (keep_letters HL.out HB21.out)).mono ?_
              rintro e w22 ⟨rfl, hb22⟩
              have HB22 := Lib.hid (HB21.out.trans (hb22.mono HB21.out.size))
              clear hb22
              go_wp2_with fail
              go_ret
              exact ⟨rfl, HB22.out⟩
theorem keeps_row {H : Type} {enc : TypeId × Value → H} (W : World) {base : Nat} {v0 v1 : Value} {d0 d1 : DataW H} {p0 p1 : List MemPlace} (hv0 : Value.okWide Tryd.prog W .any base 38 v0) (h0 : DataW.Trod enc Tryd.prog W 0 (fun _ => true) true 38 v0 d0 p0) (hz0 : Sz Tryd.prog 38 d0)
    (hv1 : Value.okWide Tryd.prog W .any base 22 v1) (h1 : DataW.Trod enc Tryd.prog W 0 (fun _ => true) true 22 v1 d1 p1) (hz1 : Sz Tryd.prog 22 d1)
    (hL : laidMetH Tryd.prog [("pleach/atoms.letters", letD)] W) : Calls Tryd.prog 6 #[v0, v1] W (IsPost W true) := by
  obtain ⟨_, _, _, rfl⟩ := okWide_slice Tryd.underlying38 hv0
  obtain ⟨_, _, _, rfl⟩ := okWide_slice Tryd.underlying22 hv1
  obtain ⟨f0, hf0⟩ := h0
  obtain ⟨f1, hf1⟩ := h1
  obtain ⟨mo, mc, M, e0, -, -, a1, a2, a3, -⟩ := makes_of_trod hf0 hz0
  obtain ⟨ro, rc, R, e1, -, -, b1, b2, b3, b4⟩ := parts_of_trod hf1
  rw [e0, e1]
  exact keeps_law W (f0 + f1) M R mo ro mc rc (letters_of W hL) (a1.more (by omega)) b1 (fun x hx => (b2 x hx).more (by omega)) a2 (b3 hz1) a3
end Go.Proofs.YtfbohajojaaiaaaDoor
