/- the reference's Cell, moved. Conditions: what comes reads. -/
/- the reference's Reached. Conditions: what comes reads. -/
/- the reference's Run. Conditions: what comes reads. -/
import Derived.Test.YtfbohajojaaiaaaDoorHx
import Derived.Test.YtfbohajojaaiaaaDoorHm
import Derived.Test.YtfbohajojaaiaaaDoorHn
import Derived.Test.YtfbohajojaaiaaaDoorW1
import Derived.Test.YtfbohajojaaiaaaDoorW3
import Derived.Test.YtfbohajojaaiaaaDoorHy
namespace Go.Proofs.YtfbohajojaaiaaaDoor
open Go.ChangeShapes Go.WideShapes Go.ChangeAt Go.RowKit
set_option linter.unusedVariables false
set_option maxRecDepth 100000
abbrev zC3 : Array Value := #[.int .i8 0, .int .i64 0, .slice none 0 0]
theorem infoCL3 (cs : Array Value) (h : cs.size = 3) : (Tryd.prog.info? 65).map (·.size) = some cs.size := by
  rw [h]
  kernel_rfl
def Cl3 (q : Nat) (a b c : Value) (W : World) : Prop := W.cell? ⟨q, 0, none⟩ = some a ∧ W.cell? ⟨q, 1, none⟩ = some b ∧ W.cell? ⟨q, 2, none⟩ = some c
theorem Cl3.keep {q : Nat} {a b c : Value} {W W' : World} (h : Cl3 q a b c W) (hb : Below W.heap.size W W') : Cl3 q a b c W' := ⟨keep_cell h.1 hb, keep_cell h.2.1 hb, keep_cell h.2.2 hb⟩
set_option maxHeartbeats 4000000 in
theorem rcell_any (w : World) (base p : Nat) (v : Value) (C : List HC) (i : Nat) (c : HC) (h : RHp w base p v C) (hc : C[i]? = some c) : Calls Tryd.prog 39 #[.pointer (some ⟨p, 0, none⟩), .int .i64 i] w fun e w' =>
    Below w.heap.size w w' ∧ ∃ lo lc, e = .returned (.tuple #[.agg #[.int .i8 c.k, .int .i64 c.sz, .slice lo c.l.length lc], .int .i64 0]) ∧ w'.ownsRow w.heap.size 58 7 (.slice lo c.l.length lc) c.l.length (wcs c.l) := by
  obtain ⟨i0, z0, q1, q2, q3, q4, q5⟩ := infoWD2
  have hi : i < C.length := (List.getElem?_eq_some_iff.1 hc).1
  have hC20 : C.length ≤ 1048576 := h.2.2.2.1
  have hcl : c.l.length ≤ 255 := (h.2.2.2.2 _ _ hc).2.2.2.1
  have HOWN := Lib.hid (h.2.2.1.2 c (List.mem_of_getElem? hc))
  obtain ⟨vo, vc, rfl, -, hcm, p0, -, hps, hcell⟩ := h.facts
  obtain ⟨g, rfl, hg⟩ := hcell i c hc
  have e0 := hg 0 _ rfl
  have e1 := hg 1 _ rfl
  have e2 := hg 2 _ rfl
  simp only [Nat.add_zero] at e0
  have hgs := World.block_lt_of_cell? w _ e0
  have hz := heap_new w (.cells zC3 65)
  have hb1 := (Below.refl w.heap.size w).alloc (Nat.le_refl _) (.cells zC3 65)
  have HZ := Lib.hid hz
  have HB1 := Lib.hid hb1
  have hs1 : (w.alloc (.cells zC3 65)).heap.size = w.heap.size + 1 := by simp
  have HS1 := Lib.hid hs1
  have d1 : decide ((i : Int) < 0) = false := by simp <;> omega
  have d2 : decide ((C.length : Int) ≤ i) = false := by simp; omega
  clear h hc hcell hg hz hb1 hs1
  go_enter Tryd.func39, Tryd.ntmps39
  go_wp2_with (with_reducible refine stop_op (o := ⟨_, .store 65 (.tmp 6) (.tmp 25), _, _, _, _⟩) ?_)
  refine Lib.hid ?_
  have hz6 := heap_new (w.alloc (.cells zC3 65)) (.cells zC3 65)
  rw [HS1.out] at hz6
  refine wpList_store_row (o := ⟨none, _, _, _, _, _⟩) rfl 65 (.tmp 6) (.tmp 25) rfl (w.heap.size + 1) #[.int .i8 c.k, .int .i64 c.sz, .slice c.lo c.l.length c.lc] rfl rfl 65 zC3 hz6 (infoCL3 _ rfl) rfl (by simp [Value.oneCell']) ?_
  have hcs := chg_setRow ((w.alloc (.cells zC3 65)).alloc (.cells zC3 65)) (w.heap.size + 1) #[.int .i8 c.k, .int .i64 c.sz, .slice c.lo c.l.length c.lc]
  have hn2 := setRow_heap _ (w.heap.size + 1) _ #[.int .i8 c.k, .int .i64 c.sz, .slice c.lo c.l.length c.lc] _ _ hz6
  have HZ2 := Lib.hid (hcs.heap (heap_old HZ.out (.cells zC3 65)) (fun e => by have e : w.heap.size = w.heap.size + 1 := e; omega))
  have hb2 := HB1.out.alloc HB1.out.size (.cells zC3 65)
  have HB2 := Lib.hid (hb2.trans (hcs.below hb2.size (fun k h => by have h : k = w.heap.size + 1 := h; omega)))
  have hs2 : (((w.alloc (.cells zC3 65)).alloc (.cells zC3 65)).setRow (w.heap.size + 1) #[.int .i8 c.k, .int .i64 c.sz, .slice c.lo c.l.length c.lc]).heap.size = w.heap.size + 2 := by simp
  have HS2 := Lib.hid hs2
  clear hz6 hcs hb2 hs2 e0 e1 e2 p0 d1 d2
  generalize ((w.alloc (.cells zC3 65)).alloc (.cells zC3 65)).setRow (w.heap.size + 1) #[.int .i8 c.k, .int .i64 c.sz, .slice c.lo c.l.length c.lc] = W2 at *
  have hS : Cl3 (w.heap.size + 1) (.int .i8 c.k) (.int .i64 c.sz) (.slice c.lo c.l.length c.lc) W2.drew := ⟨(cells_at hn2 0 _ rfl).1, (cells_at hn2 1 _ rfl).1, (cells_at hn2 2 _ rfl).1⟩
  go_wp2_with fail
  refine region_plan (Cl3 (w.heap.size + 1) (.int .i8 c.k) (.int .i64 c.sz) (.slice c.lo c.l.length c.lc)) [(0, 0), (1, 0), (2, 0), (3, 0), (5, 0), (6, 0), (4, 1), (7, 1), (8, 0), (9, 1), (10, 0)] (by kernel_rfl) (by kernel_rfl) (by kernel_rfl) hS ?_
  have hdr : Below W2.heap.size W2 W2.drew := (Below.refl _ _).drew
  have HZD := Lib.hid (keep_heap HZ2.out hdr)
  have HBD := Lib.hid (HB2.out.trans (hdr.mono HB2.out.size))
  have hsd : W2.drew.heap.size = w.heap.size + 2 := HS2.out
  have HND := Lib.hid (keep_heap hn2 hdr)
  have HSD := Lib.hid hsd
  clear hdr hn2 HZ2 HB2 hsd
  generalize W2.drew = WD at *
  iterate 6 (first | (refine plan_skip rfl ?_ ?_; (focus (rfl)); (try simp only [Act.put, List.setIfInBounds_toArray, List.set_cons_zero, List.set_cons_succ])) | (refine plan_take (v := ?_) rfl ?_ (fun w hSw => ?_) ?_; rotate_left; (focus (rfl)); (focus (unfold Cl3 at hSw; (go_simp <;> with_reducible rfl))); (try simp only [Act.put, List.setIfInBounds_toArray, List.set_cons_zero, List.set_cons_succ])))
  have hba := (Below.refl WD.heap.size WD).alloc (Nat.le_refl _) (.cells #[] 58)
  have hSa := hS.keep hba
  refine plan_run rfl ?_ (fun K hK => ?_)
  focus (rfl)
  go_simp
  refine hK.out _ _ (hSa) ?_
  clear hK K
  (try simp only [Act.put, List.setIfInBounds_toArray, List.set_cons_zero, List.set_cons_succ])
  have hown0 := World.ownsRow_made (e := 58) (size := 7) (base := w.heap.size) WD #[] 0 (by have := HSD.out; omega) (by decide) rfl
  obtain ⟨lo', lc', e', -, -, hrw, hno⟩ := own_wrow (own_keep HOWN.out (HBD.out.trans (hba.mono HBD.out.size)))
  injection e' with ea eb ec
  subst ea ec
  have HNO := Lib.hid hno
  clear hno eb
  refine plan_run rfl ?_ (fun K hK => ?_)
  focus (rfl)
  refine op_append_any (.tmp 30) (.tmp 32) 26 rfl w.heap.size 58 i0 z0 7 88 Tryd.underlying26 q1 q2 q3 q4 q5 (by decide) (.slice (some ⟨WD.heap.size, 0, none⟩) 0 0) 0 [] rfl hown0 c.lo c.l.length c.lc (wcs c.l) rfl (wcs_len c.l) (fun e => by obtain ⟨e1, e2⟩ := HNO.out e; exact ⟨by rw [e1]; rfl, e2⟩) hrw.news wcs_one (by unfold maxLen; omega) (by omega) (by have := HSD.out; simp; omega) ?_
  intro v1 W1 hown1 hg1 hwh1
  obtain ⟨lo, lc, rfl⟩ := own_slice hown1
  rw [List.nil_append, Nat.zero_add] at hown1
  simp only [Nat.zero_add]
  have hb5 : Below WD.heap.size WD W1 := hba.trans ((chg_grown hg1).below hba.size (fun k h => by
    have h : some k = some WD.heap.size := h
    injection h with h
    omega))
  have hz5 := keep_heap HZD.out hb5
  have hS1 := hS.keep hb5
  refine hK.out _ _ (hS1) ?_
  clear hK K
  (try simp only [Act.put, List.setIfInBounds_toArray, List.set_cons_zero, List.set_cons_succ])
  iterate 1 (first | (refine plan_skip rfl ?_ ?_; (focus (rfl)); (try simp only [Act.put, List.setIfInBounds_toArray, List.set_cons_zero, List.set_cons_succ])) | (refine plan_take (v := ?_) rfl ?_ (fun w hSw => ?_) ?_; rotate_left; (focus (rfl)); (focus (unfold Cl3 at hSw; (go_simp <;> with_reducible rfl))); (try simp only [Act.put, List.setIfInBounds_toArray, List.set_cons_zero, List.set_cons_succ])))
  have hc := chg_setRow W1 w.heap.size #[.int .i8 c.k, .int .i64 c.sz, .slice lo c.l.length lc]
  have hn5 := hc.heap (keep_heap HND.out hb5) (fun e => by have e : w.heap.size + 1 = w.heap.size := e; omega)
  have hS6 : Cl3 (w.heap.size + 1) (.int .i8 c.k) (.int .i64 c.sz) (.slice c.lo c.l.length c.lc) (W1.setRow w.heap.size #[.int .i8 c.k, .int .i64 c.sz, .slice lo c.l.length lc]) := ⟨(cells_at hn5 0 _ rfl).1, (cells_at hn5 1 _ rfl).1, (cells_at hn5 2 _ rfl).1⟩
  refine plan_run rfl ?_ (fun K hK => ?_)
  focus (rfl)
  refine wp_store_row 65 (.tmp 4) (.tmp 34) rfl w.heap.size #[.int .i8 c.k, .int .i64 c.sz, .slice lo c.l.length lc] rfl rfl 65 zC3 hz5 (infoCL3 _ rfl) rfl (by simp [Value.oneCell']) ?_
  refine hK.out _ _ (hS6) ?_
  clear hK K
  (try simp only [Act.put, List.setIfInBounds_toArray, List.set_cons_zero, List.set_cons_succ])
  iterate 1 (first | (refine plan_skip rfl ?_ ?_; (focus (rfl)); (try simp only [Act.put, List.setIfInBounds_toArray, List.set_cons_zero, List.set_cons_succ])) | (refine plan_take (v := ?_) rfl ?_ (fun w hSw => ?_) ?_; rotate_left; (focus (rfl)); (focus (unfold Cl3 at hSw; (go_simp <;> with_reducible rfl))); (try simp only [Act.put, List.setIfInBounds_toArray, List.set_cons_zero, List.set_cons_succ])))
  refine plan_done ?_
  have HX := Lib.hid (setRow_heap _ w.heap.size _ #[.int .i8 c.k, .int .i64 c.sz, .slice lo c.l.length lc] _ _ hz5)
  have hB6 := HBD.out.trans (hb5.mono HBD.out.size)
  have HFIN := Lib.hid (hB6.trans (hc.below hB6.size (fun k h => by have h : k = w.heap.size := h; omega)))
  have HFO := Lib.hid (own_chg hown1 hc (fun j hj e => by
    have e : j = w.heap.size := e
    obtain ⟨cur, hcur⟩ := own_type hown1 j hj
    rw [e, hz5] at hcur
    cases hcur))
  clear hba hSa hown0 hrw hown1 hg1 hwh1 hb5 hz5 hS1 hc hn5 hS6 hB6 hS
  generalize W1.setRow w.heap.size #[.int .i8 c.k, .int .i64 c.sz, .slice lo c.l.length lc] = W9 at *
  go_wp2_with fail
  exact ret_row HX.out rfl Tryd.underlying65 rfl (infoCL3 _ rfl) rfl rfl ⟨HFIN.out, lo, lc, rfl, HFO.out⟩
def MvS (q b i : Nat) (n a : Int) (W : World) : Prop := W.cell? ⟨b, i, none⟩ = some (.int .i64 n) ∧ W.cell? ⟨q, 1, none⟩ = some (.int .i64 a)
theorem MvS.keep {q b i : Nat} {n a : Int} {W W' : World} (h : MvS q b i n a W) (hb : Below W.heap.size W W') : MvS q b i n a W' := ⟨keep_cell h.1 hb, keep_cell h.2 hb⟩
set_option maxHeartbeats 4000000 in
theorem rmoved_any (w : World) (B : Nat) (s : List Int) (ao : Option Addr) (cap : Nat) (x : Wd) (hs : w.ownsRow B 3 1 (.slice ao s.length cap) s.length (intsV s)) (hnd : s.Nodup) (hn : s.length ≤ 1099511627776) :
    Calls Tryd.prog 40 #[x.V, .slice ao s.length cap] w fun e w' => Below w.heap.size w w' ∧ e = .returned (.agg (mv (gOf s) x).cells.toArray) := by
  have hb := ((Below.refl w.heap.size w).alloc (Nat.le_refl _) (.cells x.cells.toArray 58)).alloc (by simp) (.cells wzC 58)
  have n1 := heap_old (heap_new w (.cells x.cells.toArray 58)) (.cells wzC 58)
  have n2 := heap_new (w.alloc (.cells x.cells.toArray 58)) (.cells wzC 58)
  rw [World.size_alloc] at n2
  have HB := Lib.hid hb
  have HN1 := Lib.hid n1
  have HN2 := Lib.hid n2
  have HOWN := Lib.hid (own_keep hs hb)
  have HND := Lib.hid hnd
  have HMV0 : Hid (∀ y, mv (gOf s) x = y → mv (gOf s) x = y) := Lib.hid (fun _ h => h)
  obtain ⟨xc, xa, xk, xn, xs, xu, xao, xcap, xl⟩ := x
  simp only [Wd.V, Wd.cells] at *
  clear hb n1 n2 hs hnd
  cases xc
  · have HMV : Hid (mv (gOf s) ⟨false, xa, xk, xn, xs, xu, xao, xcap, xl⟩ = ⟨false, xa, xk, xn, xs, xu, xao, xcap, xl⟩) := Lib.hid (by simp [mv])
    have HBR := HB
    have HZR := HN2
    obtain ⟨x0, -⟩ := cells_at HN1.out 0 _ rfl
    obtain ⟨x1, -⟩ := cells_at HN1.out 1 _ rfl
    obtain ⟨x2, -⟩ := cells_at HN1.out 2 _ rfl
    obtain ⟨x3, -⟩ := cells_at HN1.out 3 _ rfl
    obtain ⟨x4, -⟩ := cells_at HN1.out 4 _ rfl
    obtain ⟨x5, -⟩ := cells_at HN1.out 5 _ rfl
    obtain ⟨x6, -⟩ := cells_at HN1.out 6 _ rfl
    go_enter Tryd.func40, Tryd.ntmps40
    go_wp2_with (with_reducible refine stop_op (o := ⟨_, .store 58 (.tmp 4) (.tmp 9), _, _, _, _⟩) ?_)
    refine Lib.hid ?_
    refine wpList_store_row (o := ⟨none, _, _, _, _, _⟩) rfl 58 (.tmp 4) (.tmp 9) rfl (w.heap.size + 1) #[.bool false, .int .i64 xa, .int .i8 xk, .int .i64 xn, .string xs, .string xu, .slice xao xl.length xcap] rfl rfl 58 wzC HZR.out (infoWD _ rfl) rfl (by simp [wcC, Value.oneCell']) ?_
    have HX := Lib.hid (setRow_heap _ (w.heap.size + 1) _ #[.bool false, .int .i64 xa, .int .i8 xk, .int .i64 xn, .string xs, .string xu, .slice xao xl.length xcap] _ _ HZR.out)
    have hc := chg_setRow ((w.alloc (.cells #[.bool false, .int .i64 xa, .int .i8 xk, .int .i64 xn, .string xs, .string xu, .slice xao xl.length xcap] 58)).alloc (.cells wzC 58)) (w.heap.size + 1) #[.bool false, .int .i64 xa, .int .i8 xk, .int .i64 xn, .string xs, .string xu, .slice xao xl.length xcap]
    have HFIN := Lib.hid (HBR.out.trans (hc.below HBR.out.size (fun k h => by have h : k = w.heap.size + 1 := h; omega)))
    clear hc
    generalize World.setRow ((w.alloc (.cells #[.bool false, .int .i64 xa, .int .i8 xk, .int .i64 xn, .string xs, .string xu, .slice xao xl.length xcap] 58)).alloc (.cells wzC 58)) (w.heap.size + 1) #[.bool false, .int .i64 xa, .int .i8 xk, .int .i64 xn, .string xs, .string xu, .slice xao xl.length xcap] = W9 at *
    go_wp2_with fail
    exact ret_row1 HX.out rfl Tryd.underlying58 rfl (infoWD _ rfl) rfl ⟨HFIN.out, by rw [HMV.out] <;> rfl⟩
  · go_enter Tryd.func40, Tryd.ntmps40
    go_wp2_with fail
    generalize (w.alloc (.cells #[.bool true, .int .i64 xa, .int .i8 xk, .int .i64 xn, .string xs, .string xu, .slice xao xl.length xcap] 58)).alloc (.cells wzC 58) = W0 at *
    go_loopw [5] (fun iv wr => ∃ (i : Nat), i ≤ s.length ∧ iv = .int .i64 i ∧ Hid (Below W0.heap.size W0 wr ∧ ∀ (j : Nat) k, j < i → s[j]? = some k → k ≠ xa)) (fun iv _ => s.length - (intOf iv).toNat)
    case atStart => exact ⟨0, by omega, rfl, Lib.hid ⟨Below.refl _ _, fun j k h => by omega⟩⟩
    case round =>
      obtain ⟨i, hi, rfl, HI⟩ := hrel
      by_cases hlt : i < s.length
      · obtain ⟨n, hn⟩ : ∃ n, s[i]? = some n := ⟨s[i], by simp [hlt]⟩
        have HN := Lib.hid hn
        have hdr : Below wr.heap.size wr wr.drew := (Below.refl _ _).drew
        have hBD := HI.out.1.trans (hdr.mono HI.out.1.size)
        obtain ⟨g1, cp1, e1, -, -, -, -, hc1⟩ := own_facts (own_keep HOWN.out hBD) (by omega)
        injection e1 with ea eb ec
        subst ea ec
        have m1 := keep_heap HN1.out hBD
        have hS : MvS w.heap.size g1 i n xa wr.drew := ⟨hc1 i _ (by simp [intsV, hn]), (cells_at m1 1 _ rfl).1⟩
        have HZR := Lib.hid (keep_heap HN2.out hBD)
        have HBD := Lib.hid hBD
        have HBR := Lib.hid (HB.out.trans (hBD.mono HB.out.size))
        clear hc1 hn hdr hBD m1
        by_cases h0 : n = xa
        · have dn : (n == xa) = true := by simp [h0]
          have HDN := Lib.hid dn
          have HMV : Hid (mv (gOf s) ⟨true, xa, xk, xn, xs, xu, xao, xcap, xl⟩ = cellW i) := Lib.hid (by
            have := look_at HND.out (h0 ▸ HN.out)
            simp [mv, this])
          clear h0 dn
          go_wp2_with fail
          have hi1 : i < s.length := (List.getElem?_eq_some_iff.1 HN.out).1
          refine region_plan (MvS w.heap.size g1 i n xa) [(0, 0), (1, 0), (2, 0), (3, 0), (4, 0), (5, 0), (6, 0)] (by kernel_rfl) (by kernel_rfl) (by kernel_rfl) hS ?_
          generalize wr.drew = WD at *
          have dn := HDN.out
          iterate 7 ((first | (refine plan_skip rfl ?_ ?_; (focus (rfl)); (try simp only [Act.put, List.setIfInBounds_toArray, List.set_cons_zero, List.set_cons_succ])) | (refine plan_take (v := ?_) rfl ?_ (fun w hSw => ?_) ?_; rotate_left; (focus (rfl)); (focus (unfold MvS at hSw; (go_simp <;> with_reducible rfl))); (try simp only [Act.put, List.setIfInBounds_toArray, List.set_cons_zero, List.set_cons_succ]))); (try simp only [dn]))
          refine plan_done ?_
          clear hS
          go_wp2_with (with_reducible refine stop_op (o := ⟨_, .store 58 (.tmp 4) (.tmp 24), _, _, _, _⟩) ?_)
          refine Lib.hid ?_
          refine wpList_store_row (o := ⟨none, _, _, _, _, _⟩) rfl 58 (.tmp 4) (.tmp 24) rfl (w.heap.size + 1) (wcC i) rfl rfl 58 wzC HZR.out (infoWD _ rfl) rfl (by simp [wcC, Value.oneCell']) ?_
          have HX := Lib.hid (setRow_heap _ (w.heap.size + 1) _ (wcC i) _ _ HZR.out)
          have hc := chg_setRow WD (w.heap.size + 1) (wcC i)
          have HFIN := Lib.hid (HBR.out.trans (hc.below HBR.out.size (fun k h => by have h : k = w.heap.size + 1 := h; omega)))
          clear hc
          generalize World.setRow WD (w.heap.size + 1) (wcC i) = W9 at *
          go_wp2_with fail
          exact ret_row1 HX.out rfl Tryd.underlying58 rfl (infoWD _ rfl) rfl ⟨HFIN.out, by rw [HMV.out] <;> rfl⟩
        · have dn : (n == xa) = false := by simp [h0]
          have HDN := Lib.hid dn
          have HNE := Lib.hid h0
          clear h0 dn
          go_wp2_with fail
          have hi1 : i < s.length := (List.getElem?_eq_some_iff.1 HN.out).1
          refine region_plan (MvS w.heap.size g1 i n xa) [(0, 0), (1, 0), (2, 0), (3, 0), (4, 0), (5, 0), (6, 0)] (by kernel_rfl) (by kernel_rfl) (by kernel_rfl) hS ?_
          generalize wr.drew = WD at *
          have dn := HDN.out
          iterate 7 ((first | (refine plan_skip rfl ?_ ?_; (focus (rfl)); (try simp only [Act.put, List.setIfInBounds_toArray, List.set_cons_zero, List.set_cons_succ])) | (refine plan_take (v := ?_) rfl ?_ (fun w hSw => ?_) ?_; rotate_left; (focus (rfl)); (focus (unfold MvS at hSw; (go_simp <;> with_reducible rfl))); (try simp only [Act.put, List.setIfInBounds_toArray, List.set_cons_zero, List.set_cons_succ]))); (try simp only [dn]))
          refine plan_done ?_
          clear hS
          go_wp2_with fail
          go_roundw
          case rel => exact ⟨i + 1, by omega, by go_num, Lib.hid ⟨HBD.out, fun j k hj hk => by
            rcases Nat.lt_or_ge j i with h | h
            · exact HI.out.2 j k h hk
            · obtain rfl : j = i := by omega
              rw [HN.out] at hk
              injection hk with hk
              subst hk
              exact HNE.out⟩⟩
          case measure => simp [intOf]; omega
      · have hil : i = s.length := by omega
        have HMV : Hid (mv (gOf s) ⟨true, xa, xk, xn, xs, xu, xao, xcap, xl⟩ = ⟨true, xa, xk, xn, xs, xu, xao, xcap, xl⟩) := Lib.hid (by
          have : xa ∉ s := fun h => by
            obtain ⟨j, hj⟩ := List.getElem?_of_mem h
            exact HI.out.2 j xa (by have := (List.getElem?_eq_some_iff.1 hj).1; omega) hj rfl
          simp [mv, look_none this])
        have HZR := Lib.hid (keep_heap HN2.out HI.out.1)
        have HBR := Lib.hid (HB.out.trans (HI.out.1.mono HB.out.size))
        have m1 := keep_heap HN1.out HI.out.1
        obtain ⟨x0, -⟩ := cells_at m1 0 _ rfl
        obtain ⟨x1, -⟩ := cells_at m1 1 _ rfl
        obtain ⟨x2, -⟩ := cells_at m1 2 _ rfl
        obtain ⟨x3, -⟩ := cells_at m1 3 _ rfl
        obtain ⟨x4, -⟩ := cells_at m1 4 _ rfl
        obtain ⟨x5, -⟩ := cells_at m1 5 _ rfl
        obtain ⟨x6, -⟩ := cells_at m1 6 _ rfl
        clear m1
        go_wp2_with (with_reducible refine stop_op (o := ⟨_, .store 58 (.tmp 4) (.tmp 25), _, _, _, _⟩) ?_)
        refine Lib.hid ?_
        refine wpList_store_row (o := ⟨none, _, _, _, _, _⟩) rfl 58 (.tmp 4) (.tmp 25) rfl (w.heap.size + 1) #[.bool true, .int .i64 xa, .int .i8 xk, .int .i64 xn, .string xs, .string xu, .slice xao xl.length xcap] rfl rfl 58 wzC HZR.out (infoWD _ rfl) rfl (by simp [wcC, Value.oneCell']) ?_
        have HX := Lib.hid (setRow_heap _ (w.heap.size + 1) _ #[.bool true, .int .i64 xa, .int .i8 xk, .int .i64 xn, .string xs, .string xu, .slice xao xl.length xcap] _ _ HZR.out)
        have hc := chg_setRow wr (w.heap.size + 1) #[.bool true, .int .i64 xa, .int .i8 xk, .int .i64 xn, .string xs, .string xu, .slice xao xl.length xcap]
        have HFIN := Lib.hid (HBR.out.trans (hc.below HBR.out.size (fun k h => by have h : k = w.heap.size + 1 := h; omega)))
        clear hc
        generalize World.setRow wr (w.heap.size + 1) #[.bool true, .int .i64 xa, .int .i8 xk, .int .i64 xn, .string xs, .string xu, .slice xao xl.length xcap] = W9 at *
        go_wp2_with fail
        exact ret_row1 HX.out rfl Tryd.underlying58 rfl (infoWD _ rfl) rfl ⟨HFIN.out, by rw [HMV.out] <;> rfl⟩
end Go.Proofs.YtfbohajojaaiaaaDoor
namespace Go.Proofs.YtfbohajojaaiaaaDoor
open Go.ChangeShapes Go.WideShapes Go.ChangeAt Go.RowKit
set_option linter.unusedVariables false
set_option maxRecDepth 100000
/-- what is marked -/
def mark (T : List Bool) (L : List Wd) : List Bool := L.foldl (fun T x => if x.c then T.set x.a.toNat true else T) T
theorem mark_snoc (T : List Bool) (L : List Wd) (x : Wd) : mark T (L ++ [x]) = if x.c then (mark T L).set x.a.toNat true else mark T L := by simp [mark]
theorem mark_len (T : List Bool) (L : List Wd) : (mark T L).length = T.length := by
  induction L using snoc_ind with
  | h0 => rfl
  | h1 l a ih => rw [mark_snoc]; split <;> simp [ih]
theorem mark_get (T : List Bool) (L : List Wd) (j : Nat) : (mark T L)[j]? = some true ↔ T[j]? = some true ∨ (j < T.length ∧ ∃ x ∈ L, x.c = true ∧ x.a.toNat = j) := by
  induction L using snoc_ind with
  | h0 => simp [mark]
  | h1 l a ih =>
    rw [mark_snoc]
    cases hc : a.c
    · simp only [Bool.false_eq_true, if_false]
      rw [ih]
      constructor
      · rintro (h | ⟨h1, x, h2, h3⟩)
        · exact .inl h
        · exact .inr ⟨h1, x, by simp [h2], h3⟩
      · rintro (h | ⟨h1, x, h2, h3⟩)
        · exact .inl h
        · rw [List.mem_append, List.mem_singleton] at h2
          rcases h2 with h2 | rfl
          · exact .inr ⟨h1, x, h2, h3⟩
          · rw [hc] at h3; cases h3.1
    · simp only [if_true]
      rw [List.getElem?_set, mark_len]
      by_cases hj : a.a.toNat = j
      · rw [if_pos hj]
        constructor
        · intro h
          by_cases h1 : a.a.toNat < T.length
          · exact .inr ⟨by omega, a, by simp, hc, hj⟩
          · rw [if_neg h1] at h
            cases h
        · rintro (h | ⟨h1, -⟩)
          · have := (List.getElem?_eq_some_iff.1 h).1
            rw [if_pos (by omega)]
          · rw [if_pos (by omega)]
      · rw [if_neg hj, ih]
        constructor
        · rintro (h | ⟨h1, x, h2, h3⟩)
          · exact .inl h
          · exact .inr ⟨h1, x, by simp [h2], h3⟩
        · rintro (h | ⟨h1, x, h2, h3⟩)
          · exact .inl h
          · rw [List.mem_append, List.mem_singleton] at h2
            rcases h2 with h2 | rfl
            · exact .inr ⟨h1, x, h2, h3⟩
            · exact absurd h3.2 hj
/-- what stands while it goes downwards: what lies from m on is done -/
structure Dn (C : List HC) (L : List Wd) (m : Nat) (T : List Bool) : Prop where
  len : T.length = C.length
  sound : ∀ j : Nat, T[j]? = some true → Rch C L j
  roots : ∀ x ∈ namedW L, T[x.toNat]? = some true
  closed : ∀ k : Nat, m ≤ k → T[k]? = some true → ∀ y ∈ chld C k, T[y.toNat]? = some true
theorem Dn.start {C : List HC} {L : List Wd} (hL : ∀ x ∈ L, mayW C.length x = true) : Dn C L C.length (mark (List.replicate C.length false) L) := by
  have hlen : (mark (List.replicate C.length false) L).length = C.length := by rw [mark_len]; simp
  have hin : ∀ x ∈ L, x.c = true → 0 ≤ x.a ∧ x.a < C.length := fun x hx hc => by
    have := hL x hx
    simp only [mayW, hc, if_true, Bool.and_eq_true, decide_eq_true_eq] at this
    exact ⟨this.1, this.2.1⟩
  refine ⟨hlen, fun j h => ?_, fun x hx => ?_, fun k hk h => ?_⟩
  · rw [mark_get] at h
    rcases h with h | ⟨-, x, hx, hc, hj⟩
    · rw [List.getElem?_replicate] at h
      split at h <;> simp at h
    · have := hin x hx hc
      refine .root (mem_named.2 ⟨x, hx, hc, by omega⟩)
  · obtain ⟨y, hy, hc, rfl⟩ := mem_named.1 hx
    have := hin y hy hc
    rw [mark_get]
    exact .inr ⟨by simp; omega, y, hy, hc, rfl⟩
  · have := (List.getElem?_eq_some_iff.1 h).1
    omega
theorem Dn.next {C : List HC} {L : List Wd} {m : Nat} {T : List Bool} {c : HC} (hC : Good C) (h : Dn C L (m + 1) T) (hc : C[m]? = some c) : Dn C L m (if T[m]? = some true then mark T c.l else T) := by
  have hch : chld C (m : Int) = namedW c.l := by unfold chld; simp [hc]
  split
  · rename_i hm
    refine ⟨by rw [mark_len]; exact h.len, fun j hj => ?_, fun x hx => ?_, fun k hk hj y hy => ?_⟩
    · rw [mark_get] at hj
      rcases hj with hj | ⟨-, x, hx, hxc, hxj⟩
      · exact h.sound j hj
      · have hlo := low_part hC hc hx hxc
        refine .step (h.sound m hm) (by rw [hch]; exact mem_named.2 ⟨x, hx, hxc, by omega⟩)
    · rw [mark_get]
      exact .inl (h.roots x hx)
    · rw [mark_get] at hj ⊢
      rcases Nat.eq_or_lt_of_le hk with e | hk
      · subst e
        rw [hch] at hy
        obtain ⟨x, hx, hxc, rfl⟩ := mem_named.1 hy
        have hlo := low_part hC hc hx hxc
        have hml := (List.getElem?_eq_some_iff.1 hm).1
        exact .inr ⟨by omega, x, hx, hxc, rfl⟩
      · rcases hj with hj | ⟨-, x, hx, hxc, hxj⟩
        · exact .inl (h.closed k (by omega) hj y hy)
        · have hlo := low_part hC hc hx hxc
          omega
  · rename_i hm
    refine ⟨h.len, h.sound, h.roots, fun k hk hj y hy => ?_⟩
    rcases Nat.eq_or_lt_of_le hk with e | hk
    · subst e
      exact absurd hj hm
    · exact h.closed k (by omega) hj y hy
theorem Dn.done {C : List HC} {L : List Wd} {T : List Bool} (hC : Good C) (hL : ∀ x ∈ L, mayW C.length x = true) (h : Dn C L 0 T) (j : Nat) : T[j]? = some true ↔ Rch C L j := by
  refine ⟨h.sound j, fun hr => ?_⟩
  have key : ∀ x : Int, Rch C L x → T[x.toNat]? = some true := by
    intro x hx
    induction hx with
    | root hx => exact h.roots _ hx
    | @step x y hx hy ih =>
      have := rch_lt hC hL hx
      exact h.closed x.toNat (Nat.zero_le _) ih y (by rw [Int.toNat_of_nonneg this.1]; exact hy)
  simpa using key j hr
/-- what it comes to -/
def outT (T : List Bool) : List Int := ((List.range T.length).map Int.ofNat).filter fun x => decide (T[x.toNat]? = some true)
theorem outT_eq {C : List HC} {L : List Wd} {T : List Bool} {s : List Int} (hl : T.length = C.length) (h : ∀ j : Nat, T[j]? = some true ↔ Rch C L j) (hs : ∀ x, x ∈ s ↔ Rch C L x) : outT T = outL C.length s := by
  unfold outT outL
  rw [hl]
  refine List.filter_congr fun x hx => ?_
  obtain ⟨j, -, rfl⟩ := List.mem_map.1 hx
  rw [decide_eq_decide]
  exact (h j).trans (hs _).symm
theorem infoB : (Tryd.prog.info? 4).map (fun i => (i.zero, i.size, i.bytes)) = some (some (.bool false), 1, 1) := by kernel_rfl
def bsA (T : List Bool) : Array Value := (T.map Value.bool).toArray
theorem made_false (w : World) (n : Nat) (hn : n ≤ 1048576) : (Instr.makeSlice 89 (.int .i64 n) (.int .i64 n)).run Tryd.prog w = .ok (.slice (some ⟨w.heap.size, 0, none⟩) n n) (w.alloc (.cells (bsA (List.replicate n false)) 4)) := by
  have h := infoB
  cases hi : Tryd.prog.info? 4 with
  | none => rw [hi] at h; cases h
  | some i =>
    rw [hi] at h
    simp only [Option.map_some, Option.some.injEq, Prod.mk.injEq] at h
    obtain ⟨h1, h2, h3⟩ := h
    have hr := run_makeSlice (P := Tryd.prog) (w := w) 89 4 i (.bool false) Tryd.underlying89 hi h1 .i64 .i64 n n (by omega) (Int.le_refl _) (by rw [h2]; omega) (by rw [h3]; omega) (by omega)
    rw [hr]
    congr 3
    rw [h2]
    unfold bsA madeCells
    simp
    have hc : (Value.bool false).cells = #[.bool false] := rfl
    apply Array.ext
    · simp
    · intro i h1 h2
      simp [hc, Nat.mod_one]
theorem bsA_at {T : List Bool} {j : Nat} {b : Bool} (h : T[j]? = some b) : (bsA T)[j]? = some (.bool b) := by simp [bsA, h]
theorem bsA_set (T : List Bool) (j : Nat) : (bsA T).setIfInBounds j (.bool true) = bsA (T.set j true) := by
  unfold bsA
  rw [List.map_set, List.setIfInBounds_toArray]
theorem outT_snoc (T : List Bool) (i : Nat) : (((List.range (i + 1)).map Int.ofNat).filter fun x => decide (T[x.toNat]? = some true)) = (((List.range i).map Int.ofNat).filter fun x => decide (T[x.toNat]? = some true)) ++ (if T[i]? = some true then [(i : Int)] else []) := by
  rw [List.range_succ, List.map_append, List.filter_append]
  congr 1
  by_cases h : T[i]? = some true <;> simp [h]
set_option maxHeartbeats 8000000 in
theorem rreached_any (w : World) (f base p : Nat) (v : Value) (C : List HC) (ao : Option Addr) (cap : Nat) (L : List Wd) (hH : RHp w base p v C) (hr : WRow w ao L) (ho : ∀ x ∈ L, WOk f w x) (hpu : ∀ x ∈ L, Pure x) (hn : L.length ≤ 1099511627776) :
    Calls Tryd.prog 17 #[.pointer (some ⟨p, 0, none⟩), .slice ao L.length cap] w (ReachP w C L) := by
  have HH := Lib.hid hH
  have HR := Lib.hid hr
  have HO := Lib.hid ho
  have HPU := Lib.hid hpu
  have hC20 : C.length ≤ 1048576 := hH.2.2.2.1
  clear hH hr ho hpu
  go_enter Tryd.func17, Tryd.ntmps17
  go_wp2_with fail
  go_loopw [6] (fun iv wr => ∃ (i : Nat), i ≤ L.length ∧ iv = .int .i64 i ∧ Hid (Below w.heap.size w wr ∧ ∀ x ∈ L.take i, mayW C.length x = true)) (fun iv _ => L.length - (intOf iv).toNat)
  case atStart => exact ⟨0, by omega, rfl, Lib.hid ⟨Below.refl _ _, by simp⟩⟩
  case round =>
    obtain ⟨i, hi, rfl, HI⟩ := hrel
    by_cases hlt : i < L.length
    · obtain ⟨x, hx⟩ : ∃ x, L[i]? = some x := ⟨L[i], by simp [hlt]⟩
      have HX := Lib.hid hx
      have hxm := List.mem_of_getElem? hx
      obtain ⟨b1, o1, rfl, -, hc1⟩ := HR.out.keep HI.out.1 i x hx
      have c0 := hc1 0 _ rfl
      have c1 := hc1 1 _ rfl
      have c2 := hc1 2 _ rfl
      have c3 := hc1 3 _ rfl
      have c4 := hc1 4 _ rfl
      have c5 := hc1 5 _ rfl
      have c6 := hc1 6 _ rfl
      simp only [Nat.add_zero] at c0
      have HM := Lib.hid (rmay_any f wr base p v C x (HH.out.keep HI.out.1) ((HO.out x hxm).keep HI.out.1) (HPU.out x hxm))
      simp only [Wd.V] at HM
      have HXM := Lib.hid hxm
      clear hc1 hx hxm
      cases hm : mayW C.length x
      · rw [hm] at HM
        have HMM := Lib.hid hm
        clear hm
        go_wp2_with fail
        refine HM.out.mono ?_
        rintro e w2 ⟨rfl, hb2⟩
        have HB2 := Lib.hid (HI.out.1.trans (hb2.mono HI.out.1.size))
        clear hb2 c0 c1 c2 c3 c4 c5 c6
        go_wp2_with fail
        go_ret2
        exact ⟨HB2.out, .inl ⟨any_true HXM.out HMM.out, rfl⟩⟩
      · rw [hm] at HM
        have HMM := Lib.hid hm
        clear hm
        go_wp2_with fail
        refine HM.out.mono ?_
        rintro e w2 ⟨rfl, hb2⟩
        have HB2 := Lib.hid (HI.out.1.trans (hb2.mono HI.out.1.size))
        clear hb2 c0 c1 c2 c3 c4 c5 c6
        go_wp2_with fail
        go_roundw
        case rel => exact ⟨i + 1, by omega, by go_num, Lib.hid ⟨HB2.out, fun y hy => by
          rw [List.take_add_one, HX.out, List.mem_append] at hy
          rcases hy with hy | hy
          · exact HI.out.2 y hy
          · obtain rfl := List.mem_singleton.1 hy
            exact HMM.out⟩⟩
        case measure => simp [intOf]; omega
    · have hil : i = L.length := by omega
      subst hil
      have hany := any_false HI.out.2
      have hall := HI.out.2
      rw [List.take_length] at hall
      have HALL := Lib.hid hall
      have HANY := Lib.hid hany
      have HB := Lib.hid HI.out.1
      have HHW := Lib.hid (HH.out.keep HI.out.1)
      obtain ⟨vo, vc, hv, hvc1, hvc2, p0, p0f, hps, -⟩ := HHW.out.facts
      subst hv
      clear hany hall HI
      have hmk := made_false wr C.length (by omega)
      go_wp2_with fail
      have HMAY : Hid (∀ x ∈ L, x.c = true → 0 ≤ x.a ∧ x.a < C.length) := Lib.hid (fun x hx hc => by
        have := HALL.out x hx
        simp only [mayW, hc, if_true, Bool.and_eq_true, decide_eq_true_eq] at this
        exact ⟨this.1, this.2.1⟩)
      have hI0 : Below wr.heap.size wr (wr.alloc (.cells (bsA (List.replicate C.length false)) 4)) := (Below.refl _ _).alloc (Nat.le_refl _) _
      have hg0 := heap_new wr (.cells (bsA (List.replicate C.length false)) 4)
      have HI0 : Hid (Below wr.heap.size wr (wr.alloc (.cells (bsA (List.replicate C.length false)) 4)) ∧ (wr.alloc (.cells (bsA (List.replicate C.length false)) 4)).heap[wr.heap.size]? = some (Obj.cells (bsA (mark (List.replicate C.length false) (L.take 0))) 4 (0, 0))) := Lib.hid ⟨hI0, hg0⟩
      have HWA := Lib.hid HB.out
      clear hmk hI0 hg0 p0 p0f hps
      generalize wr = wA at *
      go_loopw [8] (fun iv wr => ∃ (i : Nat), i ≤ L.length ∧ iv = .int .i64 i ∧ Hid (Below wA.heap.size wA wr ∧ wr.heap[wA.heap.size]? = some (Obj.cells (bsA (mark (List.replicate C.length false) (L.take i))) 4 (0, 0))))
        (fun iv _ => L.length - (intOf iv).toNat)
      case atStart => exact ⟨0, by omega, rfl, HI0⟩
      case round =>
        clear HI0
        obtain ⟨i, hi, rfl, HI⟩ := hrel
        by_cases hlt : i < L.length
        · obtain ⟨x, hx⟩ : ∃ x, L[i]? = some x := ⟨L[i], by simp [hlt]⟩
          have HX := Lib.hid hx
          have hmx := HMAY.out x (List.mem_of_getElem? hx)
          obtain ⟨b1, o1, rfl, -, hc1⟩ := HR.out.keep (HWA.out.trans (HI.out.1.mono HWA.out.size)) i x hx
          have c0 := hc1 0 _ rfl
          have c1 := hc1 1 _ rfl
          simp only [Nat.add_zero] at c0
          have HTK : Hid (L.take (i + 1) = L.take i ++ [x]) := Lib.hid (by rw [List.take_add_one, hx]; rfl)
          clear hc1 hx
          cases hxc : x.c
          · rw [hxc] at c0
            have HF : Hid (mark (List.replicate C.length false) (L.take (i + 1)) = mark (List.replicate C.length false) (L.take i)) := Lib.hid (by rw [HTK.out, mark_snoc, hxc]; rfl)
            clear hxc hmx
            go_wp2_with fail
            go_roundw
            case rel => exact ⟨i + 1, by omega, by go_num, Lib.hid ⟨HI.out.1, by rw [HF.out]; exact HI.out.2⟩⟩
            case measure => simp [intOf]; omega
          · obtain ⟨a0, a1⟩ := hmx hxc
            rw [hxc] at c0
            obtain ⟨k, hk⟩ := Int.eq_ofNat_of_zero_le a0
            rw [hk] at c1 a1
            have hkC : k < C.length := by omega
            have HF : Hid (mark (List.replicate C.length false) (L.take (i + 1)) = (mark (List.replicate C.length false) (L.take i)).set k true) := Lib.hid (by rw [HTK.out, mark_snoc, hxc, hk]; rfl)
            have hTl : (mark (List.replicate C.length false) (L.take i)).length = C.length := by rw [mark_len]; simp
            obtain ⟨bb, hbb⟩ : ∃ bb, (mark (List.replicate C.length false) (L.take i))[k]? = some bb := ⟨_, List.getElem?_eq_getElem (by omega)⟩
            obtain ⟨g0, g0f⟩ := cells_at HI.out.2 k _ (bsA_at hbb)
            have hgl := heap_lt HI.out.2
            have hset := set_at (i := k) HI.out.2 (.bool true)
            rw [bsA_set, ← HF.out] at hset
            have HS := Lib.hid (And.intro (HI.out.1.setCell (p := ⟨wA.heap.size, k, none⟩) (Nat.le_refl _) (.bool true)) hset)
            clear hset hbb hTl hxc hmx a0 a1 hk
            go_wp2_with fail
            go_roundw
            case rel => exact ⟨i + 1, by omega, by go_num, HS⟩
            case measure => simp [intOf]; omega
        · have hil : i = L.length := by omega
          have hT0 := HI.out.2
          rw [hil, List.take_length] at hT0
          have HT0 := Lib.hid hT0
          have HD0 := Lib.hid (Dn.start HALL.out)
          have HB0 := Lib.hid HI.out.1
          have HHX := Lib.hid (HHW.out.keep HI.out.1)
          obtain ⟨vo', vc', hv', hvc1', hvc2', p0, p0f, hps, -⟩ := HHX.out.facts
          injection hv' with hv1 hv2 hv3
          subst hv1 hv3
          clear hT0 HI
          have hwr1 : IntKind.i64.wrap ((C.length : Int) - 1) = (C.length : Int) - 1 := IntWalk.i64_in _ (by omega)
          go_wp2_with fail
          go_loopw [9] (fun iv wr => ∃ (m : Nat) (z : Int) (T : List Bool), m ≤ C.length ∧ z + 1 = m ∧ iv = .int .i64 z ∧ Hid (Below wA.heap.size wA wr ∧ wr.heap[wA.heap.size]? = some (Obj.cells (bsA T) 4 (0, 0)) ∧ Dn C L m T))
            (fun iv _ => (intOf iv + 1).toNat)
          case atStart => exact ⟨C.length, (C.length : Int) - 1, _, by omega, by omega, rfl, Lib.hid ⟨HB0.out, HT0.out, HD0.out⟩⟩
          case round =>
            clear HB0 HT0 HD0 hwr1 p0 p0f HHX
            obtain ⟨m, z, T, hm, hz, rfl, HI⟩ := hrel
            have HHR := Lib.hid (HHW.out.keep HI.out.1)
            have hwA := HI.out.1.size
            rcases Nat.eq_zero_or_pos m with h0 | h0
            · obtain rfl : z = -1 := by omega
              subst h0
              have hdn := Dn.done HHR.out.2.2.2 HALL.out HI.out.2.2
              have HDN := Lib.hid hdn
              have hTl := HI.out.2.2.len
              obtain ⟨i0, hi0, hz0, hz1, hz2⟩ := info_parts infoLI
              have hwb := HWA.out.size
              clear hdn
              go_wp2_with fail
              have HWB := Lib.hid (HWA.out.trans (HI.out.1.mono HWA.out.size))
              have HG := Lib.hid HI.out.2.1
              have hgr := heap_lt HI.out.2.1
              clear HI HHR
              generalize wr = wB at *
              go_loopw [13, 14] (fun ov iv wr => ∃ (i : Nat) (A : List Int), i ≤ C.length ∧ iv = .int .i64 i ∧ A.length ≤ i ∧ Hid (Below w.heap.size w wr ∧ wr.heap[wA.heap.size]? = some (Obj.cells (bsA T) 4 (0, 0)) ∧ wr.ownsRow w.heap.size 3 1 ov A.length (intsV A) ∧ A = (((List.range i).map Int.ofNat).filter fun x => decide (T[x.toNat]? = some true))))
                (fun _ iv _ => C.length - (intOf iv).toNat)
              case atStart => exact ⟨0, [], by omega, rfl, by simp, Lib.hid ⟨HWB.out, HG.out, World.ownsRow_nil _ _ _ _, rfl⟩⟩
              case round =>
                obtain ⟨i, A, hi, rfl, hAl, HJ⟩ := hrel
                by_cases hlt : i < C.length
                · obtain ⟨bb, hbb⟩ : ∃ bb, T[i]? = some bb := ⟨T[i]'(by omega), List.getElem?_eq_getElem (by omega)⟩
                  have HBBB := Lib.hid hbb
                  obtain ⟨g0, g0f⟩ := cells_at HJ.out.2.1 i _ (bsA_at hbb)
                  have hsn := outT_snoc T i
                  rw [← HJ.out.2.2.2, hbb] at hsn
                  have HSN := Lib.hid hsn
                  clear hsn hbb
                  cases bb
                  · have HA : Hid (A = (((List.range (i + 1)).map Int.ofNat).filter fun x => decide (T[x.toNat]? = some true))) := Lib.hid (by rw [HSN.out]; simp)
                    clear HSN
                    go_wp2_with fail
                    go_roundw
                    case rel => exact ⟨i + 1, A, by omega, by go_num, by omega, Lib.hid ⟨HJ.out.1, HJ.out.2.1, HJ.out.2.2.1, HA.out⟩⟩
                    case measure => simp [intOf]; omega
                  · have HA : Hid (A ++ [(i : Int)] = (((List.range (i + 1)).map Int.ofNat).filter fun x => decide (T[x.toNat]? = some true))) := Lib.hid (by rw [HSN.out]; simp)
                    clear HSN
                    have HNEW := Lib.hid (one_new wr (.int .i64 i) 3)
                    have ho := HJ.out.2.2.1.alloc (.cells #[.int .i64 i] 3)
                    have HO2 := Lib.hid ho
                    have hws := HJ.out.1.size
                    clear ho
                    go_wp2_with (at_builtin; refine stop_here ?_)
                    refine Lib.hid ?_
                    refine wpList_append_own2 rfl (.tmp 105) (.tmp 107) 31 rfl w.heap.size 3 i0 (.int .i64 0) 1 8 Tryd.underlying31 hi0 hz0 hz1 hz2 rfl (by decide) _ A.length (intsV A) rfl HO2.out ⟨wr.heap.size, 0, none⟩ 1 1 [.int .i64 i] rfl rfl HNEW.out (by simp [Value.oneCell']) (by unfold maxLen; omega) (by omega) (by simp; omega) ?_
                    intro v3 W3 hown3 hg3 hwh3
                    obtain ⟨uo, uc, rfl⟩ := own_slice hown3
                    have hc3 := chg_grown hg3
                    have hb3 := (HJ.out.1.alloc HJ.out.1.size (.cells #[.int .i64 i] 3)).trans (hc3.below (HJ.out.1.alloc HJ.out.1.size (.cells #[.int .i64 i] 3)).size (fun k h => own_base HO2.out k h.symm))
                    have hg9 := hc3.heap (heap_old HJ.out.2.1 (.cells #[.int .i64 i] 3)) (fun e => by
                      obtain ⟨cur, hcur⟩ := own_type HO2.out _ e.symm
                      rw [heap_old HJ.out.2.1 (.cells #[.int .i64 i] 3)] at hcur
                      cases hcur)
                    have HFIN : Hid (Below w.heap.size w W3 ∧ W3.heap[wA.heap.size]? = some (Obj.cells (bsA T) 4 (0, 0)) ∧ W3.ownsRow w.heap.size 3 1 (.slice uo (A.length + 1) uc) (A ++ [(i : Int)]).length (intsV (A ++ [(i : Int)])) ∧ A ++ [(i : Int)] = (((List.range (i + 1)).map Int.ofNat).filter fun x => decide (T[x.toNat]? = some true))) := Lib.hid ⟨hb3, hg9, by rw [List.length_append, intsV, List.map_append]; exact hown3, HA.out⟩
                    clear hown3 hg3 hwh3 hc3 hb3 hg9 g0 g0f
                    go_wp2_with fail
                    go_roundw
                    case rel => exact ⟨i + 1, A ++ [(i : Int)], by omega, by go_num, by simp; omega, HFIN⟩
                    case measure => simp [intOf]; omega
                · have hil : i = C.length := by omega
                  obtain ⟨uo, uc, rfl⟩ := own_slice HJ.out.2.2.1
                  have hex : ∃ s : List Int, ∀ x, x ∈ s ↔ Rch C L x := ⟨outT T, fun x => by
                    unfold outT
                    simp only [List.mem_filter, List.mem_map, List.mem_range, decide_eq_true_eq]
                    constructor
                    · rintro ⟨⟨a, ha, rfl⟩, h⟩
                      exact (HDN.out a).1 (by simpa using h)
                    · intro h
                      have := rch_lt HHW.out.2.2.2 HALL.out h
                      refine ⟨⟨x.toNat, by omega, by simp; omega⟩, (HDN.out x.toNat).2 (by rw [Int.toNat_of_nonneg this.1]; exact h)⟩⟩
                  obtain ⟨s, hs⟩ := hex
                  have hA : A = outL C.length s := by
                    rw [HJ.out.2.2.2, hil, ← outT_eq hTl HDN.out hs, outT, hTl]
                  have HF := Lib.hid (And.intro hs (And.intro hA HJ.out.2.2.1))
                  have HB9 := Lib.hid HJ.out.1
                  clear HJ hs hA
                  go_wp2_with fail
                  go_ret2
                  exact ⟨HB9.out, .inr ⟨HANY.out, s, _, HF.out.1, rfl, by rw [← HF.out.2.1]; exact HF.out.2.2⟩⟩
            · obtain ⟨m', rfl⟩ : ∃ m', m = m' + 1 := ⟨m - 1, by omega⟩
              obtain rfl : z = (m' : Int) := by omega
              have hmC : m' < C.length := by omega
              obtain ⟨c, hcc⟩ : ∃ c, C[m']? = some c := ⟨C[m'], by simp [hmC]⟩
              have hTl := HI.out.2.2.len
              obtain ⟨bT, hbT⟩ : ∃ bT, T[m']? = some bT := ⟨T[m']'(by omega), List.getElem?_eq_getElem (by omega)⟩
              have HBT := Lib.hid hbT
              have hcl : c.l.length ≤ 255 := (HHR.out.2.2.2.2 _ _ hcc).2.2.2.1
              have HCALL := Lib.hid (rcell_any wr base p _ C m' c HHR.out hcc)
              have hnext := Dn.next HHR.out.2.2.2 HI.out.2.2 hcc
              have HNEXT := Lib.hid hnext
              have HLOW : Hid (∀ y ∈ c.l, y.c = true → 0 ≤ y.a ∧ y.a < m') := Lib.hid (fun y hy h => low_part HHR.out.2.2.2 hcc hy h)
              clear hnext hcc hbT h0
              go_wp2_with fail
              refine HCALL.out.mono ?_
              rintro e w2 ⟨hb2, lo, lc, rfl, hown2⟩
              have hb3 := (Below.refl w2.heap.size w2).alloc (Nat.le_refl _) (.cells #[.int .i8 c.k, .int .i64 c.sz, .slice lo c.l.length lc] 65)
              have HX := Lib.hid (heap_new w2 (.cells #[.int .i8 c.k, .int .i64 c.sz, .slice lo c.l.length lc] 65))
              have hbx := hb2.trans (hb3.mono hb2.size)
              have HBX := Lib.hid (HI.out.1.trans (hbx.mono HI.out.1.size))
              have HGX := Lib.hid (keep_heap HI.out.2.1 hbx)
              have HOX := Lib.hid (own_keep hown2 hb3)
              clear hb2 hb3 hbx hown2 HCALL HI HHR
              go_wp2_with (with_reducible refine stop_op (o := ⟨_, .store 65 (.tmp 10) (.tmp 66), _, _, _, _⟩) ?_)
              refine Lib.hid ?_
              refine wpList_store_new (o := ⟨none, _, _, _, _, _⟩) rfl 65 (.tmp 10) (.tmp 66) rfl #[.int .i8 c.k, .int .i64 c.sz, .slice lo c.l.length lc] rfl rfl (infoCL3 _ rfl) rfl (by simp [Value.oneCell']) ?_
              generalize w2.alloc (.cells #[.int .i8 c.k, .int .i64 c.sz, .slice lo c.l.length lc] 65) = wx at *
              generalize w2.heap.size = X at *
              go_wp2_with fail
              go_loopw [12] (fun kv wr => ∃ (k : Nat) (T' : List Bool), k ≤ c.l.length ∧ kv = .int .i64 k ∧ Hid (Chg (fun q => q = wA.heap.size) wx wr ∧ wr.heap[wA.heap.size]? = some (Obj.cells (bsA T') 4 (0, 0)) ∧ T' = (if T[m']? = some true then mark T (c.l.take k) else T) ∧ (0 < k → T[m']? = some true)))
                (fun kv _ => c.l.length - (intOf kv).toNat)
              case atStart => exact ⟨0, T, by omega, rfl, Lib.hid ⟨Chg.refl _ _, HGX.out, by split <;> simp [mark], fun h => by omega⟩⟩
              case round =>
                obtain ⟨k, T', hk, rfl, HK⟩ := hrel
                have hXr := HK.out.1.heap HX.out (fun e => by
                  have h1 := HX.out
                  rw [e, HGX.out] at h1
                  injection h1 with h1
                  injection h1 with _ h2
                  exact absurd h2 (by decide))
                obtain ⟨x2, -⟩ := cells_at hXr 2 _ rfl
                have hxl := heap_lt hXr
                have hgl := heap_lt HK.out.2.1
                have hT'l : T'.length = C.length := by
                  rw [HK.out.2.2.1]
                  split
                  · rw [mark_len]; exact hTl
                  · exact hTl
                have hbT' : T'[m']? = some bT := by
                  cases bT
                  · rw [HK.out.2.2.1, if_neg (by rw [HBT.out]; simp)]
                    exact HBT.out
                  · rw [HK.out.2.2.1, if_pos HBT.out, mark_get]
                    exact .inl HBT.out
                obtain ⟨g0, g0f⟩ := cells_at HK.out.2.1 m' _ (bsA_at hbT')
                have hbw : Below wA.heap.size wA wr := HBX.out.trans (HK.out.1.below HBX.out.size (fun q h => by have h : q = wA.heap.size := h; omega))
                have HBW := Lib.hid hbw
                have hwr1 : IntKind.i64.wrap ((m' : Int) - 1) = (m' : Int) - 1 := IntWalk.i64_in _ (by omega)
                clear hXr hbT' hbw
                by_cases hlt : k < c.l.length
                · cases bT
                  · have hT' : T' = (if T[m']? = some true then mark T c.l else T) := by
                      rw [HK.out.2.2.1, if_neg (by rw [HBT.out]; simp), if_neg (by rw [HBT.out]; simp)]
                    have HD : Hid (Dn C L m' T') := Lib.hid (by rw [hT']; exact HNEXT.out)
                    clear hT'
                    go_wp2_with fail
                    go_roundw
                    case rel => exact ⟨m', (m' : Int) - 1, T', by omega, by omega, by go_num, Lib.hid ⟨HBW.out, HK.out.2.1, HD.out⟩⟩
                    case measure => simp [intOf] <;> omega
                  · obtain ⟨y, hy⟩ : ∃ y, c.l[k]? = some y := ⟨c.l[k], by simp [hlt]⟩
                    have hlo := HLOW.out y (List.mem_of_getElem? hy)
                    have HTK : Hid (c.l.take (k + 1) = c.l.take k ++ [y]) := Lib.hid (by rw [List.take_add_one, hy]; rfl)
                    have hownr := own_chg HOX.out HK.out.1 (fun q hq e => by
                      have e : q = wA.heap.size := e
                      obtain ⟨cur, hcur⟩ := own_type HOX.out q hq
                      rw [e, HGX.out] at hcur
                      cases hcur)
                    obtain ⟨lo', lc', e', hrw, -⟩ := own_prow hownr
                    injection e' with ea eb ec
                    subst ea ec
                    obtain ⟨b1, o1, rfl, -, hc1⟩ := hrw k y hy
                    have c0 := hc1 0 _ rfl
                    have c1 := hc1 1 _ rfl
                    simp only [Nat.add_zero] at c0
                    have hT' := HK.out.2.2.1
                    rw [if_pos HBT.out] at hT'
                    have HTT := Lib.hid hT'
                    clear hc1 hownr hrw hT' eb hy
                    cases hyc : y.c
                    · rw [hyc] at c0
                      have HF : Hid (T' = (if T[m']? = some true then mark T (c.l.take (k + 1)) else T)) := Lib.hid (by rw [if_pos HBT.out, HTK.out, mark_snoc, hyc, HTT.out]; rfl)
                      clear hyc hlo
                      go_wp2_with fail
                      go_roundw
                      case rel => exact ⟨k + 1, T', by omega, by go_num, Lib.hid ⟨HK.out.1, HK.out.2.1, HF.out, fun _ => HBT.out⟩⟩
                      case measure => simp [intOf]; omega
                    · obtain ⟨a0, a1⟩ := hlo hyc
                      rw [hyc] at c0
                      obtain ⟨q, hq⟩ := Int.eq_ofNat_of_zero_le a0
                      rw [hq] at c1 a1
                      have hqC : q < C.length := by omega
                      obtain ⟨bb, hbb⟩ : ∃ bb, T'[q]? = some bb := ⟨T'[q]'(by omega), List.getElem?_eq_getElem (by omega)⟩
                      obtain ⟨h0, h0f⟩ := cells_at HK.out.2.1 q _ (bsA_at hbb)
                      have HF : Hid (T'.set q true = (if T[m']? = some true then mark T (c.l.take (k + 1)) else T)) := Lib.hid (by rw [if_pos HBT.out, HTK.out, mark_snoc, hyc, HTT.out, hq]; rfl)
                      have hset := set_at (i := q) HK.out.2.1 (.bool true)
                      rw [bsA_set] at hset
                      have HS := Lib.hid (And.intro (HK.out.1.grow (chg_set (w := wr) (p := ⟨wA.heap.size, q, none⟩) (.bool true)) (fun j _ h => h)) hset)
                      clear hset hbb hyc hlo a0 a1 hq
                      go_wp2_with fail
                      go_roundw
                      case rel => exact ⟨k + 1, _, by omega, by go_num, Lib.hid ⟨HS.out.1, HS.out.2, HF.out, fun _ => HBT.out⟩⟩
                      case measure => simp [intOf]; omega
                · have hkl : k = c.l.length := by omega
                  have hT' : T' = (if T[m']? = some true then mark T c.l else T) := by
                    rw [HK.out.2.2.1, hkl, List.take_length]
                  have HD : Hid (Dn C L m' T') := Lib.hid (by rw [hT']; exact HNEXT.out)
                  clear hT'
                  go_wp2_with fail
                  go_roundw
                  case rel => exact ⟨m', (m' : Int) - 1, T', by omega, by omega, by go_num, Lib.hid ⟨HBW.out, HK.out.2.1, HD.out⟩⟩
                  case measure => simp [intOf] <;> omega
end Go.Proofs.YtfbohajojaaiaaaDoor
namespace Go.Proofs.YtfbohajojaaiaaaDoor
open Go.ChangeShapes Go.WideShapes Go.ChangeAt Go.RowKit
set_option linter.unusedVariables false
set_option maxRecDepth 100000
theorem pure_cell (n : Nat) : Pure (cellW n) := by simp [Pure, cellW]
theorem pure_mv {g : List (Int × Nat)} {x : Wd} (h : Pure x) : Pure (mv g x) := by
  unfold mv
  split
  · split
    · exact pure_cell _
    · exact h
  · exact h
/-- the whole list tells the same as its part -/
theorem mv_full {C : List HC} {S : List Int} {j : Nat} {k : Int} {c : HC} (hC : Good C) (hcl : Cl C S) (hj : S[j]? = some k) (hc : C[k.toNat]? = some c) {y : Wd} (hy : y ∈ c.l) : mv (gOf S) y = mv (gOf (S.take j)) y := by
  cases hyc : y.c
  · simp [mv, hyc]
  · obtain ⟨k0, k1⟩ := hcl.lt _ (List.mem_of_getElem? hj)
    obtain ⟨y0, y1⟩ := low_part hC hc hy hyc
    have hch : y.a ∈ chld C k := by
      unfold chld
      rw [hc]
      exact mem_named.2 ⟨y, hy, hyc, rfl⟩
    obtain ⟨i, hi⟩ := List.getElem?_of_mem (hcl.cl _ (List.mem_of_getElem? hj) _ hch)
    have hij : i < j := by
      rcases Nat.lt_or_ge i j with h | h
      · exact h
      · exfalso
        have hjl := (List.getElem?_eq_some_iff.1 hj).1
        have hil := (List.getElem?_eq_some_iff.1 hi).1
        have e1 := hj
        have e2 := hi
        rw [List.getElem?_eq_getElem hjl] at e1
        rw [List.getElem?_eq_getElem hil] at e2
        injection e1 with e1
        injection e2 with e2
        rcases Nat.eq_or_lt_of_le h with e | h
        · subst e
          omega
        · have := List.pairwise_iff_getElem.1 hcl.srt j i hjl hil h
          omega
    have hi2 : (S.take j)[i]? = some y.a := by rw [List.getElem?_take_of_lt hij]; exact hi
    simp [mv, hyc, look_at hcl.nodup hi, look_at (List.Nodup.sublist (List.take_sublist j S) hcl.nodup) hi2]
def RRunP (w : World) (C : List HC) (L : List Wd) (e : Ending) (w' : World) : Prop :=
  Below w.heap.size w w' ∧ (((L.any fun x => !mayW C.length x) = true ∧ e = .returned (.tuple #[.pointer none, nS, .int .i64 2])) ∨
    ((L.any fun x => !mayW C.length x) = false ∧ ∃ s q v' D ao cap, w.heap.size ≤ q ∧ (∀ x, x ∈ s ↔ Rch C L x) ∧ Ran C (outL C.length s) D ∧ RHp w' q q v' D ∧
      e = .returned (.tuple #[.pointer (some ⟨q, 0, none⟩), .slice ao L.length cap, .int .i64 0]) ∧ w'.ownsRow w.heap.size 58 7 (.slice ao L.length cap) L.length (wcs (L.map (mv (gOf (outL C.length s)))))))
/-- what stands while it goes over keys -/
structure RrI (w w1 : World) (q : Nat) (C : List HC) (s S : List Int) (lv v' : Value) (D : List HC) (wr : World) : Prop where
  hb : Below w1.heap.size w1 wr
  hp : RHp wr q q v' D
  hran : Ran C s D
  hl : wr.ownsRow w.heap.size 3 1 lv S.length (intsV S)
theorem RrI.keep {w w1 : World} {q : Nat} {C : List HC} {s S : List Int} {lv v' : Value} {D : List HC} {wr wr' : World} (h : RrI w w1 q C s S lv v' D wr) (hb : Below wr.heap.size wr wr') : RrI w w1 q C s S lv v' D wr' :=
  ⟨h.hb.trans (hb.mono h.hb.size), h.hp.keep hb, h.hran, own_keep h.hl hb⟩
set_option maxHeartbeats 8000000 in
theorem rrun_any (w : World) (f base p : Nat) (v : Value) (C : List HC) (ao : Option Addr) (cap : Nat) (L : List Wd) (hH : RHp w base p v C) (hM : Made C) (hO : ∀ c ∈ C, ∀ x ∈ c.l, WOk f w x ∧ Pure x) (hr : WRow w ao L) (ho : ∀ x ∈ L, WOk f w x) (hpu : ∀ x ∈ L, Pure x) (hn : L.length ≤ 1099511627776) :
    Calls Tryd.prog 16 #[.pointer (some ⟨p, 0, none⟩), .slice ao L.length cap] w (RRunP w C L) := by
  have hC20 : C.length ≤ 1048576 := hH.2.2.2.1
  have HRE := Lib.hid (rreached_any w f base p v C ao cap L hH hr ho hpu hn)
  have HH := Lib.hid hH
  have HM := Lib.hid hM
  have HO := Lib.hid hO
  have HR := Lib.hid hr
  have HW := Lib.hid ho
  have HPU := Lib.hid hpu
  clear hH hM hO hr ho hpu
  go_enter Tryd.func16, Tryd.ntmps16
  go_wp2_with fail
  refine HRE.out.mono ?_
  rintro e w1 ⟨hb1, (⟨hbad, rfl⟩ | ⟨hgood, s0, lv, hs0, rfl, hown⟩)⟩
  · have HX := Lib.hid hb1
    have HB := Lib.hid hbad
    clear hb1 hbad
    go_wp2_with fail
    go_ret3
    exact ⟨HX.out, .inl ⟨HB.out, rfl⟩⟩
  have hmay : ∀ x ∈ L, mayW C.length x = true := fun x hx => by
    rw [List.any_eq_false] at hgood
    have := hgood x hx
    simpa using this
  have HCL := Lib.hid (cl_outL HH.out.2.2.2 hmay hs0)
  have hSl := outL_len C.length s0
  have HGD := Lib.hid hgood
  have HS0 := Lib.hid hs0
  generalize hse : outL C.length s0 = S at *
  have HSE := Lib.hid hse
  obtain ⟨so, sc, rfl⟩ := own_slice hown
  have HSO := Lib.hid hown
  have HB1 := Lib.hid hb1
  have hww := hb1.size
  clear hb1 hgood hs0 hown hmay hse
  go_wp2_with fail
  refine (rnew_any _).mono ?_
  rintro e w2 ⟨rfl, hp2, hb2⟩
  have HI0 : Hid (RrI w w1 w1.heap.size C [] S (.slice so S.length sc) (.slice none 0 0) [] w2) := Lib.hid ⟨hb2, hp2, Ran.nil C, own_keep HSO.out hb2⟩
  clear hp2 hb2
  go_wp2_with fail
  go_loopw [10] (fun iv wr => ∃ (i : Nat) (v' : Value) (D : List HC), i ≤ S.length ∧ iv = .int .i64 i ∧ Hid (RrI w w1 w1.heap.size C (S.take i) S (.slice so S.length sc) v' D wr))
    (fun iv _ => S.length - (intOf iv).toNat)
  case atStart => exact ⟨0, _, [], by omega, rfl, HI0⟩
  case round =>
    clear HI0
    obtain ⟨i, v', D, hi, rfl, HI⟩ := hrel
    by_cases hlt : i < S.length
    · obtain ⟨k, hk⟩ : ∃ k, S[i]? = some k := ⟨S[i], by simp [hlt]⟩
      obtain ⟨k0, k1⟩ := HCL.out.lt k (List.mem_of_getElem? hk)
      obtain ⟨kn, rfl⟩ := Int.eq_ofNat_of_zero_le k0
      have hkC : kn < C.length := by omega
      obtain ⟨c, hkc⟩ : ∃ c, C[kn]? = some c := ⟨C[kn], List.getElem?_eq_getElem hkC⟩
      obtain ⟨g, cap', e, hg1, hgs, hgc, hgm, hcell⟩ := own_facts HI.out.hl (by omega)
      injection e with e1 e2 e3
      subst e1 e3
      have hck := hcell i (.int .i64 kn) (by simp [intsV, hk])
      have HK := Lib.hid hk
      have HKC := Lib.hid hkc
      have hll : c.l.length ≤ 255 := (HH.out.2.2.2.2 _ _ hkc).2.2.2.1
      have HCC := Lib.hid (rcell_any wr base p v C kn c (HH.out.keep (HB1.out.trans (HI.out.hb.mono HB1.out.size))) hkc)
      clear hcell hk hkc k0
      go_wp2_with fail
      refine HCC.out.mono ?_
      rintro e w3 ⟨hb3, lo, lc, rfl, hown3⟩
      have hb4 := (Below.refl w3.heap.size w3).alloc (Nat.le_refl _) (.cells #[.int .i8 c.k, .int .i64 c.sz, .slice lo c.l.length lc] 65)
      have HX := Lib.hid (heap_new w3 (.cells #[.int .i8 c.k, .int .i64 c.sz, .slice lo c.l.length lc] 65))
      have HI4 := Lib.hid (HI.out.keep (hb3.trans (hb4.mono hb3.size)))
      have hown4 := own_keep hown3 hb4
      obtain ⟨lo', lc', e', hrw, -⟩ := own_prow hown4
      injection e' with ea eb ec
      subst ea ec
      have HRW := Lib.hid hrw
      clear hb3 hb4 hown3 hown4 hrw HI HCC eb
      go_wp2_with (with_reducible refine stop_op (o := ⟨_, .store 65 (.tmp 11) (.tmp 40), _, _, _, _⟩) ?_)
      refine Lib.hid ?_
      refine wpList_store_new (o := ⟨none, _, _, _, _, _⟩) rfl 65 (.tmp 11) (.tmp 40) rfl #[.int .i8 c.k, .int .i64 c.sz, .slice lo c.l.length lc] rfl rfl (infoCL3 _ rfl) rfl (by simp [Value.oneCell']) ?_
      generalize w3.alloc (.cells #[.int .i8 c.k, .int .i64 c.sz, .slice lo c.l.length lc] 65) = wI at *
      generalize w3.heap.size = X at *
      go_wp2_with fail
      obtain ⟨i0, z0, hi0, hz0, hz1, hz2, hz3⟩ := infoWD2
      have hwI := (HB1.out.trans (HI4.out.hb.mono HB1.out.size)).size
      go_loopw [13, 14] (fun pv kv wr => ∃ (k : Nat), k ≤ c.l.length ∧ kv = .int .i64 k ∧ Hid (Below wI.heap.size wI wr ∧ wr.ownsRow wI.heap.size 58 7 pv k (wcs ((c.l.take k).map (mv (gOf S))))))
        (fun _ kv _ => c.l.length - (intOf kv).toNat)
      case atStart => exact ⟨0, by omega, rfl, Lib.hid ⟨Below.refl _ _, World.ownsRow_nil _ _ _ _⟩⟩
      case round =>
        obtain ⟨k, hk, rfl, HJ⟩ := hrel
        have hXr := keep_heap HX.out HJ.out.1
        obtain ⟨x2, -⟩ := cells_at hXr 2 _ rfl
        have hxl := heap_lt hXr
        clear hXr
        by_cases hltk : k < c.l.length
        · obtain ⟨y, hy⟩ : ∃ y, c.l[k]? = some y := ⟨c.l[k], by simp [hltk]⟩
          have HTK : Hid ((c.l.take (k + 1)).map (mv (gOf S)) = (c.l.take k).map (mv (gOf S)) ++ [mv (gOf S) y]) := Lib.hid (by rw [List.take_add_one, hy]; simp)
          obtain ⟨b1, o1, rfl, -, hc1⟩ := HRW.out.keep HJ.out.1 k y hy
          have c0 := hc1 0 _ rfl
          have c1 := hc1 1 _ rfl
          have c2 := hc1 2 _ rfl
          have c3 := hc1 3 _ rfl
          have c4 := hc1 4 _ rfl
          have c5 := hc1 5 _ rfl
          have c6 := hc1 6 _ rfl
          simp only [Nat.add_zero] at c0
          have HMV := Lib.hid (rmoved_any wr w.heap.size S _ _ y (own_keep HI4.out.hl HJ.out.1) HCL.out.nodup (by omega))
          simp only [Wd.V] at HMV
          clear hc1 hy
          go_wp2_with fail
          refine HMV.out.mono ?_
          rintro e w5 ⟨hb5, rfl⟩
          have HB5 := Lib.hid hb5
          have hw5 := (HJ.out.1.trans (hb5.mono HJ.out.1.size)).size
          clear hb5 HMV c0 c1 c2 c3 c4 c5 c6
          obtain ⟨z, hz⟩ : ∃ z, mv (gOf S) y = z := ⟨_, rfl⟩
          rw [hz] at HTK ⊢
          clear hz
          obtain ⟨zc, za, zk, zn, zs, zu, zao, zcap, zl⟩ := z
          simp only [Wd.cells]
          go_wp2_with (at_builtin; refine stop_here ?_)
          refine Lib.hid ?_
          refine wpList_append_own2 rfl (.tmp 49) (.tmp 57) 26 rfl wI.heap.size 58 i0 z0 7 88 Tryd.underlying26 hi0 hz0 hz1 hz2 hz3 (by decide) _ k (wcs ((c.l.take k).map (mv (gOf S)))) rfl ((own_keep HJ.out.2 HB5.out).alloc _) ⟨w5.heap.size, 0, none⟩ 1 1 [.bool zc, .int .i64 za, .int .i8 zk, .int .i64 zn, .string zs, .string zu, .slice zao zl.length zcap] rfl rfl (fun j u hj => by
            rw [Addr.add_lit, Nat.zero_add]
            exact (cells_at (heap_new w5 (.cells #[.bool zc, .int .i64 za, .int .i8 zk, .int .i64 zn, .string zs, .string zu, .slice zao zl.length zcap] 58)) j u (by simpa using hj)).1) (by simp [Value.oneCell']) (by unfold maxLen; omega) (by omega) (by simp; omega) ?_
          intro v3 W3 hown3 hg3 hwh3
          obtain ⟨uo, uc, rfl⟩ := own_slice hown3
          have HFIN : Hid (Below wI.heap.size wI W3 ∧ W3.ownsRow wI.heap.size 58 7 (.slice uo (k + 1) uc) (k + 1) (wcs ((c.l.take (k + 1)).map (mv (gOf S))))) := Lib.hid (by
            have hb1 := HJ.out.1.trans (HB5.out.mono HJ.out.1.size)
            have hb2 := hb1.alloc hb1.size (.cells #[.bool zc, .int .i64 za, .int .i8 zk, .int .i64 zn, .string zs, .string zu, .slice zao zl.length zcap] 58)
            refine ⟨hb2.trans ((chg_grown hg3).below hb2.size (fun k h => own_base HJ.out.2 k h.symm)), ?_⟩
            rw [HTK.out, wcs, List.flatMap_append]
            exact hown3)
          clear hown3 hg3 hwh3
          go_wp2_with fail
          go_roundw
          case rel => exact ⟨k + 1, by omega, by go_num, HFIN⟩
          case measure => simp [intOf]; omega
        · have hkl : k = c.l.length := by omega
          have hpo := HJ.out.2
          rw [hkl, List.take_length] at hpo
          have hfull : c.l.map (mv (gOf S)) = c.l.map (mv (gOf (S.take i))) := List.map_congr_left fun y hy => mv_full HH.out.2.2.2 HCL.out HK.out (by simpa using HKC.out) hy
          have hlm : (c.l.map (mv (gOf S))).length = c.l.length := by simp
          rw [← hlm] at hpo
          obtain ⟨po, pc, rfl, hprw, hpno⟩ := own_prow hpo
          have HI5 := Lib.hid (HI4.out.keep HJ.out.1)
          have hcls : Cl C (S.take i ++ (kn : Int) :: S.drop (i + 1)) := by
            rw [← drop_cons HK.out, List.take_append_drop]
            exact HCL.out
          obtain ⟨hm0, hmsz⟩ := ran_next HH.out.2.2.2 HM.out hcls HI5.out.hran (by simpa using HKC.out)
          rw [← hfull] at hm0 hmsz
          have hbw := HB1.out.trans (HI5.out.hb.mono HB1.out.size)
          have hSi : (S.take i).length ≤ 1048576 := by rw [List.length_take]; omega
          have hmk := rmake_any f wr w1.heap.size w1.heap.size v' D c.k (c.l.map (mv (gOf S))) po pc HI5.out.hp hprw (fun x hx => by
            obtain ⟨y, hy, rfl⟩ := List.mem_map.1 hx
            exact wok_mv ((HO.out c (List.mem_of_getElem? HKC.out) y hy).1.keep hbw) (by omega)) (fun x hx => by
            obtain ⟨y, hy, rfl⟩ := List.mem_map.1 hx
            exact pure_mv (HO.out c (List.mem_of_getElem? HKC.out) y hy).2) (by rw [hlm]; omega) hpno
          rw [hlm] at hmk
          have HMK := Lib.hid hmk
          have HM0 := Lib.hid hm0
          have HSZ := Lib.hid hmsz
          have HFU := Lib.hid hfull
          rw [hlm]
          have hXr := keep_heap HX.out HJ.out.1
          obtain ⟨y0, -⟩ := cells_at hXr 0 _ rfl
          clear hmk hm0 hmsz hprw hpno hpo hcls hbw hXr HJ hfull
          go_wp2_with fail
          refine HMK.out.mono ?_
          rintro e w6 (⟨-, v6, lo6, lc6, rfl, hp6, hc6, -, -⟩ | ⟨hbad, -⟩)
          · have hq : ∀ j, heapS w1.heap.size v' j → w1.heap.size ≤ j := fun j hj => by
              rcases hj with rfl | hj
              · exact Nat.le_refl _
              · exact own_base HI5.out.hp.2.2.1.1 j hj
            have hl6 := own_chg HI5.out.hl hc6 (fun j hj hs => by
              obtain ⟨cur, hcur⟩ := own_type HI5.out.hl j hj
              rcases hs with rfl | hs
              · rw [HI5.out.hp.1] at hcur
                cases hcur
              · obtain ⟨cur', hcur'⟩ := own_type HI5.out.hp.2.2.1.1 j hs
                rw [hcur] at hcur'
                cases hcur')
            have HFIN : Hid (RrI w w1 w1.heap.size C (S.take (i + 1)) S (.slice (some ⟨g, 0, none⟩) S.length sc) v6 (D ++ [⟨c.k, sizeW D (c.l.map (mv (gOf S))), lo6, lc6, c.l.map (mv (gOf S))⟩]) w6) := Lib.hid (by
              refine ⟨HI5.out.hb.trans (hc6.below HI5.out.hb.size (fun j hj => hq j hj)), hp6, ?_, hl6⟩
              rw [HSZ.out, HFU.out, List.take_add_one, HK.out]
              exact HI5.out.hran.snoc (by simpa using HKC.out))
            clear hp6 hc6 hl6 hq
            go_wp2_with fail
            go_roundw
            case rel => exact ⟨i + 1, v6, _, by omega, by go_num, HFIN⟩
            case measure => simp [intOf]; omega
          · exact absurd HM0.out hbad
    · obtain rfl : i = S.length := by omega
      have hI9 := HI.out
      rw [List.take_length] at hI9
      have HI9 := Lib.hid hI9
      clear hI9 HI
      go_wp2_with fail
      obtain ⟨i0, z0, hi0, hz0, hz1, hz2, hz3⟩ := infoWD2
      have HWT := Lib.hid (HB1.out.trans (HI9.out.hb.mono HB1.out.size))
      have hwT := HWT.out.size
      generalize wr = wT at *
      go_loopw [15, 16] (fun ov iv wr => ∃ (i : Nat), i ≤ L.length ∧ iv = .int .i64 i ∧ Hid (Below wT.heap.size wT wr ∧ wr.ownsRow wT.heap.size 58 7 ov i (wcs ((L.take i).map (mv (gOf S))))))
        (fun _ iv _ => L.length - (intOf iv).toNat)
      case atStart => exact ⟨0, by omega, rfl, Lib.hid ⟨Below.refl _ _, World.ownsRow_nil _ _ _ _⟩⟩
      case round =>
        obtain ⟨k, hk, rfl, HJ⟩ := hrel
        by_cases hltk : k < L.length
        · obtain ⟨y, hy⟩ : ∃ y, L[k]? = some y := ⟨L[k], by simp [hltk]⟩
          have HTK : Hid ((L.take (k + 1)).map (mv (gOf S)) = (L.take k).map (mv (gOf S)) ++ [mv (gOf S) y]) := Lib.hid (by rw [List.take_add_one, hy]; simp)
          obtain ⟨b1, o1, rfl, -, hc1⟩ := HR.out.keep (HWT.out.trans (HJ.out.1.mono HWT.out.size)) k y hy
          have c0 := hc1 0 _ rfl
          have c1 := hc1 1 _ rfl
          have c2 := hc1 2 _ rfl
          have c3 := hc1 3 _ rfl
          have c4 := hc1 4 _ rfl
          have c5 := hc1 5 _ rfl
          have c6 := hc1 6 _ rfl
          simp only [Nat.add_zero] at c0
          have HMV := Lib.hid (rmoved_any wr w.heap.size S _ _ y (own_keep HI9.out.hl HJ.out.1) HCL.out.nodup (by omega))
          simp only [Wd.V] at HMV
          clear hc1 hy
          go_wp2_with fail
          refine HMV.out.mono ?_
          rintro e w5 ⟨hb5, rfl⟩
          have HB5 := Lib.hid hb5
          have hw5 := (HJ.out.1.trans (hb5.mono HJ.out.1.size)).size
          clear hb5 HMV c0 c1 c2 c3 c4 c5 c6
          obtain ⟨z, hz⟩ : ∃ z, mv (gOf S) y = z := ⟨_, rfl⟩
          rw [hz] at HTK ⊢
          clear hz
          obtain ⟨zc, za, zk, zn, zs, zu, zao, zcap, zl⟩ := z
          simp only [Wd.cells]
          go_wp2_with (at_builtin; refine stop_here ?_)
          refine Lib.hid ?_
          refine wpList_append_own2 rfl (.tmp 73) (.tmp 80) 26 rfl wT.heap.size 58 i0 z0 7 88 Tryd.underlying26 hi0 hz0 hz1 hz2 hz3 (by decide) _ k (wcs ((L.take k).map (mv (gOf S)))) rfl ((own_keep HJ.out.2 HB5.out).alloc _) ⟨w5.heap.size, 0, none⟩ 1 1 [.bool zc, .int .i64 za, .int .i8 zk, .int .i64 zn, .string zs, .string zu, .slice zao zl.length zcap] rfl rfl (fun j u hj => by
            rw [Addr.add_lit, Nat.zero_add]
            exact (cells_at (heap_new w5 (.cells #[.bool zc, .int .i64 za, .int .i8 zk, .int .i64 zn, .string zs, .string zu, .slice zao zl.length zcap] 58)) j u (by simpa using hj)).1) (by simp [Value.oneCell']) (by unfold maxLen; omega) (by omega) (by simp; omega) ?_
          intro v3 W3 hown3 hg3 hwh3
          obtain ⟨uo, uc, rfl⟩ := own_slice hown3
          have HFIN : Hid (Below wT.heap.size wT W3 ∧ W3.ownsRow wT.heap.size 58 7 (.slice uo (k + 1) uc) (k + 1) (wcs ((L.take (k + 1)).map (mv (gOf S))))) := Lib.hid (by
            have hb1 := HJ.out.1.trans (HB5.out.mono HJ.out.1.size)
            have hb2 := hb1.alloc hb1.size (.cells #[.bool zc, .int .i64 za, .int .i8 zk, .int .i64 zn, .string zs, .string zu, .slice zao zl.length zcap] 58)
            refine ⟨hb2.trans ((chg_grown hg3).below hb2.size (fun k h => own_base HJ.out.2 k h.symm)), ?_⟩
            rw [HTK.out, wcs, List.flatMap_append]
            exact hown3)
          clear hown3 hg3 hwh3
          go_wp2_with fail
          go_roundw
          case rel => exact ⟨k + 1, by omega, by go_num, HFIN⟩
          case measure => simp [intOf]; omega
        · have hkl : k = L.length := by omega
          have hpo := HJ.out.2
          rw [hkl, List.take_length] at hpo
          obtain ⟨uo, uc, rfl⟩ := own_slice hpo
          have HF := Lib.hid (own_lower hpo hwT)
          have HPF := Lib.hid (HI9.out.hp.keep HJ.out.1)
          have HBF := Lib.hid (HWT.out.trans (HJ.out.1.mono HWT.out.size))
          have HRN := Lib.hid HI9.out.hran
          clear hpo HJ
          go_wp2_with fail
          go_ret3
          exact ⟨HBF.out, .inr ⟨HGD.out, s0, w1.heap.size, v', D, uo, uc, hww, HS0.out, by rw [HSE.out]; exact HRN.out, HPF.out, rfl, by rw [HSE.out]; exact HF.out⟩⟩
end Go.Proofs.YtfbohajojaaiaaaDoor
