/- slices.Delete of one monitor; proc.Leave. Conditions: the process reads; its rows are not too long. -/
import Derived.Test.YtemgnljegbaobaaGreatDoorRc
import Derived.Deep.RegionLaw
namespace Go.Proofs.YtemgnljegbaobaaGreatDoor
open Go.ChangeShapes Go.WideShapes Go.ChangeAt Go.RowKit
set_option linter.unusedVariables false
set_option linter.unusedSimpArgs false
set_option maxRecDepth 100000
theorem wv_cons (x : Int × Int) (ps : List (Int × Int)) : wv (x :: ps) = .int .i64 x.1 :: .int .i64 x.2 :: wv ps := by simp [wv]
theorem wv_erase : ∀ (ps : List (Int × Int)) (i : Nat), (wv ps).take (i * 2) ++ (wv ps).drop ((i + 1) * 2) = wv (ps.eraseIdx i)
  | [], i => by simp [wv]
  | x :: ps, 0 => by simp [wv]
  | x :: ps, i + 1 => by
    rw [wv_cons, List.eraseIdx_cons_succ, wv_cons, ← wv_erase ps i, show (i + 1) * 2 = i * 2 + 1 + 1 by omega, show (i + 1 + 1) * 2 = (i * 2 + 1 + 1) + 1 + 1 by omega]
    simp
theorem op_append_room {P : Program} {o : Oper} {a : Act} {w : World} {K : Act → World → Prop} {Q : Exit → Act → World → Prop}
    (s x : Operand) (t : TypeId) (hop : o.op = Op.call { callee := Callee.builtin Builtin.append, args := #[s, x], argTypes := #[t, t] })
    (e : TypeId) (i : TypeInfo) (size : Nat) (h1 : P.underlying t = some (.slice e)) (h2 : P.info? e = some i) (h4 : i.size = size)
    (b off n cap : Nat) (hs : a.eval s = .slice (some ⟨b, off, none⟩) n cap)
    (ad : Addr) (m c : Nat) (news : List Value) (hx : a.eval x = .slice (some ad) m c) (hn : news.length = m * size) (hc : ∀ j u, news[j]? = some u → w.cell? (ad.add j) = some u) (h1c : ∀ u ∈ news, u.oneCell' = true)
    (hroom : n + m ≤ cap) (hspare : ∀ j, j < news.length → (w.cell? ⟨b, off + n * size + j, none⟩).isSome = true ∧ w.frozen? ⟨b, off + n * size + j, none⟩ = false)
    (hK : K (a.put o.dst (.slice (some ⟨b, off, none⟩) (n + m) cap)) (w.setCells b (off + n * size) news)) : Oper.wp P o a w K Q := by
  subst h4
  have hrun := run_append_room_cells (P := P) w t o.type e i h1 h2 b off n cap ad m c news hn hc h1c hroom (fun j hj => (hspare j hj).1) (fun j hj => (hspare j hj).2)
  unfold Oper.wp
  simp [execOp, hop, resolve, invoke, builtin, hs, hx, hrun, Result.andThen]
  exact hK
theorem clear_watch (w : World) (ty : TypeId) (b o c : Nat) (hc : ∀ j, j < 2 → (w.cell? ⟨b, o + j, none⟩).isSome = true) (hf : ∀ j, j < 2 → w.frozen? ⟨b, o + j, none⟩ = false) :
    (Builtin.clear_ #[25] ty #[.slice (some ⟨b, o, none⟩) 1 c]).run Tryz.prog w = .ok (.tuple #[]) (w.setCells b o [.int .i64 0, .int .i64 0]) := by
  have hv : ∀ w, (zeroValue 81).run Tryz.prog w = .ok (.agg #[.int .i64 0, .int .i64 0]) w := fun w => Tryz.zeroValue81 w
  have hzc : (Builtin.zeroCells (Value.agg #[.int .i64 0, .int .i64 0]).cells 1).toList = [.int .i64 0, .int .i64 0] := by
    simp [Builtin.zeroCells, Value.cells]
    rfl
  have hst := run_storeCells_cells (P := Tryz.prog) b o [.int .i64 0, .int .i64 0] 0 w (by simpa using hc) (by simpa using hf) (by simp [Value.oneCell'])
  simp only [Nat.add_zero] at hst
  simp [Builtin.clear_, run_underlying Tryz.underlying25, hv, hzc, hst]
set_option maxHeartbeats 8000000 in
theorem deletew_any (w : World) (B : Nat) (v : Value) (ps : List (Int × Int)) (i : Nat) (ho : w.ownsRow B 81 2 v ps.length (wv ps)) (hi : i < ps.length) (hn : ps.length ≤ 1000) :
    Calls Tryz.prog 43 #[v, .int .i64 i, .int .i64 ((i : Int) + 1)] w fun e w' => ∃ v', e = .returned v' ∧ w'.ownsRow B 81 2 v' (ps.eraseIdx i).length (wv (ps.eraseIdx i)) ∧ v'.ownBlock = v.ownBlock ∧ Chg (fun j => v.ownBlock = some j) w w' := by
  obtain ⟨hl, ⟨rfl, h0⟩ | ⟨g, cap, cur, rfl, hg, hh, h3, h4, h5, h6⟩⟩ := ho
  · omega
  · obtain ⟨i0, z0, q1, q2, q3, q4, q5⟩ := info_of (P := Tryz.prog) (e := 81) 2 (by kernel_rfl)
    generalize hN : ps.length = n at *
    have hcm : cap ≤ 9223372036854775807 := by unfold maxLen at h4; omega
    have hnl : ((wv ps).drop ((i + 1) * 2)).length = (n - (i + 1)) * 2 := by rw [List.length_drop, hl, ← Nat.sub_mul]
    have hcell : ∀ j u, (wv ps)[j]? = some u → cur[j]? = some u := fun j u hj => by
      rw [← h6, List.getElem?_take] at hj
      split at hj
      · simpa using hj
      · cases hj
    obtain ⟨A, hA, hsrc⟩ : ∃ A : Addr, (if cap = i + 1 then some (⟨g, 0, none⟩ : Addr) else some ⟨g, (i + 1) * 2, none⟩) = some A ∧ ∀ j u, ((wv ps).drop ((i + 1) * 2))[j]? = some u → w.drew.cell? (A.add j) = some u := by
      by_cases h : cap = i + 1
      · refine ⟨⟨g, 0, none⟩, by simp [h], fun t u hu => ?_⟩
        have : ((wv ps).drop ((i + 1) * 2)) = [] := List.eq_nil_of_length_eq_zero (by rw [hnl]; omega)
        rw [this] at hu
        simp at hu
      · refine ⟨⟨g, (i + 1) * 2, none⟩, by simp [h], fun t u hu => ?_⟩
        rw [List.getElem?_drop] at hu
        rw [Addr.add_lit]
        exact (cells_at hh _ u (hcell _ u hu)).1
    have hfin : ∀ M : List Value, M = (wv ps).drop ((i + 1) * 2) → (setMany (setMany cur (i * 2) M) ((n - 1) * 2) [.int .i64 0, .int .i64 0]).toList.take ((n - 1) * 2) = wv (ps.eraseIdx i) := by
      rintro M rfl
      have e1 : i * 2 + ((wv ps).drop ((i + 1) * 2)).length = (n - 1) * 2 := by rw [hnl]; omega
      have e2 : (setMany cur (i * 2) ((wv ps).drop ((i + 1) * 2))).size = cap * 2 := by rw [setMany_size]; exact h5
      have e3 : cur.toList.take (i * 2) = (wv ps).take (i * 2) := by rw [← h6, List.take_take, Nat.min_eq_left (by omega)]
      rw [setMany_list _ _ _ (by rw [e2]; simp; omega), List.append_assoc, List.take_left' (by rw [List.length_take, Array.length_toList, e2]; omega), setMany_list _ _ _ (by rw [e1, h5]; omega), List.take_left' (by rw [List.length_append, List.length_take, Array.length_toList, h5, hnl]; omega), e3]
      exact wv_erase ps i
    have hspare : ∀ j, j < ((wv ps).drop ((i + 1) * 2)).length → (w.drew.cell? ⟨g, 0 + i * 2 + j, none⟩).isSome = true ∧ w.drew.frozen? ⟨g, 0 + i * 2 + j, none⟩ = false := fun j hj => by
      rw [hnl] at hj
      have hlt : 0 + i * 2 + j < cur.size := by rw [h5]; omega
      have := cells_at hh (0 + i * 2 + j) cur[0 + i * 2 + j] (Array.getElem?_eq_getElem hlt)
      exact ⟨by show (w.cell? _).isSome = true; rw [this.1]; rfl, this.2⟩
    have hh1 : (w.drew.setCells g (0 + i * 2) ((wv ps).drop ((i + 1) * 2))).heap[g]? = some (.cells (setMany cur (i * 2) ((wv ps).drop ((i + 1) * 2))) 81 (0, 0)) := by
      rw [Nat.zero_add]
      exact setCells_heap _ _ _ _ hh
    have hc1 : Chg (fun j => j = g) w (w.drew.setCells g (0 + i * 2) ((wv ps).drop ((i + 1) * 2))) := (chg_of_below ((Below.refl w.heap.size w).drew) _).trans (chg_setCells g _ _ _)
    have hsz1 : (setMany cur (i * 2) ((wv ps).drop ((i + 1) * 2))).size = cap * 2 := by rw [setMany_size]; exact h5
    have hone : ∀ u ∈ (wv ps).drop ((i + 1) * 2), u.oneCell' = true := fun u hu => wv_one ps u (List.mem_of_mem_drop hu)
    obtain ⟨M, hM⟩ : ∃ M, M = (wv ps).drop ((i + 1) * 2) := ⟨_, rfl⟩
    rw [← hM] at hnl hsrc hspare hh1 hc1 hsz1 hone
    have HF := Lib.hid (hfin M hM)
    have HR := Lib.hid (And.intro hnl (And.intro hsrc (And.intro hspare hone)))
    have HE := Lib.hid (show (ps.eraseIdx i).length = n - 1 by rw [List.length_eraseIdx, hN, if_pos hi])
    obtain ⟨W1, hW1⟩ : ∃ W1, W1 = w.drew.setCells g (0 + i * 2) M := ⟨_, rfl⟩
    rw [← hW1] at hh1 hc1
    have hcl : ∀ ty c, (Builtin.clear_ #[25] ty #[.slice (some ⟨g, (n - 1) * 2, none⟩) 1 c]).run Tryz.prog W1 = .ok (.tuple #[]) (W1.setCells g ((n - 1) * 2) [.int .i64 0, .int .i64 0]) := fun ty c => by
      have hat : ∀ j, j < 2 → W1.cell? ⟨g, (n - 1) * 2 + j, none⟩ = some ((setMany cur (i * 2) M)[(n - 1) * 2 + j]!) ∧ W1.frozen? ⟨g, (n - 1) * 2 + j, none⟩ = false := fun j hj => by
        have hlt : (n - 1) * 2 + j < (setMany cur (i * 2) M).size := by rw [hsz1]; omega
        exact cells_at hh1 _ _ ((Array.getElem?_eq_getElem hlt).trans (congrArg some (getElem!_pos (setMany cur (i * 2) M) _ hlt).symm))
      exact clear_watch W1 ty g ((n - 1) * 2) c (fun j hj => by rw [(hat j hj).1]; rfl) (fun j hj => (hat j hj).2)
    have H1 := Lib.hid (And.intro hh1 (And.intro hc1 (And.intro hsz1 hW1)))
    clear hfin hnl hsrc hspare hh1 hc1 hsz1 hone hM hW1 hcell hh h5 h6 hl hN
    have f1 : (0 : Int) ≤ (i : Int) + 1 := by omega
    have f2 : ((i : Int) + 1).toNat = i + 1 := by omega
    have f3 : ¬ ((i : Int) = (i : Int) + 1) := by omega
    have f4 : (i : Int) + 1 ≤ (n : Int) := by omega
    have f5 : i + (n - (i + 1)) = n - 1 := by omega
    have f6 : i ≤ cap := by omega
    have f7 : i + 1 ≤ cap := by omega
    have f8 : (i : Int) + 1 ≤ (cap : Int) := by omega
    have f9 : i + 1 ≤ n := by omega
    have f10 : n - (n - 1) = 1 := by omega
    go_enter Tryz.func43, Tryz.ntmps43
    go_wp2_with fail
    have hS : Any0 w.drew := trivial
    refine region_plan (Any0) [(0, 0), (1, 0), (2, 0), (3, 0), (4, 0), (5, 0), (6, 1), (7, 0)] (by kernel_rfl) (by kernel_rfl) (by kernel_rfl) hS ?_
    iterate 6 (first | (refine plan_skip rfl ?_ ?_; (focus (rfl)); (try simp only [Act.put, List.setIfInBounds_toArray, List.set_cons_zero, List.set_cons_succ])) | (refine plan_take (v := ?_) rfl ?_ (fun w hSw => ?_) ?_; rotate_left; (focus (rfl)); (focus (unfold Any0 at hSw; (go_simp <;> with_reducible rfl))); (try simp only [Act.put, List.setIfInBounds_toArray, List.set_cons_zero, List.set_cons_succ])))
    refine plan_run rfl ?_ (fun K hK => ?_)
    focus (rfl)
    refine op_append_room (.tmp 22) (.tmp 25) 25 rfl 81 i0 2 Tryz.underlying25 q1 q3 g 0 i cap rfl A (n - (i + 1)) (cap - (i + 1)) M ?_ HR.out.1 HR.out.2.1 HR.out.2.2.2 (by omega) HR.out.2.2.1 ?_
    · rfl
    rw [← H1.out.2.2.2, f5]
    refine hK.out _ _ (trivial) ?_
    clear hK K
    (try simp only [Act.put, List.setIfInBounds_toArray, List.set_cons_zero, List.set_cons_succ])
    clear hS
    iterate 1 (first | (refine plan_skip rfl ?_ ?_; (focus (rfl)); (try simp only [Act.put, List.setIfInBounds_toArray, List.set_cons_zero, List.set_cons_succ])) | (refine plan_take (v := ?_) rfl ?_ (fun w hSw => ?_) ?_; rotate_left; (focus (rfl)); (focus (unfold Any0 at hSw; (go_simp <;> with_reducible rfl))); (try simp only [Act.put, List.setIfInBounds_toArray, List.set_cons_zero, List.set_cons_succ])))
    refine plan_done ?_
    go_wp2_with fail
    go_ret
    obtain ⟨hh1, hc1, hsz1, -⟩ := H1.out
    rw [HE.out]
    refine ⟨_, rfl, ⟨by rw [← HE.out, wv_len], .inr ⟨g, cap, _, rfl, hg, setCells_heap _ _ _ _ hh1, by omega, h4, by rw [setMany_size]; exact hsz1, HF.out⟩⟩, rfl, (hc1.trans (chg_setCells g _ _ _)).mono fun k _ e => by have e : k = g := e; rw [e]; rfl⟩
/-- a process comes back without a monitor -/
def LeaveP (w : World) (p : Pv) (D : Pd) (r : Int) (e : Ending) (w' : World) : Prop :=
  if idxOf (fun x : Int × Int => x.1 == r) D.ws < 0 then GivesP w p D p.wait (.bool false) (fun D' => D'.nm = D.nm ∧ D'.xm = D.xm ∧ D'.lk = D.lk ∧ D'.ws = D.ws) e w'
  else GivesP w p D p.wait (.bool true) (fun D' => D'.nm = D.nm ∧ D'.xm = D.xm ∧ D'.lk = D.lk ∧ D'.ws = D.ws.eraseIdx (idxOf (fun x : Int × Int => x.1 == r) D.ws).toNat) e w'
set_option maxHeartbeats 16000000 in
theorem leave_any (w : World) (p : Pv) (D : Pd) (r : Int) (h : PrX w p D.X) (hD : D.ok) : Calls Tryz.prog 14 #[.agg p.cells, .int .i64 r] w (LeaveP w p D r) := by
  obtain ⟨pid, par, sv, mv, name, trap, wait, lv, wv0⟩ := p
  have HP := Lib.hid h
  obtain ⟨h2, h3, h7, h8⟩ := h
  simp only [Pd.X] at h2 h3 h7 h8
  obtain ⟨so, sc, rfl, -, -⟩ := h2.row.slice
  obtain ⟨mo, mc, rfl, -, -⟩ := h3.slice
  obtain ⟨lo, lc, rfl, -, -⟩ := h7.slice
  obtain ⟨wo, wc, rfl, -, -⟩ := h8.slice
  clear h2 h3 h7 h8
  obtain ⟨n1, n3, hb1, hs1⟩ := two_boxes w (.cells #[.int .i64 pid, .int .i64 par, .slice so D.L.length sc, .slice mo D.nm mc, .string name, .bool trap, .bool wait, .slice lo D.lk.length lc, .slice wo D.ws.length wc] 27) (.cells zeroP 27)
  have HB1 := Lib.hid (And.intro hb1 (And.intro n1 (And.intro n3 hs1)))
  clear hb1 n1 n3 hs1
  go_enter Tryz.func14, Tryz.ntmps14
  go_wp2_with (with_reducible refine stop_op (o := ⟨_, .load 27 (.tmp 2), _, _, _, _⟩) ?_)
  generalize (w.alloc (.cells #[.int .i64 pid, .int .i64 par, .slice so D.L.length sc, .slice mo D.nm mc, .string name, .bool trap, .bool wait, .slice lo D.lk.length lc, .slice wo D.ws.length wc] 27)).alloc (.cells zeroP 27) = w1 at *
  refine Lib.hid ?_
  refine wpList_load_row (o := ⟨_, _, _, _, _, _⟩) rfl 27 (.tmp 2) rfl w.heap.size rfl 27 #[.int .i64 pid, .int .i64 par, .slice so D.L.length sc, .slice mo D.nm mc, .string name, .bool trap, .bool wait, .slice lo D.lk.length lc, .slice wo D.ws.length wc] (0, 0) _ HB1.out.2.1 Tryz.underlying27 rfl (infoPT rfl) ?_
  go_wp2_with fail
  refine (copy_any _ ⟨pid, par, .slice so D.L.length sc, .slice mo D.nm mc, name, trap, wait, .slice lo D.lk.length lc, .slice wo D.ws.length wc⟩ D.X (HP.out.keep HB1.out.1) hD.px).mono ?_
  rintro e w4 hcp
  obtain ⟨q, L', rfl, hsm, hpr, B, hB1, hB2, om, ol, ow, hB3⟩ := hcp.pr (HP.out.keep HB1.out.1)
  obtain ⟨qpid, qpar, qsv, qmv, qname, qtrap, qwait, qlv, qwv⟩ := q
  have HC := Lib.hid hpr
  have HSM := Lib.hid hsm
  have HO := Lib.hid (And.intro hB1 (And.intro hB2 (And.intro om (And.intro ol (And.intro ow hB3)))))
  obtain ⟨qso, qsc, e1, -, -⟩ := hpr.pr.st.row.slice
  obtain ⟨qmo, qmc, e2, -, -⟩ := hpr.pr.ml.slice
  obtain ⟨qlo, qlc, e3, -, -⟩ := hpr.pr.lk.slice
  obtain ⟨qwo, qwc, e4, -, -⟩ := hpr.pr.wt.slice
  simp only [Pd.X] at e1 e2 e3 e4
  subst e1 e2 e3 e4
  have HB4 := Lib.hid (keep_heap HB1.out.2.2.1 hpr.hb)
  have HSZ := Lib.hid hpr.hb.size
  clear hcp hsm hpr hB1 hB2 om ol ow hB3
  go_wp2_with (with_reducible refine stop_op (o := ⟨_, .store 27 (.tmp 6) (.tmp 9), _, _, _, _⟩) ?_)
  refine Lib.hid ?_
  refine wpList_store_new (o := ⟨none, _, _, _, _, _⟩) rfl 27 (.tmp 6) (.tmp 9) rfl #[.int .i64 qpid, .int .i64 qpar, .slice qso L'.length qsc, .slice qmo D.nm qmc, .string qname, .bool qtrap, .bool qwait, .slice qlo D.lk.length qlc, .slice qwo D.ws.length qwc] rfl rfl (infoPT rfl) rfl (Pv.one HC.out.pr) ?_
  have hb5 := (Below.refl w4.heap.size w4).alloc (Nat.le_refl _) (.cells #[.int .i64 qpid, .int .i64 qpar, .slice qso L'.length qsc, .slice qmo D.nm qmc, .string qname, .bool qtrap, .bool qwait, .slice qlo D.lk.length qlc, .slice qwo D.ws.length qwc] 27)
  have hx5 := heap_new w4 (.cells #[.int .i64 qpid, .int .i64 qpar, .slice qso L'.length qsc, .slice qmo D.nm qmc, .string qname, .bool qtrap, .bool qwait, .slice qlo D.lk.length qlc, .slice qwo D.ws.length qwc] 27)
  have H5 := Lib.hid (And.intro hb5 (And.intro hx5 (keep_heap HB4.out hb5)))
  have HC5 := Lib.hid (HC.out.pr.keep hb5)
  obtain ⟨c8, -⟩ := cells_at hx5 8 _ rfl
  clear hb5 hx5 HB4
  generalize w4.alloc (.cells #[.int .i64 qpid, .int .i64 qpar, .slice qso L'.length qsc, .slice qmo D.nm qmc, .string qname, .bool qtrap, .bool qwait, .slice qlo D.lk.length qlc, .slice qwo D.ws.length qwc] 27) = w5 at *
  go_wp2_with fail
  refine (mkW_any _ _ _ _).mono ?_
  rintro e w6 ⟨rfl, hb6⟩
  have H6 := Lib.hid (H5.out.1.trans (hb6.mono H5.out.1.size))
  have HC6 := Lib.hid (HC5.out.keep hb6)
  have HX6 := Lib.hid (And.intro (keep_heap H5.out.2.1 hb6) (keep_heap H5.out.2.2 hb6))
  clear hb6 c8 H5 HC5
  go_wp2_with fail
  refine (lookW_any _ _ D.ws r HC6.out.wt hD.hw).mono ?_
  rintro e w7 ⟨rfl, hb7⟩
  have H7 := Lib.hid (H6.out.trans (hb7.mono H6.out.size))
  have HC7 := Lib.hid (HC6.out.keep hb7)
  have HX7 := Lib.hid (And.intro (keep_heap HX6.out.1 hb7) (keep_heap HX6.out.2 hb7))
  have hlt := idxOf_lt (p := fun x : Int × Int => x.1 == r) D.ws
  have hLE : ∀ e w', LeaveP w ⟨pid, par, .slice so D.L.length sc, .slice mo D.nm mc, name, trap, wait, .slice lo D.lk.length lc, .slice wo D.ws.length wc⟩ D r e w' = if idxOf (fun x : Int × Int => x.1 == r) D.ws < 0 then GivesP w ⟨pid, par, .slice so D.L.length sc, .slice mo D.nm mc, name, trap, wait, .slice lo D.lk.length lc, .slice wo D.ws.length wc⟩ D wait (.bool false) (fun D' => D'.nm = D.nm ∧ D'.xm = D.xm ∧ D'.lk = D.lk ∧ D'.ws = D.ws) e w'
      else GivesP w ⟨pid, par, .slice so D.L.length sc, .slice mo D.nm mc, name, trap, wait, .slice lo D.lk.length lc, .slice wo D.ws.length wc⟩ D wait (.bool true) (fun D' => D'.nm = D.nm ∧ D'.xm = D.xm ∧ D'.lk = D.lk ∧ D'.ws = D.ws.eraseIdx (idxOf (fun x : Int × Int => x.1 == r) D.ws).toNat) e w' := fun e w' => rfl
  have HLE := Lib.hid hLE
  clear hb7 H6 HC6 HX6 hLE
  generalize idxOf (fun x : Int × Int => x.1 == r) D.ws = ix at *
  by_cases h0 : ix < 0
  · have HL2 := Lib.hid fun e w' => (HLE.out e w').trans (if_pos h0)
    have hd : decide (ix < 0) = true := decide_eq_true h0
    clear HLE hlt h0
    go_wp2_with (with_reducible refine stop_op (o := ⟨_, .load 27 (.tmp 6), _, _, _, _⟩) ?_)
    refine Lib.hid ?_
    refine wpList_load_row (o := ⟨_, _, _, _, _, _⟩) rfl 27 (.tmp 6) rfl w4.heap.size rfl 27 #[.int .i64 qpid, .int .i64 qpar, .slice qso L'.length qsc, .slice qmo D.nm qmc, .string qname, .bool qtrap, .bool qwait, .slice qlo D.lk.length qlc, .slice qwo D.ws.length qwc] (0, 0) _ HX7.out.1 Tryz.underlying27 rfl (infoPT rfl) ?_
    go_wp2_with (with_reducible refine stop_op (o := ⟨_, .store 27 (.tmp 4) (.tmp 17), _, _, _, _⟩) ?_)
    refine Lib.hid ?_
    refine wpList_store_row (o := ⟨none, _, _, _, _, _⟩) rfl 27 (.tmp 4) (.tmp 17) rfl (w.heap.size + 1) #[.int .i64 qpid, .int .i64 qpar, .slice qso L'.length qsc, .slice qmo D.nm qmc, .string qname, .bool qtrap, .bool qwait, .slice qlo D.lk.length qlc, .slice qwo D.ws.length qwc] rfl rfl 27 zeroP HX7.out.2 (infoPT rfl) rfl (by simp [Value.oneCell']) ?_
    have hR7 : PrR w1 D w7 ⟨qpid, qpar, .slice qso L'.length qsc, .slice qmo D.nm qmc, qname, qtrap, qwait, .slice qlo D.lk.length qlc, .slice qwo D.ws.length qwc⟩ ⟨L', D.nm, D.xm, D.lk, D.ws⟩ := HC.out.grow H7.out
    have hR := hR7.turn HP.out HB1.out.1 ((chg_setRow w7 (w.heap.size + 1) #[.int .i64 qpid, .int .i64 qpar, .slice qso L'.length qsc, .slice qmo D.nm qmc, .string qname, .bool qtrap, .bool qwait, .slice qlo D.lk.length qlc, .slice qwo D.ws.length qwc]).mono (fun j _ e => by have e : j = w.heap.size + 1 := e; have := HB1.out.2.2.2; omega))
    have HF := Lib.hid (And.intro (setRow_heap w7 (w.heap.size + 1) zeroP #[.int .i64 qpid, .int .i64 qpar, .slice qso L'.length qsc, .slice qmo D.nm qmc, .string qname, .bool qtrap, .bool qwait, .slice qlo D.lk.length qlc, .slice qwo D.ws.length qwc] 27 (0, 0) HX7.out.2) hR)
    clear hR hR7 HX7 HC7
    generalize w7.setRow (w.heap.size + 1) #[.int .i64 qpid, .int .i64 qpar, .slice qso L'.length qsc, .slice qmo D.nm qmc, .string qname, .bool qtrap, .bool qwait, .slice qlo D.lk.length qlc, .slice qwo D.ws.length qwc] = wz at *
    go_wp2_with fail
    refine ret_cell_tmp HF.out.1 rfl Tryz.underlying27 rfl (infoPT rfl) rfl rfl ?_
    rw [HL2.out]
    exact ⟨⟨qpid, qpar, .slice qso L'.length qsc, .slice qmo D.nm qmc, qname, qtrap, qwait, .slice qlo D.lk.length qlc, .slice qwo D.ws.length qwc⟩, _, rfl, HSM.out, HF.out.2, rfl, rfl, rfl, rfl⟩
  · obtain ⟨i, rfl⟩ : ∃ i : Nat, ix = i := ⟨ix.toNat, by omega⟩
    have hi : i < D.ws.length := by omega
    have HL2 := Lib.hid fun e w' => (HLE.out e w').trans (if_neg h0)
    have hd : decide ((i : Int) < 0) = false := decide_eq_false h0
    have hw1 : IntKind.i64.wrap ((i : Int) + 1) = (i : Int) + 1 := IntWalk.i64_in _ (by have := hD.hw; omega)
    have HO7 := Lib.hid (And.intro (own_keep HO.out.2.2.1 H7.out) (And.intro (own_keep HO.out.2.2.2.1 H7.out) (own_keep HO.out.2.2.2.2.1 H7.out)))
    obtain ⟨c8, -⟩ := cells_at HX7.out.1 8 _ rfl
    have HI := Lib.hid hi
    clear HLE hlt h0 hi
    go_wp2_with fail
    refine (deletew_any w7 B (.slice qwo D.ws.length qwc) D.ws i HO7.out.2.2 HI.out hD.hw).mono ?_
    rintro e w8 ⟨v7, rfl, o7, ob7, hc8⟩
    obtain ⟨a7, k7, rfl⟩ := own_slice o7
    have hlb : ∀ g, (Value.slice qwo D.ws.length qwc).ownBlock = some g → B ≤ g ∧ g < w4.heap.size := fun g hg => ⟨own_base HO.out.2.2.2.2.1 g hg, own_lt HO.out.2.2.2.2.1 (Nat.le_refl _) g hg⟩
    have hpr8 : PrX w8 ⟨qpid, qpar, .slice qso L'.length qsc, .slice qmo D.nm qmc, qname, qtrap, qwait, .slice qlo D.lk.length qlc, .slice a7 (D.ws.eraseIdx i).length k7⟩ (Pd.X ⟨L', D.nm, D.xm, D.lk, D.ws.eraseIdx i⟩) := by
      refine ⟨HC7.out.st.chg hc8 (fun g hg e => (HO.out.2.2.2.2.2 g (hlb g e).1).1 hg) (fun g e f hf => (HO.out.2.2.2.2.2 g (hlb g e).1).2 f hf), ?_, ?_, ?_⟩
      · exact HC7.out.ml.chg hc8 (fun g hg e => (own_apart HO7.out.1 HO7.out.2.2 (by decide) hg e).elim)
      · exact HC7.out.lk.chg hc8 (fun g hg e => (own_apart HO7.out.2.1 HO7.out.2.2 (by decide) hg e).elim)
      · exact Rw_own o7 (wv_one _)
    have hb8 : Below w1.heap.size w1 w8 := ((HC.out.hb.trans (H7.out.mono HSZ.out))).trans (hc8.below (Nat.le_trans HSZ.out H7.out.size) fun g hg => Nat.le_trans HO.out.1 (hlb g hg).1)
    have hx8 : w8.heap[w4.heap.size]? = some (.cells #[.int .i64 qpid, .int .i64 qpar, .slice qso L'.length qsc, .slice qmo D.nm qmc, .string qname, .bool qtrap, .bool qwait, .slice qlo D.lk.length qlc, .slice qwo D.ws.length qwc] 27 (0, 0)) := hc8.heap HX7.out.1 (fun e => by have := (hlb _ e).2; omega)
    have hz8 : w8.heap[w.heap.size + 1]? = some (.cells zeroP 27 (0, 0)) := hc8.heap HX7.out.2 (fun e => by have h1 := (hlb _ e).1; have h2 := HO.out.1; have h3 := HB1.out.2.2.2; omega)
    have hpn : PrN w4.heap.size ⟨qpid, qpar, .slice qso L'.length qsc, .slice qmo D.nm qmc, qname, qtrap, qwait, .slice qlo D.lk.length qlc, .slice a7 (D.ws.eraseIdx i).length k7⟩ L' := by
      obtain ⟨n1, n2, n3, n4, n5⟩ := HC.out.pr.old (Nat.le_refl w4.heap.size)
      exact ⟨n1, n2, n3, fun e => by have := (hlb _ (ob7.symm.trans e)).2; omega, n5⟩
    have hap : ∀ j, j < w1.heap.size → (∀ f ∈ D.L, FrN j f.cs) → PrN j ⟨qpid, qpar, .slice qso L'.length qsc, .slice qmo D.nm qmc, qname, qtrap, qwait, .slice qlo D.lk.length qlc, .slice a7 (D.ws.eraseIdx i).length k7⟩ L' := fun j hj hf => by
      obtain ⟨n1, n2, n3, n4, n5⟩ := HC.out.ap j hj hf
      exact ⟨n1, n2, n3, fun e => by have h1 := (hlb _ (ob7.symm.trans e)).1; have h2 := HO.out.1; omega, n5⟩
    have H8 := Lib.hid (And.intro hpr8 (And.intro hb8 (And.intro hx8 (And.intro hz8 (And.intro hpn hap)))))
    obtain ⟨z8, z8f⟩ := cells_at hx8 8 _ rfl
    have hlx := heap_lt hx8
    clear o7 ob7 hc8 hlb hpr8 hb8 hx8 hz8 hpn hap c8 HC7 HO7 HX7
    go_wp2_with (with_reducible refine stop_op (o := ⟨_, .load 27 (.tmp 6), _, _, _, _⟩) ?_)
    have hc9 := chg_set (w := w8) (p := ⟨w4.heap.size, 8, none⟩) (.slice a7 (D.ws.eraseIdx i).length k7)
    have hx9 : (w8.setCell ⟨w4.heap.size, 8, none⟩ (.slice a7 (D.ws.eraseIdx i).length k7)).heap[w4.heap.size]? = some (.cells #[.int .i64 qpid, .int .i64 qpar, .slice qso L'.length qsc, .slice qmo D.nm qmc, .string qname, .bool qtrap, .bool qwait, .slice qlo D.lk.length qlc, .slice a7 (D.ws.eraseIdx i).length k7] 27 (0, 0)) := set_at H8.out.2.2.1 _
    have hz9 := hc9.heap H8.out.2.2.2.1 (fun e => by have e : w.heap.size + 1 = w4.heap.size := e; have h3 := HB1.out.2.2.2; have h4 := HSZ.out; omega)
    have hR9 : PrR w1 D (w8.setCell ⟨w4.heap.size, 8, none⟩ (.slice a7 (D.ws.eraseIdx i).length k7)) ⟨qpid, qpar, .slice qso L'.length qsc, .slice qmo D.nm qmc, qname, qtrap, qwait, .slice qlo D.lk.length qlc, .slice a7 (D.ws.eraseIdx i).length k7⟩ ⟨L', D.nm, D.xm, D.lk, D.ws.eraseIdx i⟩ :=
      ⟨H8.out.2.1.trans (hc9.below H8.out.2.1.size (fun j e => by have e : j = w4.heap.size := e; have h4 := HSZ.out; omega)), HC.out.cp, H8.out.1.chg hc9 (fun j e => by have e : j = w4.heap.size := e; rw [e]; exact H8.out.2.2.2.2.1), H8.out.2.2.2.2.2⟩
    have H9 := Lib.hid (And.intro hR9 (And.intro hx9 hz9))
    clear hc9 hx9 hz9 hR9 H8 z8 z8f hlx
    generalize w8.setCell ⟨w4.heap.size, 8, none⟩ (.slice a7 (D.ws.eraseIdx i).length k7) = w9 at *
    refine Lib.hid ?_
    refine wpList_load_row (o := ⟨_, _, _, _, _, _⟩) rfl 27 (.tmp 6) rfl w4.heap.size rfl 27 #[.int .i64 qpid, .int .i64 qpar, .slice qso L'.length qsc, .slice qmo D.nm qmc, .string qname, .bool qtrap, .bool qwait, .slice qlo D.lk.length qlc, .slice a7 (D.ws.eraseIdx i).length k7] (0, 0) _ H9.out.2.1 Tryz.underlying27 rfl (infoPT rfl) ?_
    go_wp2_with (with_reducible refine stop_op (o := ⟨_, .store 27 (.tmp 4) (.tmp 25), _, _, _, _⟩) ?_)
    refine Lib.hid ?_
    refine wpList_store_row (o := ⟨none, _, _, _, _, _⟩) rfl 27 (.tmp 4) (.tmp 25) rfl (w.heap.size + 1) #[.int .i64 qpid, .int .i64 qpar, .slice qso L'.length qsc, .slice qmo D.nm qmc, .string qname, .bool qtrap, .bool qwait, .slice qlo D.lk.length qlc, .slice a7 (D.ws.eraseIdx i).length k7] rfl rfl 27 zeroP H9.out.2.2 (infoPT rfl) rfl (by simp [Value.oneCell']) ?_
    have hR := H9.out.1.turn HP.out HB1.out.1 ((chg_setRow w9 (w.heap.size + 1) #[.int .i64 qpid, .int .i64 qpar, .slice qso L'.length qsc, .slice qmo D.nm qmc, .string qname, .bool qtrap, .bool qwait, .slice qlo D.lk.length qlc, .slice a7 (D.ws.eraseIdx i).length k7]).mono (fun j _ e => by have e : j = w.heap.size + 1 := e; have := HB1.out.2.2.2; omega))
    have HF := Lib.hid (And.intro (setRow_heap w9 (w.heap.size + 1) zeroP #[.int .i64 qpid, .int .i64 qpar, .slice qso L'.length qsc, .slice qmo D.nm qmc, .string qname, .bool qtrap, .bool qwait, .slice qlo D.lk.length qlc, .slice a7 (D.ws.eraseIdx i).length k7] 27 (0, 0) H9.out.2.2) hR)
    clear hR H9
    generalize w9.setRow (w.heap.size + 1) #[.int .i64 qpid, .int .i64 qpar, .slice qso L'.length qsc, .slice qmo D.nm qmc, .string qname, .bool qtrap, .bool qwait, .slice qlo D.lk.length qlc, .slice a7 (D.ws.eraseIdx i).length k7] = wz at *
    go_wp2_with fail
    refine ret_cell_tmp HF.out.1 rfl Tryz.underlying27 rfl (infoPT rfl) rfl rfl ?_
    rw [HL2.out]
    exact ⟨⟨qpid, qpar, .slice qso L'.length qsc, .slice qmo D.nm qmc, qname, qtrap, qwait, .slice qlo D.lk.length qlc, .slice a7 (D.ws.eraseIdx i).length k7⟩, _, rfl, HSM.out, HF.out.2, rfl, rfl, rfl, by rw [Int.toNat_natCast]⟩
end Go.Proofs.YtemgnljegbaobaaGreatDoor
