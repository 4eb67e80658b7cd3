/- proc.Watch. Conditions: the process reads; its rows are not too long. -/
import Derived.Test.YtemgnljegbaobaaGreatDoorNl
namespace Go.Proofs.YtemgnljegbaobaaGreatDoor
open Go.ChangeShapes Go.WideShapes Go.ChangeAt Go.RowKit
set_option linter.unusedVariables false
set_option linter.unusedSimpArgs false
set_option maxRecDepth 100000
def WatchP (w : World) (p : Pv) (D : Pd) (r k : Int) (e : Ending) (w' : World) : Prop :=
  if r < 1 ∨ k < 1 ∨ (watchOf D.ws r).2 = true then e = .returned (.tuple #[.agg zeroP, .int .i64 2]) ∧ Below w.heap.size w w'
  else if 32 ≤ D.ws.length then e = .returned (.tuple #[.agg zeroP, .int .i64 20]) ∧ Below w.heap.size w w'
  else GivesP w p D p.wait (.int .i64 0) (fun D' => D'.nm = D.nm ∧ D'.xm = D.xm ∧ D'.lk = D.lk ∧ D'.ws = putLW D.ws (r, k)) e w'
set_option maxHeartbeats 16000000 in
theorem watch_any (w : World) (p : Pv) (D : Pd) (r k : Int) (h : PrX w p D.X) (hD : D.ok) : Calls Tryz.prog 13 #[.agg p.cells, .int .i64 r, .int .i64 k] w (WatchP w p D r k) := by
  obtain ⟨pid, par, sv, mv, name, trap, wait, lv, wv0⟩ := p
  have HP := Lib.hid h
  obtain ⟨h2, h3, h7, h8⟩ := h
  simp only [Pd.X] at h2 h3 h7 h8
  obtain ⟨so, sc, rfl, -, -⟩ := h2.row.slice
  obtain ⟨mo, mc, rfl, -, -⟩ := h3.slice
  obtain ⟨lo, lc, rfl, -, -⟩ := h7.slice
  obtain ⟨wo, wc, rfl, hl1, hl2⟩ := h8.slice
  clear h2 h3 h7 h8
  have H2 := Lib.hid (Bx2.start 27 zeroP w #[.int .i64 pid, .int .i64 par, .slice so D.L.length sc, .slice mo D.nm mc, .string name, .bool trap, .bool wait, .slice lo D.lk.length lc, .slice wo D.ws.length wc])
  go_enter Tryz.func13, Tryz.ntmps13
  go_wp2_with (with_reducible refine stop_op (o := ⟨_, .load 27 (.tmp 3), _, _, _, _⟩) ?_)
  generalize (w.alloc (.cells #[.int .i64 pid, .int .i64 par, .slice so D.L.length sc, .slice mo D.nm mc, .string name, .bool trap, .bool wait, .slice lo D.lk.length lc, .slice wo D.ws.length wc] 27)).alloc (.cells zeroP 27) = W2 at *
  refine Lib.hid ?_
  refine wpList_load_row (o := ⟨_, _, _, _, _, _⟩) rfl 27 (.tmp 3) rfl w.heap.size rfl 27 #[.int .i64 pid, .int .i64 par, .slice so D.L.length sc, .slice mo D.nm mc, .string name, .bool trap, .bool wait, .slice lo D.lk.length lc, .slice wo D.ws.length wc] (0, 0) _ H2.out.hX Tryz.underlying27 rfl (infoPT rfl) ?_
  go_wp2_with fail
  refine (watching_any _ ⟨pid, par, .slice so D.L.length sc, .slice mo D.nm mc, name, trap, wait, .slice lo D.lk.length lc, .slice wo D.ws.length wc⟩ D.ws r (HP.out.keep H2.out.hb).wt hD.hw).mono ?_
  rintro e w3 ⟨rfl, hb3⟩
  have H3 := Lib.hid (H2.out.keep hb3)
  clear H2 hb3
  have hWP : ∀ e w', WatchP w ⟨pid, par, .slice so D.L.length sc, .slice mo D.nm mc, name, trap, wait, .slice lo D.lk.length lc, .slice wo D.ws.length wc⟩ D r k e w' = if r < 1 ∨ k < 1 ∨ (watchOf D.ws r).2 = true then e = .returned (.tuple #[.agg zeroP, .int .i64 2]) ∧ Below w.heap.size w w'
      else if 32 ≤ D.ws.length then e = .returned (.tuple #[.agg zeroP, .int .i64 20]) ∧ Below w.heap.size w w'
      else GivesP w ⟨pid, par, .slice so D.L.length sc, .slice mo D.nm mc, name, trap, wait, .slice lo D.lk.length lc, .slice wo D.ws.length wc⟩ D wait (.int .i64 0) (fun D' => D'.nm = D.nm ∧ D'.xm = D.xm ∧ D'.lk = D.lk ∧ D'.ws = putLW D.ws (r, k)) e w' := fun e w' => rfl
  generalize watchOf D.ws r = wo0 at *
  obtain ⟨wp, wb⟩ := wo0
  by_cases hbad : r < 1 ∨ k < 1 ∨ wb = true
  · have HL := Lib.hid fun e w' => (hWP e w').trans (if_pos hbad)
    clear hWP
    by_cases hr1 : r < 1
    · have hd : decide (r < 1) = true := decide_eq_true hr1
      clear hbad
      go_wp2_with (with_reducible refine stop_op (o := ⟨_, .store 27 (.tmp 6) (.tmp 23), _, _, _, _⟩) ?_)
      refine Lib.hid ?_
      refine wpList_store_row (o := ⟨none, _, _, _, _, _⟩) rfl 27 (.tmp 6) (.tmp 23) rfl (w.heap.size + 1) zeroP rfl rfl 27 zeroP H3.out.hY (infoPT rfl) rfl (by simp [Value.oneCell']) ?_
      have HF := Lib.hid (H3.out.shut zeroP)
      generalize w3.setRow (w.heap.size + 1) zeroP = wz at *
      clear H3
      go_wp2_with fail
      refine ret_cell_tmp HF.out.hY rfl Tryz.underlying27 rfl (infoPT rfl) rfl rfl ?_
      rw [HL.out]
      exact ⟨rfl, HF.out.hb⟩
    · have hd : decide (r < 1) = false := decide_eq_false hr1
      by_cases hk1 : k < 1
      · have hd1 : decide (k < 1) = true := decide_eq_true hk1
        clear hbad
        go_wp2_with (with_reducible refine stop_op (o := ⟨_, .store 27 (.tmp 6) (.tmp 23), _, _, _, _⟩) ?_)
        refine Lib.hid ?_
        refine wpList_store_row (o := ⟨none, _, _, _, _, _⟩) rfl 27 (.tmp 6) (.tmp 23) rfl (w.heap.size + 1) zeroP rfl rfl 27 zeroP H3.out.hY (infoPT rfl) rfl (by simp [Value.oneCell']) ?_
        have HF := Lib.hid (H3.out.shut zeroP)
        generalize w3.setRow (w.heap.size + 1) zeroP = wz at *
        clear H3
        go_wp2_with fail
        refine ret_cell_tmp HF.out.hY rfl Tryz.underlying27 rfl (infoPT rfl) rfl rfl ?_
        rw [HL.out]
        exact ⟨rfl, HF.out.hb⟩
      · have hd1 : decide (k < 1) = false := decide_eq_false hk1
        obtain rfl : wb = true := by rcases hbad with h | h | h <;> first | exact absurd h hr1 | exact absurd h hk1 | exact h
        clear hbad
        go_wp2_with (with_reducible refine stop_op (o := ⟨_, .store 27 (.tmp 6) (.tmp 23), _, _, _, _⟩) ?_)
        refine Lib.hid ?_
        refine wpList_store_row (o := ⟨none, _, _, _, _, _⟩) rfl 27 (.tmp 6) (.tmp 23) rfl (w.heap.size + 1) zeroP rfl rfl 27 zeroP H3.out.hY (infoPT rfl) rfl (by simp [Value.oneCell']) ?_
        have HF := Lib.hid (H3.out.shut zeroP)
        generalize w3.setRow (w.heap.size + 1) zeroP = wz at *
        clear H3
        go_wp2_with fail
        refine ret_cell_tmp HF.out.hY rfl Tryz.underlying27 rfl (infoPT rfl) rfl rfl ?_
        rw [HL.out]
        exact ⟨rfl, HF.out.hb⟩
  · have HL2 := Lib.hid fun e w' => (hWP e w').trans (if_neg hbad)
    have hd : decide (r < 1) = false := decide_eq_false fun h => hbad (.inl h)
    have hd1 : decide (k < 1) = false := decide_eq_false fun h => hbad (.inr (.inl h))
    obtain rfl : wb = false := by cases wb <;> first | rfl | exact absurd (.inr (.inr rfl)) hbad
    clear hbad hWP
    obtain ⟨c7, -⟩ := cells_at H3.out.hX 8 _ rfl
    by_cases h64 : 32 ≤ D.ws.length
    · have hd3 : decide ((32 : Int) ≤ (D.ws.length : Int)) = true := decide_eq_true (by omega)
      have HL := Lib.hid fun e w' => (HL2.out e w').trans (if_pos h64)
      clear HL2 h64
      go_wp2_with (with_reducible refine stop_op (o := ⟨_, .store 27 (.tmp 6) (.tmp 29), _, _, _, _⟩) ?_)
      refine Lib.hid ?_
      refine wpList_store_row (o := ⟨none, _, _, _, _, _⟩) rfl 27 (.tmp 6) (.tmp 29) rfl (w.heap.size + 1) zeroP rfl rfl 27 zeroP H3.out.hY (infoPT rfl) rfl (by simp [Value.oneCell']) ?_
      have HF := Lib.hid (H3.out.shut zeroP)
      generalize w3.setRow (w.heap.size + 1) zeroP = wz at *
      clear H3
      go_wp2_with fail
      refine ret_cell_tmp HF.out.hY rfl Tryz.underlying27 rfl (infoPT rfl) rfl rfl ?_
      rw [HL.out]
      exact ⟨rfl, HF.out.hb⟩
    · have hd3 : decide ((32 : Int) ≤ (D.ws.length : Int)) = false := decide_eq_false (by omega)
      have HL := Lib.hid fun e w' => (HL2.out e w').trans (if_neg h64)
      clear HL2 h64
      go_wp2_with (with_reducible refine stop_op (o := ⟨_, .load 27 (.tmp 3), _, _, _, _⟩) ?_)
      refine Lib.hid ?_
      refine wpList_load_row (o := ⟨_, _, _, _, _, _⟩) rfl 27 (.tmp 3) rfl w.heap.size rfl 27 #[.int .i64 pid, .int .i64 par, .slice so D.L.length sc, .slice mo D.nm mc, .string name, .bool trap, .bool wait, .slice lo D.lk.length lc, .slice wo D.ws.length wc] (0, 0) _ H3.out.hX Tryz.underlying27 rfl (infoPT rfl) ?_
      clear c7
      go_wp2_with fail
      refine (copy_any _ ⟨pid, par, .slice so D.L.length sc, .slice mo D.nm mc, name, trap, wait, .slice lo D.lk.length lc, .slice wo D.ws.length wc⟩ D.X (HP.out.keep H3.out.hb) hD.px).mono ?_
      rintro e w4 hcp
      obtain ⟨q, L', rfl, hsm, hpr, -⟩ := hcp.pr (HP.out.keep H3.out.hb)
      obtain ⟨qpid, qpar, qsv, qmv, qname, qtrap, qwait, qlv, qwv⟩ := q
      have HC := Lib.hid hpr
      have HSM := Lib.hid hsm
      have H4 := Lib.hid (H3.out.keep hpr.hb)
      have HZ := Lib.hid (And.intro H3.out.hb H3.out.hs)
      obtain ⟨qso, qsc, e1, -, -⟩ := hpr.pr.st.row.slice
      obtain ⟨qmo, qmc, e2, -, -⟩ := hpr.pr.ml.slice
      obtain ⟨qlo, qlc, e3, -, -⟩ := hpr.pr.lk.slice
      obtain ⟨qwo, qwc, e4, -, -⟩ := hpr.pr.wt.slice
      simp only [Pd.X] at e1 e2 e3 e4
      subst e1 e2 e3 e4
      clear hcp hsm hpr H3
      go_wp2_with (with_reducible refine stop_op (o := ⟨_, .store 27 (.tmp 10) (.tmp 31), _, _, _, _⟩) ?_)
      refine Lib.hid ?_
      refine wpList_store_new (o := ⟨none, _, _, _, _, _⟩) rfl 27 (.tmp 10) (.tmp 31) rfl #[.int .i64 qpid, .int .i64 qpar, .slice qso L'.length qsc, .slice qmo D.nm qmc, .string qname, .bool qtrap, .bool qwait, .slice qlo D.lk.length qlc, .slice qwo D.ws.length qwc] rfl rfl (infoPT rfl) rfl (Pv.one HC.out.pr) ?_
      have hb5 := (Below.refl w4.heap.size w4).alloc (Nat.le_refl _) (.cells #[.int .i64 qpid, .int .i64 qpar, .slice qso L'.length qsc, .slice qmo D.nm qmc, .string qname, .bool qtrap, .bool qwait, .slice qlo D.lk.length qlc, .slice qwo D.ws.length qwc] 27)
      have HN := Lib.hid (heap_new w4 (.cells #[.int .i64 qpid, .int .i64 qpar, .slice qso L'.length qsc, .slice qmo D.nm qmc, .string qname, .bool qtrap, .bool qwait, .slice qlo D.lk.length qlc, .slice qwo D.ws.length qwc] 27))
      have H5 := Lib.hid (H4.out.keep hb5)
      have HB5 := Lib.hid hb5
      have HS4 := Lib.hid HC.out.hb.size
      have hs5 : (w4.alloc (.cells #[.int .i64 qpid, .int .i64 qpar, .slice qso L'.length qsc, .slice qmo D.nm qmc, .string qname, .bool qtrap, .bool qwait, .slice qlo D.lk.length qlc, .slice qwo D.ws.length qwc] 27)).heap.size = w4.heap.size + 1 := by simp
      have HS5 := Lib.hid hs5
      clear hb5 H4 hs5
      generalize w4.alloc (.cells #[.int .i64 qpid, .int .i64 qpar, .slice qso L'.length qsc, .slice qmo D.nm qmc, .string qname, .bool qtrap, .bool qwait, .slice qlo D.lk.length qlc, .slice qwo D.ws.length qwc] 27) = w5 at *
      obtain ⟨c7, -⟩ := cells_at H5.out.hX 8 _ rfl
      go_wp2_with fail
      refine (mkW_any _ _ _ _).mono ?_
      rintro e w6 ⟨rfl, hb6⟩
      have H6 := Lib.hid (H5.out.keep hb6)
      have HB6 := Lib.hid (HB5.out.trans (hb6.mono HB5.out.size))
      have HN6 := Lib.hid (keep_heap HN.out hb6)
      clear c7 H5 HN HB5
      go_wp2_with fail
      refine (putW_any _ _ D.ws (r, k) (HP.out.keep H6.out.hb).wt hD.hw).mono ?_
      rintro e w7 ⟨v7, rfl, o7, hb7⟩
      obtain ⟨a7, k7, rfl⟩ := own_slice o7
      have H7 := Lib.hid (H6.out.keep hb7)
      have HB7 := Lib.hid (HB6.out.trans (hb7.mono HB6.out.size))
      have HN7 := Lib.hid (keep_heap HN6.out hb7)
      have HO7 := Lib.hid o7
      have HS6 := Lib.hid (Nat.le_trans (Nat.le_of_eq HS5.out.symm) hb6.size)
      obtain ⟨d7, d7f⟩ := cells_at HN7.out 8 _ rfl
      have hl4 := heap_lt HN7.out
      clear H6 HB6 HN6 o7 hb7 hb6
      go_wp2_with (with_reducible refine stop_op (o := ⟨_, .load 27 (.tmp 10), _, _, _, _⟩) ?_)
      have hc8 := chg_set (w := w7) (p := ⟨w4.heap.size, 8, none⟩) (.slice a7 (D.ws.length + 1) k7)
      have HN8 : Hid ((w7.setCell ⟨w4.heap.size, 8, none⟩ (.slice a7 (D.ws.length + 1) k7)).heap[w4.heap.size]? = some (.cells #[.int .i64 qpid, .int .i64 qpar, .slice qso L'.length qsc, .slice qmo D.nm qmc, .string qname, .bool qtrap, .bool qwait, .slice qlo D.lk.length qlc, .slice a7 (D.ws.length + 1) k7] 27 (0, 0))) := Lib.hid (set_at HN7.out (.slice a7 (D.ws.length + 1) k7))
      have H8 := Lib.hid (H7.out.turn hc8 (fun k e => by have e : k = w4.heap.size := e; have h1 := HS4.out; have h2 := HZ.out.2; omega))
      have HB8 := Lib.hid (HB7.out.trans (hc8.below HB7.out.size (fun k e => by have e : k = w4.heap.size := e; omega)))
      have HO8 := Lib.hid (own_chg HO7.out hc8 (fun k hk e => by have e : k = w4.heap.size := e; have h1 := own_base HO7.out k hk; have h2 := HS6.out; omega))
      clear hc8 d7 d7f hl4 HN7 HB7 H7
      generalize w7.setCell ⟨w4.heap.size, 8, none⟩ (.slice a7 (D.ws.length + 1) k7) = w8 at *
      refine Lib.hid ?_
      refine wpList_load_row (o := ⟨_, _, _, _, _, _⟩) rfl 27 (.tmp 10) rfl w4.heap.size rfl 27 #[.int .i64 qpid, .int .i64 qpar, .slice qso L'.length qsc, .slice qmo D.nm qmc, .string qname, .bool qtrap, .bool qwait, .slice qlo D.lk.length qlc, .slice a7 (D.ws.length + 1) k7] (0, 0) _ HN8.out Tryz.underlying27 rfl (infoPT rfl) ?_
      go_wp2_with (with_reducible refine stop_op (o := ⟨_, .store 27 (.tmp 6) (.tmp 40), _, _, _, _⟩) ?_)
      refine Lib.hid ?_
      refine wpList_store_row (o := ⟨none, _, _, _, _, _⟩) rfl 27 (.tmp 6) (.tmp 40) rfl (w.heap.size + 1) #[.int .i64 qpid, .int .i64 qpar, .slice qso L'.length qsc, .slice qmo D.nm qmc, .string qname, .bool qtrap, .bool qwait, .slice qlo D.lk.length qlc, .slice a7 (D.ws.length + 1) k7] rfl rfl 27 zeroP H8.out.hY (infoPT rfl) rfl (by simp [Value.oneCell']) ?_
      have HF := Lib.hid (H8.out.shut #[.int .i64 qpid, .int .i64 qpar, .slice qso L'.length qsc, .slice qmo D.nm qmc, .string qname, .bool qtrap, .bool qwait, .slice qlo D.lk.length qlc, .slice a7 (D.ws.length + 1) k7])
      have hpl : (putLW D.ws (r, k)).length = D.ws.length + 1 := by
        have := placeW_le D.ws (r, k)
        simp [putLW]
        omega
      have hpr : PrR w3 D w8 ⟨qpid, qpar, .slice qso L'.length qsc, .slice qmo D.nm qmc, qname, qtrap, qwait, .slice qlo D.lk.length qlc, .slice a7 (D.ws.length + 1) k7⟩ ⟨L', D.nm, D.xm, D.lk, putLW D.ws (r, k)⟩ := by
        have hk := HC.out.pr.keep HB8.out
        refine ⟨HC.out.hb.trans (HB8.out.mono HC.out.hb.size), HC.out.cp, ⟨hk.st, hk.ml, hk.lk, ?_⟩, fun j hj hf => ?_⟩
        · show Rw w8 _ (putLW D.ws (r, k)).length 2 (wv (putLW D.ws (r, k)))
          rw [hpl]
          exact Rw_own HO8.out (wv_one _)
        · obtain ⟨n1, n2, n3, n4, n5⟩ := HC.out.ap j hj hf
          refine ⟨n1, n2, n3, fun e => ?_, n5⟩
          have h1 := own_base HO8.out j e
          have h2 := HS6.out
          have h3 := HC.out.hb.size
          omega
      have HR := Lib.hid (hpr.turn HP.out HZ.out.1 ((chg_setRow w8 (w.heap.size + 1) #[.int .i64 qpid, .int .i64 qpar, .slice qso L'.length qsc, .slice qmo D.nm qmc, .string qname, .bool qtrap, .bool qwait, .slice qlo D.lk.length qlc, .slice a7 (D.ws.length + 1) k7]).mono (fun k _ e => by have e : k = w.heap.size + 1 := e; have := HZ.out.2; omega)))
      generalize w8.setRow (w.heap.size + 1) #[.int .i64 qpid, .int .i64 qpar, .slice qso L'.length qsc, .slice qmo D.nm qmc, .string qname, .bool qtrap, .bool qwait, .slice qlo D.lk.length qlc, .slice a7 (D.ws.length + 1) k7] = wz at *
      clear H8 HN8 HB8 HO8 hpr HC hpl
      go_wp2_with fail
      refine ret_cell_tmp HF.out.hY rfl Tryz.underlying27 rfl (infoPT rfl) rfl rfl ?_
      rw [HL.out]
      exact ⟨⟨qpid, qpar, .slice qso L'.length qsc, .slice qmo D.nm qmc, qname, qtrap, qwait, .slice qlo D.lk.length qlc, .slice a7 (D.ws.length + 1) k7⟩, _, rfl, HSM.out, HR.out, rfl, rfl, rfl, rfl⟩
end Go.Proofs.YtemgnljegbaobaaGreatDoor
