/- proc.Link. Conditions: the process reads; its rows are not too long. -/
import Derived.Test.YtemgnljegbaobaaGreatDoorNk
namespace Go.Proofs.YtemgnljegbaobaaGreatDoor
open Go.ChangeShapes Go.WideShapes Go.ChangeAt Go.RowKit
set_option linter.unusedVariables false
set_option linter.unusedSimpArgs false
set_option maxRecDepth 100000
theorem Pv.one {w : World} {q : Pv} {X : Px} (h : PrX w q X) : (q.cells.all fun x => x.oneCell') = true := by
  obtain ⟨pid, par, sv, mv, name, trap, wait, lv, wv⟩ := q
  obtain ⟨a1, a2, e1, -, -⟩ := h.st.row.slice
  obtain ⟨b1, b2, e2, -, -⟩ := h.ml.slice
  obtain ⟨c1, c2, e3, -, -⟩ := h.lk.slice
  obtain ⟨d1, d2, e4, -, -⟩ := h.wt.slice
  simp only at e1 e2 e3 e4
  subst e1 e2 e3 e4
  simp [Pv.cells, Value.oneCell']
/-- a copy as a process in new memory -/
theorem CopyP.pr {w w' : World} {p : Pv} {D : Pd} {e : Ending} (h : CopyP w p D.X e w') (hp : PrX w p D.X) :
    ∃ q L', e = .returned (.agg q.cells) ∧ SamePv p q ∧ PrR w D w' q ⟨L', D.nm, D.xm, D.lk, D.ws⟩ ∧
      ∃ B, w.heap.size ≤ B ∧ B ≤ w'.heap.size ∧ w'.ownsRow B 33 6 q.mv D.nm D.xm ∧ w'.ownsRow B 3 1 q.lv D.lk.length (iv D.lk) ∧ w'.ownsRow B 81 2 q.wv D.ws.length (wv D.ws) ∧
        ∀ k, B ≤ k → (q.sv.ownBlock = some k → lenS q.sv = 0) ∧ ∀ f ∈ L', FrN k f.cs := by
  obtain ⟨q, L', rfl, s1, s2, s3, s4, s5, hb4, cp4, st4, ⟨B, hB1, hB2, om, ol, ow, hB3⟩, ap4⟩ := h
  exact ⟨q, L', rfl, ⟨s1, s2, s3, s4, s5⟩, ⟨hb4, cp4, ⟨st4, Rw_own om hp.ml.2.1, Rw_own ol hp.lk.2.1, Rw_own ow hp.wt.2.1⟩, ap4⟩, B, hB1, hB2, om, ol, ow, hB3⟩
/-- what was made between is written -/
theorem PrR.turn {w w3 w4 wF : World} {p q : Pv} {D D' : Pd} (h : PrR w3 D w4 q D') (hp : PrX w p D.X) (h3 : Below w.heap.size w w3) (hc : Chg (fun k => w.heap.size ≤ k ∧ k < w3.heap.size) w4 wF) : PrR w D wF q D' := by
  have hs := h3.size
  have hs4 := h.hb.size
  refine ⟨(h3.trans (h.hb.mono hs)).trans (hc.below (Nat.le_trans hs hs4) fun k hk => hk.1), h.cp, h.pr.chg hc fun k hk => h.ap k hk.2 fun f hf => (hp.st.fr f hf).old hk.1, fun k hk hf => h.ap k (by omega) hf⟩
theorem Bx2.turn {T : Nat} {z : Array Value} {w W W' : World} {cs : Array Value} {S : Nat → Prop} (h : Bx2 T z w W cs []) (hc : Chg S W W') (hS : ∀ k, S k → w.heap.size + 2 ≤ k) : Bx2 T z w W' cs [] :=
  ⟨h.hb.trans (hc.below h.hb.size fun k hk => by have := hS k hk; omega), hc.heap h.hX (fun e => by have := hS _ e; omega), hc.heap h.hY (fun e => by have := hS _ e; omega), Nat.le_trans h.hs hc.size, fun o ho => by cases ho⟩
/-- a process comes back, and a number -/
def GivesP (w : World) (p : Pv) (D : Pd) (W : Bool) (tl : Value) (F : Pd → Prop) (e : Ending) (w' : World) : Prop :=
  ∃ q D', e = .returned (.tuple #[.agg q.cells, tl]) ∧ SamePv { p with wait := W } q ∧ PrR w D w' q D' ∧ F D'
def LinkP (w : World) (p : Pv) (D : Pd) (k : Int) (e : Ending) (w' : World) : Prop :=
  if k < 1 ∨ k = p.pid then e = .returned (.tuple #[.agg zeroP, .int .i64 2]) ∧ Below w.heap.size w w'
  else if (D.lk.any fun x => x == k) = true then GivesP w p D p.wait (.int .i64 0) (fun D' => D'.nm = D.nm ∧ D'.xm = D.xm ∧ D'.lk = D.lk ∧ D'.ws = D.ws) e w'
  else if 64 ≤ D.lk.length then e = .returned (.tuple #[.agg zeroP, .int .i64 20]) ∧ Below w.heap.size w w'
  else GivesP w p D p.wait (.int .i64 0) (fun D' => D'.nm = D.nm ∧ D'.xm = D.xm ∧ D'.lk = putL D.lk k ∧ D'.ws = D.ws) e w'
set_option maxHeartbeats 16000000 in
theorem link_any (w : World) (p : Pv) (D : Pd) (k : Int) (h : PrX w p D.X) (hD : D.ok) : Calls Tryz.prog 9 #[.agg p.cells, .int .i64 k] w (LinkP w p D k) := by
  obtain ⟨pid, par, sv, mv, name, trap, wait, lv, wv0⟩ := p
  have HP := Lib.hid h
  obtain ⟨h2, h3, h7, h8⟩ := h
  simp only [Pd.X] at h2 h3 h7 h8
  obtain ⟨so, sc, rfl, -, -⟩ := h2.row.slice
  obtain ⟨mo, mc, rfl, -, -⟩ := h3.slice
  obtain ⟨lo, lc, rfl, hl1, hl2⟩ := h7.slice
  obtain ⟨wo, wc, rfl, -, -⟩ := h8.slice
  clear h2 h3 h7 h8
  have H2 := Lib.hid (Bx2.start 27 zeroP w #[.int .i64 pid, .int .i64 par, .slice so D.L.length sc, .slice mo D.nm mc, .string name, .bool trap, .bool wait, .slice lo D.lk.length lc, .slice wo D.ws.length wc])
  obtain ⟨c0, -⟩ := cells_at H2.out.hX 0 _ rfl
  go_enter Tryz.func9, Tryz.ntmps9
  by_cases hk1 : k < 1
  · have hd : decide (k < 1) = true := decide_eq_true hk1
    go_wp2_with (with_reducible refine stop_op (o := ⟨_, .store 27 (.tmp 4) (.tmp 14), _, _, _, _⟩) ?_)
    refine Lib.hid ?_
    refine wpList_store_row (o := ⟨none, _, _, _, _, _⟩) rfl 27 (.tmp 4) (.tmp 14) rfl (w.heap.size + 1) zeroP rfl rfl 27 zeroP H2.out.hY (infoPT rfl) rfl (by simp [Value.oneCell']) ?_
    have HF := Lib.hid (H2.out.shut zeroP)
    generalize ((w.alloc (.cells #[.int .i64 pid, .int .i64 par, .slice so D.L.length sc, .slice mo D.nm mc, .string name, .bool trap, .bool wait, .slice lo D.lk.length lc, .slice wo D.ws.length wc] 27)).alloc (.cells zeroP 27)).setRow (w.heap.size + 1) zeroP = wz at *
    clear H2
    go_wp2_with fail
    refine ret_cell_tmp HF.out.hY rfl Tryz.underlying27 rfl (infoPT rfl) rfl rfl ?_
    unfold LinkP
    rw [if_pos (.inl hk1)]
    exact ⟨rfl, HF.out.hb⟩
  · have hd : decide (k < 1) = false := decide_eq_false hk1
    by_cases hkp : k = pid
    · subst hkp
      have hd2 : (k == k) = true := by simp
      go_wp2_with (with_reducible refine stop_op (o := ⟨_, .store 27 (.tmp 4) (.tmp 14), _, _, _, _⟩) ?_)
      refine Lib.hid ?_
      refine wpList_store_row (o := ⟨none, _, _, _, _, _⟩) rfl 27 (.tmp 4) (.tmp 14) rfl (w.heap.size + 1) zeroP rfl rfl 27 zeroP H2.out.hY (infoPT rfl) rfl (by simp [Value.oneCell']) ?_
      have HF := Lib.hid (H2.out.shut zeroP)
      generalize ((w.alloc (.cells #[.int .i64 k, .int .i64 par, .slice so D.L.length sc, .slice mo D.nm mc, .string name, .bool trap, .bool wait, .slice lo D.lk.length lc, .slice wo D.ws.length wc] 27)).alloc (.cells zeroP 27)).setRow (w.heap.size + 1) zeroP = wz at *
      clear H2
      go_wp2_with fail
      refine ret_cell_tmp HF.out.hY rfl Tryz.underlying27 rfl (infoPT rfl) rfl rfl ?_
      unfold LinkP
      rw [if_pos (.inr rfl)]
      exact ⟨rfl, HF.out.hb⟩
    · have hd2 : (k == pid) = false := by simpa using hkp
      have hL : ∀ e w', LinkP w ⟨pid, par, .slice so D.L.length sc, .slice mo D.nm mc, name, trap, wait, .slice lo D.lk.length lc, .slice wo D.ws.length wc⟩ D k e w' = if (D.lk.any fun x => x == k) = true then GivesP w ⟨pid, par, .slice so D.L.length sc, .slice mo D.nm mc, name, trap, wait, .slice lo D.lk.length lc, .slice wo D.ws.length wc⟩ D wait (.int .i64 0) (fun D' => D'.nm = D.nm ∧ D'.xm = D.xm ∧ D'.lk = D.lk ∧ D'.ws = D.ws) e w'
          else if 64 ≤ D.lk.length then e = .returned (.tuple #[.agg zeroP, .int .i64 20]) ∧ Below w.heap.size w w'
          else GivesP w ⟨pid, par, .slice so D.L.length sc, .slice mo D.nm mc, name, trap, wait, .slice lo D.lk.length lc, .slice wo D.ws.length wc⟩ D wait (.int .i64 0) (fun D' => D'.nm = D.nm ∧ D'.xm = D.xm ∧ D'.lk = putL D.lk k ∧ D'.ws = D.ws) e w' := fun e w' => by
        unfold LinkP
        rw [if_neg (fun h => h.elim hk1 hkp)]
      have HLK := Lib.hid hL
      clear hL
      go_wp2_with (with_reducible refine stop_op (o := ⟨_, .load 27 (.tmp 2), _, _, _, _⟩) ?_)
      generalize (w.alloc (.cells #[.int .i64 pid, .int .i64 par, .slice so D.L.length sc, .slice mo D.nm mc, .string name, .bool trap, .bool wait, .slice lo D.lk.length lc, .slice wo D.ws.length wc] 27)).alloc (.cells zeroP 27) = W2 at *
      refine Lib.hid ?_
      refine wpList_load_row (o := ⟨_, _, _, _, _, _⟩) rfl 27 (.tmp 2) rfl w.heap.size rfl 27 #[.int .i64 pid, .int .i64 par, .slice so D.L.length sc, .slice mo D.nm mc, .string name, .bool trap, .bool wait, .slice lo D.lk.length lc, .slice wo D.ws.length wc] (0, 0) _ H2.out.hX Tryz.underlying27 rfl (infoPT rfl) ?_
      clear c0
      go_wp2_with fail
      refine (linked_any _ ⟨pid, par, .slice so D.L.length sc, .slice mo D.nm mc, name, trap, wait, .slice lo D.lk.length lc, .slice wo D.ws.length wc⟩ D.lk k (HP.out.keep H2.out.hb).lk hD.hl).mono ?_
      rintro e w3 ⟨rfl, hb3⟩
      have H3 := Lib.hid (H2.out.keep hb3)
      clear H2 hb3
      cases hlk : D.lk.any fun x => x == k
      · have HL2 : Hid (∀ e w', LinkP w ⟨pid, par, .slice so D.L.length sc, .slice mo D.nm mc, name, trap, wait, .slice lo D.lk.length lc, .slice wo D.ws.length wc⟩ D k e w' = if 64 ≤ D.lk.length then e = .returned (.tuple #[.agg zeroP, .int .i64 20]) ∧ Below w.heap.size w w'
          else GivesP w ⟨pid, par, .slice so D.L.length sc, .slice mo D.nm mc, name, trap, wait, .slice lo D.lk.length lc, .slice wo D.ws.length wc⟩ D wait (.int .i64 0) (fun D' => D'.nm = D.nm ∧ D'.xm = D.xm ∧ D'.lk = putL D.lk k ∧ D'.ws = D.ws) e w') := Lib.hid fun e w' => by rw [HLK.out, hlk]; rfl
        clear hlk HLK
        obtain ⟨c7, -⟩ := cells_at H3.out.hX 7 _ rfl
        by_cases h64 : 64 ≤ D.lk.length
        · have hd3 : decide ((64 : Int) ≤ (D.lk.length : Int)) = true := decide_eq_true (by omega)
          have HL3 := Lib.hid fun e w' => (HL2.out e w').trans (if_pos h64)
          clear HL2 h64
          go_wp2_with (with_reducible refine stop_op (o := ⟨_, .store 27 (.tmp 4) (.tmp 26), _, _, _, _⟩) ?_)
          refine Lib.hid ?_
          refine wpList_store_row (o := ⟨none, _, _, _, _, _⟩) rfl 27 (.tmp 4) (.tmp 26) rfl (w.heap.size + 1) zeroP rfl rfl 27 zeroP H3.out.hY (infoPT rfl) rfl (by simp [Value.oneCell']) ?_
          have HF := Lib.hid (H3.out.shut zeroP)
          generalize w3.setRow (w.heap.size + 1) zeroP = wz at *
          clear H3
          go_wp2_with fail
          refine ret_cell_tmp HF.out.hY rfl Tryz.underlying27 rfl (infoPT rfl) rfl rfl ?_
          rw [HL3.out]
          exact ⟨rfl, HF.out.hb⟩
        · have hd3 : decide ((64 : Int) ≤ (D.lk.length : Int)) = false := decide_eq_false (by omega)
          have HL3 := Lib.hid fun e w' => (HL2.out e w').trans (if_neg h64)
          clear HL2 h64
          go_wp2_with (with_reducible refine stop_op (o := ⟨_, .load 27 (.tmp 2), _, _, _, _⟩) ?_)
          refine Lib.hid ?_
          refine wpList_load_row (o := ⟨_, _, _, _, _, _⟩) rfl 27 (.tmp 2) rfl w.heap.size rfl 27 #[.int .i64 pid, .int .i64 par, .slice so D.L.length sc, .slice mo D.nm mc, .string name, .bool trap, .bool wait, .slice lo D.lk.length lc, .slice wo D.ws.length wc] (0, 0) _ H3.out.hX Tryz.underlying27 rfl (infoPT rfl) ?_
          clear c7
          go_wp2_with fail
          refine (copy_any _ ⟨pid, par, .slice so D.L.length sc, .slice mo D.nm mc, name, trap, wait, .slice lo D.lk.length lc, .slice wo D.ws.length wc⟩ D.X (HP.out.keep H3.out.hb) hD.px).mono ?_
          rintro e w4 hcp
          obtain ⟨q, L', rfl, hsm, hpr, -⟩ := hcp.pr (HP.out.keep H3.out.hb)
          obtain ⟨qpid, qpar, qsv, qmv, qname, qtrap, qwait, qlv, qwv⟩ := q
          have HC := Lib.hid hpr
          have HSM := Lib.hid hsm
          have H4 := Lib.hid (H3.out.keep hpr.hb)
          have HZ := Lib.hid (And.intro H3.out.hb H3.out.hs)
          obtain ⟨qso, qsc, e1, -, -⟩ := hpr.pr.st.row.slice
          obtain ⟨qmo, qmc, e2, -, -⟩ := hpr.pr.ml.slice
          obtain ⟨qlo, qlc, e3, -, -⟩ := hpr.pr.lk.slice
          obtain ⟨qwo, qwc, e4, -, -⟩ := hpr.pr.wt.slice
          simp only [Pd.X] at e1 e2 e3 e4
          subst e1 e2 e3 e4
          clear hcp hsm hpr H3
          go_wp2_with (with_reducible refine stop_op (o := ⟨_, .store 27 (.tmp 6) (.tmp 28), _, _, _, _⟩) ?_)
          refine Lib.hid ?_
          refine wpList_store_new (o := ⟨none, _, _, _, _, _⟩) rfl 27 (.tmp 6) (.tmp 28) rfl #[.int .i64 qpid, .int .i64 qpar, .slice qso L'.length qsc, .slice qmo D.nm qmc, .string qname, .bool qtrap, .bool qwait, .slice qlo D.lk.length qlc, .slice qwo D.ws.length qwc] rfl rfl (infoPT rfl) rfl (Pv.one HC.out.pr) ?_
          have hb5 := (Below.refl w4.heap.size w4).alloc (Nat.le_refl _) (.cells #[.int .i64 qpid, .int .i64 qpar, .slice qso L'.length qsc, .slice qmo D.nm qmc, .string qname, .bool qtrap, .bool qwait, .slice qlo D.lk.length qlc, .slice qwo D.ws.length qwc] 27)
          have HN := Lib.hid (heap_new w4 (.cells #[.int .i64 qpid, .int .i64 qpar, .slice qso L'.length qsc, .slice qmo D.nm qmc, .string qname, .bool qtrap, .bool qwait, .slice qlo D.lk.length qlc, .slice qwo D.ws.length qwc] 27))
          have H5 := Lib.hid (H4.out.keep hb5)
          have HB5 := Lib.hid hb5
          have HS4 := Lib.hid HC.out.hb.size
          have hs5 : (w4.alloc (.cells #[.int .i64 qpid, .int .i64 qpar, .slice qso L'.length qsc, .slice qmo D.nm qmc, .string qname, .bool qtrap, .bool qwait, .slice qlo D.lk.length qlc, .slice qwo D.ws.length qwc] 27)).heap.size = w4.heap.size + 1 := by simp
          have HS5 := Lib.hid hs5
          clear hb5 H4 hs5
          generalize w4.alloc (.cells #[.int .i64 qpid, .int .i64 qpar, .slice qso L'.length qsc, .slice qmo D.nm qmc, .string qname, .bool qtrap, .bool qwait, .slice qlo D.lk.length qlc, .slice qwo D.ws.length qwc] 27) = w5 at *
          obtain ⟨c7, -⟩ := cells_at H5.out.hX 7 _ rfl
          go_wp2_with fail
          refine (mkI_any _ _ _ _).mono ?_
          rintro e w6 ⟨rfl, hb6⟩
          have H6 := Lib.hid (H5.out.keep hb6)
          have HB6 := Lib.hid (HB5.out.trans (hb6.mono HB5.out.size))
          have HN6 := Lib.hid (keep_heap HN.out hb6)
          clear c7 H5 HN HB5
          go_wp2_with fail
          refine (putI_any _ _ D.lk k (HP.out.keep H6.out.hb).lk hD.hl).mono ?_
          rintro e w7 ⟨v7, rfl, o7, hb7⟩
          obtain ⟨a7, k7, rfl⟩ := own_slice o7
          have H7 := Lib.hid (H6.out.keep hb7)
          have HB7 := Lib.hid (HB6.out.trans (hb7.mono HB6.out.size))
          have HN7 := Lib.hid (keep_heap HN6.out hb7)
          have HO7 := Lib.hid o7
          have HS6 := Lib.hid (Nat.le_trans (Nat.le_of_eq HS5.out.symm) hb6.size)
          obtain ⟨d7, d7f⟩ := cells_at HN7.out 7 _ rfl
          have hl4 := heap_lt HN7.out
          clear H6 HB6 HN6 o7 hb7 hb6
          go_wp2_with (with_reducible refine stop_op (o := ⟨_, .load 27 (.tmp 6), _, _, _, _⟩) ?_)
          have hc8 := chg_set (w := w7) (p := ⟨w4.heap.size, 7, none⟩) (.slice a7 (D.lk.length + 1) k7)
          have HN8 : Hid ((w7.setCell ⟨w4.heap.size, 7, none⟩ (.slice a7 (D.lk.length + 1) k7)).heap[w4.heap.size]? = some (.cells #[.int .i64 qpid, .int .i64 qpar, .slice qso L'.length qsc, .slice qmo D.nm qmc, .string qname, .bool qtrap, .bool qwait, .slice a7 (D.lk.length + 1) k7, .slice qwo D.ws.length qwc] 27 (0, 0))) := Lib.hid (set_at HN7.out (.slice a7 (D.lk.length + 1) k7))
          have H8 := Lib.hid (H7.out.turn hc8 (fun k e => by have e : k = w4.heap.size := e; have h1 := HS4.out; have h2 := HZ.out.2; omega))
          have HB8 := Lib.hid (HB7.out.trans (hc8.below HB7.out.size (fun k e => by have e : k = w4.heap.size := e; omega)))
          have HO8 := Lib.hid (own_chg HO7.out hc8 (fun k hk e => by have e : k = w4.heap.size := e; have h1 := own_base HO7.out k hk; have h2 := HS6.out; omega))
          clear hc8 d7 d7f hl4 HN7 HB7 H7
          generalize w7.setCell ⟨w4.heap.size, 7, none⟩ (.slice a7 (D.lk.length + 1) k7) = w8 at *
          refine Lib.hid ?_
          refine wpList_load_row (o := ⟨_, _, _, _, _, _⟩) rfl 27 (.tmp 6) rfl w4.heap.size rfl 27 #[.int .i64 qpid, .int .i64 qpar, .slice qso L'.length qsc, .slice qmo D.nm qmc, .string qname, .bool qtrap, .bool qwait, .slice a7 (D.lk.length + 1) k7, .slice qwo D.ws.length qwc] (0, 0) _ HN8.out Tryz.underlying27 rfl (infoPT rfl) ?_
          go_wp2_with (with_reducible refine stop_op (o := ⟨_, .store 27 (.tmp 4) (.tmp 35), _, _, _, _⟩) ?_)
          refine Lib.hid ?_
          refine wpList_store_row (o := ⟨none, _, _, _, _, _⟩) rfl 27 (.tmp 4) (.tmp 35) rfl (w.heap.size + 1) #[.int .i64 qpid, .int .i64 qpar, .slice qso L'.length qsc, .slice qmo D.nm qmc, .string qname, .bool qtrap, .bool qwait, .slice a7 (D.lk.length + 1) k7, .slice qwo D.ws.length qwc] rfl rfl 27 zeroP H8.out.hY (infoPT rfl) rfl (by simp [Value.oneCell']) ?_
          have HF := Lib.hid (H8.out.shut #[.int .i64 qpid, .int .i64 qpar, .slice qso L'.length qsc, .slice qmo D.nm qmc, .string qname, .bool qtrap, .bool qwait, .slice a7 (D.lk.length + 1) k7, .slice qwo D.ws.length qwc])
          have hpl : (putL D.lk k).length = D.lk.length + 1 := by
            have := placeOf_le D.lk k
            simp [putL]
            omega
          have hpr : PrR w3 D w8 ⟨qpid, qpar, .slice qso L'.length qsc, .slice qmo D.nm qmc, qname, qtrap, qwait, .slice a7 (D.lk.length + 1) k7, .slice qwo D.ws.length qwc⟩ ⟨L', D.nm, D.xm, putL D.lk k, D.ws⟩ := by
            have hk := HC.out.pr.keep HB8.out
            refine ⟨HC.out.hb.trans (HB8.out.mono HC.out.hb.size), HC.out.cp, ⟨hk.st, hk.ml, ?_, hk.wt⟩, fun j hj hf => ?_⟩
            · show Rw w8 _ (putL D.lk k).length 1 (iv (putL D.lk k))
              rw [hpl]
              exact Rw_own HO8.out (iv_one _)
            · obtain ⟨n1, n2, n3, n4, n5⟩ := HC.out.ap j hj hf
              refine ⟨n1, n2, fun e => ?_, n4, n5⟩
              have h1 := own_base HO8.out j e
              have h2 := HS6.out
              have h3 := HC.out.hb.size
              omega
          have HR := Lib.hid (hpr.turn HP.out HZ.out.1 ((chg_setRow w8 (w.heap.size + 1) #[.int .i64 qpid, .int .i64 qpar, .slice qso L'.length qsc, .slice qmo D.nm qmc, .string qname, .bool qtrap, .bool qwait, .slice a7 (D.lk.length + 1) k7, .slice qwo D.ws.length qwc]).mono (fun k _ e => by have e : k = w.heap.size + 1 := e; have := HZ.out.2; omega)))
          generalize w8.setRow (w.heap.size + 1) #[.int .i64 qpid, .int .i64 qpar, .slice qso L'.length qsc, .slice qmo D.nm qmc, .string qname, .bool qtrap, .bool qwait, .slice a7 (D.lk.length + 1) k7, .slice qwo D.ws.length qwc] = wz at *
          clear H8 HN8 HB8 HO8 hpr HC hpl
          go_wp2_with fail
          refine ret_cell_tmp HF.out.hY rfl Tryz.underlying27 rfl (infoPT rfl) rfl rfl ?_
          rw [HL3.out]
          exact ⟨⟨qpid, qpar, .slice qso L'.length qsc, .slice qmo D.nm qmc, qname, qtrap, qwait, .slice a7 (D.lk.length + 1) k7, .slice qwo D.ws.length qwc⟩, _, rfl, HSM.out, HR.out, rfl, rfl, rfl, rfl⟩
      · have HL2 : Hid (∀ e w', LinkP w ⟨pid, par, .slice so D.L.length sc, .slice mo D.nm mc, name, trap, wait, .slice lo D.lk.length lc, .slice wo D.ws.length wc⟩ D k e w' = GivesP w ⟨pid, par, .slice so D.L.length sc, .slice mo D.nm mc, name, trap, wait, .slice lo D.lk.length lc, .slice wo D.ws.length wc⟩ D wait (.int .i64 0) (fun D' => D'.nm = D.nm ∧ D'.xm = D.xm ∧ D'.lk = D.lk ∧ D'.ws = D.ws) e w') := Lib.hid fun e w' => by rw [HLK.out, hlk]; rfl
        clear hlk HLK
        go_wp2_with (with_reducible refine stop_op (o := ⟨_, .load 27 (.tmp 2), _, _, _, _⟩) ?_)
        refine Lib.hid ?_
        refine wpList_load_row (o := ⟨_, _, _, _, _, _⟩) rfl 27 (.tmp 2) rfl w.heap.size rfl 27 #[.int .i64 pid, .int .i64 par, .slice so D.L.length sc, .slice mo D.nm mc, .string name, .bool trap, .bool wait, .slice lo D.lk.length lc, .slice wo D.ws.length wc] (0, 0) _ H3.out.hX Tryz.underlying27 rfl (infoPT rfl) ?_
        go_wp2_with fail
        refine (copy_any _ ⟨pid, par, .slice so D.L.length sc, .slice mo D.nm mc, name, trap, wait, .slice lo D.lk.length lc, .slice wo D.ws.length wc⟩ D.X (HP.out.keep H3.out.hb) hD.px).mono ?_
        rintro e w4 hcp
        obtain ⟨q, L', rfl, hsm, hpr, -⟩ := hcp.pr (HP.out.keep H3.out.hb)
        have HC := Lib.hid hpr
        have HSM := Lib.hid hsm
        have H4 := Lib.hid (H3.out.keep hpr.hb)
        have HZ := Lib.hid (And.intro H3.out.hb H3.out.hs)
        clear hcp hsm hpr H3
        go_wp2_with (with_reducible refine stop_op (o := ⟨_, .store 27 (.tmp 4) (.tmp 20), _, _, _, _⟩) ?_)
        refine Lib.hid ?_
        refine wpList_store_row (o := ⟨none, _, _, _, _, _⟩) rfl 27 (.tmp 4) (.tmp 20) rfl (w.heap.size + 1) q.cells rfl rfl 27 zeroP H4.out.hY (infoPT rfl) rfl (Pv.one HC.out.pr) ?_
        have HF := Lib.hid (H4.out.shut q.cells)
        have HR := Lib.hid (HC.out.turn HP.out HZ.out.1 ((chg_setRow w4 (w.heap.size + 1) q.cells).mono (fun k _ e => by have e : k = w.heap.size + 1 := e; have := HZ.out.2; omega)))
        generalize w4.setRow (w.heap.size + 1) q.cells = wz at *
        clear H4 HC
        go_wp2_with fail
        refine ret_cell_tmp HF.out.hY rfl Tryz.underlying27 rfl (infoPT rfl) rfl rfl ?_
        rw [HL2.out]
        exact ⟨q, _, rfl, HSM.out, HR.out, rfl, rfl, rfl, rfl⟩
end Go.Proofs.YtemgnljegbaobaaGreatDoor
