/- proc.Put. Conditions: the process reads; its rows are not too long. -/
import Derived.Test.YtemgnljegbaobaaGreatDoorNn
namespace Go.Proofs.YtemgnljegbaobaaGreatDoor
open Go.ChangeShapes Go.WideShapes Go.ChangeAt Go.RowKit
set_option linter.unusedVariables false
set_option linter.unusedSimpArgs false
set_option maxRecDepth 100000
/-- an item's cells -/
structure Im where
  (k n : Int)
  (s u : ByteArray)
  ao : Option Addr
  (ln lc : Nat)
  ours : Bool
abbrev Im.cells (x : Im) : List Value := [.int .i8 x.k, .int .i64 x.n, .string x.s, .string x.u, .slice x.ao x.ln x.lc, .bool x.ours]
theorem Im.one (x : Im) : ∀ u ∈ x.cells, u.oneCell' = true := by
  intro u hu
  simp only [Im.cells, List.mem_cons, List.not_mem_nil, or_false] at hu
  rcases hu with rfl | rfl | rfl | rfl | rfl | rfl <;> rfl
def mvs (l : List Im) : List Value := l.flatMap Im.cells
theorem mvs_len : ∀ l : List Im, (mvs l).length = l.length * 6
  | [] => rfl
  | x :: l => by
    have := mvs_len l
    unfold mvs at this ⊢
    rw [List.flatMap_cons, List.length_append, this]
    simp [Im.cells]
    omega
theorem mvs_at : ∀ {l : List Im} {i : Nat} {x : Im} {j : Nat}, l[i]? = some x → j < 6 → (mvs l)[i * 6 + j]? = x.cells[j]?
  | [], _, _, _, h, _ => by simp at h
  | y :: l, 0, x, j, h, hj => by
    simp at h
    subst h
    have e : mvs (y :: l) = y.cells ++ mvs l := rfl
    rw [e, List.getElem?_append_left (by simp [Im.cells]; omega)]
    simp
  | y :: l, i + 1, x, j, h, hj => by
    have e : mvs (y :: l) = y.cells ++ mvs l := rfl
    rw [e, List.getElem?_append_right (by simp [Im.cells]; omega), ← mvs_at (l := l) (by simpa using h) hj]
    congr 1
    simp [Im.cells]
    omega
theorem mvs_snoc (l : List Im) (x : Im) : mvs (l ++ [x]) = mvs l ++ x.cells := by simp [mvs]
/-- how many are users' -/
def usersOf (l : List Im) : Nat := (l.filter fun x => !x.ours).length
theorem usersOf_snoc (l : List Im) (x : Im) : usersOf (l ++ [x]) = usersOf l + if x.ours then 0 else 1 := by
  unfold usersOf
  rw [List.filter_append, List.length_append]
  cases hx : x.ours <;> simp [hx]
theorem usersOf_le (l : List Im) : usersOf l ≤ l.length := List.length_filter_le _ _
theorem infoIM {cs : Array Value} (h : cs.size = 6) : (Tryz.prog.info? 33).map (·.size) = some cs.size := by
  have : (Tryz.prog.info? 33).map (·.size) = some 6 := by kernel_rfl
  rw [this, h]
theorem PrR.grow {w w' w'' : World} {q : Pv} {D D' : Pd} (h : PrR w D w' q D') (hb : Below w'.heap.size w' w'') : PrR w D w'' q D' := ⟨h.hb.trans (hb.mono h.hb.size), h.cp, h.pr.keep hb, h.ap⟩
theorem own_apart {w : World} {b1 b2 e1 e2 s1 s2 n1 n2 : Nat} {v1 v2 : Value} {x1 x2 : List Value} (h1 : w.ownsRow b1 e1 s1 v1 n1 x1) (h2 : w.ownsRow b2 e2 s2 v2 n2 x2) (hne : e1 ≠ e2) {k : Nat} (k1 : v1.ownBlock = some k) (k2 : v2.ownBlock = some k) : False := by
  obtain ⟨c1, g1⟩ := own_type h1 k k1
  obtain ⟨c2, g2⟩ := own_type h2 k k2
  rw [g1] at g2
  injection g2 with g2
  injection g2 with _ g2
  exact hne g2
def PutP (w : World) (p : Pv) (D : Pd) (ml : List Im) (x : Im) (e : Ending) (w' : World) : Prop :=
  if x.ours = false ∧ 64 ≤ usersOf ml then GivesP w p D p.wait (.bool false) (fun D' => D'.nm = D.nm ∧ D'.xm = D.xm ∧ D'.lk = D.lk ∧ D'.ws = D.ws) e w'
  else GivesP w p D false (.bool true) (fun D' => D'.nm = D.nm + 1 ∧ D'.xm = mvs (ml ++ [x]) ∧ D'.lk = D.lk ∧ D'.ws = D.ws) e w'
set_option maxHeartbeats 16000000 in
theorem put_any (w : World) (p : Pv) (D : Pd) (ml : List Im) (x : Im) (h : PrX w p D.X) (hD : D.ok) (hml : D.xm = mvs ml) (hnm : D.nm = ml.length) : Calls Tryz.prog 15 #[.agg p.cells, .agg #[.int .i8 x.k, .int .i64 x.n, .string x.s, .string x.u, .slice x.ao x.ln x.lc, .bool x.ours]] w (PutP w p D ml x) := by
  obtain ⟨pid, par, sv, mv, name, trap, wait, lv, wv0⟩ := p
  have HP := Lib.hid h
  obtain ⟨h2, h3, h7, h8⟩ := h
  simp only [Pd.X] at h2 h3 h7 h8
  obtain ⟨so, sc, rfl, -, -⟩ := h2.row.slice
  obtain ⟨mo, mc, rfl, hl1, hl2⟩ := h3.slice
  obtain ⟨lo, lc, rfl, -, -⟩ := h7.slice
  obtain ⟨wo, wc, rfl, -, -⟩ := h8.slice
  clear h2 h3 h7 h8
  have hb1 := (((Below.refl w.heap.size w).alloc (Nat.le_refl _) (.cells #[.int .i64 pid, .int .i64 par, .slice so D.L.length sc, .slice mo D.nm mc, .string name, .bool trap, .bool wait, .slice lo D.lk.length lc, .slice wo D.ws.length wc] 27)).alloc (by simp) (.cells #[.int .i8 x.k, .int .i64 x.n, .string x.s, .string x.u, .slice x.ao x.ln x.lc, .bool x.ours] 33)).alloc (by simp; omega) (.cells zeroP 27)
  have n1 := heap_old (heap_old (heap_new w (.cells #[.int .i64 pid, .int .i64 par, .slice so D.L.length sc, .slice mo D.nm mc, .string name, .bool trap, .bool wait, .slice lo D.lk.length lc, .slice wo D.ws.length wc] 27)) (.cells #[.int .i8 x.k, .int .i64 x.n, .string x.s, .string x.u, .slice x.ao x.ln x.lc, .bool x.ours] 33)) (.cells zeroP 27)
  have n2 := heap_old (heap_new (w.alloc (.cells #[.int .i64 pid, .int .i64 par, .slice so D.L.length sc, .slice mo D.nm mc, .string name, .bool trap, .bool wait, .slice lo D.lk.length lc, .slice wo D.ws.length wc] 27)) (.cells #[.int .i8 x.k, .int .i64 x.n, .string x.s, .string x.u, .slice x.ao x.ln x.lc, .bool x.ours] 33)) (.cells zeroP 27)
  have n3 := heap_new ((w.alloc (.cells #[.int .i64 pid, .int .i64 par, .slice so D.L.length sc, .slice mo D.nm mc, .string name, .bool trap, .bool wait, .slice lo D.lk.length lc, .slice wo D.ws.length wc] 27)).alloc (.cells #[.int .i8 x.k, .int .i64 x.n, .string x.s, .string x.u, .slice x.ao x.ln x.lc, .bool x.ours] 33)) (.cells zeroP 27)
  have hs1 : (((w.alloc (.cells #[.int .i64 pid, .int .i64 par, .slice so D.L.length sc, .slice mo D.nm mc, .string name, .bool trap, .bool wait, .slice lo D.lk.length lc, .slice wo D.ws.length wc] 27)).alloc (.cells #[.int .i8 x.k, .int .i64 x.n, .string x.s, .string x.u, .slice x.ao x.ln x.lc, .bool x.ours] 33)).alloc (.cells zeroP 27)).heap.size = w.heap.size + 3 := by simp
  rw [World.size_alloc, World.size_alloc] at n3
  rw [World.size_alloc] at n2
  have HB1 := Lib.hid (And.intro hb1 (And.intro n1 (And.intro n2 (And.intro n3 hs1))))
  clear hb1 n1 n2 n3 hs1
  have HML := Lib.hid (And.intro hml hnm)
  clear hml hnm
  go_enter Tryz.func15, Tryz.ntmps15
  go_wp2_with (with_reducible refine stop_op (o := ⟨_, .load 27 (.tmp 2), _, _, _, _⟩) ?_)
  generalize ((w.alloc (.cells #[.int .i64 pid, .int .i64 par, .slice so D.L.length sc, .slice mo D.nm mc, .string name, .bool trap, .bool wait, .slice lo D.lk.length lc, .slice wo D.ws.length wc] 27)).alloc (.cells #[.int .i8 x.k, .int .i64 x.n, .string x.s, .string x.u, .slice x.ao x.ln x.lc, .bool x.ours] 33)).alloc (.cells zeroP 27) = w1 at *
  refine Lib.hid ?_
  refine wpList_load_row (o := ⟨_, _, _, _, _, _⟩) rfl 27 (.tmp 2) rfl w.heap.size rfl 27 #[.int .i64 pid, .int .i64 par, .slice so D.L.length sc, .slice mo D.nm mc, .string name, .bool trap, .bool wait, .slice lo D.lk.length lc, .slice wo D.ws.length wc] (0, 0) _ HB1.out.2.1 Tryz.underlying27 rfl (infoPT rfl) ?_
  go_wp2_with fail
  refine (copy_any _ ⟨pid, par, .slice so D.L.length sc, .slice mo D.nm mc, name, trap, wait, .slice lo D.lk.length lc, .slice wo D.ws.length wc⟩ D.X (HP.out.keep HB1.out.1) hD.px).mono ?_
  rintro e w4 hcp
  obtain ⟨q, L', rfl, hsm, hpr, B, hB1, hB2, om, ol, ow, hB3⟩ := hcp.pr (HP.out.keep HB1.out.1)
  obtain ⟨qpid, qpar, qsv, qmv, qname, qtrap, qwait, qlv, qwv⟩ := q
  have HC := Lib.hid hpr
  have HSM := Lib.hid hsm
  have HO := Lib.hid (And.intro hB1 (And.intro hB2 (And.intro om (And.intro ol (And.intro ow hB3)))))
  obtain ⟨qso, qsc, e1, -, -⟩ := hpr.pr.st.row.slice
  obtain ⟨qmo, qmc, e2, -, -⟩ := hpr.pr.ml.slice
  obtain ⟨qlo, qlc, e3, -, -⟩ := hpr.pr.lk.slice
  obtain ⟨qwo, qwc, e4, -, -⟩ := hpr.pr.wt.slice
  simp only [Pd.X] at e1 e2 e3 e4
  subst e1 e2 e3 e4
  have HB4 := Lib.hid (And.intro (keep_heap HB1.out.2.1 hpr.hb) (And.intro (keep_heap HB1.out.2.2.1 hpr.hb) (keep_heap HB1.out.2.2.2.1 hpr.hb)))
  clear hcp hsm hpr hB1 hB2 om ol ow hB3
  go_wp2_with (with_reducible refine stop_op (o := ⟨_, .store 27 (.tmp 6) (.tmp 11), _, _, _, _⟩) ?_)
  refine Lib.hid ?_
  refine wpList_store_new (o := ⟨none, _, _, _, _, _⟩) rfl 27 (.tmp 6) (.tmp 11) rfl #[.int .i64 qpid, .int .i64 qpar, .slice qso L'.length qsc, .slice qmo D.nm qmc, .string qname, .bool qtrap, .bool qwait, .slice qlo D.lk.length qlc, .slice qwo D.ws.length qwc] rfl rfl (infoPT rfl) rfl (Pv.one HC.out.pr) ?_
  have hb5 := (Below.refl w4.heap.size w4).alloc (Nat.le_refl _) (.cells #[.int .i64 qpid, .int .i64 qpar, .slice qso L'.length qsc, .slice qmo D.nm qmc, .string qname, .bool qtrap, .bool qwait, .slice qlo D.lk.length qlc, .slice qwo D.ws.length qwc] 27)
  have H5 := Lib.hid (And.intro hb5 (And.intro (keep_heap HB4.out.1 hb5) (And.intro (keep_heap HB4.out.2.1 hb5) (And.intro (keep_heap HB4.out.2.2 hb5) (heap_new w4 (.cells #[.int .i64 qpid, .int .i64 qpar, .slice qso L'.length qsc, .slice qmo D.nm qmc, .string qname, .bool qtrap, .bool qwait, .slice qlo D.lk.length qlc, .slice qwo D.ws.length qwc] 27))))))
  have hs5 : (w4.alloc (.cells #[.int .i64 qpid, .int .i64 qpar, .slice qso L'.length qsc, .slice qmo D.nm qmc, .string qname, .bool qtrap, .bool qwait, .slice qlo D.lk.length qlc, .slice qwo D.ws.length qwc] 27)).heap.size = w4.heap.size + 1 := by simp
  have HS5 := Lib.hid hs5
  clear hb5 hs5 HB4
  generalize w4.alloc (.cells #[.int .i64 qpid, .int .i64 qpar, .slice qso L'.length qsc, .slice qmo D.nm qmc, .string qname, .bool qtrap, .bool qwait, .slice qlo D.lk.length qlc, .slice qwo D.ws.length qwc] 27) = w5 at *
  obtain ⟨c3, -⟩ := cells_at H5.out.2.1 3 _ rfl
  go_wp2_with fail
  clear c3
  go_loopw [7, 15] (fun u iv wr => ∃ i : Nat, i ≤ D.nm ∧ u = .int .i64 (usersOf (ml.take i) : Nat) ∧ iv = .int .i64 i ∧ Hid (Below w5.heap.size w5 wr)) (fun u iv _ => D.nm - (intOf iv).toNat)
  case atStart => exact ⟨0, Nat.zero_le _, rfl, rfl, Lib.hid (Below.refl _ _)⟩
  case round =>
    obtain ⟨i, hi, rfl, rfl, HI⟩ := hrel
    have husers : usersOf (ml.take i) ≤ 1000 := by
      have h1 := usersOf_le (ml.take i)
      have h2 := hD.hm
      rw [List.length_take] at h1
      omega
    by_cases hlt : i < D.nm
    · have hlt2 : i < ml.length := by rw [← HML.out.2]; exact hlt
      obtain ⟨y, hy⟩ : ∃ y, ml[i]? = some y := ⟨ml[i], List.getElem?_eq_getElem hlt2⟩
      have hw := (HP.out.keep (HB1.out.1.trans ((HC.out.hb.trans ((H5.out.1.trans (HI.out.mono H5.out.1.size)).mono HC.out.hb.size)).mono HB1.out.1.size))).ml
      obtain ⟨-, b, off, rfl, hc⟩ := hw.at (by show 0 < D.nm; omega)
      have hcell : ∀ j u, j < 6 → y.cells[j]? = some u → wr.cell? ⟨b, off + i * 6 + j, none⟩ = some u := fun j u hj hu => by
        rw [Nat.add_assoc]
        exact hc _ _ (by show D.xm[i * 6 + j]? = some u; rw [HML.out.1, mvs_at hy hj]; exact hu)
      have y0 := hcell 0 _ (by decide) rfl
      have y1 := hcell 1 _ (by decide) rfl
      have y2 := hcell 2 _ (by decide) rfl
      have y3 := hcell 3 _ (by decide) rfl
      have y4 := hcell 4 _ (by decide) rfl
      have y5 := hcell 5 _ (by decide) rfl
      simp only [Nat.add_zero] at y0
      have HY := Lib.hid hy
      have HN : Hid (usersOf (ml.take (i + 1)) = usersOf (ml.take i) + if y.ours then 0 else 1) := Lib.hid (by rw [List.take_add_one, hy]; exact usersOf_snoc _ _)
      clear hc hcell hw hy
      go_wp2_with (with_reducible refine stop_op (o := ⟨_, .store 33 (.tmp 9) (.tmp 18), _, _, _, _⟩) ?_)
      refine Lib.hid ?_
      refine wpList_store_new (o := ⟨none, _, _, _, _, _⟩) rfl 33 (.tmp 9) (.tmp 18) rfl #[.int .i8 y.k, .int .i64 y.n, .string y.s, .string y.u, .slice y.ao y.ln y.lc, .bool y.ours] rfl rfl (infoIM rfl) rfl (by simp [Value.oneCell']) ?_
      have hb6 := (Below.refl wr.heap.size wr).alloc (Nat.le_refl _) (.cells #[.int .i8 y.k, .int .i64 y.n, .string y.s, .string y.u, .slice y.ao y.ln y.lc, .bool y.ours] 33)
      have hn6 := heap_new wr (.cells #[.int .i8 y.k, .int .i64 y.n, .string y.s, .string y.u, .slice y.ao y.ln y.lc, .bool y.ours] 33)
      have HI6 := Lib.hid (HI.out.trans (hb6.mono HI.out.size))
      generalize wr.alloc (.cells #[.int .i8 y.k, .int .i64 y.n, .string y.s, .string y.u, .slice y.ao y.ln y.lc, .bool y.ours] 33) = w6 at *
      obtain ⟨z5, -⟩ := cells_at hn6 5 _ rfl
      clear y0 y1 y2 y3 y4 y5 hn6 hb6
      cases hyo : y.ours
      · have HN2 : Hid (usersOf (ml.take (i + 1)) = usersOf (ml.take i) + 1) := Lib.hid (by rw [HN.out, hyo]; rfl)
        rw [hyo] at z5
        clear hyo HN
        go_wp2_with fail
        go_roundw
        case rel => exact ⟨i + 1, hlt, by rw [HN2.out]; go_num, by go_num, HI6⟩
        case measure => simp [intOf]; omega
      · have HN2 : Hid (usersOf (ml.take (i + 1)) = usersOf (ml.take i)) := Lib.hid (by rw [HN.out, hyo]; rfl)
        rw [hyo] at z5
        clear hyo HN
        go_wp2_with fail
        go_roundw
        case rel => exact ⟨i + 1, hlt, by rw [HN2.out], by go_num, HI6⟩
        case measure => simp [intOf]; omega
    · have hE : i = D.nm := by omega
      have HU : Hid (usersOf (ml.take i) = usersOf ml) := Lib.hid (by rw [hE, HML.out.2, List.take_length])
      generalize usersOf (ml.take i) = un at *
      have hlt' : ¬ ((D.nm : Int) < (D.nm : Int)) := by omega
      have hx3 := keep_heap H5.out.2.2.1 HI.out
      obtain ⟨x5, -⟩ := cells_at hx3 5 _ rfl
      subst hE
      by_cases hbad : x.ours = false ∧ 64 ≤ un
      · have HW : Hid (∀ e w', PutP w ⟨pid, par, .slice so D.L.length sc, .slice mo D.nm mc, name, trap, wait, .slice lo D.lk.length lc, .slice wo D.ws.length wc⟩ D ml x e w' = GivesP w ⟨pid, par, .slice so D.L.length sc, .slice mo D.nm mc, name, trap, wait, .slice lo D.lk.length lc, .slice wo D.ws.length wc⟩ D wait (.bool false) (fun D' => D'.nm = D.nm ∧ D'.xm = D.xm ∧ D'.lk = D.lk ∧ D'.ws = D.ws) e w') := Lib.hid fun e w' => by
          unfold PutP
          rw [if_pos ⟨hbad.1, by rw [← HU.out]; exact hbad.2⟩]
        have hd : decide ((64 : Int) ≤ (un : Int)) = true := decide_eq_true (by have := hbad.2; omega)
        have ho := hbad.1
        rw [ho] at x5
        clear hbad hx3
        go_wp2_with (with_reducible refine stop_op (o := ⟨_, .load 27 (.tmp 6), _, _, _, _⟩) ?_)
        refine Lib.hid ?_
        refine wpList_load_row (o := ⟨_, _, _, _, _, _⟩) rfl 27 (.tmp 6) rfl w4.heap.size rfl 27 #[.int .i64 qpid, .int .i64 qpar, .slice qso L'.length qsc, .slice qmo D.nm qmc, .string qname, .bool qtrap, .bool qwait, .slice qlo D.lk.length qlc, .slice qwo D.ws.length qwc] (0, 0) _ (keep_heap H5.out.2.2.2.2 HI.out) Tryz.underlying27 rfl (infoPT rfl) ?_
        go_wp2_with (with_reducible refine stop_op (o := ⟨_, .store 27 (.tmp 4) (.tmp 32), _, _, _, _⟩) ?_)
        refine Lib.hid ?_
        have hY := keep_heap H5.out.2.2.2.1 HI.out
        refine wpList_store_row (o := ⟨none, _, _, _, _, _⟩) rfl 27 (.tmp 4) (.tmp 32) rfl (w.heap.size + 1 + 1) #[.int .i64 qpid, .int .i64 qpar, .slice qso L'.length qsc, .slice qmo D.nm qmc, .string qname, .bool qtrap, .bool qwait, .slice qlo D.lk.length qlc, .slice qwo D.ws.length qwc] rfl rfl 27 zeroP hY (infoPT rfl) rfl (by simp [Value.oneCell']) ?_
        have hR := (HC.out.grow (H5.out.1.trans (HI.out.mono H5.out.1.size))).turn HP.out HB1.out.1 ((chg_setRow wr (w.heap.size + 1 + 1) #[.int .i64 qpid, .int .i64 qpar, .slice qso L'.length qsc, .slice qmo D.nm qmc, .string qname, .bool qtrap, .bool qwait, .slice qlo D.lk.length qlc, .slice qwo D.ws.length qwc]).mono (fun k _ e => by have e : k = w.heap.size + 1 + 1 := e; have := HB1.out.2.2.2.2; omega))
        have HF := Lib.hid (And.intro (setRow_heap wr (w.heap.size + 1 + 1) zeroP #[.int .i64 qpid, .int .i64 qpar, .slice qso L'.length qsc, .slice qmo D.nm qmc, .string qname, .bool qtrap, .bool qwait, .slice qlo D.lk.length qlc, .slice qwo D.ws.length qwc] 27 (0, 0) hY) hR)
        clear hY hR x5
        generalize wr.setRow (w.heap.size + 1 + 1) #[.int .i64 qpid, .int .i64 qpar, .slice qso L'.length qsc, .slice qmo D.nm qmc, .string qname, .bool qtrap, .bool qwait, .slice qlo D.lk.length qlc, .slice qwo D.ws.length qwc] = wz at *
        go_wp2_with fail
        refine ret_cell_tmp HF.out.1 rfl Tryz.underlying27 rfl (infoPT rfl) rfl rfl ?_
        rw [HW.out]
        exact ⟨⟨qpid, qpar, .slice qso L'.length qsc, .slice qmo D.nm qmc, qname, qtrap, qwait, .slice qlo D.lk.length qlc, .slice qwo D.ws.length qwc⟩, _, rfl, HSM.out, HF.out.2, rfl, rfl, rfl, rfl⟩
      · have HW : Hid (∀ e w', PutP w ⟨pid, par, .slice so D.L.length sc, .slice mo D.nm mc, name, trap, wait, .slice lo D.lk.length lc, .slice wo D.ws.length wc⟩ D ml x e w' = GivesP w ⟨pid, par, .slice so D.L.length sc, .slice mo D.nm mc, name, trap, wait, .slice lo D.lk.length lc, .slice wo D.ws.length wc⟩ D false (.bool true) (fun D' => D'.nm = D.nm + 1 ∧ D'.xm = mvs (ml ++ [x]) ∧ D'.lk = D.lk ∧ D'.ws = D.ws) e w') := Lib.hid fun e w' => by
          unfold PutP
          rw [if_neg (fun h => hbad ⟨h.1, by rw [HU.out] at *; exact h.2⟩)]
        obtain ⟨x0, -⟩ := cells_at hx3 0 _ rfl
        obtain ⟨x1, -⟩ := cells_at hx3 1 _ rfl
        obtain ⟨x2, -⟩ := cells_at hx3 2 _ rfl
        obtain ⟨x3, -⟩ := cells_at hx3 3 _ rfl
        obtain ⟨x4, -⟩ := cells_at hx3 4 _ rfl
        obtain ⟨z3, z3f⟩ := cells_at (keep_heap H5.out.2.2.2.2 HI.out) 3 _ rfl
        have hzl := heap_lt (keep_heap H5.out.2.2.2.2 HI.out)
        clear hx3
        cases ho : x.ours
        · have hd : decide ((64 : Int) ≤ (un : Int)) = false := decide_eq_false (by have : ¬ 64 ≤ un := fun h => hbad ⟨ho, h⟩; omega)
          rw [ho] at x5
          have HOX := Lib.hid ho
          clear hbad ho
          go_wp2_with (with_reducible refine stop_op (o := ⟨_, .call { callee := .builtin .append, args := #[.tmp 34, .tmp 36], argTypes := #[23, 23] }, _, _, _, _⟩) ?_)
          have hb6 := (Below.refl wr.heap.size wr).alloc (Nat.le_refl _) (.cells #[.int .i8 x.k, .int .i64 x.n, .string x.s, .string x.u, .slice x.ao x.ln x.lc, .bool false] 33)
          have hn6 := heap_new wr (.cells #[.int .i8 x.k, .int .i64 x.n, .string x.s, .string x.u, .slice x.ao x.ln x.lc, .bool false] 33)
          have hs6 : (wr.alloc (.cells #[.int .i8 x.k, .int .i64 x.n, .string x.s, .string x.u, .slice x.ao x.ln x.lc, .bool false] 33)).heap.size = wr.heap.size + 1 := by simp
          have HB6 := Lib.hid (HI.out.trans (hb6.mono HI.out.size))
          have HN6 := Lib.hid hn6
          have HW6 := Lib.hid (And.intro hs6 HI.out.size)
          have HZ6 := Lib.hid (keep_heap (keep_heap H5.out.2.2.2.2 HI.out) hb6)
          clear hb6 hn6 hs6 x0 x1 x2 x3 x4 x5 z3 z3f hzl
          generalize wr.alloc (.cells #[.int .i8 x.k, .int .i64 x.n, .string x.s, .string x.u, .slice x.ao x.ln x.lc, .bool false] 33) = w6 at *
          have HO6 := Lib.hid (own_keep HO.out.2.2.1 (H5.out.1.trans (HB6.out.mono H5.out.1.size)))
          obtain ⟨i0, z0, i1, i2, i3, i4, i5⟩ := info_of (P := Tryz.prog) (e := 33) 6 (by kernel_rfl)
          refine Lib.hid ?_
          refine wpList_append_own2 (o := ⟨_, _, _, _, _, _⟩) rfl (.tmp 34) (.tmp 36) 23 rfl B 33 i0 z0 6 i0.bytes Tryz.underlying23 i1 i2 i3 rfl i5 (by decide) (.slice qmo D.nm qmc) D.nm D.xm rfl HO6.out ⟨wr.heap.size, 0, none⟩ 1 1 x.cells rfl rfl (fun j u hj => by
            rw [Addr.add_lit, Nat.zero_add]
            exact (cells_at HN6.out j u (by simpa [Im.cells, HOX.out] using hj)).1) (Im.one x) (by have := hD.hm; unfold maxLen; omega) (le_bytes (by have := hD.hm; omega) i4) (by have h1 := HO.out.2.1; have h2 := H5.out.1.size; have h3 := HB6.out.size; omega) ?_
          intro v8 w8 hown hg hwh
          obtain ⟨a8, c8, rfl⟩ := own_slice hown
          have hcg := chg_grown hg
          have hlt4 := own_lt HO.out.2.2.1 (Nat.le_refl _)
          have hbs : ∀ k, (Value.slice qmo D.nm qmc).ownBlock = some k → B ≤ k := own_base HO.out.2.2.1
          have hz8 : w8.heap[w4.heap.size]? = some (.cells #[.int .i64 qpid, .int .i64 qpar, .slice qso L'.length qsc, .slice qmo D.nm qmc, .string qname, .bool qtrap, .bool qwait, .slice qlo D.lk.length qlc, .slice qwo D.ws.length qwc] 27 (0, 0)) := hcg.heap HZ6.out (fun e => by have := hlt4 _ e.symm; omega)
          have hb46 := H5.out.1.trans (HB6.out.mono H5.out.1.size)
          have hy8 : w8.heap[w.heap.size + 1 + 1]? = some (.cells zeroP 27 (0, 0)) := hcg.heap (keep_heap H5.out.2.2.2.1 HB6.out) (fun e => by have h1 := hbs _ e.symm; have h2 := HO.out.1; have h3 := HB1.out.2.2.2.2; omega)
          have hp6 := HC.out.pr.keep hb46
          have hpz := HC.out.pr.old (Nat.le_refl w4.heap.size)
          have hpr8 : PrX w8 ⟨qpid, qpar, .slice qso L'.length qsc, .slice a8 (D.nm + 1) c8, qname, qtrap, false, .slice qlo D.lk.length qlc, .slice qwo D.ws.length qwc⟩ (Pd.X ⟨L', D.nm + 1, mvs (ml ++ [x]), D.lk, D.ws⟩) := by
            have ol := own_keep HO.out.2.2.2.1 hb46
            have ow := own_keep HO.out.2.2.2.2.1 hb46
            refine ⟨hp6.st.chg hcg (fun k hk e => (HO.out.2.2.2.2.2 k (hbs k e.symm)).1 hk) (fun k e f hf => (HO.out.2.2.2.2.2 k (hbs k e.symm)).2 f hf), ?_, ?_, ?_⟩
            · show Rw w8 _ (D.nm + 1) 6 (mvs (ml ++ [x]))
              rw [mvs_snoc, ← HML.out.1]
              refine Rw_own hown fun u hu => ?_
              rcases List.mem_append.1 hu with hu | hu
              · exact HP.out.ml.2.1 u hu
              · exact Im.one x u hu
            · exact hp6.lk.chg hcg (fun k hk e => (own_apart ol HO6.out (by decide) hk e.symm).elim)
            · exact hp6.wt.chg hcg (fun k hk e => (own_apart ow HO6.out (by decide) hk e.symm).elim)
          have hb8 : Below w1.heap.size w1 w8 := (HC.out.hb.trans (hb46.mono HC.out.hb.size)).trans (hcg.below (Nat.le_trans HC.out.hb.size hb46.size) (fun k e => Nat.le_trans HO.out.1 (hbs k e.symm)))
          have hm8 : ∀ k, (Value.slice a8 (D.nm + 1) c8).ownBlock = some k → B ≤ k ∧ k ≠ w4.heap.size := fun k hk => by
            refine ⟨own_base hown k hk, fun e => ?_⟩
            rcases hwh with hwh | hwh
            · have := hlt4 k (hwh.symm.trans hk)
              omega
            · have h1 : w6.heap.size = k := Option.some.inj (hwh.symm.trans hk)
              have h2 := HW6.out
              have h3 := HS5.out
              omega
          have hl4 : w4.heap.size < w8.heap.size := heap_lt hz8
          have HPR8 := Lib.hid (And.intro hpr8 (And.intro hb8 (And.intro hm8 (And.intro hpz hy8))))
          have HZ8 := Lib.hid hz8
          obtain ⟨z3, z3f⟩ := cells_at hz8 3 _ rfl
          obtain ⟨z6, z6f⟩ := cells_at (set_at hz8 (i := 3) (.slice a8 (D.nm + 1) c8)) 6 _ rfl
          have hl4' : w4.heap.size < (w8.setCell ⟨w4.heap.size, 3, none⟩ (.slice a8 (D.nm + 1) c8)).heap.size := heap_lt (set_at hz8 (i := 3) (.slice a8 (D.nm + 1) c8))
          clear hown hg hwh hcg hlt4 hbs hz8 hb46 hy8 hp6 hpz hpr8 hb8 hm8 HO6 HN6 HB6 HW6 HZ6
          go_wp2_with (with_reducible refine stop_op (o := ⟨_, .load 27 (.tmp 6), _, _, _, _⟩) ?_)
          have hc9 := (chg_set (w := w8) (p := ⟨w4.heap.size, 3, none⟩) (.slice a8 (D.nm + 1) c8)).trans (chg_set (w := w8.setCell ⟨w4.heap.size, 3, none⟩ (.slice a8 (D.nm + 1) c8)) (p := ⟨w4.heap.size, 6, none⟩) (.bool false))
          have hz9 : ((w8.setCell ⟨w4.heap.size, 3, none⟩ (.slice a8 (D.nm + 1) c8)).setCell ⟨w4.heap.size, 6, none⟩ (.bool false)).heap[w4.heap.size]? = some (.cells #[.int .i64 qpid, .int .i64 qpar, .slice qso L'.length qsc, .slice a8 (D.nm + 1) c8, .string qname, .bool qtrap, .bool false, .slice qlo D.lk.length qlc, .slice qwo D.ws.length qwc] 27 (0, 0)) := set_at (set_at HZ8.out (i := 3) (.slice a8 (D.nm + 1) c8)) (.bool false)
          have hy9 := hc9.heap HPR8.out.2.2.2.2 (fun e => by have e : w.heap.size + 1 + 1 = w4.heap.size := e; have h1 := HC.out.hb.size; have h3 := HB1.out.2.2.2.2; omega)
          have hpn : PrN w4.heap.size ⟨qpid, qpar, .slice qso L'.length qsc, .slice a8 (D.nm + 1) c8, qname, qtrap, false, .slice qlo D.lk.length qlc, .slice qwo D.ws.length qwc⟩ L' := by
            obtain ⟨n1, n2, n3, n4, n5⟩ := HPR8.out.2.2.2.1
            exact ⟨n1, fun e => absurd rfl (HPR8.out.2.2.1 _ e).2, n3, n4, n5⟩
          have hpr9 := HPR8.out.1.chg hc9 (fun k e => by have e : k = w4.heap.size := e; rw [e]; exact hpn)
          have hb9 := HPR8.out.2.1.trans (hc9.below (B := w1.heap.size) HPR8.out.2.1.size (fun k e => by have e : k = w4.heap.size := e; have := HC.out.hb.size; omega))
          have HR9 : Hid (PrR w1 D ((w8.setCell ⟨w4.heap.size, 3, none⟩ (.slice a8 (D.nm + 1) c8)).setCell ⟨w4.heap.size, 6, none⟩ (.bool false)) ⟨qpid, qpar, .slice qso L'.length qsc, .slice a8 (D.nm + 1) c8, qname, qtrap, false, .slice qlo D.lk.length qlc, .slice qwo D.ws.length qwc⟩ ⟨L', D.nm + 1, mvs (ml ++ [x]), D.lk, D.ws⟩) := by
            refine Lib.hid ⟨hb9, HC.out.cp, hpr9, fun k hk hf => ?_⟩
            obtain ⟨n1, n2, n3, n4, n5⟩ := HC.out.ap k hk hf
            refine ⟨n1, fun e => ?_, n3, n4, n5⟩
            have h1 := (HPR8.out.2.2.1 k e).1
            have h2 := HO.out.1
            omega
          have HZY := Lib.hid (And.intro hz9 hy9)
          clear hc9 hz9 hy9 hpn hpr9 hb9 HPR8 HZ8 z3 z3f z6 z6f hl4 hl4'
          generalize (w8.setCell ⟨w4.heap.size, 3, none⟩ (.slice a8 (D.nm + 1) c8)).setCell ⟨w4.heap.size, 6, none⟩ (.bool false) = w9 at *
          refine Lib.hid ?_
          refine wpList_load_row (o := ⟨_, _, _, _, _, _⟩) rfl 27 (.tmp 6) rfl w4.heap.size rfl 27 #[.int .i64 qpid, .int .i64 qpar, .slice qso L'.length qsc, .slice a8 (D.nm + 1) c8, .string qname, .bool qtrap, .bool false, .slice qlo D.lk.length qlc, .slice qwo D.ws.length qwc] (0, 0) _ HZY.out.1 Tryz.underlying27 rfl (infoPT rfl) ?_
          go_wp2_with (with_reducible refine stop_op (o := ⟨_, .store 27 (.tmp 4) (.tmp 40), _, _, _, _⟩) ?_)
          refine Lib.hid ?_
          refine wpList_store_row (o := ⟨none, _, _, _, _, _⟩) rfl 27 (.tmp 4) (.tmp 40) rfl (w.heap.size + 1 + 1) #[.int .i64 qpid, .int .i64 qpar, .slice qso L'.length qsc, .slice a8 (D.nm + 1) c8, .string qname, .bool qtrap, .bool false, .slice qlo D.lk.length qlc, .slice qwo D.ws.length qwc] rfl rfl 27 zeroP HZY.out.2 (infoPT rfl) rfl (by simp [Value.oneCell']) ?_
          have hR := HR9.out.turn HP.out HB1.out.1 ((chg_setRow w9 (w.heap.size + 1 + 1) #[.int .i64 qpid, .int .i64 qpar, .slice qso L'.length qsc, .slice a8 (D.nm + 1) c8, .string qname, .bool qtrap, .bool false, .slice qlo D.lk.length qlc, .slice qwo D.ws.length qwc]).mono (fun k _ e => by have e : k = w.heap.size + 1 + 1 := e; have := HB1.out.2.2.2.2; omega))
          have HF := Lib.hid (And.intro (setRow_heap w9 (w.heap.size + 1 + 1) zeroP #[.int .i64 qpid, .int .i64 qpar, .slice qso L'.length qsc, .slice a8 (D.nm + 1) c8, .string qname, .bool qtrap, .bool false, .slice qlo D.lk.length qlc, .slice qwo D.ws.length qwc] 27 (0, 0) HZY.out.2) hR)
          clear hR HR9 HZY
          generalize w9.setRow (w.heap.size + 1 + 1) #[.int .i64 qpid, .int .i64 qpar, .slice qso L'.length qsc, .slice a8 (D.nm + 1) c8, .string qname, .bool qtrap, .bool false, .slice qlo D.lk.length qlc, .slice qwo D.ws.length qwc] = wz at *
          go_wp2_with fail
          refine ret_cell_tmp HF.out.1 rfl Tryz.underlying27 rfl (infoPT rfl) rfl rfl ?_
          rw [HW.out]
          exact ⟨⟨qpid, qpar, .slice qso L'.length qsc, .slice a8 (D.nm + 1) c8, qname, qtrap, false, .slice qlo D.lk.length qlc, .slice qwo D.ws.length qwc⟩, _, rfl, ⟨HSM.out.1, HSM.out.2.1, HSM.out.2.2.1, HSM.out.2.2.2.1, rfl⟩, HF.out.2, rfl, rfl, rfl, rfl⟩
        · rw [ho] at x5
          have HOX := Lib.hid ho
          clear hbad ho
          go_wp2_with (with_reducible refine stop_op (o := ⟨_, .call { callee := .builtin .append, args := #[.tmp 34, .tmp 36], argTypes := #[23, 23] }, _, _, _, _⟩) ?_)
          have hb6 := (Below.refl wr.heap.size wr).alloc (Nat.le_refl _) (.cells #[.int .i8 x.k, .int .i64 x.n, .string x.s, .string x.u, .slice x.ao x.ln x.lc, .bool true] 33)
          have hn6 := heap_new wr (.cells #[.int .i8 x.k, .int .i64 x.n, .string x.s, .string x.u, .slice x.ao x.ln x.lc, .bool true] 33)
          have hs6 : (wr.alloc (.cells #[.int .i8 x.k, .int .i64 x.n, .string x.s, .string x.u, .slice x.ao x.ln x.lc, .bool true] 33)).heap.size = wr.heap.size + 1 := by simp
          have HB6 := Lib.hid (HI.out.trans (hb6.mono HI.out.size))
          have HN6 := Lib.hid hn6
          have HW6 := Lib.hid (And.intro hs6 HI.out.size)
          have HZ6 := Lib.hid (keep_heap (keep_heap H5.out.2.2.2.2 HI.out) hb6)
          clear hb6 hn6 hs6 x0 x1 x2 x3 x4 x5 z3 z3f hzl
          generalize wr.alloc (.cells #[.int .i8 x.k, .int .i64 x.n, .string x.s, .string x.u, .slice x.ao x.ln x.lc, .bool true] 33) = w6 at *
          have HO6 := Lib.hid (own_keep HO.out.2.2.1 (H5.out.1.trans (HB6.out.mono H5.out.1.size)))
          obtain ⟨i0, z0, i1, i2, i3, i4, i5⟩ := info_of (P := Tryz.prog) (e := 33) 6 (by kernel_rfl)
          refine Lib.hid ?_
          refine wpList_append_own2 (o := ⟨_, _, _, _, _, _⟩) rfl (.tmp 34) (.tmp 36) 23 rfl B 33 i0 z0 6 i0.bytes Tryz.underlying23 i1 i2 i3 rfl i5 (by decide) (.slice qmo D.nm qmc) D.nm D.xm rfl HO6.out ⟨wr.heap.size, 0, none⟩ 1 1 x.cells rfl rfl (fun j u hj => by
            rw [Addr.add_lit, Nat.zero_add]
            exact (cells_at HN6.out j u (by simpa [Im.cells, HOX.out] using hj)).1) (Im.one x) (by have := hD.hm; unfold maxLen; omega) (le_bytes (by have := hD.hm; omega) i4) (by have h1 := HO.out.2.1; have h2 := H5.out.1.size; have h3 := HB6.out.size; omega) ?_
          intro v8 w8 hown hg hwh
          obtain ⟨a8, c8, rfl⟩ := own_slice hown
          have hcg := chg_grown hg
          have hlt4 := own_lt HO.out.2.2.1 (Nat.le_refl _)
          have hbs : ∀ k, (Value.slice qmo D.nm qmc).ownBlock = some k → B ≤ k := own_base HO.out.2.2.1
          have hz8 : w8.heap[w4.heap.size]? = some (.cells #[.int .i64 qpid, .int .i64 qpar, .slice qso L'.length qsc, .slice qmo D.nm qmc, .string qname, .bool qtrap, .bool qwait, .slice qlo D.lk.length qlc, .slice qwo D.ws.length qwc] 27 (0, 0)) := hcg.heap HZ6.out (fun e => by have := hlt4 _ e.symm; omega)
          have hb46 := H5.out.1.trans (HB6.out.mono H5.out.1.size)
          have hy8 : w8.heap[w.heap.size + 1 + 1]? = some (.cells zeroP 27 (0, 0)) := hcg.heap (keep_heap H5.out.2.2.2.1 HB6.out) (fun e => by have h1 := hbs _ e.symm; have h2 := HO.out.1; have h3 := HB1.out.2.2.2.2; omega)
          have hp6 := HC.out.pr.keep hb46
          have hpz := HC.out.pr.old (Nat.le_refl w4.heap.size)
          have hpr8 : PrX w8 ⟨qpid, qpar, .slice qso L'.length qsc, .slice a8 (D.nm + 1) c8, qname, qtrap, false, .slice qlo D.lk.length qlc, .slice qwo D.ws.length qwc⟩ (Pd.X ⟨L', D.nm + 1, mvs (ml ++ [x]), D.lk, D.ws⟩) := by
            have ol := own_keep HO.out.2.2.2.1 hb46
            have ow := own_keep HO.out.2.2.2.2.1 hb46
            refine ⟨hp6.st.chg hcg (fun k hk e => (HO.out.2.2.2.2.2 k (hbs k e.symm)).1 hk) (fun k e f hf => (HO.out.2.2.2.2.2 k (hbs k e.symm)).2 f hf), ?_, ?_, ?_⟩
            · show Rw w8 _ (D.nm + 1) 6 (mvs (ml ++ [x]))
              rw [mvs_snoc, ← HML.out.1]
              refine Rw_own hown fun u hu => ?_
              rcases List.mem_append.1 hu with hu | hu
              · exact HP.out.ml.2.1 u hu
              · exact Im.one x u hu
            · exact hp6.lk.chg hcg (fun k hk e => (own_apart ol HO6.out (by decide) hk e.symm).elim)
            · exact hp6.wt.chg hcg (fun k hk e => (own_apart ow HO6.out (by decide) hk e.symm).elim)
          have hb8 : Below w1.heap.size w1 w8 := (HC.out.hb.trans (hb46.mono HC.out.hb.size)).trans (hcg.below (Nat.le_trans HC.out.hb.size hb46.size) (fun k e => Nat.le_trans HO.out.1 (hbs k e.symm)))
          have hm8 : ∀ k, (Value.slice a8 (D.nm + 1) c8).ownBlock = some k → B ≤ k ∧ k ≠ w4.heap.size := fun k hk => by
            refine ⟨own_base hown k hk, fun e => ?_⟩
            rcases hwh with hwh | hwh
            · have := hlt4 k (hwh.symm.trans hk)
              omega
            · have h1 : w6.heap.size = k := Option.some.inj (hwh.symm.trans hk)
              have h2 := HW6.out
              have h3 := HS5.out
              omega
          have hl4 : w4.heap.size < w8.heap.size := heap_lt hz8
          have HPR8 := Lib.hid (And.intro hpr8 (And.intro hb8 (And.intro hm8 (And.intro hpz hy8))))
          have HZ8 := Lib.hid hz8
          obtain ⟨z3, z3f⟩ := cells_at hz8 3 _ rfl
          obtain ⟨z6, z6f⟩ := cells_at (set_at hz8 (i := 3) (.slice a8 (D.nm + 1) c8)) 6 _ rfl
          have hl4' : w4.heap.size < (w8.setCell ⟨w4.heap.size, 3, none⟩ (.slice a8 (D.nm + 1) c8)).heap.size := heap_lt (set_at hz8 (i := 3) (.slice a8 (D.nm + 1) c8))
          clear hown hg hwh hcg hlt4 hbs hz8 hb46 hy8 hp6 hpz hpr8 hb8 hm8 HO6 HN6 HB6 HW6 HZ6
          go_wp2_with (with_reducible refine stop_op (o := ⟨_, .load 27 (.tmp 6), _, _, _, _⟩) ?_)
          have hc9 := (chg_set (w := w8) (p := ⟨w4.heap.size, 3, none⟩) (.slice a8 (D.nm + 1) c8)).trans (chg_set (w := w8.setCell ⟨w4.heap.size, 3, none⟩ (.slice a8 (D.nm + 1) c8)) (p := ⟨w4.heap.size, 6, none⟩) (.bool false))
          have hz9 : ((w8.setCell ⟨w4.heap.size, 3, none⟩ (.slice a8 (D.nm + 1) c8)).setCell ⟨w4.heap.size, 6, none⟩ (.bool false)).heap[w4.heap.size]? = some (.cells #[.int .i64 qpid, .int .i64 qpar, .slice qso L'.length qsc, .slice a8 (D.nm + 1) c8, .string qname, .bool qtrap, .bool false, .slice qlo D.lk.length qlc, .slice qwo D.ws.length qwc] 27 (0, 0)) := set_at (set_at HZ8.out (i := 3) (.slice a8 (D.nm + 1) c8)) (.bool false)
          have hy9 := hc9.heap HPR8.out.2.2.2.2 (fun e => by have e : w.heap.size + 1 + 1 = w4.heap.size := e; have h1 := HC.out.hb.size; have h3 := HB1.out.2.2.2.2; omega)
          have hpn : PrN w4.heap.size ⟨qpid, qpar, .slice qso L'.length qsc, .slice a8 (D.nm + 1) c8, qname, qtrap, false, .slice qlo D.lk.length qlc, .slice qwo D.ws.length qwc⟩ L' := by
            obtain ⟨n1, n2, n3, n4, n5⟩ := HPR8.out.2.2.2.1
            exact ⟨n1, fun e => absurd rfl (HPR8.out.2.2.1 _ e).2, n3, n4, n5⟩
          have hpr9 := HPR8.out.1.chg hc9 (fun k e => by have e : k = w4.heap.size := e; rw [e]; exact hpn)
          have hb9 := HPR8.out.2.1.trans (hc9.below (B := w1.heap.size) HPR8.out.2.1.size (fun k e => by have e : k = w4.heap.size := e; have := HC.out.hb.size; omega))
          have HR9 : Hid (PrR w1 D ((w8.setCell ⟨w4.heap.size, 3, none⟩ (.slice a8 (D.nm + 1) c8)).setCell ⟨w4.heap.size, 6, none⟩ (.bool false)) ⟨qpid, qpar, .slice qso L'.length qsc, .slice a8 (D.nm + 1) c8, qname, qtrap, false, .slice qlo D.lk.length qlc, .slice qwo D.ws.length qwc⟩ ⟨L', D.nm + 1, mvs (ml ++ [x]), D.lk, D.ws⟩) := by
            refine Lib.hid ⟨hb9, HC.out.cp, hpr9, fun k hk hf => ?_⟩
            obtain ⟨n1, n2, n3, n4, n5⟩ := HC.out.ap k hk hf
            refine ⟨n1, fun e => ?_, n3, n4, n5⟩
            have h1 := (HPR8.out.2.2.1 k e).1
            have h2 := HO.out.1
            omega
          have HZY := Lib.hid (And.intro hz9 hy9)
          clear hc9 hz9 hy9 hpn hpr9 hb9 HPR8 HZ8 z3 z3f z6 z6f hl4 hl4'
          generalize (w8.setCell ⟨w4.heap.size, 3, none⟩ (.slice a8 (D.nm + 1) c8)).setCell ⟨w4.heap.size, 6, none⟩ (.bool false) = w9 at *
          refine Lib.hid ?_
          refine wpList_load_row (o := ⟨_, _, _, _, _, _⟩) rfl 27 (.tmp 6) rfl w4.heap.size rfl 27 #[.int .i64 qpid, .int .i64 qpar, .slice qso L'.length qsc, .slice a8 (D.nm + 1) c8, .string qname, .bool qtrap, .bool false, .slice qlo D.lk.length qlc, .slice qwo D.ws.length qwc] (0, 0) _ HZY.out.1 Tryz.underlying27 rfl (infoPT rfl) ?_
          go_wp2_with (with_reducible refine stop_op (o := ⟨_, .store 27 (.tmp 4) (.tmp 40), _, _, _, _⟩) ?_)
          refine Lib.hid ?_
          refine wpList_store_row (o := ⟨none, _, _, _, _, _⟩) rfl 27 (.tmp 4) (.tmp 40) rfl (w.heap.size + 1 + 1) #[.int .i64 qpid, .int .i64 qpar, .slice qso L'.length qsc, .slice a8 (D.nm + 1) c8, .string qname, .bool qtrap, .bool false, .slice qlo D.lk.length qlc, .slice qwo D.ws.length qwc] rfl rfl 27 zeroP HZY.out.2 (infoPT rfl) rfl (by simp [Value.oneCell']) ?_
          have hR := HR9.out.turn HP.out HB1.out.1 ((chg_setRow w9 (w.heap.size + 1 + 1) #[.int .i64 qpid, .int .i64 qpar, .slice qso L'.length qsc, .slice a8 (D.nm + 1) c8, .string qname, .bool qtrap, .bool false, .slice qlo D.lk.length qlc, .slice qwo D.ws.length qwc]).mono (fun k _ e => by have e : k = w.heap.size + 1 + 1 := e; have := HB1.out.2.2.2.2; omega))
          have HF := Lib.hid (And.intro (setRow_heap w9 (w.heap.size + 1 + 1) zeroP #[.int .i64 qpid, .int .i64 qpar, .slice qso L'.length qsc, .slice a8 (D.nm + 1) c8, .string qname, .bool qtrap, .bool false, .slice qlo D.lk.length qlc, .slice qwo D.ws.length qwc] 27 (0, 0) HZY.out.2) hR)
          clear hR HR9 HZY
          generalize w9.setRow (w.heap.size + 1 + 1) #[.int .i64 qpid, .int .i64 qpar, .slice qso L'.length qsc, .slice a8 (D.nm + 1) c8, .string qname, .bool qtrap, .bool false, .slice qlo D.lk.length qlc, .slice qwo D.ws.length qwc] = wz at *
          go_wp2_with fail
          refine ret_cell_tmp HF.out.1 rfl Tryz.underlying27 rfl (infoPT rfl) rfl rfl ?_
          rw [HW.out]
          exact ⟨⟨qpid, qpar, .slice qso L'.length qsc, .slice a8 (D.nm + 1) c8, qname, qtrap, false, .slice qlo D.lk.length qlc, .slice qwo D.ws.length qwc⟩, _, rfl, ⟨HSM.out.1, HSM.out.2.1, HSM.out.2.2.1, HSM.out.2.2.2.1, rfl⟩, HF.out.2, rfl, rfl, rfl, rfl⟩
end Go.Proofs.YtemgnljegbaobaaGreatDoor
