/- what wakes comes to. No conditions. -/
import Derived.Test.YtemgnljegbaobaaGreatDoorNr
namespace Go.Proofs.YtemgnljegbaobaaGreatDoor
open Go.ChangeShapes Go.WideShapes Go.ChangeAt Go.RowKit
set_option linter.unusedVariables false
set_option linter.unusedSimpArgs false
set_option maxRecDepth 100000
theorem indexM_none (w : World) (ao : Option Addr) (c g : Nat) (lb : Array Value) : Calls Tryz.prog 56 #[.slice ao 0 c, .func (.func g) #[] lb] w (IntPost w (-1)) := by
  go_enter Tryz.func56, Tryz.ntmps56
  go_wp2_with fail
  go_loopw [8] (fun iv wr => iv = .int .i64 0 ∧ wr = w) (fun iv _ => (intOf iv).toNat)
  case atStart => exact ⟨rfl, rfl⟩
  case round =>
    obtain ⟨rfl, rfl⟩ := hrel
    go_wp2_with fail
    go_ret
    exact ⟨rfl, Below.refl _ _⟩
theorem containsM_none (w : World) (ao : Option Addr) (c g : Nat) (lb : Array Value) : Calls Tryz.prog 28 #[.slice ao 0 c, .func (.func g) #[] lb] w (IsPost w false) := by
  go_enter Tryz.func28, Tryz.ntmps28
  go_wp2_with fail
  refine (indexM_none w ao c g lb).mono ?_
  rintro e w2 ⟨rfl, hb⟩
  have HB := Lib.hid hb
  clear hb
  go_wp2_with fail
  go_ret
  exact ⟨rfl, HB.out⟩
theorem wpList_wanted {P : Program} {w : World} {ops : Array Oper} {rest : List Oper} {o : Oper} {a : Act} {Q : Exit → Act → World → Prop} (hw : Region.wanted o (yielded ops a.tmps) = true) (h : ∀ K : Act → World → Prop, (∀ a w, wpList P ops Q rest a w → K a w) → o.wp P a w K Q) : wpList P ops Q (o :: rest) a w :=
  wpList_step fun K hK => by rw [if_pos hw]; exact h K hK
/-- a frame of nothing -/
def X0 : Fx := ⟨0, 0, 0, 0, 0, 0, 0, [], [], [], [], [], [], []⟩
theorem X0.ok : X0.ok := ⟨by decide, by decide, by decide, by decide, by decide, by decide, by decide⟩
theorem frX0 (w : World) : FrX w fr0L X0 := ⟨rfl, (by simp [Value.oneCell']), ⟨_, rfl, Rw.nil w 5⟩, ⟨_, rfl, Rw.nil w 1⟩, ⟨_, rfl, Rw.nil w 5⟩, ⟨_, rfl, Rw.nil w 2⟩, ⟨_, rfl, Rw.nil w 13⟩, ⟨_, rfl, Rw.nil w 1⟩, ⟨_, rfl, Rw.nil w 1⟩⟩
theorem frN0 (k : Nat) : FrN k fr0L := by
  intro i hi v hv hk
  simp only [frRows, List.mem_cons, List.not_mem_nil, or_false] at hi
  rcases hi with rfl | rfl | rfl | rfl | rfl | rfl | rfl <;> (obtain rfl := Option.some.inj hv; cases hk)
/-- a process in a box -/
structure Bxd (w W : World) (tb : Nat) (p : Pv) (D : Pd) : Prop where
  hb : Below w.heap.size w W
  lt : w.heap.size ≤ tb
  hX : W.heap[tb]? = some (.cells p.cells 27 (0, 0))
  pr : PrX W p D.X
  ap : PrN tb p D.L
  ok : D.ok
theorem Bxd.keep {w W W' : World} {tb : Nat} {p : Pv} {D : Pd} (h : Bxd w W tb p D) (hb : Below W.heap.size W W') : Bxd w W' tb p D := ⟨h.hb.trans (hb.mono h.hb.size), h.lt, keep_heap h.hX hb, h.pr.keep hb, h.ap, h.ok⟩
/-- another process is put into the box -/
theorem Bxd.put {w W W2 W3 : World} {tb : Nat} {p q : Pv} {D D' : Pd} (h : Bxd w W tb p D) (hr : PrR W D W2 q D') (hb : Below W2.heap.size W2 W3) (hok : D'.ok) : Bxd w (W3.setRow tb q.cells) tb q D' := by
  have hl := heap_lt h.hX
  have hX3 := keep_heap (keep_heap h.hX hr.hb) hb
  have hn : PrN tb q D'.L := hr.ap tb hl h.ap.f
  have hb3 := h.hb.trans ((hr.hb.trans (hb.mono hr.hb.size)).mono h.hb.size)
  refine ⟨bel_setRow hb3 hb3.size h.lt _, h.lt, setRow_heap W3 tb _ q.cells 27 (0, 0) hX3, (hr.pr.keep hb).chg (chg_setRow W3 tb q.cells) (fun k e => by have e : k = tb := e; rw [e]; exact hn), hn, hok⟩
def lkAt : Nat → List Int
  | 0 => []
  | 1 => [5]
  | _ => [3, 5]
/-- the process of wakes -/
def WkD (p : Pv) (D : Pd) (lk : List Int) (ws : List (Int × Int)) : Prop := p.pid = 1 ∧ p.par = 0 ∧ p.name = ⟨#[]⟩ ∧ D.nm = 0 ∧ D.xm = [] ∧ D.lk = lk ∧ D.ws = ws ∧ D.L.length = 1
theorem Pd.ok.of {D D' : Pd} (h : D.ok) (hc : Cp D.L D'.L) (hm : D'.nm ≤ 1000) (hl : D'.lk.length ≤ 1000) (hw : D'.ws.length ≤ 1000) : D'.ok := ⟨by rw [hc.1]; exact h.hL, hc.ok h.hX, hm, hl, hw⟩
def nAt : Nat → Int
  | 1 => 3
  | _ => 5
theorem link_wk {w w' : World} {p : Pv} {D : Pd} {e : Ending} {i : Nat} (h : LinkP w p D (nAt i) e w') (hi : i < 3) (hw : WkD p D (lkAt i) []) (hok : D.ok) :
    ∃ q D', e = .returned (.tuple #[.agg q.cells, .int .i64 0]) ∧ PrR w D w' q D' ∧ WkD q D' (lkAt (i + 1)) [] ∧ D'.ok := by
  obtain ⟨h1, h2, h3, h4, h5, h6, h7, h8⟩ := hw
  have hn : ¬ (nAt i < 1 ∨ nAt i = p.pid) := by
    rw [h1]
    match i, hi with
    | 0, _ => decide
    | 1, _ => decide
    | 2, _ => decide
  unfold LinkP at h
  rw [if_neg hn] at h
  have go : ∀ {lk : List Int}, lk = lkAt (i + 1) → GivesP w p D p.wait (.int .i64 0) (fun D' => D'.nm = D.nm ∧ D'.xm = D.xm ∧ D'.lk = lk ∧ D'.ws = D.ws) e w' →
      ∃ q D', e = .returned (.tuple #[.agg q.cells, .int .i64 0]) ∧ PrR w D w' q D' ∧ WkD q D' (lkAt (i + 1)) [] ∧ D'.ok := by
    rintro lk rfl ⟨q, D', rfl, hsm, hpr, d1, d2, d3, d4⟩
    refine ⟨q, D', rfl, hpr, ⟨hsm.1.trans h1, hsm.2.1.trans h2, hsm.2.2.1.trans h3, d1.trans h4, d2.trans h5, d3, d4.trans h7, hpr.cp.1.trans h8⟩, hok.of hpr.cp (by rw [d1, h4]; omega) ?_ (by rw [d4, h7]; decide)⟩
    rw [d3]
    match i, hi with
    | 0, _ => decide
    | 1, _ => decide
    | 2, _ => decide
  match i, hi with
  | 0, _ =>
    rw [if_neg (by rw [h6]; decide), if_neg (by rw [h6]; decide)] at h
    exact go (by rw [h6]; decide) h
  | 1, _ =>
    rw [if_neg (by rw [h6]; decide), if_neg (by rw [h6]; decide)] at h
    exact go (by rw [h6]; decide) h
  | 2, _ =>
    rw [if_pos (by rw [h6]; decide)] at h
    exact go (by rw [h6]; decide) h
theorem watch_wk1 {w w' : World} {p : Pv} {D : Pd} {e : Ending} {lk : List Int} (h : WatchP w p D 9 5 e w') (hw : WkD p D lk []) (hok : D.ok) :
    ∃ q D', e = .returned (.tuple #[.agg q.cells, .int .i64 0]) ∧ PrR w D w' q D' ∧ WkD q D' lk [(9, 5)] ∧ D'.ok := by
  obtain ⟨h1, h2, h3, h4, h5, h6, h7, h8⟩ := hw
  unfold WatchP at h
  rw [if_neg (by rw [h7]; decide), if_neg (by rw [h7]; decide)] at h
  obtain ⟨q, D', rfl, hsm, hpr, d1, d2, d3, d4⟩ := h
  have d5 : D'.ws = [(9, 5)] := by rw [d4, h7]; decide
  exact ⟨q, D', rfl, hpr, ⟨hsm.1.trans h1, hsm.2.1.trans h2, hsm.2.2.1.trans h3, d1.trans h4, d2.trans h5, d3.trans h6, d5, hpr.cp.1.trans h8⟩, hok.of hpr.cp (by rw [d1, h4]; omega) (by rw [d3]; exact hok.hl) (by rw [d5]; decide)⟩
theorem watch_wk2 {w w' : World} {p : Pv} {D : Pd} {e : Ending} {lk : List Int} (h : WatchP w p D 9 6 e w') (hw : WkD p D lk [(9, 5)]) : e = .returned (.tuple #[.agg zeroP, .int .i64 2]) ∧ Below w.heap.size w w' := by
  obtain ⟨h1, h2, h3, h4, h5, h6, h7, h8⟩ := hw
  unfold WatchP at h
  rw [if_pos (by rw [h7]; decide)] at h
  exact h
theorem check_wk {p : Pv} {D : Pd} {own : Bool} (hw : WkD p D [3, 5] [(9, 5)]) (ho : Rises D.lk → (own = true ↔ p.pid ∈ D.lk)) : chkP p.pid p.par p.name D own false false = 0 := by
  obtain ⟨h1, h2, h3, h4, h5, h6, h7, h8⟩ := hw
  have hr : Rises D.lk := by rw [h6]; exact ((risesL_spec [3, 5] 0).1 (by decide)).2
  have hn : own = false := by
    have := ho hr
    rw [h1, h6] at this
    cases own
    · rfl
    · have h := this.1 rfl
      simp at h
  subst hn
  unfold chkP
  rw [h1, h2, h6, h7, h8]
  decide
set_option maxHeartbeats 16000000 in
theorem wakes_any (w : World) : Calls Tryz.prog 7 #[] w (IsPost w true) := by
  have q26 : ∀ (w : World) (a : Option Addr) (n c n' c' : Nat), (binOp .eql 24 (.slice a n c) (.slice none n' c')).run Tryz.prog w = .ok (.bool a.isNone) w := fun w a n c n' c' => Lib.run_eql_slice_nil w _ _ a n c n' c' Tryz.underlying24
  go_enter Tryz.func7, Tryz.ntmps7
  go_wp2_with fail
  refine (new_any w ⟨fr0L, X0⟩ (frX0 w) X0.ok).mono ?_
  rintro e w1 ⟨q, D, rfl, hsm, hpr, d1, d2, d3, d4⟩
  have hok : D.ok := ⟨by rw [hpr.cp.1]; decide, hpr.cp.ok (fun g hg => by obtain rfl := List.mem_singleton.1 hg; exact X0.ok), by rw [d1]; omega, by rw [d3]; decide, by rw [d4]; decide⟩
  have HD : Hid (WkD q D [] []) := Lib.hid ⟨hsm.1, hsm.2.1, hsm.2.2.1, d1, d2, d3, d4, hpr.cp.1⟩
  have HR := Lib.hid (And.intro hpr hok)
  clear hsm hpr d1 d2 d3 d4 hok
  go_wp2_with (with_reducible refine stop_op (o := ⟨_, .store 27 (.tmp 1) (.tmp 12), _, _, _, _⟩) ?_)
  refine Lib.hid ?_
  refine wpList_store_new (o := ⟨none, _, _, _, _, _⟩) rfl 27 (.tmp 1) (.tmp 12) rfl q.cells rfl rfl (infoPT rfl) rfl (Pv.one HR.out.1.pr) ?_
  have hb2 := (Below.refl w1.heap.size w1).alloc (Nat.le_refl _) (.cells q.cells 27)
  have HB2 : Hid (Bxd w (w1.alloc (.cells q.cells 27)) w1.heap.size q D) := Lib.hid ⟨HR.out.1.hb.trans (hb2.mono HR.out.1.hb.size), HR.out.1.hb.size, heap_new _ _, HR.out.1.pr.keep hb2, HR.out.1.pr.old (Nat.le_refl _), HR.out.2⟩
  clear hb2 HR
  generalize w1.alloc (.cells q.cells 27) = w2 at *
  generalize w1.heap.size = tb at *
  obtain ⟨qpid, qpar, qsv, qmv, qname, qtrap, qwait, qlv, qwv⟩ := q
  obtain ⟨qso, qsc, e1, -, -⟩ := HB2.out.pr.st.row.slice
  obtain ⟨qmo, qmc, e2, -, -⟩ := HB2.out.pr.ml.slice
  obtain ⟨qlo, qlc, e3, -, -⟩ := HB2.out.pr.lk.slice
  obtain ⟨qwo, qwc, e4, -, -⟩ := HB2.out.pr.wt.slice
  simp only [Pd.X] at e1 e2 e3 e4
  subst e1 e2 e3 e4
  obtain ⟨c2, -⟩ := cells_at HB2.out.hX 2 _ rfl
  obtain ⟨c7, -⟩ := cells_at HB2.out.hX 7 _ rfl
  have n1 : D.L.length = 1 := HD.out.2.2.2.2.2.2.2
  have n2 : D.lk.length = 0 := by rw [HD.out.2.2.2.2.2.1]; rfl
  go_wp2_with fail
  clear c2 c7 n1 n2
  have hb3 := (Below.refl w2.heap.size w2).alloc (Nat.le_refl _) (.cells #[.int .i64 5, .int .i64 3, .int .i64 5] 3)
  have hg3 := heap_new w2 (.cells #[.int .i64 5, .int .i64 3, .int .i64 5] 3)
  have HB3 := Lib.hid (And.intro (HB2.out.keep hb3) (And.intro HD.out hg3))
  clear hb3 hg3 HB2 HD
  generalize w2.alloc (.cells #[.int .i64 5, .int .i64 3, .int .i64 5] 3) = w3 at *
  generalize w2.heap.size = g at *
  go_loopw [30] (fun iv wr => ∃ i : Nat, i ≤ 3 ∧ iv = .int .i64 i ∧ Hid (∃ p D, Bxd w wr tb p D ∧ WkD p D (lkAt i) [] ∧ wr.heap[g]? = some (.cells #[.int .i64 5, .int .i64 3, .int .i64 5] 3 (0, 0)))) (fun iv _ => 3 - (intOf iv).toNat)
  case atStart => exact ⟨0, by omega, rfl, Lib.hid ⟨_, _, HB3.out⟩⟩
  case round =>
    obtain ⟨i, hi, rfl, HI⟩ := hrel
    clear HB3
    obtain ⟨p, D, HJ⟩ : ∃ p D, Hid (Bxd w wr tb p D ∧ WkD p D (lkAt i) [] ∧ wr.heap[g]? = some (.cells #[.int .i64 5, .int .i64 3, .int .i64 5] 3 (0, 0))) := by
      obtain ⟨p, D, h⟩ := HI.out
      exact ⟨p, D, Lib.hid h⟩
    clear HI
    by_cases hlt : i < 3
    · have hc : wr.cell? ⟨g, i, none⟩ = some (.int .i64 (nAt i)) := by
        match i, hlt with
        | 0, _ => exact (cells_at HJ.out.2.2 0 _ rfl).1
        | 1, _ => exact (cells_at HJ.out.2.2 1 _ rfl).1
        | 2, _ => exact (cells_at HJ.out.2.2 2 _ rfl).1
      have hd : decide ((i : Int) < 3) = true := decide_eq_true (by omega)
      generalize hx : nAt i = x at *
      go_wp2_with (with_reducible refine stop_op (o := ⟨_, .load 27 (.tmp 1), _, _, _, _⟩) ?_)
      refine Lib.hid ?_
      refine wpList_load_row (o := ⟨_, _, _, _, _, _⟩) rfl 27 (.tmp 1) rfl tb rfl 27 p.cells (0, 0) _ HJ.out.1.hX Tryz.underlying27 rfl (infoPT rfl) ?_
      clear hc
      go_wp2_with fail
      refine (link_any wr p D x HJ.out.1.pr HJ.out.1.ok).mono ?_
      rintro e w4 hlp
      subst hx
      obtain ⟨q, D', rfl, hpr, hwk, hok⟩ := link_wk hlp hlt HJ.out.2.1 HJ.out.1.ok
      have HQ := Lib.hid (And.intro hpr (And.intro hwk hok))
      clear hlp hpr hwk hok
      go_wp2_with (with_reducible refine stop_op (o := ⟨_, .store 27 (.tmp 5) (.tmp 38), _, _, _, _⟩) ?_)
      refine Lib.hid ?_
      refine wpList_store_new (o := ⟨none, _, _, _, _, _⟩) rfl 27 (.tmp 5) (.tmp 38) rfl q.cells rfl rfl (infoPT rfl) rfl (Pv.one HQ.out.1.pr) ?_
      have hb5 := (Below.refl w4.heap.size w4).alloc (Nat.le_refl _) (.cells q.cells 27)
      have HN5 := Lib.hid (And.intro (heap_new w4 (.cells q.cells 27)) hb5)
      clear hb5
      generalize w4.alloc (.cells q.cells 27) = w5 at *
      go_wp2_with (with_reducible refine stop_op (o := ⟨_, .load 27 (.tmp 5), _, _, _, _⟩) ?_)
      refine Lib.hid ?_
      refine wpList_load_row (o := ⟨_, _, _, _, _, _⟩) rfl 27 (.tmp 5) rfl w4.heap.size rfl 27 q.cells (0, 0) _ HN5.out.1 Tryz.underlying27 rfl (infoPT rfl) ?_
      go_wp2_with (with_reducible refine stop_op (o := ⟨_, .store 27 (.tmp 1) (.tmp 42), _, _, _, _⟩) ?_)
      refine Lib.hid ?_
      refine wpList_store_row (o := ⟨none, _, _, _, _, _⟩) rfl 27 (.tmp 1) (.tmp 42) rfl tb q.cells rfl rfl 27 p.cells (keep_heap (keep_heap HJ.out.1.hX HQ.out.1.hb) HN5.out.2) (infoPT rfl) rfl (Pv.one HQ.out.1.pr) ?_
      have HZ : Hid (Bxd w (w5.setRow tb q.cells) tb q D' ∧ WkD q D' (lkAt (i + 1)) [] ∧ (w5.setRow tb q.cells).heap[g]? = some (.cells #[.int .i64 5, .int .i64 3, .int .i64 5] 3 (0, 0))) :=
        Lib.hid ⟨HJ.out.1.put HQ.out.1 HN5.out.2 HQ.out.2.2, HQ.out.2.1, (chg_setRow w5 tb q.cells).heap (keep_heap (keep_heap HJ.out.2.2 HQ.out.1.hb) HN5.out.2) (fun e => by
          have e : g = tb := e
          have h1 := HJ.out.1.hX
          have h2 := HJ.out.2.2
          rw [e, h1] at h2
          injection h2 with h2
          injection h2 with h2 h3
          exact absurd h3 (by decide))⟩
      generalize w5.setRow tb q.cells = w6 at *
      clear HJ HQ HN5
      go_wp2_with fail
      go_roundw
      case rel => exact ⟨i + 1, hlt, by go_num, Lib.hid ⟨q, D', HZ.out⟩⟩
      case measure => simp [intOf]; omega
    · obtain rfl : i = 3 := by omega
      go_wp2_with (with_reducible refine stop_op (o := ⟨_, .load 27 (.tmp 1), _, _, _, _⟩) ?_)
      refine Lib.hid ?_
      refine wpList_load_row (o := ⟨_, _, _, _, _, _⟩) rfl 27 (.tmp 1) rfl tb rfl 27 p.cells (0, 0) _ HJ.out.1.hX Tryz.underlying27 rfl (infoPT rfl) ?_
      go_wp2_with fail
      refine (watch_any wr p D 9 5 HJ.out.1.pr HJ.out.1.ok).mono ?_
      rintro e w4 hlp
      obtain ⟨q, D', rfl, hpr, hwk, hok⟩ := watch_wk1 hlp HJ.out.2.1 HJ.out.1.ok
      have HQ := Lib.hid (And.intro hpr (And.intro hwk hok))
      clear hlp hpr hwk hok
      go_wp2_with (with_reducible refine stop_op (o := ⟨_, .store 27 (.tmp 1) (.tmp 47), _, _, _, _⟩) ?_)
      refine Lib.hid ?_
      refine wpList_store_row (o := ⟨none, _, _, _, _, _⟩) rfl 27 (.tmp 1) (.tmp 47) rfl tb q.cells rfl rfl 27 p.cells (keep_heap HJ.out.1.hX HQ.out.1.hb) (infoPT rfl) rfl (Pv.one HQ.out.1.pr) ?_
      have HZ : Hid (Bxd w (w4.setRow tb q.cells) tb q D' ∧ WkD q D' [3, 5] [(9, 5)]) := Lib.hid ⟨HJ.out.1.put HQ.out.1 (Below.refl _ _) HQ.out.2.2, HQ.out.2.1⟩
      generalize w4.setRow tb q.cells = w5 at *
      clear HJ HQ
      go_wp2_with (with_reducible refine stop_op (o := ⟨_, .load 27 (.tmp 1), _, _, _, _⟩) ?_)
      refine Lib.hid ?_
      refine wpList_load_row (o := ⟨_, _, _, _, _, _⟩) rfl 27 (.tmp 1) rfl tb rfl 27 q.cells (0, 0) _ HZ.out.1.hX Tryz.underlying27 rfl (infoPT rfl) ?_
      go_wp2_with fail
      refine (watch_any w5 q D' 9 6 HZ.out.1.pr HZ.out.1.ok).mono ?_
      rintro e w6 hlp
      obtain ⟨rfl, hb6⟩ := watch_wk2 hlp HZ.out.2
      have HZ6 := Lib.hid (HZ.out.1.keep hb6)
      clear hlp hb6
      go_wp2_with (with_reducible refine stop_op (o := ⟨_, .store 27 (.tmp 7) (.tmp 52), _, _, _, _⟩) ?_)
      refine Lib.hid ?_
      refine wpList_store_new (o := ⟨none, _, _, _, _, _⟩) rfl 27 (.tmp 7) (.tmp 52) rfl zeroP rfl rfl (infoPT rfl) rfl (by simp [Value.oneCell']) ?_
      have HZ7 := Lib.hid (HZ6.out.keep ((Below.refl w6.heap.size w6).alloc (Nat.le_refl _) (.cells zeroP 27)))
      generalize w6.alloc (.cells zeroP 27) = w7 at *
      clear HZ6
      have HW := Lib.hid HZ.out.2
      clear HZ
      obtain ⟨qpid, qpar, qsv, qmv, qname, qtrap, qwait, qlv, qwv⟩ := q
      obtain ⟨qlo, qlc, e3, hl1, hl2⟩ := HZ7.out.pr.lk.slice
      obtain ⟨qmo, qmc, e5, -, -⟩ := HZ7.out.pr.ml.slice
      simp only [Pd.X] at e3 e5 hl1
      subst e3 e5
      have n2 : D'.lk.length = 2 := by rw [HW.out.2.2.2.2.2.1]; rfl
      have n0 : D'.nm = 0 := HW.out.2.2.2.1
      have hrl := HZ7.out.pr.lk
      obtain ⟨-, b, off, e4, hcl⟩ := hrl.at (by show 0 < D'.lk.length; omega)
      subst e4
      have hc0 : w7.cell? ⟨b, off, none⟩ = some (.int .i64 3) := by
        have := hcl 0 (.int .i64 3) (by show (iv D'.lk)[0]? = _; rw [HW.out.2.2.2.2.2.1]; rfl)
        simpa using this
      obtain ⟨c7, -⟩ := cells_at HZ7.out.hX 7 _ rfl
      clear hrl hcl
      have hpr7 := HZ7.out.pr
      rw [n0, n2] at hpr7
      have HP7 := Lib.hid (And.intro hpr7 HZ7.out.ok)
      have HW7 : Hid (WkD ⟨qpid, qpar, qsv, .slice qmo 0 qmc, qname, qtrap, qwait, .slice (some ⟨b, off, none⟩) 2 qlc, qwv⟩ D' [3, 5] [(9, 5)]) := Lib.hid HW.out
      clear hpr7
      go_wp2_with (with_reducible refine stop_op (o := ⟨_, .load 27 (.tmp 1), _, _, _, _⟩) ?_)
      refine Lib.hid ?_
      refine wpList_wanted rfl fun K hK => wp_load_row 27 (.tmp 1) rfl tb rfl 27 _ (0, 0) _ HZ7.out.hX Tryz.underlying27 rfl (infoPT rfl) (hK _ _ ?_)
      clear c7 hc0
      go_wp2_with fail
      refine (checkp_any w7 ⟨qpid, qpar, qsv, .slice qmo 0 qmc, qname, qtrap, qwait, .slice (some ⟨b, off, none⟩) 2 qlc, qwv⟩ D' false false HP7.out.1 HP7.out.2 (fun _ => rfl) (fun hne => absurd HW7.out.2.2.1 hne) (fun W hW => containsM_none W _ _ _ _)).mono ?_
      rintro e w8 ⟨own, hown, rfl, hb8⟩
      have HC := Lib.hid (check_wk HW7.out hown)
      have HB8 := Lib.hid (HZ7.out.hb.trans (hb8.mono HZ7.out.hb.size))
      clear hown hb8
      rw [HC.out]
      go_wp2_with fail
      go_ret
      exact ⟨rfl, HB8.out⟩
end Go.Proofs.YtemgnljegbaobaaGreatDoor
