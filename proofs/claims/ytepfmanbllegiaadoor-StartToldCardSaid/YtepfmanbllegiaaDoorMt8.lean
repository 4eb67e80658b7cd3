/- start.list. Conditions: the records read, are not too many, their pids may be; the letters stand. -/
/- the unit's cells; stands. Conditions: what is handed over reads. -/
import Derived.Test.YtepfmanbllegiaaDoorMt6
import Derived.Test.YtepfmanbllegiaaDoorMt7
namespace Go.Proofs.YtepfmanbllegiaaDoor
open Go.ChangeShapes Go.WideShapes Go.ChangeAt Go.RowKit
set_option linter.unusedVariables false
set_option linter.unusedSimpArgs false
set_option maxRecDepth 100000
theorem infoRC {n : Nat} (h : n = 13) : (Tryd.prog.info? 46).map (·.size) = some n := by
  have : (Tryd.prog.info? 46).map (·.size) = some 13 := by kernel_rfl
  rw [this, h]
theorem oneV_ok {p : Int} (hp : p ≤ 576460752303423487) : okT (oneV p).t ∧ nT (oneV p).t = 1 := by
  unfold oneV
  split
  · rename_i h
    refine ⟨?_, rfl⟩
    show oneB 4 p ⟨#[]⟩ ⟨#[]⟩ 0 = true ∧ True
    refine ⟨?_, trivial⟩
    have h1 : bareB true false false false p ⟨#[]⟩ ⟨#[]⟩ 0 = true := by simp [bareB, show empty ⟨#[]⟩ = true by kernel_rfl]
    simp only [oneB]
    rw [h1]
    simp
    omega
  · exact ⟨⟨by kernel_rfl, trivial⟩, rfl⟩
theorem oneV_te (M : Nat → Prop) (w : World) {p : Int} (hp : p ≤ 576460752303423487) : TeOk M w (oneV p) := by
  unfold oneV
  split
  · exact numT_ok _ _ _ _ (by omega) (by omega)
  · exact atomT_ok _ _ _ (by decide)
/-- records' pids as terms -/
def pidsV (RL : List Rc) : List TE := RL.map fun r => oneV r.pid
def listT (RL : List Rc) : Tm := rebuild ((pidsV RL).map TE.t) nilT
theorem pids_ok : ∀ {RL : List Rc}, (∀ r ∈ RL, r.pid ≤ 576460752303423487) → okL ((pidsV RL).map TE.t) ∧ nL ((pidsV RL).map TE.t) = RL.length
  | [], _ => ⟨trivial, rfl⟩
  | r :: RL, h => by
    have h1 := oneV_ok (h r List.mem_cons_self)
    have h2 := pids_ok fun x hx => h x (List.mem_cons_of_mem _ hx)
    refine ⟨⟨h1.1, h2.1⟩, ?_⟩
    show nL ((oneV r.pid).t :: (pidsV RL).map TE.t) = _
    rw [nL, h1.2, h2.2, List.length_cons]
    omega
def TxP (M : Nat → Prop) (w : World) (t : Tm) (e : Ending) (w' : World) : Prop := ∃ x : TE, e = .returned (.agg #[.int .i8 x.k, .int .i64 x.n, .string x.s, .string x.u, .slice x.ao x.l.length x.cap]) ∧ x.t = t ∧ TeOk M w' x ∧ Below w.heap.size w w'
/-- where the loop stands -/
structure LsW (W w : World) (RL : List Rc) (ov : Value) (i : Nat) : Prop where
  hb : Below W.heap.size W w
  hz : w.heap[W.heap.size]? = some (.cells zT 27 (0, 0))
  ho : w.ownsRow (W.heap.size + 1) 27 5 ov i (tcs (pidsV (RL.take i)))
theorem LsW.keep {W w w' : World} {RL : List Rc} {ov : Value} {i : Nat} (h : LsW W w RL ov i) (hb : Below w.heap.size w w') : LsW W w' RL ov i := ⟨h.hb.trans (hb.mono h.hb.size), keep_heap h.hz hb, own_keep h.ho hb⟩
set_option maxHeartbeats 8000000 in
theorem list_any (M : Nat → Prop) (w : World) (hM : ∀ k, M k → k < w.heap.size) (hc : Cells w 0 letL) (s : Sl) (RL : List Rc) (h : RcAt M w s RL) (hp : ∀ r ∈ RL, r.pid ≤ 576460752303423487) (hl : RL.length ≤ 100) :
    Calls Tryd.prog 33 #[.slice s.o s.n s.c] w (TxP M w (listT RL)) := by
  have hsn := h.1
  have hb1 := (Below.refl w.heap.size w).alloc (Nat.le_refl _) (.cells zT 27)
  have H0 : Hid (LsW w (w.alloc (.cells zT 27)) RL (.slice none 0 0) 0) := Lib.hid ⟨hb1, heap_new w _, World.ownsRow_nil _ _ _ _⟩
  have HX := Lib.hid (And.intro hM (And.intro hc (And.intro h hp)))
  clear hb1 hM hc h hp
  obtain ⟨so, sn, sc⟩ := s
  have hsn : sn = RL.length := hsn
  subst hsn
  have HSC := Lib.hid HX.out.2.2.1.2.2.1
  go_enter Tryd.func33, Tryd.ntmps33
  go_wp2_with fail
  generalize w.alloc (.cells zT 27) = w1 at *
  go_loopw [4, 11] (fun ov iv wr => ∃ i : Nat, i ≤ RL.length ∧ iv = .int .i64 i ∧ Hid (LsW w wr RL ov i)) (fun _ iv _ => RL.length - (intOf iv).toNat)
  case atStart => exact ⟨0, Nat.zero_le _, rfl, H0⟩
  case round =>
    clear H0
    obtain ⟨i, hi, rfl, HI⟩ := hrel
    by_cases hlt : i < RL.length
    · obtain ⟨r, hr⟩ : ∃ r, RL[i]? = some r := ⟨RL[i], List.getElem?_eq_getElem hlt⟩
      obtain ⟨b, off, e, -, hcl⟩ := (HX.out.2.2.1.keep HI.out.hb).at hr
      have e : so = some ⟨b, off, none⟩ := e
      subst e
      have hrg : wr.rangeAt b (off + i * 13) r.cells := hcl
      have HR := Lib.hid (And.intro hrg hr)
      have hp := HX.out.2.2.2 r (List.mem_of_getElem? hr)
      clear hcl hrg hr
      go_wp2_with (with_reducible refine stop_op (o := ⟨_, .load 46 (.tmp 13), _, _, _, _⟩) ?_)
      refine Lib.hid ?_
      refine wpList_load_mid (op := ⟨_, _, _, _, _, _⟩) rfl 46 (.tmp 13) rfl b (off + i * 13) rfl r.cells _ HR.out.1 Tryd.underlying46 rfl (infoRC rfl) ?_
      go_wp2_with (with_reducible refine stop_op (o := ⟨_, .store 46 (.tmp 6) (.tmp 14), _, _, _, _⟩) ?_)
      refine Lib.hid ?_
      refine wpList_store_new (o := ⟨none, _, _, _, _, _⟩) rfl 46 (.tmp 6) (.tmp 14) rfl #[.int .i8 r.c.id.k, .int .i64 r.c.id.n, .string r.c.id.s, .string r.c.id.u, .slice r.c.id.ao r.c.id.l.length r.c.id.cap, .int .i8 r.c.ki, .int .i8 r.c.re, .int .i64 r.c.sh, .string r.c.m, .string r.c.f, .slice r.c.ao r.c.an r.c.ac, .slice r.c.so r.c.sn r.c.sc, .int .i64 r.pid] rfl rfl (infoRC rfl) rfl (all_oneCell_toArray (Rc.cells_one r)) ?_
      have hb2 := (Below.refl wr.heap.size wr).alloc (Nat.le_refl _) (.cells #[.int .i8 r.c.id.k, .int .i64 r.c.id.n, .string r.c.id.s, .string r.c.id.u, .slice r.c.id.ao r.c.id.l.length r.c.id.cap, .int .i8 r.c.ki, .int .i8 r.c.re, .int .i64 r.c.sh, .string r.c.m, .string r.c.f, .slice r.c.ao r.c.an r.c.ac, .slice r.c.so r.c.sn r.c.sc, .int .i64 r.pid] 46)
      have HI2 := Lib.hid (And.intro (HI.out.keep hb2) (heap_new wr (.cells #[.int .i8 r.c.id.k, .int .i64 r.c.id.n, .string r.c.id.s, .string r.c.id.u, .slice r.c.id.ao r.c.id.l.length r.c.id.cap, .int .i8 r.c.ki, .int .i8 r.c.re, .int .i64 r.c.sh, .string r.c.m, .string r.c.f, .slice r.c.ao r.c.an r.c.ac, .slice r.c.so r.c.sn r.c.sc, .int .i64 r.pid] 46)))
      clear hb2 HI
      generalize wr.alloc (.cells #[.int .i8 r.c.id.k, .int .i64 r.c.id.n, .string r.c.id.s, .string r.c.id.u, .slice r.c.id.ao r.c.id.l.length r.c.id.cap, .int .i8 r.c.ki, .int .i8 r.c.re, .int .i64 r.c.sh, .string r.c.m, .string r.c.f, .slice r.c.ao r.c.an r.c.ac, .slice r.c.so r.c.sn r.c.sc, .int .i64 r.pid] 46) = w2 at *
      generalize wr.heap.size = q at *
      go_wp2_with (with_reducible refine stop_op (o := ⟨_, .load 46 (.tmp 6), _, _, _, _⟩) ?_)
      refine Lib.hid ?_
      refine wpList_load_row (o := ⟨_, _, _, _, _, _⟩) rfl 46 (.tmp 6) rfl q rfl 46 #[.int .i8 r.c.id.k, .int .i64 r.c.id.n, .string r.c.id.s, .string r.c.id.u, .slice r.c.id.ao r.c.id.l.length r.c.id.cap, .int .i8 r.c.ki, .int .i8 r.c.re, .int .i64 r.c.sh, .string r.c.m, .string r.c.f, .slice r.c.ao r.c.an r.c.ac, .slice r.c.so r.c.sn r.c.sc, .int .i64 r.pid] (0, 0) _ HI2.out.2 Tryd.underlying46 rfl (infoRC rfl) ?_
      go_wp2_with fail
      refine (one1_x w2 r).mono ?_
      rintro e w3 ⟨rfl, hb3⟩
      have HI3 := Lib.hid (HI2.out.1.keep hb3)
      clear hb3 HI2
      generalize hx : oneV r.pid = x at *
      have HXE := Lib.hid hx
      clear hx
      have hb4 := (Below.refl w3.heap.size w3).alloc (Nat.le_refl _) (.cells #[.int .i8 x.k, .int .i64 x.n, .string x.s, .string x.u, .slice x.ao x.l.length x.cap] 27)
      have HI4 := Lib.hid (And.intro (HI3.out.keep hb4) (heap_new w3 (.cells #[.int .i8 x.k, .int .i64 x.n, .string x.s, .string x.u, .slice x.ao x.l.length x.cap] 27)))
      have HB4 := Lib.hid hb4
      have HZ4 := Lib.hid (show w.heap.size + 1 ≤ (w3.alloc (.cells #[.int .i8 x.k, .int .i64 x.n, .string x.s, .string x.u, .slice x.ao x.l.length x.cap] 27)).heap.size by have := heap_lt HI3.out.hz; have := hb4.size; omega)
      clear hb4
      simp only [TE.cells, TE.lv]
      obtain ⟨i0, z0, q1, q2, q3, q4, q5⟩ := infoTM2
      go_wp2_with (at_builtin; refine stop_here ?_)
      refine Lib.hid ?_
      refine wpList_append_own2 rfl (.tmp 15) (.tmp 19) 23 rfl (w.heap.size + 1) 27 i0 z0 5 72 Tryd.underlying23 q1 q2 q3 q4 q5 (by decide) _ i (tcs (pidsV (RL.take i))) rfl HI4.out.1.ho ⟨w3.heap.size, 0, none⟩ 1 1 x.cells rfl rfl (fun q u hq => by
        rw [Addr.add_lit, Nat.zero_add]
        exact (cells_at HI4.out.2 q u (by simpa [TE.cells, TE.lv] using hq)).1) (by simp [Value.oneCell', TE.cells, TE.lv]) (by unfold maxLen; omega) (by omega) HZ4.out ?_
      intro v5 w5 hown5 hg5 hwh5
      have hba := own_base HI4.out.1.ho
      have hc5 := chg_grown hg5
      have HNEW : Hid (LsW w w5 RL v5 (i + 1)) := Lib.hid ⟨HI4.out.1.hb.trans (hc5.below HI4.out.1.hb.size fun k e => by have := hba k e.symm; omega), hc5.heap HI4.out.1.hz (fun e => by have := hba _ e.symm; omega), by
        have e : pidsV (RL.take (i + 1)) = pidsV (RL.take i) ++ [x] := by
          rw [List.take_add_one, HR.out.2, ← HXE.out]
          simp [pidsV]
        rw [e, tcs_snoc]
        exact hown5⟩
      clear hown5 hg5 hwh5 hba hc5 HI4 HB4 HZ4 HI3
      go_wp2_with fail
      go_roundw
      case rel => exact ⟨i + 1, by omega, by go_num, HNEW⟩
      case measure => simp [intOf]; omega
    · obtain rfl : i = RL.length := by omega
      have hok := pids_ok HX.out.2.2.2
      have hM1 : ∀ k, (M k ∨ k = w.heap.size) → k < w.heap.size + 1 := fun k hk => by
        rcases hk with hk | hk
        · have := HX.out.1 k hk
          omega
        · omega
      have hlen : (pidsV RL).length = RL.length := by simp [pidsV]
      have hpt : ((pidsV RL).map TE.t).length = RL.length := by simp [pidsV]
      have hown := HI.out.ho
      rw [List.take_length] at hown
      have hT := tes_own (fun k => M k ∨ k = w.heap.size) wr (w.heap.size + 1) _ (pidsV RL) RL.length hlen.symm hown hM1 (fun x hx => by
        obtain ⟨r, hr, rfl⟩ := List.mem_map.1 hx
        exact oneV_te _ _ (HX.out.2.2.2 r hr))
      obtain ⟨F, hF⟩ := hT.rowS
      obtain ⟨ao, cap, rfl⟩ := own_slice hown
      have hno : ao = none → cap = 0 := fun e => by
        rcases hown.2 with ⟨e1, -⟩ | ⟨g, c, cur, e1, -⟩
        · injection e1
        · rw [e] at e1
          cases e1
      have hfl := fromlist_any (fun k => ¬ (M k ∨ k = w.heap.size) ∧ k < wr.heap.size) F ((pidsV RL).map TE.t) ao cap wr (fun k hk => hk.2) (keepCells HX.out.2.1 HI.out.hb) (by rw [hpt]; exact hF) hno hok.1 (by rw [hok.2, hpt]; omega)
      rw [hpt] at hfl
      have HFL := Lib.hid hfl
      clear hok hM1 hlen hpt hown hT hF hno hfl
      go_wp2_with fail
      refine HFL.out.mono ?_
      clear HFL
      rintro e w2 ⟨hb2, x, G, rfl, hxt, hxf, hxr⟩
      have HX2 : Hid (TeOk (fun k => M k ∨ k = w.heap.size) w2 x ∧ x.t = listT RL) := Lib.hid ⟨⟨hxf, G, hxr.chg (S' := Av (fun k => M k ∨ k = w.heap.size)) (Chg.refl (fun _ => False) w2) (fun _ _ _ h => h) (fun k hk _ hm => by
        rcases hk with hk | hk
        · exact hk.1 hm
        · have := HI.out.hb.size
          rcases hm with hm | hm
          · have := HX.out.1 k hm
            omega
          · omega) (Nat.le_refl _)⟩, hxt⟩
      have HI2 := Lib.hid (And.intro (HI.out.hb.trans (hb2.mono HI.out.hb.size)) (keep_heap HI.out.hz hb2))
      clear hb2 hxt hxf hxr HI
      simp only [TE.cells]
      go_wp2_with (with_reducible refine stop_op (o := ⟨_, .store 27 (.tmp 7) (.tmp 25), _, _, _, _⟩) ?_)
      refine Lib.hid ?_
      refine wpList_store_new (o := ⟨none, _, _, _, _, _⟩) rfl 27 (.tmp 7) (.tmp 25) rfl #[.int .i8 x.k, .int .i64 x.n, .string x.s, .string x.u, .slice x.ao x.l.length x.cap] rfl rfl (infoTM' _ rfl) rfl (by simp [Value.oneCell']) ?_
      have hb3 := (Below.refl w2.heap.size w2).alloc (Nat.le_refl _) (.cells #[.int .i8 x.k, .int .i64 x.n, .string x.s, .string x.u, .slice x.ao x.l.length x.cap] 27)
      have HI3 := Lib.hid (And.intro (HI2.out.1.trans (hb3.mono HI2.out.1.size)) (keep_heap HI2.out.2 hb3))
      have HX3 := Lib.hid (And.intro (HX2.out.1.keep hb3) HX2.out.2)
      obtain ⟨y0, y1, y2, y3, y4⟩ := BxS.of (x := x) (heap_new w2 (.cells #[.int .i8 x.k, .int .i64 x.n, .string x.s, .string x.u, .slice x.ao x.l.length x.cap] 27))
      clear hb3 HI2 HX2
      generalize w2.alloc (.cells #[.int .i8 x.k, .int .i64 x.n, .string x.s, .string x.u, .slice x.ao x.l.length x.cap] 27) = w3 at *
      generalize w2.heap.size = q at *
      go_wp2_with (with_reducible refine stop_op (o := ⟨_, .store 27 (.tmp 2) (.tmp 27), _, _, _, _⟩) ?_)
      refine Lib.hid ?_
      refine wpList_store_row (o := ⟨none, _, _, _, _, _⟩) rfl 27 (.tmp 2) (.tmp 27) rfl (w.heap.size) #[.int .i8 x.k, .int .i64 x.n, .string x.s, .string x.u, .slice x.ao x.l.length x.cap] rfl rfl 27 zT (HI3.out.2) (infoTM' _ rfl) rfl (by simp [Value.oneCell']) ?_
      have hc4 := chg_setRow w3 w.heap.size #[.int .i8 x.k, .int .i64 x.n, .string x.s, .string x.u, .slice x.ao x.l.length x.cap]
      have HZ := Lib.hid (And.intro (setRow_heap w3 w.heap.size zT #[.int .i8 x.k, .int .i64 x.n, .string x.s, .string x.u, .slice x.ao x.l.length x.cap] 27 (0, 0) HI3.out.2) (And.intro (bel_setRow HI3.out.1 HI3.out.1.size (Nat.le_refl _) #[.int .i8 x.k, .int .i64 x.n, .string x.s, .string x.u, .slice x.ao x.l.length x.cap]) (HX3.out.1.chg (M' := M) hc4 (fun k e _ => .inr e) (fun k hk _ => .inl hk))))
      generalize w3.setRow w.heap.size #[.int .i8 x.k, .int .i64 x.n, .string x.s, .string x.u, .slice x.ao x.l.length x.cap] = w4 at *
      clear hc4 HI3 y0 y1 y2 y3 y4
      go_wp2_with fail
      exact ret_cell HZ.out.1 rfl Tryd.underlying27 rfl (infoTM' _ rfl) rfl ⟨x, rfl, HX3.out.2, HZ.out.2.2, HZ.out.2.1⟩
end Go.Proofs.YtepfmanbllegiaaDoor
namespace Go.Proofs.YtepfmanbllegiaaDoor
open Go.ChangeShapes Go.WideShapes Go.ChangeAt Go.RowKit
set_option linter.unusedVariables false
set_option linter.unusedSimpArgs false
set_option maxRecDepth 100000
def unL (m : Mm) (i : Im) : List Value := mmL m ++ imL i
theorem unL_len (m : Mm) (i : Im) : (unL m i).length = 38 := rfl
/-- a step of the unit -/
def UnP (w : World) (ub : Nat) (ev : Value) (cs' : List Value) (bi' : Bool) (E' : List Ef) (e : Ending) (w' : World) : Prop :=
  (∃ v, e = .returned v) ∧ ∃ ev', UnOk w' ub cs' ev' bi' E' ∧ Chg (UnB ub ev) w w' ∧ (∀ k, k < w.heap.size → ev'.ownBlock = some k → ev.ownBlock = some k)
theorem un_trans {w w1 w2 : World} {ub : Nat} {ev ev1 : Value} (h1 : Chg (UnB ub ev) w w1) (hn : ∀ k, k < w.heap.size → ev1.ownBlock = some k → ev.ownBlock = some k) (h2 : Chg (UnB ub ev1) w1 w2) : Chg (UnB ub ev) w w2 := by
  have a := h1.mono (T := fun k => UnB ub ev k ∨ w.heap.size ≤ k) fun k _ h => .inl h
  have b := h2.mono (T := fun k => UnB ub ev k ∨ w.heap.size ≤ k) fun k _ h => by
    rcases h with h | h
    · exact .inl (.inl h)
    · by_cases hk : k < w.heap.size
      · exact .inl (.inr (hn k hk h))
      · exact .inr (by omega)
  exact (a.trans b).mono fun k hk h => h.resolve_right (by omega)
theorem UnOk.set {w : World} {ub : Nat} {cs : List Value} {ev : Value} {bi : Bool} {E : List Ef} (h : UnOk w ub cs ev bi E) (i : Nat) (v : Value) (hi : i < 38) : UnOk (w.setCell ⟨ub, i, none⟩ v) ub (cs.set i v) ev bi E := by
  refine ⟨?_, by rw [List.length_set]; exact h.hcs, own_chg h.hown (chg_set (p := ⟨ub, i, none⟩) v) fun k hk e => ?_⟩
  · rw [set_at h.hU]
    congr 2
    apply Array.ext'
    rw [Array.toList_setIfInBounds]
    show (cs ++ [ev, .bool bi]).set i v = _
    rw [List.set_append_left _ _ (by rw [h.hcs]; exact hi)]
  · have e : k = ub := e
    have := own_base h.hown k hk
    omega
theorem UnOk.setI {w : World} {ub : Nat} {cs : List Value} {ev : Value} {bi : Bool} {E : List Ef} (h : UnOk w ub cs ev bi E) (b : Bool) : UnOk (w.setCell ⟨ub, 39, none⟩ (.bool b)) ub cs ev b E := by
  refine ⟨?_, h.hcs, own_chg h.hown (chg_set (p := ⟨ub, 39, none⟩) _) fun k hk e => ?_⟩
  · rw [set_at h.hU]
    congr 2
    apply Array.ext'
    rw [Array.toList_setIfInBounds]
    show (cs ++ [ev, .bool bi]).set 39 _ = _
    rw [List.set_append_right _ _ (by rw [h.hcs]; omega), h.hcs]
    rfl
  · have e : k = ub := e
    have := own_base h.hown k hk
    omega
theorem UnOk.idle {w : World} {ub : Nat} {cs : List Value} {ev : Value} {bi : Bool} {E : List Ef} (h : UnOk w ub cs ev bi E) : w.cell? ⟨ub, 39, none⟩ = some (.bool bi) ∧ w.frozen? ⟨ub, 39, none⟩ = false := by
  refine cells_at h.hU 39 (.bool bi) ?_
  rw [List.getElem?_toArray, List.getElem?_append_right (by rw [h.hcs]; omega), h.hcs]
  rfl
theorem UnOk.setL {ub : Nat} {ev : Value} {bi : Bool} {E : List Ef} : ∀ (vs : List Value) (o : Nat) {w : World} {cs : List Value}, UnOk w ub cs ev bi E → o + vs.length ≤ 38 → UnOk (w.setCells ub o vs) ub (setL cs o vs) ev bi E
  | [], _, _, _, h, _ => h
  | v :: r, o, w, cs, h, hl => by
    simp only [List.length_cons] at hl
    exact UnOk.setL r (o + 1) (h.set o v (by omega)) (by omega)
theorem UnOk.there {w : World} {ub : Nat} {cs : List Value} {ev : Value} {bi : Bool} {E : List Ef} (h : UnOk w ub cs ev bi E) {o n : Nat} (hn : o + n ≤ 38) : w.there ub o n :=
  there_of h.hU (by rw [List.length_append, h.hcs]; show o + n ≤ 38 + 2; omega)
theorem UnOk.frozen {w : World} {ub : Nat} {cs : List Value} {ev : Value} {bi : Bool} {E : List Ef} (h : UnOk w ub cs ev bi E) {i : Nat} {v : Value} (hv : cs[i]? = some v) : w.frozen? ⟨ub, i, none⟩ = false := by
  have hi : i < cs.length := (List.getElem?_eq_some_iff.1 hv).1
  exact (cells_at h.hU i v (by rw [List.getElem?_toArray, List.getElem?_append_left hi]; exact hv)).2
theorem UnOk.chg {S : Nat → Prop} {w w' : World} {ub : Nat} {cs : List Value} {ev : Value} {bi : Bool} {E : List Ef} (h : UnOk w ub cs ev bi E) (hc : Chg S w w') (hu : ¬ S ub) (he : ∀ k, ev.ownBlock = some k → ¬ S k) : UnOk w' ub cs ev bi E :=
  ⟨hc.heap h.hU hu, h.hcs, own_chg h.hown hc he⟩
/-- a step within a step -/
theorem UnP.after {w w1 : World} {ub : Nat} {ev ev1 : Value} {cs' : List Value} {bi' : Bool} {E' : List Ef} {e : Ending} {w' : World} (h : UnP w1 ub ev1 cs' bi' E' e w') (h1 : Chg (UnB ub ev) w w1) (hn : ∀ k, k < w.heap.size → ev1.ownBlock = some k → ev.ownBlock = some k) : UnP w ub ev cs' bi' E' e w' := by
  obtain ⟨hv, ev', hu, hc, hb⟩ := h
  exact ⟨hv, ev', hu, un_trans h1 hn hc, fun k hk e => hn k hk (hb k (Nat.lt_of_lt_of_le hk h1.size) e)⟩
/-- M, and the unit's blocks -/
abbrev MU (M : Nat → Prop) (ub : Nat) (ev : Value) : Nat → Prop := fun k => M k ∨ UnB ub ev k
theorem mu_lt {M : Nat → Prop} {w : World} {ub : Nat} {cs : List Value} {ev : Value} {bi : Bool} {E : List Ef} (h : UnOk w ub cs ev bi E) (hM : ∀ k, M k → k < w.heap.size) : ∀ k, MU M ub ev k → k < w.heap.size := fun k hk => by
  rcases hk with hk | hk | hk
  · exact hM k hk
  · rw [hk]; exact heap_lt h.hU
  · exact own_lt h.hown (Nat.le_refl _) k hk
theorem un_te {M : Nat → Prop} {w w' : World} {ub : Nat} {ev ev' : Value} {x : TE} (hc : Chg (UnB ub ev) w w') (hn : ∀ k, k < w.heap.size → ev'.ownBlock = some k → ev.ownBlock = some k) (h : TeOk (MU M ub ev) w x) : TeOk (MU M ub ev') w' x :=
  h.chg hc (fun k hk _ => .inr hk) (fun k hk hl => hk.imp id (fun h => h.imp id (hn k hl)))
theorem let_chg {S : Nat → Prop} {w w' : World} (h : Cells w 0 letL) (hc : Chg S w w') (hl : ¬ S 0) : Cells w' 0 letL := fun j r hj => ⟨hc.cell (h j r hj).1 hl, hc.cell (h j r hj).2 hl⟩
theorem setU (m : Mm) (i : Im) (x : TE) : setL (unL m i) 10 [.int .i8 x.k, .int .i64 x.n, .string x.s, .string x.u, .slice x.ao x.l.length x.cap] = unL { m with U := x } i := rfl
/-- an owned row, one of its cells put otherwise -/
theorem own_set {w : World} {base e size n g j : Nat} {v u : Value} {xs : List Value} (h : w.ownsRow base e size v n xs) (hg : v.ownBlock = some g) (hj : j < n * size) : (w.setCell ⟨g, j, none⟩ u).ownsRow base e size v n (xs.set j u) := by
  refine ⟨by rw [List.length_set]; exact h.1, ?_⟩
  rcases h.2 with ⟨rfl, -⟩ | ⟨g', c, cur, rfl, hb, hh, h1, h2, h3, h4⟩
  · cases hg
  · injection hg with hg
    subst hg
    refine .inr ⟨g', c, cur.setIfInBounds j u, rfl, hb, set_at hh u, h1, h2, by simpa using h3, ?_⟩
    rw [Array.toList_setIfInBounds, List.take_set, h4]
theorem own_cell {w : World} {base e size n g j : Nat} {v u : Value} {xs : List Value} (h : w.ownsRow base e size v n xs) (hg : v.ownBlock = some g) (hj : xs[j]? = some u) : w.cell? ⟨g, j, none⟩ = some u ∧ w.frozen? ⟨g, j, none⟩ = false := by
  rcases h.2 with ⟨rfl, -⟩ | ⟨g', c, cur, rfl, hb, hh, h1, h2, h3, h4⟩
  · cases hg
  · injection hg with hg
    subst hg
    refine cells_at hh j u ?_
    rw [← h4, List.getElem?_take] at hj
    split at hj
    · rw [← Array.getElem?_toList]
      exact hj
    · cases hj
theorem rcs_set : ∀ (L : List Rc) (i : Nat) (r : Rc) (p : Int), L[i]? = some r → (rcs L).set (i * 13 + 12) (.int .i64 p) = rcs (L.set i ⟨r.c, p⟩)
  | [], i, r, p, h => by simp at h
  | x :: L, 0, r, p, h => by
    simp at h
    subst h
    rfl
  | x :: L, i + 1, r, p, h => by
    have e : rcs (x :: L) = x.cells ++ rcs L := rfl
    have e2 : rcs ((x :: L).set (i + 1) ⟨r.c, p⟩) = x.cells ++ rcs (L.set i ⟨r.c, p⟩) := rfl
    rw [e, e2, List.set_append_right _ _ (by rw [Rc.cells_len]; omega), Rc.cells_len, show (i + 1) * 13 + 12 - 13 = i * 13 + 12 by omega, rcs_set L i r p (by simpa using h)]
/-- the machine's own records -/
def RcOwn (w : World) (ub : Nat) (s : Sl) (L : List Rc) : Prop := w.ownsRow (ub + 1) 46 13 (.slice s.o s.n s.c) L.length (rcs L)
theorem RcOwn.len {w : World} {ub : Nat} {s : Sl} {L : List Rc} (h : RcOwn w ub s L) : s.n = L.length := by
  obtain ⟨ao, c, e⟩ := own_slice h
  injection e
theorem RcOwn.at {M : Nat → Prop} {w : World} {ub : Nat} {s : Sl} {L : List Rc} (h : RcOwn w ub s L) (hM : ∀ k, (Value.slice s.o s.n s.c).ownBlock = some k → ¬ M k) : RcAt M w s L := by
  obtain ⟨so, sn, sc⟩ := s
  rcases h.2 with ⟨e, h0⟩ | ⟨g, c, cur, e, hb, hh, h1, h2, h3, h4⟩
  · injection e with e1 e2 e3
    subst e1 e2 e3
    have : L = [] := List.length_eq_zero_iff.1 h0
    subst this
    exact ⟨rfl, Nat.le_refl _, Nat.zero_le _, .inl rfl⟩
  · injection e with e1 e2 e3
    subst e1 e2 e3
    exact ⟨rfl, h1, by unfold maxLen at h2; omega, .inr ⟨g, 0, rfl, hM g rfl, fun j u hj => by rw [Nat.zero_add]; exact (own_cell h rfl hj).1⟩⟩
theorem RcAt.take {M : Nat → Prop} {w : World} {s : Sl} {L : List Rc} (h : RcAt M w s L) {n : Nat} (hn : n ≤ L.length) : RcAt M w ⟨s.o, n, s.c⟩ (L.take n) := by
  obtain ⟨h1, h2, h3, h4⟩ := h
  refine ⟨by show n = _; rw [List.length_take]; omega, by show _ ≤ s.c; rw [List.length_take]; omega, h3, ?_⟩
  rcases h4 with h4 | ⟨b, off, e, hb, hcl⟩
  · left; rw [h4]; simp
  · refine .inr ⟨b, off, e, hb, fun j u hj => hcl j u ?_⟩
    have e2 : rcs L = rcs (L.take n) ++ rcs (L.drop n) := by
      unfold rcs
      rw [← List.flatMap_append, List.take_append_drop]
    rw [e2, List.getElem?_append_left (List.getElem?_eq_some_iff.1 hj).1]
    exact hj
def StS (ub : Nat) (rv : Value) (n : Int) (W : World) : Prop := W.cell? ⟨ub, 20, none⟩ = some rv ∧ W.cell? ⟨ub, 4, none⟩ = some (.int .i64 n)
def StaP (w : World) (ub rb : Nat) (m : Mm) (i : Im) (ev : Value) (bi : Bool) (E : List Ef) (RL : List Rc) (N : Nat) (p : Int) (e : Ending) (w' : World) : Prop :=
  (∃ v, e = .returned v) ∧ UnOk w' ub (unL { m with ph := 0, n := m.n + 1 } i) ev bi E ∧ Chg (fun k => k = ub ∨ k = rb) w w' ∧ ∃ r, RL[N]? = some r ∧ RcOwn w' ub m.rs (RL.set N ⟨r.c, p⟩)
set_option maxHeartbeats 4000000 in
theorem stands_any (w : World) (ub rb : Nat) (m : Mm) (i : Im) (ev : Value) (bi : Bool) (E : List Ef) (h : UnOk w ub (unL m i) ev bi E) (RL : List Rc) (hr : RcOwn w ub m.rs RL) (N : Nat) (hN : m.n = (N : Int)) (hl : N < RL.length) (hm : RL.length ≤ 100000) (hb : m.rs.o = some ⟨rb, 0, none⟩)
    (hev : ev.ownBlock ≠ some rb) (p : Int) : Calls Tryd.prog 34 #[.pointer (some ⟨ub, 0, none⟩), .int .i64 p] w (StaP w ub rb m i ev bi E RL N p) := by
  obtain ⟨r, hri⟩ : ∃ r, RL[N]? = some r := ⟨RL[N], List.getElem?_eq_getElem hl⟩
  have hob : (Value.slice m.rs.o m.rs.n m.rs.c).ownBlock = some rb := by rw [hb]; rfl
  have hne : rb ≠ ub := by
    have := own_base hr rb hob
    omega
  have hdr : Below w.heap.size w w.drew := (Below.refl _ _).drew
  have hu := h.keep hdr
  have hr1 : RcOwn w.drew ub m.rs RL := own_keep hr hdr
  have hsn : m.rs.n = RL.length := hr.len
  have hS : StS ub (.slice (some ⟨rb, 0, none⟩) RL.length m.rs.c) (N : Int) w.drew := ⟨by rw [← hb, ← hsn]; exact hu.cell (i := 20) rfl, by rw [← hN]; exact hu.cell (i := 4) rfl⟩
  have hix : (N : Int) < (RL.length : Int) := by omega
  have hi0 : (0 : Int) ≤ (N : Int) := by omega
  have hcl := own_cell hr1 hob (show (rcs RL)[N * 13 + 12]? = some (.int .i64 r.pid) by rw [rcs_at RL N 12 r hri (by decide)]; rfl)
  have HH := Lib.hid (And.intro hu (And.intro hr1 (And.intro hri (And.intro hob (And.intro hne (And.intro hev (And.intro hN hdr)))))))
  clear h hr hdr hu hr1 hri hob hne hev hN hb hsn
  go_enter Tryd.func34, Tryd.ntmps34
  go_wp2_with fail
  refine region_plan (StS ub (.slice (some ⟨rb, 0, none⟩) RL.length m.rs.c) (N : Int)) [(0, 0), (1, 0), (2, 0), (3, 0), (4, 0), (5, 0), (6, 0), (7, 0), (8, 0), (9, 0), (10, 0), (11, 0), (12, 0), (13, 1)] (by kernel_rfl) (by kernel_rfl) (by kernel_rfl) hS ?_
  generalize w.drew = WD at *
  iterate 13 (first | (refine plan_skip rfl ?_ ?_; (focus (rfl)); (try simp only [Act.put, List.setIfInBounds_toArray, List.set_cons_zero, List.set_cons_succ])) | (refine plan_take (v := ?_) rfl ?_ (fun w hSw => ?_) ?_; rotate_left; (focus (rfl)); (focus (unfold StS at hSw; (go_simp <;> with_reducible rfl))); (try simp only [Act.put, List.setIfInBounds_toArray, List.set_cons_zero, List.set_cons_succ])))
  obtain ⟨x0, f0⟩ := hcl
  refine plan_run rfl ?_ (fun K hK => ?_)
  focus (rfl)
  go_simp
  have hc1 : Chg (fun k => k = rb) WD (WD.setCell ⟨rb, N * 13 + 12, none⟩ (.int .i64 p)) := chg_set (p := ⟨rb, N * 13 + 12, none⟩) _
  have hS1 : StS ub (.slice (some ⟨rb, 0, none⟩) RL.length m.rs.c) (N : Int) (WD.setCell ⟨rb, N * 13 + 12, none⟩ (.int .i64 p)) := ⟨hc1.cell hS.1 (fun e => HH.out.2.2.2.2.1 e.symm), hc1.cell hS.2 (fun e => HH.out.2.2.2.2.1 e.symm)⟩
  refine hK.out _ _ (hS1) ?_
  clear hK K
  (try simp only [Act.put, List.setIfInBounds_toArray, List.set_cons_zero, List.set_cons_succ])
  refine plan_done ?_
  have hr2 : RcOwn (WD.setCell ⟨rb, N * 13 + 12, none⟩ (.int .i64 p)) ub m.rs (RL.set N ⟨r.c, p⟩) := by
    have h := own_set (u := .int .i64 p) HH.out.2.1 HH.out.2.2.2.1 (show N * 13 + 12 < RL.length * 13 by omega)
    rw [rcs_set RL N r p HH.out.2.2.1] at h
    unfold RcOwn
    rw [List.length_set]
    exact h
  have hu2 := HH.out.1.chg hc1 (fun e => HH.out.2.2.2.2.1 e.symm) (fun k hk e => HH.out.2.2.2.2.2.1 (by rw [hk]; exact congrArg some e))
  have x4 : (WD.setCell ⟨rb, N * 13 + 12, none⟩ (.int .i64 p)).cell? ⟨ub, 4, none⟩ = some (.int .i64 N) := by rw [← HH.out.2.2.2.2.2.2.1]; exact hu2.cell (i := 4) rfl
  have f4 : (WD.setCell ⟨rb, N * 13 + 12, none⟩ (.int .i64 p)).frozen? ⟨ub, 4, none⟩ = false := hu2.frozen (i := 4) (v := .int .i64 m.n) rfl
  have x0' : (WD.setCell ⟨rb, N * 13 + 12, none⟩ (.int .i64 p)).cell? ⟨ub, 0, none⟩ = some (.int .i8 m.ph) := hu2.cell (i := 0) rfl
  have f0' : (WD.setCell ⟨rb, N * 13 + 12, none⟩ (.int .i64 p)).frozen? ⟨ub, 0, none⟩ = false := hu2.frozen (i := 0) (v := .int .i8 m.ph) rfl
  have hw : IntKind.i64.wrap ((N : Int) + 1) = (N : Int) + 1 := IntWalk.i64_in _ (by omega)
  have HW := Lib.hid (And.intro hr2 (And.intro hu2 hc1))
  clear hr2 hu2 hc1 hS hS1 x0 f0
  generalize WD.setCell ⟨rb, N * 13 + 12, none⟩ (.int .i64 p) = W1 at *
  go_wp2_with fail
  go_end0
  have hu3 := (HW.out.2.1.set 4 (.int .i64 ((N : Int) + 1)) (by decide)).set 0 (.int .i8 0) (by decide)
  have e3 : ((unL m i).set 4 (.int .i64 ((N : Int) + 1))).set 0 (.int .i8 0) = unL { m with ph := 0, n := m.n + 1 } i := by rw [HH.out.2.2.2.2.2.2.1]; rfl
  rw [e3] at hu3
  have hc4 : Chg (fun k => k = ub) W1 (W1.setCell ⟨ub, 4, none⟩ (.int .i64 ((N : Int) + 1))) := chg_set (p := ⟨ub, 4, none⟩) _
  have hc5 : Chg (fun k => k = ub) (W1.setCell ⟨ub, 4, none⟩ (.int .i64 ((N : Int) + 1))) ((W1.setCell ⟨ub, 4, none⟩ (.int .i64 ((N : Int) + 1))).setCell ⟨ub, 0, none⟩ (.int .i8 0)) := chg_set (p := ⟨ub, 0, none⟩) _
  have hdr := HH.out.2.2.2.2.2.2.2
  refine ⟨⟨_, rfl⟩, ?_, ?_, ?_⟩
  · exact hu3
  · exact (chg_of_below hdr _).trans ((HW.out.2.2.mono fun k _ h => .inr h).trans ((hc4.trans hc5).mono fun k _ h => .inl h))
  · refine ⟨r, HH.out.2.2.1, own_chg HW.out.1 (hc4.trans hc5) fun k hk e => ?_⟩
    have := own_base HW.out.1 k hk
    have e : k = ub := e
    omega
end Go.Proofs.YtepfmanbllegiaaDoor
