/- term.spine. Conditions: the term reads and may be. -/
/- term.List of a term that may be. Conditions: the term reads, the table of letters reads as laid. -/
import Derived.Test.YtepfmanbllegiaaDoorMt7
import Derived.Deep.LoopGhost
namespace Go.Proofs.YtepfmanbllegiaaDoor
open Go.ChangeShapes Go.WideShapes Go.ChangeAt Go.RowKit
set_option linter.unusedVariables false
set_option linter.unusedSimpArgs false
set_option maxRecDepth 100000
/-- a function's end: a plain result, then a row of cells -/
theorem ret_row2 {P : Program} {fn : Func} {R : Ending → World → Prop} {tmps : Array Value} {w : World} {g p q : Nat} {ty t : TypeId} {fr : Nat × Nat} {d : TypeDesc} {cs : Array Value} {u : Value} (hg : w.heap[g]? = some (.cells cs t fr)) (hfn : fn.results = #[.tmp q, .cell p ty])
    (hu : P.underlying ty = some d) (hd : (match d with | .struct _ | .array _ _ => true | _ => false) = true) (hi : (P.info? ty).map (·.size) = some cs.size)
    (hp : tmps.getD p undef = .pointer (some ⟨g, 0, none⟩)) (hq : tmps.getD q undef = u) (hpost : R (.returned (.tuple #[u, .agg cs])) w) : bodyPost P fn R .ret { tmps := tmps, defers := [] } w := by
  refine bodyPost_ret (v := .tuple #[u, .agg cs]) ?_ rfl hpost
  have hl := run_loadVar_row (P := P) w g t ty cs fr d hg hu hd hi
  unfold results
  rw [hfn]
  simp only [Array.getD_eq_getD_getElem?] at hp hq
  simp [asAddr, hp, hq, hl]
/-- where a list stands that is taken apart -/
structure SpI (S : Nat → Prop) (W : World) (F : Nat) (t : Tm) (lv : Value) (E : List TE) (d : Tm) (te : TE) (wx : World) : Prop where
  hb : Below W.heap.size W wx
  hX : wx.heap[W.heap.size]? = some (.cells te.cells.toArray 27 (0, 0))
  hZ : wx.heap[W.heap.size + 1]? = some (.cells zT 27 (0, 0))
  ht : te.t = d
  hf : fields te.k te.n te.s te.u
  hrs : RowS S F wx te.lv te.l
  row : TRow S F wx (W.heap.size + 2) lv E
  sp : spL t = E.map TE.t ++ spL d
  se : spE t = spE d
  ok : okT d
/-- a list is taken apart -/
def SpP (S : Nat → Prop) (W : World) (F : Nat) (t : Tm) (e : Ending) (W' : World) : Prop :=
  ∃ (ao : Option Addr) (cap : Nat) (E : List TE) (te : TE), e = .returned (.tuple #[.slice ao E.length cap, .agg te.cells.toArray]) ∧ E.map TE.t = spL t ∧ te.t = spE t ∧ fields te.k te.n te.s te.u ∧ Below W.heap.size W W' ∧ TRow S F W' (W.heap.size + 2) (.slice ao E.length cap) E ∧ RowS S F W' te.lv te.l
set_option maxHeartbeats 8000000 in
theorem spine_any (S : Nat → Prop) (F : Nat) (te : TE) (hok : okT te.t) (hn : nT te.t ≤ 256) (W : World) (hSW : ∀ k, S k → k < W.heap.size) (hf : fields te.k te.n te.s te.u) (hrs : RowS S F W te.lv te.l) : Calls Tryd.prog 55 #[.agg te.cells.toArray] W (SpP S W F te.t) := by
  have hb2 := ((Below.refl W.heap.size W).alloc (Nat.le_refl _) (.cells te.cells.toArray 27)).alloc (by simp) (.cells zT 27)
  have hX := heap_old (heap_new W (.cells te.cells.toArray 27)) (.cells zT 27)
  have hY := heap_new (W.alloc (.cells te.cells.toArray 27)) (.cells zT 27)
  have hs1 : (W.alloc (.cells te.cells.toArray 27)).heap.size = W.heap.size + 1 := by simp
  rw [hs1] at hY
  have hrs2 := hrs.chg (S' := S) (chg_of_below hb2 (fun _ => False)) (fun _ _ _ h => h) (fun k hk _ => hk) (Nat.le_refl _)
  have HI0 : Hid (SpI S W F te.t (.slice none 0 0) [] te.t te ((W.alloc (.cells te.cells.toArray 27)).alloc (.cells zT 27))) := Lib.hid ⟨hb2, hX, hY, rfl, hf, hrs2, ⟨World.ownsRow_nil _ _ _ _, fun x hx => by cases hx⟩, rfl, rfl, hok⟩
  have hts : Hid (te.t = te.t) := Lib.hid rfl
  obtain ⟨gk, gn, gs, gu, gao, gcap, gl⟩ := te
  clear hb2 hX hY hs1 hrs2 hf hrs hok
  generalize hT : TE.t ⟨gk, gn, gs, gu, gao, gcap, gl⟩ = T at *
  simp only [TE.cells] at HI0 ⊢
  go_enter Tryd.func55, Tryd.ntmps55
  go_wp2_with fail
  go_loopg [2] (nT T) (fun g lv wr => ∃ (E : List TE) (d : Tm) (te : TE), nT d ≤ g ∧ E.length + nT d ≤ nT T ∧ lenOf lv = E.length ∧ Hid (SpI S W F T lv E d te wr))
  case atStart => exact ⟨[], T, ⟨gk, gn, gs, gu, gao, gcap, gl⟩, Nat.le_refl _, by simp, rfl, HI0⟩
  case round =>
    clear HI0
    obtain ⟨E, d, te, hg, hEn, hlen, HI⟩ := hrel
    by_cases h7 : te.k = 7
    · obtain ⟨yk, yn, ys, yu, yao, ycap, yl⟩ := te
      have h7 : yk = 7 := h7
      have hdd : d = .mk yk yn ys yu yl := HI.out.ht.symm
      subst hdd
      obtain ⟨e1, e2, e3, a, b, e4, ha, hb⟩ := okT_cons HI.out.ok h7
      subst e1 e2 e3 e4 h7
      have hrs := HI.out.hrs
      obtain ⟨ao0, cap0, ev, hl0, hc0, hel⟩ := hrs
      simp only [TE.lv, Value.slice.injEq] at ev
      obtain ⟨rfl, -, rfl⟩ := ev
      cases F with
      | zero =>
        obtain ⟨b', off, -, h⟩ := hel 0 a rfl
        exact h.elim
      | succ F =>
        obtain ⟨ak, an, as', au, al⟩ := a
        obtain ⟨bk, bn, bs, bu, bl⟩ := b
        obtain ⟨g, off, rfl, hg1, hfa, aao, acap, ⟨p0, p1, p2, p3, p4⟩, qa⟩ := hel 0 _ rfl
        obtain ⟨g', off', ee, hg2, hfb, bao, bcap, ⟨r0, r1, r2, r3, r4⟩, qb⟩ := hel 1 _ rfl
        simp only [Option.some.injEq, Addr.mk.injEq] at ee
        obtain ⟨rfl, rfl, -⟩ := ee
        have x0 : wr.cell? ⟨W.heap.size, 0, none⟩ = some (.int .i8 7) := (cells_at HI.out.hX 0 _ rfl).1
        have x4 : wr.cell? ⟨W.heap.size, 4, none⟩ = some (.slice (some ⟨g, off, none⟩) 2 ycap) := (cells_at HI.out.hX 4 _ rfl).1
        have HG := Lib.hid (And.intro hg1 hg2)
        have HFA := Lib.hid (And.intro hfa hfb)
        have HQA := Lib.hid (And.intro qa qb)
        have HO := Lib.hid (And.intro ha hb)
        simp only [Nat.zero_mul, Nat.add_zero, Nat.one_mul] at p0 p1 p2 p3 p4 r0 r1 r2 r3 r4
        clear hel hl0 hc0 hg1 hg2 hfa hfb qa qb ha hb
        have hb3 := (Below.refl wr.heap.size wr).alloc (Nat.le_refl _) (.cells #[.int .i8 ak, .int .i64 an, .string as', .string au, .slice aao al.length acap] 27)
        have HN3 := Lib.hid (heap_new wr (.cells #[.int .i8 ak, .int .i64 an, .string as', .string au, .slice aao al.length acap] 27))
        have HROW3 := Lib.hid (HI.out.row.chg (chg_of_below hb3 (fun _ => False)) (fun _ h => h.elim) (fun _ h => h.elim))
        have HX3 := Lib.hid (keep_heap HI.out.hX hb3)
        have HZ3 := Lib.hid (keep_heap HI.out.hZ hb3)
        have hz := heap_lt HI.out.hZ
        have hsz3 : (wr.alloc (.cells #[.int .i8 ak, .int .i64 an, .string as', .string au, .slice aao al.length acap] 27)).heap.size = wr.heap.size + 1 := by simp
        have HW3 : Hid (W.heap.size + 2 ≤ (wr.alloc (.cells #[.int .i8 ak, .int .i64 an, .string as', .string au, .slice aao al.length acap] 27)).heap.size) := Lib.hid (by omega)
        have HB3 := Lib.hid hb3
        clear hb3 hz hsz3
        obtain ⟨i0, z0, q1, q2, q3, q4, q5⟩ := infoTM2
        go_wp2_with (at_builtin; refine stop_here ?_)
        refine Lib.hid ?_
        refine wpList_append_own2 rfl (.tmp 11) (.tmp 16) 23 rfl (W.heap.size + 2) 27 i0 z0 5 72 Tryd.underlying23 q1 q2 q3 q4 q5 (by decide) _ E.length (tcs E) rfl HROW3.out.1 ⟨wr.heap.size, 0, none⟩ 1 1 [.int .i8 ak, .int .i64 an, .string as', .string au, .slice aao al.length acap] rfl rfl (fun q u hq => by
          rw [Addr.add_lit, Nat.zero_add]
          exact (cells_at HN3.out q u (by simpa using hq)).1) (by simp [Value.oneCell']) (by unfold maxLen; omega) (by omega) HW3.out ?_
        intro v5 W5 hown5 hg5 hwh5
        have hgw : g < W.heap.size := hSW g HG.out.1
        have hba := own_base HROW3.out.1
        have hc5 := chg_grown hg5
        have hX5 := hc5.heap HX3.out (fun e => by have := hba _ e.symm; omega)
        have hZ5 := hc5.heap HZ3.out (fun e => by have := hba _ e.symm; omega)
        have s0 := hc5.cell (keep_cell r0 HB3.out) (fun e => by have := hba g e.symm; omega)
        have s1 := hc5.cell (keep_cell r1 HB3.out) (fun e => by have := hba g e.symm; omega)
        have s2 := hc5.cell (keep_cell r2 HB3.out) (fun e => by have := hba g e.symm; omega)
        have s3 := hc5.cell (keep_cell r3 HB3.out) (fun e => by have := hba g e.symm; omega)
        have s4 := hc5.cell (keep_cell r4 HB3.out) (fun e => by have := hba g e.symm; omega)
        have y4 : W5.cell? ⟨W.heap.size, 4, none⟩ = some (.slice (some ⟨g, off, none⟩) 2 ycap) := (cells_at hX5 4 _ rfl).1
        clear x0 x4 p0 p1 p2 p3 p4 r0 r1 r2 r3 r4
        go_wp2_with (with_reducible refine stop_op (o := ⟨_, .store 27 (.tmp 1) (.tmp 10), _, _, _, _⟩) ?_)
        refine Lib.hid ?_
        refine wpList_store_row (o := ⟨none, _, _, _, _, _⟩) rfl 27 (.tmp 1) (.tmp 10) rfl W.heap.size #[.int .i8 bk, .int .i64 bn, .string bs, .string bu, .slice bao bl.length bcap] rfl rfl 27 _ hX5 (infoTM' _ rfl) rfl (by simp [Value.oneCell']) ?_
        obtain ⟨vo, vc, rfl⟩ := own_slice hown5
        have hpush := HROW3.out.push (te := ⟨ak, an, as', au, aao, acap, al⟩) HFA.out.1 (RowS.chg (S := S) (f := F) ⟨aao, acap, rfl, HQA.out.1⟩ (chg_of_below HB3.out (fun _ => False)) (fun _ _ _ h => h) (fun k hk _ => ⟨hk, fun e => by have := hba k e; have hk := hSW k hk; omega⟩) (Nat.le_succ F)) hown5 hg5 hwh5
        have hcs := chg_setRow W5 W.heap.size #[.int .i8 bk, .int .i64 bn, .string bs, .string bu, .slice bao bl.length bcap]
        have hw1 := HI.out.hb.size
        have hw5 := hc5.size
        have hw3 := HB3.out.size
        have hBf : Below W.heap.size wr (W5.setRow W.heap.size #[.int .i8 bk, .int .i64 bn, .string bs, .string bu, .slice bao bl.length bcap]) := ((HB3.out.mono hw1).trans (hc5.below (by omega) (fun k e => by have := hba k e.symm; omega))).trans (hcs.below (by omega) (fun k e => by have e : k = W.heap.size := e; omega))
        have hnn : nT (.mk 7 0 ⟨#[]⟩ ⟨#[]⟩ [.mk ak an as' au al, .mk bk bn bs bu bl]) = nT (.mk ak an as' au al) + nT (.mk bk bn bs bu bl) + 1 := by rw [nT, nL, nL, nL]; omega
        have hpa := nT_pos (.mk ak an as' au al)
        have HNEW : Hid (SpI S W (F + 1) T (.slice vo (E.length + 1) vc) (E ++ [⟨ak, an, as', au, aao, acap, al⟩]) (.mk bk bn bs bu bl) ⟨bk, bn, bs, bu, bao, bcap, bl⟩ (W5.setRow W.heap.size #[.int .i8 bk, .int .i64 bn, .string bs, .string bu, .slice bao bl.length bcap])) := Lib.hid
          ⟨HI.out.hb.trans hBf, setRow_heap W5 W.heap.size _ #[.int .i8 bk, .int .i64 bn, .string bs, .string bu, .slice bao bl.length bcap] _ _ hX5, hcs.heap hZ5 (fun e => by have e : W.heap.size + 1 = W.heap.size := e; omega), rfl, HFA.out.2,
            RowS.chg (S := S) (f := F) ⟨bao, bcap, rfl, HQA.out.2⟩ (Below.chg hBf (fun k => W.heap.size ≤ k) (fun k hk _ => hk)) (fun k hk _ e => by have hk := hSW k hk; have e : W.heap.size ≤ k := e; omega) (fun k hk _ => hk) (Nat.le_succ F),
            hpush.chg hcs (fun k e hk => by have e : k = W.heap.size := e; have hk := hSW k hk; omega) (fun k e => by have e : k = W.heap.size := e; omega),
            by rw [HI.out.sp, sp_step.1]; simp [TE.t], by rw [HI.out.se, sp_step.2], HO.out.2⟩
        clear hown5 hg5 hwh5 hba hc5 hX5 hZ5 s0 s1 s2 s3 s4 y4 hpush hcs hBf hw1 hw3 hw5 HB3 HROW3 HX3 HZ3 HN3 HW3 HI
        go_wp2_with fail
        go_roundg (nT (.mk bk bn bs bu bl))
        case rel => exact ⟨_, _, _, Nat.le_refl _, by simp; omega, by simp [lenOf], HNEW⟩
        case measure => omega
    · obtain ⟨yk, yn, ys, yu, yao, ycap, yl⟩ := te
      have h7 : yk ≠ 7 := h7
      have h7b : (yk == 7) = false := by simpa using h7
      have x0 : wr.cell? ⟨W.heap.size, 0, none⟩ = some (.int .i8 yk) := (cells_at HI.out.hX 0 _ rfl).1
      have hd := (Below.refl wr.heap.size wr).drew
      have hX5 := keep_heap HI.out.hX hd
      have hZ5 := keep_heap HI.out.hZ hd
      have hS : X7 W.heap.size (W.heap.size + 1) 0 yk yn ys yu (.slice yao yl.length ycap) wr.drew := ⟨(cells_at hX5 0 _ rfl).1, (cells_at hX5 1 _ rfl).1, (cells_at hX5 2 _ rfl).1, (cells_at hX5 3 _ rfl).1, (cells_at hX5 4 _ rfl).1, (cells_at hZ5 1 _ rfl).1⟩
      have HX5 := Lib.hid hX5
      have HZ5 := Lib.hid hZ5
      have HB5 := Lib.hid (HI.out.hb.trans (hd.mono HI.out.hb.size))
      have HROW5 := Lib.hid (HI.out.row.chg (chg_of_below hd (fun _ => False)) (fun _ h => h.elim) (fun _ h => h.elim))
      have HRS5 := Lib.hid (HI.out.hrs.chg (S' := S) (chg_of_below hd (fun _ => False)) (fun _ _ _ h => h) (fun k hk _ => hk) (Nat.le_refl _))
      have hst := sp_stop (t := .mk yk yn ys yu yl) h7
      have hdd : d = .mk yk yn ys yu yl := HI.out.ht.symm
      have hspl := HI.out.sp
      have hspe := HI.out.se
      rw [hdd, hst.1, List.append_nil] at hspl
      rw [hdd, hst.2] at hspe
      have HSP := Lib.hid (And.intro hspl (And.intro hspe HI.out.hf))
      clear hX5 hZ5 hd hst hspl hspe hdd
      have hw1 := HI.out.hb.size
      have hzl := heap_lt HI.out.hZ
      clear HI
      go_wp2_with fail
      refine region_planZ 3 (X7 W.heap.size (W.heap.size + 1) 0 yk yn ys yu (.slice yao yl.length ycap)) [(0, 0), (1, 0), (2, 0), (3, 1)] (by kernel_rfl) (by kernel_rfl) (by kernel_rfl) hS ?_
      generalize wr.drew = WD at *
      iterate 3 (first | (refine planZ_skip rfl ?_ ?_; (focus (rfl)); (try simp only [Act.put, List.setIfInBounds_toArray, List.set_cons_zero, List.set_cons_succ])) | (refine planZ_take (v := ?_) rfl ?_ (fun w hSw => ?_) ?_; rotate_left; (focus (rfl)); (focus (unfold X7 at hSw; (go_simp <;> with_reducible rfl))); (try simp only [Act.put, List.setIfInBounds_toArray, List.set_cons_zero, List.set_cons_succ])))
      refine planZ_run rfl ?_ (fun K hK => ?_)
      focus (rfl)
      refine wp_store_row 27 (.tmp 3) (.tmp 19) rfl (W.heap.size + 1) #[.int .i8 yk, .int .i64 yn, .string ys, .string yu, .slice yao yl.length ycap] rfl rfl 27 _ HZ5.out (infoTM' _ rfl) (by simp [zT]) (by simp [Value.oneCell']) ?_
      refine hK.out _ _ (fun h => absurd rfl h) ?_
      clear hK K
      (try simp only [Act.put, List.setIfInBounds_toArray, List.set_cons_zero, List.set_cons_succ])
      refine planZ_done ?_
      have hcs := chg_setRow WD (W.heap.size + 1) #[.int .i8 yk, .int .i64 yn, .string ys, .string yu, .slice yao yl.length ycap]
      have hZ6 := setRow_heap WD (W.heap.size + 1) _ #[.int .i8 yk, .int .i64 yn, .string ys, .string yu, .slice yao yl.length ycap] _ _ HZ5.out
      have HZ6 := Lib.hid hZ6
      have HB6 := Lib.hid (HB5.out.trans (hcs.below (B := W.heap.size) HB5.out.size (fun k e => by have e : k = W.heap.size + 1 := e; omega)))
      have HROW6 := Lib.hid (HROW5.out.chg hcs (fun k e hk => by have e : k = W.heap.size + 1 := e; have hk := hSW k hk; omega) (fun k e => by have e : k = W.heap.size + 1 := e; omega))
      have HRS6 := Lib.hid (HRS5.out.chg (S' := S) hcs (fun k hk _ e => by have e : k = W.heap.size + 1 := e; have hk := hSW k hk; omega) (fun k hk _ => hk) (Nat.le_refl _))
      clear hcs hZ6 hS HZ5 HX5 HB5 HROW5 HRS5
      obtain ⟨lo, lc, rfl⟩ := own_slice HROW6.out.1
      go_wp2_with fail
      exact ret_row2 HZ6.out rfl Tryd.underlying27 rfl (infoTM' _ rfl) rfl rfl ⟨lo, lc, E, ⟨yk, yn, ys, yu, yao, ycap, yl⟩, rfl, HSP.out.1.symm, HSP.out.2.1.symm, HSP.out.2.2, HB6.out, HROW6.out, HRS6.out⟩
end Go.Proofs.YtepfmanbllegiaaDoor
namespace Go.Proofs.YtepfmanbllegiaaDoor
open Go.ChangeShapes Go.WideShapes Go.ChangeAt Go.RowKit
set_option linter.unusedVariables false
set_option linter.unusedSimpArgs false
set_option maxRecDepth 100000
/-- a list's parts, if its tail is nothing -/
def LstP (W : World) (F : Nat) (t : Tm) (e : Ending) (W' : World) : Prop :=
  Below W.heap.size W W' ∧ (((spE t).k = 6 ∧ ∃ (ao : Option Addr) (cap : Nat), e = .returned (.tuple #[.slice ao (spL t).length cap, .bool true]) ∧ (ao = none → cap = 0) ∧ Row (F + 1) W' (.slice ao (spL t).length cap) (spL t)) ∨ ((spE t).k ≠ 6 ∧ e = .returned (.tuple #[.slice none 0 0, .bool false])))
set_option maxHeartbeats 8000000 in
theorem plist_any (F : Nat) (t : Tm) (v : Value) (W : World) (hc : Cells W 0 letL) (h : TermV F W v t) (hok : checkN t = 0) : Calls Tryd.prog 41 #[v] W (LstP W F t) := by
  obtain ⟨hokt, hn⟩ := check_ok hok
  obtain ⟨te, rfl, rfl, hf, hrs⟩ := h.te
  obtain ⟨gk, gn, gs, gu, gao, gcap, gl⟩ := te
  have hb1 := (Below.refl W.heap.size W).alloc (Nat.le_refl _) (.cells #[.int .i8 gk, .int .i64 gn, .string gs, .string gu, .slice gao gl.length gcap] 27)
  have HCH := Lib.hid (check_any F _ _ _ (cells_chg hc (chg_of_below hb1 (fun _ => False)) (fun e => e)) (h.keep hb1))
  have HN1 := Lib.hid (heap_new W (.cells #[.int .i8 gk, .int .i64 gn, .string gs, .string gu, .slice gao gl.length gcap] 27))
  have HB1 := Lib.hid hb1
  have HRS := Lib.hid hrs
  have HOK := Lib.hid (And.intro hokt hn)
  rw [hok] at HCH
  obtain ⟨y0, -⟩ := cells_at HN1.out 0 _ rfl
  obtain ⟨y1, -⟩ := cells_at HN1.out 1 _ rfl
  obtain ⟨y2, -⟩ := cells_at HN1.out 2 _ rfl
  obtain ⟨y3, -⟩ := cells_at HN1.out 3 _ rfl
  obtain ⟨y4, -⟩ := cells_at HN1.out 4 _ rfl
  clear hc h hok hb1 hrs hokt hn
  have HF := Lib.hid hf
  clear hf
  generalize hT : TE.t ⟨gk, gn, gs, gu, gao, gcap, gl⟩ = T at *
  simp only [TE.cells, TE.lv] at *
  go_enter Tryd.func41, Tryd.ntmps41
  go_wp2_with fail
  refine HCH.out.mono ?_
  rintro e w2 ⟨rfl, hb2⟩
  have HN2 := Lib.hid (keep_heap HN1.out hb2)
  have hB2 := HB1.out.trans (hb2.mono HB1.out.size)
  have hrs2 : RowS (fun k => k < w2.heap.size) F w2 (.slice gao gl.length gcap) gl := HRS.out.chg (chg_of_below hB2 (fun _ => False)) (fun _ _ _ h => h) (fun k hk _ => by have := hB2.size; have hk : k < W.heap.size := hk; show k < w2.heap.size; omega) (Nat.le_refl _)
  have HS := Lib.hid (spine_any (fun k => k < w2.heap.size) F ⟨gk, gn, gs, gu, gao, gcap, gl⟩ (by rw [hT]; exact HOK.out.1) (by rw [hT]; exact HOK.out.2) w2 (fun k hk => hk) HF.out hrs2)
  rw [hT] at HS
  simp only [TE.cells] at HS
  have HB2 := Lib.hid hB2
  clear y0 y1 y2 y3 y4 hb2 hB2 hrs2
  obtain ⟨y0, -⟩ := cells_at HN2.out 0 _ rfl
  obtain ⟨y1, -⟩ := cells_at HN2.out 1 _ rfl
  obtain ⟨y2, -⟩ := cells_at HN2.out 2 _ rfl
  obtain ⟨y3, -⟩ := cells_at HN2.out 3 _ rfl
  obtain ⟨y4, -⟩ := cells_at HN2.out 4 _ rfl
  go_wp2_with fail
  refine HS.out.mono ?_
  rintro e w3 ⟨ao, cap, E, te2, rfl, hE, hte2, hf2, hb3, hrow3, hrs3⟩
  obtain ⟨tk, tn, ts, tu, tao, tcap, tl⟩ := te2
  have hEl : E.length = (spL T).length := by rw [← hE]; simp
  have hrw3 := (hrow3.rowS (S' := fun _ => True) (fun _ _ => trivial) (fun _ _ => trivial)).row
  rw [hE] at hrw3
  have hno : ao = none → cap = 0 := fun e => by
    rcases hrow3.1.2 with ⟨e1, -⟩ | ⟨g, c, cur, e1, -⟩
    · injection e1
    · rw [e] at e1
      cases e1
  have HNO := Lib.hid hno
  have hk2 : tk = (spE T).k := by rw [← hte2]; rfl
  rw [hEl]
  have hb4 := (Below.refl w3.heap.size w3).alloc (Nat.le_refl _) (.cells #[.int .i8 tk, .int .i64 tn, .string ts, .string tu, .slice tao tl.length tcap] 27)
  have hB4 := (HB2.out.trans (hb3.mono HB2.out.size)).trans (hb4.mono (Nat.le_trans HB2.out.size hb3.size))
  have HR4 := Lib.hid (hrw3.keep hb4)
  have HN4 := Lib.hid (heap_new w3 (.cells #[.int .i8 tk, .int .i64 tn, .string ts, .string tu, .slice tao tl.length tcap] 27))
  have HB4 := Lib.hid hB4
  have HK := Lib.hid hk2
  simp only [TE.cells]
  clear y0 y1 y2 y3 y4 hE hte2 hf2 hb3 hrow3 hrs3 hEl hrw3 hk2 hno hb4 hB4 HS HN1 HB1 HB2 HCH HN2
  go_wp2_with (with_reducible refine stop_op (o := ⟨_, .store 27 (.tmp 5) (.tmp 13), _, _, _, _⟩) ?_)
  refine Lib.hid ?_
  refine wpList_store_new (o := ⟨none, _, _, _, _, _⟩) rfl 27 (.tmp 5) (.tmp 13) rfl #[.int .i8 tk, .int .i64 tn, .string ts, .string tu, .slice tao tl.length tcap] rfl rfl (infoTM' _ rfl) rfl (by simp [Value.oneCell']) ?_
  generalize w3.alloc (.cells #[.int .i8 tk, .int .i64 tn, .string ts, .string tu, .slice tao tl.length tcap] 27) = W4 at *
  obtain ⟨z0, -⟩ := cells_at HN4.out 0 _ rfl
  by_cases h6 : tk = 6
  · subst h6
    go_wp2_with fail
    go_ret2
    exact ⟨HB4.out, .inl ⟨HK.out.symm, ao, cap, rfl, HNO.out, HR4.out⟩⟩
  · have h6b : (tk == 6) = false := by simpa using h6
    go_wp2_with fail
    go_ret2
    exact ⟨HB4.out, .inr ⟨by rw [← HK.out]; exact h6, rfl⟩⟩
end Go.Proofs.YtepfmanbllegiaaDoor
