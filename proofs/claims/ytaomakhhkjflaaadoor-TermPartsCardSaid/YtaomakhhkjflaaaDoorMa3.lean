/- term.spine. Conditions: the term reads and may be. -/
/- strconv.AppendInt at base 10, of what is not negative: nothing has turned but the row's own block (after the kit's own proof of its contract). No conditions. -/
/- bytes that are written at the end of a row that is owned. No conditions. -/
/- term.write: numbers, atoms, funs. Conditions: the row is owned, the table of powers reads as laid, the row is not too long. -/
import Derived.Test.YtaomakhhkjflaaaDoorMa2
import Derived.Deep.LoopGhost
import Derived.Test.YtaomakhhkjflaaaDoorK
import Derived.Shelf.Strconv.AppendIntPublic10
import Derived.Test.YtaomakhhkjflaaaDoorSh
import Derived.Lib.AppendStr
import Derived.Lib.OthersKept
namespace Go.Proofs.YtaomakhhkjflaaaDoor
open Go.ChangeShapes Go.WideShapes Go.ChangeAt Go.RowKit
set_option linter.unusedVariables false
set_option linter.unusedSimpArgs false
set_option maxRecDepth 100000
/-- a function's end: a plain result, then a row of cells -/
theorem ret_row2 {P : Program} {fn : Func} {R : Ending → World → Prop} {tmps : Array Value} {w : World} {g p q : Nat} {ty t : TypeId} {fr : Nat × Nat} {d : TypeDesc} {cs : Array Value} {u : Value} (hg : w.heap[g]? = some (.cells cs t fr)) (hfn : fn.results = #[.tmp q, .cell p ty])
    (hu : P.underlying ty = some d) (hd : (match d with | .struct _ | .array _ _ => true | _ => false) = true) (hi : (P.info? ty).map (·.size) = some cs.size)
    (hp : tmps.getD p undef = .pointer (some ⟨g, 0, none⟩)) (hq : tmps.getD q undef = u) (hpost : R (.returned (.tuple #[u, .agg cs])) w) : bodyPost P fn R .ret { tmps := tmps, defers := [] } w := by
  refine bodyPost_ret (v := .tuple #[u, .agg cs]) ?_ rfl hpost
  have hl := run_loadVar_row (P := P) w g t ty cs fr d hg hu hd hi
  unfold results
  rw [hfn]
  simp only [Array.getD_eq_getD_getElem?] at hp hq
  simp [asAddr, hp, hq, hl]
/-- where a list stands that is taken apart -/
structure SpI (S : Nat → Prop) (W : World) (F : Nat) (t : Tm) (lv : Value) (E : List TE) (d : Tm) (te : TE) (wx : World) : Prop where
  hb : Below W.heap.size W wx
  hX : wx.heap[W.heap.size]? = some (.cells te.cells.toArray 25 (0, 0))
  hZ : wx.heap[W.heap.size + 1]? = some (.cells zT 25 (0, 0))
  ht : te.t = d
  hf : fields te.k te.n te.s te.u
  hrs : RowS S F wx te.lv te.l
  row : TRow S F wx (W.heap.size + 2) lv E
  sp : spL t = E.map TE.t ++ spL d
  se : spE t = spE d
  ok : okT d
/-- a list is taken apart -/
def SpP (S : Nat → Prop) (W : World) (F : Nat) (t : Tm) (e : Ending) (W' : World) : Prop :=
  ∃ (ao : Option Addr) (cap : Nat) (E : List TE) (te : TE), e = .returned (.tuple #[.slice ao E.length cap, .agg te.cells.toArray]) ∧ E.map TE.t = spL t ∧ te.t = spE t ∧ fields te.k te.n te.s te.u ∧ Below W.heap.size W W' ∧ TRow S F W' (W.heap.size + 2) (.slice ao E.length cap) E ∧ RowS S F W' te.lv te.l
set_option maxHeartbeats 8000000 in
theorem spine_any (S : Nat → Prop) (F : Nat) (te : TE) (hok : okT te.t) (hn : nT te.t ≤ 256) (W : World) (hSW : ∀ k, S k → k < W.heap.size) (hf : fields te.k te.n te.s te.u) (hrs : RowS S F W te.lv te.l) : Calls Tryd.prog 27 #[.agg te.cells.toArray] W (SpP S W F te.t) := by
  have hb2 := ((Below.refl W.heap.size W).alloc (Nat.le_refl _) (.cells te.cells.toArray 25)).alloc (by simp) (.cells zT 25)
  have hX := heap_old (heap_new W (.cells te.cells.toArray 25)) (.cells zT 25)
  have hY := heap_new (W.alloc (.cells te.cells.toArray 25)) (.cells zT 25)
  have hs1 : (W.alloc (.cells te.cells.toArray 25)).heap.size = W.heap.size + 1 := by simp
  rw [hs1] at hY
  have hrs2 := hrs.chg (S' := S) (chg_of_below hb2 (fun _ => False)) (fun _ _ _ h => h) (fun k hk _ => hk) (Nat.le_refl _)
  have HI0 : Hid (SpI S W F te.t (.slice none 0 0) [] te.t te ((W.alloc (.cells te.cells.toArray 25)).alloc (.cells zT 25))) := Lib.hid ⟨hb2, hX, hY, rfl, hf, hrs2, ⟨World.ownsRow_nil _ _ _ _, fun x hx => by cases hx⟩, rfl, rfl, hok⟩
  have hts : Hid (te.t = te.t) := Lib.hid rfl
  obtain ⟨gk, gn, gs, gu, gao, gcap, gl⟩ := te
  clear hb2 hX hY hs1 hrs2 hf hrs hok
  generalize hT : TE.t ⟨gk, gn, gs, gu, gao, gcap, gl⟩ = T at *
  simp only [TE.cells] at HI0 ⊢
  go_enter Tryd.func27, Tryd.ntmps27
  go_wp2_with fail
  go_loopg [2] (nT T) (fun g lv wr => ∃ (E : List TE) (d : Tm) (te : TE), nT d ≤ g ∧ E.length + nT d ≤ nT T ∧ lenOf lv = E.length ∧ Hid (SpI S W F T lv E d te wr))
  case atStart => exact ⟨[], T, ⟨gk, gn, gs, gu, gao, gcap, gl⟩, Nat.le_refl _, by simp, rfl, HI0⟩
  case round =>
    clear HI0
    obtain ⟨E, d, te, hg, hEn, hlen, HI⟩ := hrel
    by_cases h7 : te.k = 7
    · obtain ⟨yk, yn, ys, yu, yao, ycap, yl⟩ := te
      have h7 : yk = 7 := h7
      have hdd : d = .mk yk yn ys yu yl := HI.out.ht.symm
      subst hdd
      obtain ⟨e1, e2, e3, a, b, e4, ha, hb⟩ := okT_cons HI.out.ok h7
      subst e1 e2 e3 e4 h7
      have hrs := HI.out.hrs
      obtain ⟨ao0, cap0, ev, hl0, hc0, hel⟩ := hrs
      simp only [TE.lv, Value.slice.injEq] at ev
      obtain ⟨rfl, -, rfl⟩ := ev
      cases F with
      | zero =>
        obtain ⟨b', off, -, h⟩ := hel 0 a rfl
        exact h.elim
      | succ F =>
        obtain ⟨ak, an, as', au, al⟩ := a
        obtain ⟨bk, bn, bs, bu, bl⟩ := b
        obtain ⟨g, off, rfl, hg1, hfa, aao, acap, ⟨p0, p1, p2, p3, p4⟩, qa⟩ := hel 0 _ rfl
        obtain ⟨g', off', ee, hg2, hfb, bao, bcap, ⟨r0, r1, r2, r3, r4⟩, qb⟩ := hel 1 _ rfl
        simp only [Option.some.injEq, Addr.mk.injEq] at ee
        obtain ⟨rfl, rfl, -⟩ := ee
        have x0 : wr.cell? ⟨W.heap.size, 0, none⟩ = some (.int .i8 7) := (cells_at HI.out.hX 0 _ rfl).1
        have x4 : wr.cell? ⟨W.heap.size, 4, none⟩ = some (.slice (some ⟨g, off, none⟩) 2 ycap) := (cells_at HI.out.hX 4 _ rfl).1
        have HG := Lib.hid (And.intro hg1 hg2)
        have HFA := Lib.hid (And.intro hfa hfb)
        have HQA := Lib.hid (And.intro qa qb)
        have HO := Lib.hid (And.intro ha hb)
        simp only [Nat.zero_mul, Nat.add_zero, Nat.one_mul] at p0 p1 p2 p3 p4 r0 r1 r2 r3 r4
        clear hel hl0 hc0 hg1 hg2 hfa hfb qa qb ha hb
        have hb3 := (Below.refl wr.heap.size wr).alloc (Nat.le_refl _) (.cells #[.int .i8 ak, .int .i64 an, .string as', .string au, .slice aao al.length acap] 25)
        have HN3 := Lib.hid (heap_new wr (.cells #[.int .i8 ak, .int .i64 an, .string as', .string au, .slice aao al.length acap] 25))
        have HROW3 := Lib.hid (HI.out.row.chg (chg_of_below hb3 (fun _ => False)) (fun _ h => h.elim) (fun _ h => h.elim))
        have HX3 := Lib.hid (keep_heap HI.out.hX hb3)
        have HZ3 := Lib.hid (keep_heap HI.out.hZ hb3)
        have hz := heap_lt HI.out.hZ
        have hsz3 : (wr.alloc (.cells #[.int .i8 ak, .int .i64 an, .string as', .string au, .slice aao al.length acap] 25)).heap.size = wr.heap.size + 1 := by simp
        have HW3 : Hid (W.heap.size + 2 ≤ (wr.alloc (.cells #[.int .i8 ak, .int .i64 an, .string as', .string au, .slice aao al.length acap] 25)).heap.size) := Lib.hid (by omega)
        have HB3 := Lib.hid hb3
        clear hb3 hz hsz3
        obtain ⟨i0, z0, q1, q2, q3, q4, q5⟩ := infoTM2
        go_wp2_with (at_builtin; refine stop_here ?_)
        refine Lib.hid ?_
        refine wpList_append_own2 rfl (.tmp 11) (.tmp 16) 23 rfl (W.heap.size + 2) 25 i0 z0 5 72 Tryd.underlying23 q1 q2 q3 q4 q5 (by decide) _ E.length (tcs E) rfl HROW3.out.1 ⟨wr.heap.size, 0, none⟩ 1 1 [.int .i8 ak, .int .i64 an, .string as', .string au, .slice aao al.length acap] rfl rfl (fun q u hq => by
          rw [Addr.add_lit, Nat.zero_add]
          exact (cells_at HN3.out q u (by simpa using hq)).1) (by simp [Value.oneCell']) (by unfold maxLen; omega) (by omega) HW3.out ?_
        intro v5 W5 hown5 hg5 hwh5
        have hgw : g < W.heap.size := hSW g HG.out.1
        have hba := own_base HROW3.out.1
        have hc5 := chg_grown hg5
        have hX5 := hc5.heap HX3.out (fun e => by have := hba _ e.symm; omega)
        have hZ5 := hc5.heap HZ3.out (fun e => by have := hba _ e.symm; omega)
        have s0 := hc5.cell (keep_cell r0 HB3.out) (fun e => by have := hba g e.symm; omega)
        have s1 := hc5.cell (keep_cell r1 HB3.out) (fun e => by have := hba g e.symm; omega)
        have s2 := hc5.cell (keep_cell r2 HB3.out) (fun e => by have := hba g e.symm; omega)
        have s3 := hc5.cell (keep_cell r3 HB3.out) (fun e => by have := hba g e.symm; omega)
        have s4 := hc5.cell (keep_cell r4 HB3.out) (fun e => by have := hba g e.symm; omega)
        have y4 : W5.cell? ⟨W.heap.size, 4, none⟩ = some (.slice (some ⟨g, off, none⟩) 2 ycap) := (cells_at hX5 4 _ rfl).1
        clear x0 x4 p0 p1 p2 p3 p4 r0 r1 r2 r3 r4
        go_wp2_with (with_reducible refine stop_op (o := ⟨_, .store 25 (.tmp 1) (.tmp 10), _, _, _, _⟩) ?_)
        refine Lib.hid ?_
        refine wpList_store_row (o := ⟨none, _, _, _, _, _⟩) rfl 25 (.tmp 1) (.tmp 10) rfl W.heap.size #[.int .i8 bk, .int .i64 bn, .string bs, .string bu, .slice bao bl.length bcap] rfl rfl 25 _ hX5 (infoTM' _ rfl) rfl (by simp [Value.oneCell']) ?_
        obtain ⟨vo, vc, rfl⟩ := own_slice hown5
        have hpush := HROW3.out.push (te := ⟨ak, an, as', au, aao, acap, al⟩) HFA.out.1 (RowS.chg (S := S) (f := F) ⟨aao, acap, rfl, HQA.out.1⟩ (chg_of_below HB3.out (fun _ => False)) (fun _ _ _ h => h) (fun k hk _ => ⟨hk, fun e => by have := hba k e; have hk := hSW k hk; omega⟩) (Nat.le_succ F)) hown5 hg5 hwh5
        have hcs := chg_setRow W5 W.heap.size #[.int .i8 bk, .int .i64 bn, .string bs, .string bu, .slice bao bl.length bcap]
        have hw1 := HI.out.hb.size
        have hw5 := hc5.size
        have hw3 := HB3.out.size
        have hBf : Below W.heap.size wr (W5.setRow W.heap.size #[.int .i8 bk, .int .i64 bn, .string bs, .string bu, .slice bao bl.length bcap]) := ((HB3.out.mono hw1).trans (hc5.below (by omega) (fun k e => by have := hba k e.symm; omega))).trans (hcs.below (by omega) (fun k e => by have e : k = W.heap.size := e; omega))
        have hnn : nT (.mk 7 0 ⟨#[]⟩ ⟨#[]⟩ [.mk ak an as' au al, .mk bk bn bs bu bl]) = nT (.mk ak an as' au al) + nT (.mk bk bn bs bu bl) + 1 := by rw [nT, nL, nL, nL]; omega
        have hpa := nT_pos (.mk ak an as' au al)
        have HNEW : Hid (SpI S W (F + 1) T (.slice vo (E.length + 1) vc) (E ++ [⟨ak, an, as', au, aao, acap, al⟩]) (.mk bk bn bs bu bl) ⟨bk, bn, bs, bu, bao, bcap, bl⟩ (W5.setRow W.heap.size #[.int .i8 bk, .int .i64 bn, .string bs, .string bu, .slice bao bl.length bcap])) := Lib.hid
          ⟨HI.out.hb.trans hBf, setRow_heap W5 W.heap.size _ #[.int .i8 bk, .int .i64 bn, .string bs, .string bu, .slice bao bl.length bcap] _ _ hX5, hcs.heap hZ5 (fun e => by have e : W.heap.size + 1 = W.heap.size := e; omega), rfl, HFA.out.2,
            RowS.chg (S := S) (f := F) ⟨bao, bcap, rfl, HQA.out.2⟩ (Below.chg hBf (fun k => W.heap.size ≤ k) (fun k hk _ => hk)) (fun k hk _ e => by have hk := hSW k hk; have e : W.heap.size ≤ k := e; omega) (fun k hk _ => hk) (Nat.le_succ F),
            hpush.chg hcs (fun k e hk => by have e : k = W.heap.size := e; have hk := hSW k hk; omega) (fun k e => by have e : k = W.heap.size := e; omega),
            by rw [HI.out.sp, sp_step.1]; simp [TE.t], by rw [HI.out.se, sp_step.2], HO.out.2⟩
        clear hown5 hg5 hwh5 hba hc5 hX5 hZ5 s0 s1 s2 s3 s4 y4 hpush hcs hBf hw1 hw3 hw5 HB3 HROW3 HX3 HZ3 HN3 HW3 HI
        go_wp2_with fail
        go_roundg (nT (.mk bk bn bs bu bl))
        case rel => exact ⟨_, _, _, Nat.le_refl _, by simp; omega, by simp [lenOf], HNEW⟩
        case measure => omega
    · obtain ⟨yk, yn, ys, yu, yao, ycap, yl⟩ := te
      have h7 : yk ≠ 7 := h7
      have h7b : (yk == 7) = false := by simpa using h7
      have x0 : wr.cell? ⟨W.heap.size, 0, none⟩ = some (.int .i8 yk) := (cells_at HI.out.hX 0 _ rfl).1
      have hd := (Below.refl wr.heap.size wr).drew
      have hX5 := keep_heap HI.out.hX hd
      have hZ5 := keep_heap HI.out.hZ hd
      have hS : X7 W.heap.size (W.heap.size + 1) 0 yk yn ys yu (.slice yao yl.length ycap) wr.drew := ⟨(cells_at hX5 0 _ rfl).1, (cells_at hX5 1 _ rfl).1, (cells_at hX5 2 _ rfl).1, (cells_at hX5 3 _ rfl).1, (cells_at hX5 4 _ rfl).1, (cells_at hZ5 1 _ rfl).1⟩
      have HX5 := Lib.hid hX5
      have HZ5 := Lib.hid hZ5
      have HB5 := Lib.hid (HI.out.hb.trans (hd.mono HI.out.hb.size))
      have HROW5 := Lib.hid (HI.out.row.chg (chg_of_below hd (fun _ => False)) (fun _ h => h.elim) (fun _ h => h.elim))
      have HRS5 := Lib.hid (HI.out.hrs.chg (S' := S) (chg_of_below hd (fun _ => False)) (fun _ _ _ h => h) (fun k hk _ => hk) (Nat.le_refl _))
      have hst := sp_stop (t := .mk yk yn ys yu yl) h7
      have hdd : d = .mk yk yn ys yu yl := HI.out.ht.symm
      have hspl := HI.out.sp
      have hspe := HI.out.se
      rw [hdd, hst.1, List.append_nil] at hspl
      rw [hdd, hst.2] at hspe
      have HSP := Lib.hid (And.intro hspl (And.intro hspe HI.out.hf))
      clear hX5 hZ5 hd hst hspl hspe hdd
      have hw1 := HI.out.hb.size
      have hzl := heap_lt HI.out.hZ
      clear HI
      go_wp2_with fail
      refine region_planZ 3 (X7 W.heap.size (W.heap.size + 1) 0 yk yn ys yu (.slice yao yl.length ycap)) [(0, 0), (1, 0), (2, 0), (3, 1)] (by kernel_rfl) (by kernel_rfl) (by kernel_rfl) hS ?_
      generalize wr.drew = WD at *
      iterate 3 (first | (refine planZ_skip rfl ?_ ?_; (focus (rfl)); (try simp only [Act.put, List.setIfInBounds_toArray, List.set_cons_zero, List.set_cons_succ])) | (refine planZ_take (v := ?_) rfl ?_ (fun w hSw => ?_) ?_; rotate_left; (focus (rfl)); (focus (unfold X7 at hSw; (go_simp <;> with_reducible rfl))); (try simp only [Act.put, List.setIfInBounds_toArray, List.set_cons_zero, List.set_cons_succ])))
      refine planZ_run rfl ?_ (fun K hK => ?_)
      focus (rfl)
      refine wp_store_row 25 (.tmp 3) (.tmp 19) rfl (W.heap.size + 1) #[.int .i8 yk, .int .i64 yn, .string ys, .string yu, .slice yao yl.length ycap] rfl rfl 25 _ HZ5.out (infoTM' _ rfl) (by simp [zT]) (by simp [Value.oneCell']) ?_
      refine hK.out _ _ (fun h => absurd rfl h) ?_
      clear hK K
      (try simp only [Act.put, List.setIfInBounds_toArray, List.set_cons_zero, List.set_cons_succ])
      refine planZ_done ?_
      have hcs := chg_setRow WD (W.heap.size + 1) #[.int .i8 yk, .int .i64 yn, .string ys, .string yu, .slice yao yl.length ycap]
      have hZ6 := setRow_heap WD (W.heap.size + 1) _ #[.int .i8 yk, .int .i64 yn, .string ys, .string yu, .slice yao yl.length ycap] _ _ HZ5.out
      have HZ6 := Lib.hid hZ6
      have HB6 := Lib.hid (HB5.out.trans (hcs.below (B := W.heap.size) HB5.out.size (fun k e => by have e : k = W.heap.size + 1 := e; omega)))
      have HROW6 := Lib.hid (HROW5.out.chg hcs (fun k e hk => by have e : k = W.heap.size + 1 := e; have hk := hSW k hk; omega) (fun k e => by have e : k = W.heap.size + 1 := e; omega))
      have HRS6 := Lib.hid (HRS5.out.chg (S' := S) hcs (fun k hk _ e => by have e : k = W.heap.size + 1 := e; have hk := hSW k hk; omega) (fun k hk _ => hk) (Nat.le_refl _))
      clear hcs hZ6 hS HZ5 HX5 HB5 HROW5 HRS5
      obtain ⟨lo, lc, rfl⟩ := own_slice HROW6.out.1
      go_wp2_with fail
      exact ret_row2 HZ6.out rfl Tryd.underlying25 rfl (infoTM' _ rfl) rfl rfl ⟨lo, lc, E, ⟨yk, yn, ys, yu, yao, ycap, yl⟩, rfl, HSP.out.1.symm, HSP.out.2.1.symm, HSP.out.2.2, HB6.out, HROW6.out, HRS6.out⟩
end Go.Proofs.YtaomakhhkjflaaaDoor
namespace Go.Proofs.YtaomakhhkjflaaaDoor
open Go.Shelf Go.RowKit Go.Sort Go.Lib
set_option linter.unusedVariables false
variable {P : Program} {ρ : Ren}
set_option maxHeartbeats 6400000 in
set_option maxRecDepth 100000 in
theorem auint_small (L : LaysM.n288 P ρ) (B n u : Nat) (hu : u < 100) (sv : Value) (xs : List Value) (w : World) (hown : w.ownsRow B (ρ.t 5) 1 sv n xs) (hBw : B ≤ w.heap.size) (hlim : n + 20 ≤ 140737488355328) :
    Calls P (ρ.f 288) #[sv, .int .u64 u, .int .i64 10] w fun e w' => ∃ v', e = .returned v' ∧ w'.ownsRow B (ρ.t 5) 1 v' (n + (Lib.decDigits u).length) (xs ++ Lib.byteCells (Lib.decDigits u)) ∧ Chg (fun k => some k = sv.ownBlock) w w' := by
  have mixed := L.mixed
  have t5 := L.t5; have a5 := L.a5; have z5 := L.z5; have v5 := L.v5
  have t37 := L.t37; have u37 := run_underlying L.t37; have a37 := L.a37; have z37 := L.z37; have v37 := L.v37
  have t53 := L.t53; have a53 := L.a53; have z53 := L.z53; have v53 := L.v53
  have t3 := L.t3; have a3 := L.a3; have z3 := L.z3; have v3 := L.v3
  have t4 := L.t4; have a4 := L.a4; have z4 := L.z4; have v4 := L.v4
  have t9 := L.t9; have a9 := L.a9; have z9 := L.z9; have v9 := L.v9
  have t171 := L.t171; have a171 := L.a171; have z171 := L.z171; have v171 := L.v171
  have t0 := L.t0; have a0 := L.a0; have z0 := L.z0; have v0 := L.v0
  have t173 := L.t173; have a173 := L.a173; have z173 := L.z173; have v173 := L.v173
  have e283 : ∀ args w, (callFunc (ρ.f 283) args).run P w = .ok (.enter (ρ.f 283) args) w := enters_of L.f283 (by kernel_rfl) rfl
  obtain ⟨i0, hi, hz0, hz1, hz2⟩ := info_parts L.i5
  have hlen : (Lib.decDigits u).length ≤ 20 := by
    rw [Lib.decDigits_length]
    by_cases h10 : u < 10
    · rw [Lib.nDigits_small h10]; omega
    · rw [Lib.nDigits_big h10, Lib.nDigits_small (show u / 10 < 10 by omega)]; omega
  have hsz : (⟨(Lib.decDigits u).toArray⟩ : ByteArray).size = (Lib.decDigits u).length := by simp [ByteArray.size]
  go_enter L.f288, Body.n288_ntmps ρ
  go_wp2_with (first
    | (go_at_fn (ρ.f 283); refine (Any.internal_strconv_small { L with } u hu _).mono ?_; rintro e w' ⟨rfl, rfl⟩)
    | (at_builtin; refine Lib.wpList_append_own_string _ rfl _ _ (ρ.t 37) (ρ.t 9) rfl B (ρ.t 5) i0 L.t37 L.t9 hi hz0 hz1 hz2 _ _ _ rfl hown ⟨(Lib.decDigits u).toArray⟩ rfl (by rw [hsz]; unfold maxLen; omega) (by rw [hsz]; omega) hBw ?_))
  intro v' w1 hown' hgrow _
  go_wp2
  go_ret
  refine ⟨v', rfl, ?_, chg_grown hgrow⟩
  first | exact hown' | (rw [hsz] at hown'; exact hown')

set_option maxHeartbeats 12800000 in
set_option maxRecDepth 100000 in
theorem auint_big (L : LaysM.n288 P ρ) (B n u : Nat) (hu : 100 ≤ u) (hu64 : u < 18446744073709551616) (sv : Value) (xs : List Value) (w : World) (hown : w.ownsRow B (ρ.t 5) 1 sv n xs) (hBw : B ≤ w.heap.size) (hlim : n + 20 ≤ 140737488355328)
    (htab : Lib.TabIs P w "internal/strconv.uint64pow10" .u64 Lib.pow10Tab) :
    Calls P (ρ.f 288) #[sv, .int .u64 u, .int .i64 10] w fun e w' => ∃ v', e = .returned v' ∧ w'.ownsRow B (ρ.t 5) 1 v' (n + (Lib.decDigits u).length) (xs ++ Lib.byteCells (Lib.decDigits u)) ∧ Chg (fun k => some k = sv.ownBlock) w w' := by
  have mixed := L.mixed
  have t5 := L.t5; have a5 := L.a5; have z5 := L.z5; have v5 := L.v5
  have t37 := L.t37; have u37 := run_underlying L.t37; have a37 := L.a37; have z37 := L.z37; have v37 := L.v37
  have t53 := L.t53; have a53 := L.a53; have z53 := L.z53; have v53 := L.v53
  have t3 := L.t3; have a3 := L.a3; have z3 := L.z3; have v3 := L.v3
  have t4 := L.t4; have a4 := L.a4; have z4 := L.z4; have v4 := L.v4
  have t9 := L.t9; have a9 := L.a9; have z9 := L.z9; have v9 := L.v9
  have t171 := L.t171; have a171 := L.a171; have z171 := L.z171; have v171 := L.v171
  have t0 := L.t0; have a0 := L.a0; have z0 := L.z0; have v0 := L.v0
  have t173 := L.t173; have a173 := L.a173; have z173 := L.z173; have v173 := L.v173
  have e284 : ∀ args w, (callFunc (ρ.f 284) args).run P w = .ok (.enter (ρ.f 284) args) w := enters_of L.f284 (by kernel_rfl) rfl
  have e285 : ∀ args w, (callFunc (ρ.f 285) args).run P w = .ok (.enter (ρ.f 285) args) w := enters_of L.f285 (by kernel_rfl) rfl
  obtain ⟨i0, hi, hz0, hz1, hz2⟩ := info_parts L.i5
  have hu1 : 1 ≤ u := by omega
  have hnd20 : Lib.nDigits u ≤ 20 := by have := Lib.numDigits_eq u hu1 hu64; split at this <;> omega
  have hal : P.arrayLen (ρ.t 171) = 24 := by simp [Program.arrayLen, L.t171]
  -- 'a[:nd]', for the walk to take
  have hsl : ∀ W, (Instr.sliceAt (ρ.t 171) (.pointer (some ⟨w.heap.size, 0, none⟩)) none (some (.int .i64 (Lib.nDigits u : Int))) none).run P W = .ok (.slice (some ⟨w.heap.size, 0, none⟩) (Lib.nDigits u) 24) W := fun W => by
    rw [run_sliceAt_array_h W (ρ.t 171) ⟨w.heap.size, 0, none⟩ (by simp [Program.arrayLen, Program.elem, L.t171]) .i64 (Lib.nDigits u : Int) (by omega) (by rw [hal]; omega)]
    go_simp
  -- formatBase10's contract at the new block's row of zeros
  have hH0 := Lib.holds_zero0 w (ρ.t 171) (Lib.nDigits u) (by omega)
  have hfmt := Any.internal_strconv_formatBase10 { L with } w.heap.size 0 24 u (Array.replicate (Lib.nDigits u) 0) (w.alloc (.cells Lib.zeros24 (ρ.t 171))) hH0 (by rw [Array.size_replicate]; exact Lib.lt_pow_nDigits u) hu64 (by rw [Array.size_replicate]; omega)
  rw [Array.size_replicate] at hfmt
  have HH0 := Lib.hid hH0
  have iu : (100 : Int) ≤ (u : Int) := by omega
  clear hH0 hal
  go_enter L.f288, Body.n288_ntmps ρ
  go_wp2_with (first
    | (go_at_fn (ρ.f 284); refine (Any.internal_strconv_numDigits { L with } u hu1 hu64 _ (Lib.tabIs_alloc htab _)).mono ?_; rintro e w' ⟨rfl, rfl⟩))
  go_at_fn (ρ.f 285)
  refine hfmt.mono ?_
  rintro e w' ⟨rfl, k, v', dk, rfl, hF⟩
  -- THE WORLD THAT formatBase10 LEAVES: the old one, draws, new blocks: dst IS OWNED AS BEFORE; the array's first nd cells are the numeral
  have hcells : ∀ j u', (Lib.byteCells (Lib.decDigits u))[j]? = some u' → ((putRow (fun (b : UInt8) => Value.int .u8 (b.toNat : Int)) (w.alloc (.cells Lib.zeros24 (ρ.t 171))) w.heap.size 0 dk).drewN k).cell? ((⟨w.heap.size, 0, none⟩ : Addr).add j) = some u' := by
    intro j u' hj
    have hjl : j < (Lib.decDigits u).length := by
      have h5 := (List.getElem?_eq_some_iff.1 hj).1
      rwa [Lib.byteCells_length] at h5
    have e5 : (Lib.byteCells (Lib.decDigits u))[j]? = some (Value.int .u8 ((Lib.decDigits u)[j].toNat : Int)) := by simp [Lib.byteCells, hjl]
    rw [e5] at hj
    cases hj
    rw [Lib.row_is_numeral hF j hjl, Lib.add_plain, World.cell?_drewN]
    exact cell?_putRow (fun (b : UInt8) => Value.int .u8 (b.toNat : Int)) _ w.heap.size 0 _ dk HH0.out (by rw [hF.size, Array.size_replicate]) j (by rw [hF.size]; rw [Lib.decDigits_length] at hjl; exact hjl)
  obtain ⟨os, eo⟩ := Lib.fin_at w (.cells Lib.zeros24 (ρ.t 171)) dk k 0
  have hown2 : ((putRow (fun (b : UInt8) => Value.int .u8 (b.toNat : Int)) (w.alloc (.cells Lib.zeros24 (ρ.t 171))) w.heap.size 0 dk).drewN k).ownsRow B (ρ.t 5) 1 sv n xs := by rw [eo]; exact Lib.ownsRow_grow hown k os
  have hnx2 : Below w.heap.size w ((putRow (fun (b : UInt8) => Value.int .u8 (b.toNat : Int)) (w.alloc (.cells Lib.zeros24 (ρ.t 171))) w.heap.size 0 dk).drewN k) := by rw [eo]; exact Lib.below_grow w.heap.size w (Nat.le_refl _) k os
  have hsz2 : w.heap.size ≤ ((putRow (fun (b : UInt8) => Value.int .u8 (b.toNat : Int)) (w.alloc (.cells Lib.zeros24 (ρ.t 171))) w.heap.size 0 dk).drewN k).heap.size := by rw [eo]; exact Lib.size_grow w k os
  generalize (putRow (fun (b : UInt8) => Value.int .u8 (b.toNat : Int)) (w.alloc (.cells Lib.zeros24 (ρ.t 171))) w.heap.size 0 dk).drewN k = W2 at hcells hown2 hnx2 hsz2 ⊢
  clear eo HH0 hfmt
  go_wp2_with (at_builtin; refine wpList_append_own _ rfl _ _ (ρ.t 37) rfl B (ρ.t 5) i0 (.int .u8 0) 1 1 L.t37 hi hz0 hz1 hz2 rfl (by decide) _ _ _ rfl hown2 ⟨w.heap.size, 0, none⟩ (Lib.nDigits u) 24 (Lib.byteCells (Lib.decDigits u)) rfl ?c0 hcells ?c2 ?c3 ?c4 ?c5 ?_)
  case c0 => rw [Lib.byteCells_length, Lib.decDigits_length, Nat.mul_one]
  case c2 => intro u' hu'; simp only [Lib.byteCells, List.mem_map] at hu'; obtain ⟨b, _, rfl⟩ := hu'; rfl
  case c3 => unfold maxLen; omega
  case c4 => omega
  case c5 => omega
  intro v2 w3 hown' hgrow _
  go_wp2
  go_ret
  refine ⟨v2, rfl, ?_, (chg_of_below hnx2 _).trans (chg_grown hgrow)⟩
  rw [Lib.decDigits_length]
  exact hown'



set_option maxHeartbeats 6400000 in
set_option maxRecDepth 100000 in
theorem aint_nat (L : LaysM.n249 P ρ) (B n u : Nat) (h1 : u ≤ 9223372036854775807) (sv : Value) (xs : List Value) (w : World) (hown : w.ownsRow B (ρ.t 5) 1 sv n xs) (hBw : B ≤ w.heap.size) (hlim : n + 21 ≤ 140737488355328)
    (htab : Lib.TabIs P w "internal/strconv.uint64pow10" .u64 Lib.pow10Tab) :
    Calls P (ρ.f 249) #[sv, .int .i64 u, .int .i64 10] w fun e w' => ∃ v', e = .returned v' ∧ w'.ownsRow B (ρ.t 5) 1 v' (n + (Lib.decDigits u).length) (xs ++ Lib.byteCells (Lib.decDigits u)) ∧ Chg (fun k => some k = sv.ownBlock) w w' := by
  have mixed := L.mixed
  have t5 := L.t5; have a5 := L.a5; have z5 := L.z5; have v5 := L.v5
  have t37 := L.t37; have u37 := run_underlying L.t37; have a37 := L.a37; have z37 := L.z37; have v37 := L.v37
  have t2 := L.t2; have a2 := L.a2; have z2 := L.z2; have v2 := L.v2
  have t3 := L.t3; have a3 := L.a3; have z3 := L.z3; have v3 := L.v3
  have t53 := L.t53; have a53 := L.a53; have z53 := L.z53; have v53 := L.v53
  have t4 := L.t4; have a4 := L.a4; have z4 := L.z4; have v4 := L.v4
  have e288 : ∀ args w, (callFunc (ρ.f 288) args).run P w = .ok (.enter (ρ.f 288) args) w := enters_of L.f288 (by kernel_rfl) rfl
  have hu64 : u < 18446744073709551616 := by omega
  have hAU : Calls P (ρ.f 288) #[sv, .int .u64 u, .int .i64 10] w fun e w' => ∃ v', e = .returned v' ∧ w'.ownsRow B (ρ.t 5) 1 v' (n + (Lib.decDigits u).length) (xs ++ Lib.byteCells (Lib.decDigits u)) ∧ Chg (fun k => some k = sv.ownBlock) w w' := by
    by_cases h : u < 100
    · exact auint_small { L with } B n u h sv xs w hown hBw (by omega)
    · exact auint_big { L with } B n u (by omega) hu64 sv xs w hown hBw (by omega) htab
  go_enter L.f249, Body.n249_ntmps ρ
  go_wp2_with (go_at_fn (ρ.f 288); refine hAU.mono ?_; rintro e w2 ⟨v2, rfl, hown2, hc2⟩)
  go_wp2
  first | go_ret | go_ret2
  exact ⟨v2, rfl, hown2, hc2⟩
set_option maxHeartbeats 6400000 in
set_option maxRecDepth 100000 in
theorem aint_pub (L : LaysM.n176 P ρ) (B n u : Nat) (h1 : u ≤ 9223372036854775807) (sv : Value) (xs : List Value) (w : World) (hown : w.ownsRow B (ρ.t 5) 1 sv n xs) (hBw : B ≤ w.heap.size) (hlim : n + 21 ≤ 140737488355328)
    (htab : Lib.TabIs P w "internal/strconv.uint64pow10" .u64 Lib.pow10Tab) :
    Calls P (ρ.f 176) #[sv, .int .i64 u, .int .i64 10] w fun e w' => ∃ v', e = .returned v' ∧ w'.ownsRow B (ρ.t 5) 1 v' (n + (Lib.decDigits u).length) (xs ++ Lib.byteCells (Lib.decDigits u)) ∧ Chg (fun k => some k = sv.ownBlock) w w' := by
  have mixed := L.mixed
  have t5 := L.t5; have a5 := L.a5; have z5 := L.z5; have v5 := L.v5
  have t37 := L.t37; have u37 := run_underlying L.t37; have a37 := L.a37; have z37 := L.z37; have v37 := L.v37
  have t2 := L.t2; have a2 := L.a2; have z2 := L.z2; have v2 := L.v2
  have t3 := L.t3; have a3 := L.a3; have z3 := L.z3; have v3 := L.v3
  have e249 : ∀ args w, (callFunc (ρ.f 249) args).run P w = .ok (.enter (ρ.f 249) args) w := enters_of L.f249 (by kernel_rfl) rfl
  go_enter L.f176, Body.n176_ntmps ρ
  go_wp2_with (go_at_fn (ρ.f 249); refine (aint_nat { L with } B n u h1 sv xs w hown hBw hlim htab).mono ?_; rintro e w2 ⟨v2, rfl, hown2, hc2⟩)
  go_wp2
  first | go_ret | go_ret2
  exact ⟨v2, rfl, hown2, hc2⟩
end Go.Proofs.YtaomakhhkjflaaaDoor
namespace Go.Proofs.YtaomakhhkjflaaaDoor
open Go.ChangeShapes Go.WideShapes Go.ChangeAt Go.RowKit
set_option linter.unusedVariables false
set_option maxRecDepth 100000
/-- a row of bytes that is owned -/
def BRow (B : Nat) (w : World) (v : Value) (l : List UInt8) : Prop := w.ownsRow B 5 1 v l.length (Lib.byteCells l)
/-- a block of bytes, not below B -/
def U8s (B : Nat) (w : World) (k : Nat) : Prop := B ≤ k ∧ ∃ c fz, w.heap[k]? = some (.cells c 5 fz)
/-- where terms may lie while bytes are written -/
def SB (B : Nat) (w : World) (k : Nat) : Prop := k < B ∨ ∃ c fz, w.heap[k]? = some (.cells c 25 fz)
theorem Chg.wtrans {B : Nat} {a b c : World} (h : Chg (U8s B a) a b) (k : Chg (U8s B b) b c) : Chg (U8s B a) a c :=
  h.grow k fun i hi hu => by
    by_cases hs : U8s B a i
    · exact hs
    · obtain ⟨h1, c', fz, h2⟩ := hu
      exact ⟨h1, c', fz, by rw [← h.block i hi hs]; exact h2⟩
theorem Chg.wbelow {B : Nat} {a b : World} (h : Chg (U8s B a) a b) (hB : B ≤ a.heap.size) : Below B a b := h.below hB fun k hk => hk.1
theorem wrote {B : Nat} {a b : World} (h1 : Below B a b) (h2 : Lib.OthersKept 5 none a b) (hs : a.heap.size ≤ b.heap.size) : Chg (U8s B a) a b :=
  ⟨h1.os, h1.tape, h1.output, hs, fun k hk hn => by
    rcases Nat.lt_or_ge k B with hb | hb
    · exact h1.block k hb
    · obtain ⟨o, ho⟩ : ∃ o, a.heap[k]? = some o := ⟨a.heap[k], by simp [hk]⟩
      rw [ho]
      exact h2 k o ho (by simp) fun c fz e => hn ⟨hb, c, fz, by rw [ho, e]⟩⟩
theorem wrote_own {B : Nat} {a b : World} {v : Value} {l : List UInt8} (h : BRow B a v l) (hg : Chg (fun k => some k = v.ownBlock) a b) : Chg (U8s B a) a b :=
  hg.mono fun k hk e => ⟨own_base h k e.symm, by
    obtain ⟨c, hc⟩ := own_type h k e.symm
    exact ⟨c, _, hc⟩⟩
theorem not_u8 {B : Nat} {a : World} {k : Nat} (h : SB B a k) : ¬ U8s B a k := fun hu => by
  obtain ⟨h1, c, fz, h2⟩ := hu
  rcases h with h | ⟨c', fz', h⟩
  · omega
  · rw [h2] at h
    have := (Obj.cells.inj (Option.some.inj h)).2.1
    exact absurd this (by decide)
theorem SB.chg {B : Nat} {S : Nat → Prop} {a b : World} (hc : Chg S a b) {k : Nat} (hk : k < a.heap.size) (hn : ¬ S k) (h : SB B a k) : SB B b k := by
  rcases h with h | ⟨c, fz, h⟩
  · exact .inl h
  · exact .inr ⟨c, fz, by rw [hc.block k hk hn]; exact h⟩
theorem Chg.wheap {B : Nat} {a b : World} (hc : Chg (U8s B a) a b) {k : Nat} {c : Array Value} {e : TypeId} {fz : Nat × Nat} (h : a.heap[k]? = some (.cells c e fz)) (he : e ≠ 5) : b.heap[k]? = some (.cells c e fz) :=
  hc.heap h fun hu => by
    obtain ⟨-, c', fz', h2⟩ := hu
    rw [h] at h2
    exact he (Obj.cells.inj (Option.some.inj h2)).2.1
theorem RowS.wrote {B F : Nat} {a b : World} {v : Value} {l : List Tm} (h : RowS (SB B a) F a v l) (hc : Chg (U8s B a) a b) : RowS (SB B b) F b v l :=
  h.chg hc (fun k hk _ => not_u8 hk) (fun k hk hl => hk.chg hc hl (not_u8 hk)) (Nat.le_refl _)
theorem infoU8 : ∃ i, Tryd.prog.info? 5 = some i ∧ i.zero = some (.int .u8 0) ∧ i.size = 1 ∧ i.bytes = 1 := by
  have h : (Tryd.prog.info? 5).map (fun i => (i.zero, i.size, i.bytes)) = some (some (.int .u8 0), 1, 1) := by kernel_rfl
  cases hi : Tryd.prog.info? 5 with
  | none => rw [hi] at h; cases h
  | some i =>
    rw [hi] at h
    simp only [Option.map_some, Option.some.injEq, Prod.mk.injEq] at h
    exact ⟨i, rfl, h.1, h.2.1, h.2.2⟩
theorem bcells_app (l m : List UInt8) : Lib.byteCells (l ++ m) = Lib.byteCells l ++ Lib.byteCells m := by simp [Lib.byteCells]
theorem bcells_one (l : List UInt8) : ∀ u ∈ Lib.byteCells l, u.oneCell' = true := fun u hu => by
  simp only [Lib.byteCells, List.mem_map] at hu
  obtain ⟨b, -, rfl⟩ := hu
  rfl
section
variable {a : Act} {w : World} {K : Act → World → Prop} {Q : Exit → Act → World → Prop} {o : Oper}
/-- bytes of a slice are put behind -/
theorem op_bytes (s x : Operand) (ho : o.op = .call { callee := .builtin .append, args := #[s, x], argTypes := #[47, 47] }) (B : Nat) (v : Value) (l m : List UInt8) (hs : a.eval s = v) (h : BRow B w v l) (ad : Addr) (c : Nat) (hx : a.eval x = .slice (some ad) m.length c)
    (hm : ∀ j u, (Lib.byteCells m)[j]? = some u → w.cell? (ad.add j) = some u) (hl : l.length + m.length ≤ 140737488355328) (hB : B ≤ w.heap.size)
    (hk : ∀ v' w', BRow B w' v' (l ++ m) → Chg (fun k => some k = v.ownBlock) w w' → K (a.put o.dst v') w') : Oper.wp Tryd.prog o a w K Q := by
  obtain ⟨i, h1, h2, h3, h4⟩ := infoU8
  obtain ⟨v', w', hr, q2, q3, q4⟩ := run_append_own (P := Tryd.prog) w B 47 o.type 5 i (.int .u8 0) 1 1 Tryd.underlying47 h1 h2 h3 h4 rfl (by decide) v l.length _ h ad m.length c (Lib.byteCells m) (by rw [Lib.byteCells_length]; omega) hm (bcells_one m) (by unfold maxLen; omega) (by omega) hB
  unfold Oper.wp execOp
  simp only [ho, resolve, invoke, builtin, Sem.run_bind, Sem.run_pure, Result.andThen_ok, List.map_toArray, List.map_cons, List.map_nil, hs, hx, hr]
  refine hk v' w' ?_ (chg_grown q3)
  unfold BRow
  rw [List.length_append, bcells_app]
  exact q2
/-- a string's bytes are put behind -/
theorem op_string (s x : Operand) (ho : o.op = .call { callee := .builtin .append, args := #[s, x], argTypes := #[47, 9] }) (B : Nat) (v : Value) (l : List UInt8) (hs : a.eval s = v) (h : BRow B w v l) (m : ByteArray) (hx : a.eval x = .string m)
    (hl : l.length + m.size ≤ 140737488355328) (hB : B ≤ w.heap.size)
    (hk : ∀ v' w', BRow B w' v' (l ++ m.data.toList) → Chg (fun k => some k = v.ownBlock) w w' → K (a.put o.dst v') w') : Oper.wp Tryd.prog o a w K Q := by
  obtain ⟨i, h1, h2, h3, h4⟩ := infoU8
  obtain ⟨v', w', hr, q2, q3, q4⟩ := Lib.run_append_own_string (P := Tryd.prog) w B 47 9 o.type 5 i Tryd.underlying47 Tryd.underlying9 h1 h2 h3 h4 v l.length _ h m (by unfold maxLen; omega) (by omega) hB
  unfold Oper.wp execOp
  simp only [ho, resolve, invoke, builtin, Sem.run_bind, Sem.run_pure, Result.andThen_ok, List.map_toArray, List.map_cons, List.map_nil, hs, hx, hr]
  refine hk v' w' ?_ (chg_grown q3)
  unfold BRow
  rw [List.length_append, bcells_app]
  have e : (m.data.toList).length = m.size := by simp
  rw [e]
  exact q2
end
/-- a new row of one byte, or of a few -/
theorem new_bytes (w : World) (m : List UInt8) (T : TypeId) : ∀ j u, (Lib.byteCells m)[j]? = some u → (w.alloc (.cells (Lib.byteCells m).toArray T)).cell? ((⟨w.heap.size, 0, none⟩ : Addr).add j) = some u := fun j u hj => by
  rw [Addr.add_lit, Nat.zero_add]
  exact (cells_at (heap_new w (.cells (Lib.byteCells m).toArray T)) j u (by simpa using hj)).1
theorem BRow.keep {B : Nat} {w w' : World} {v : Value} {l : List UInt8} (h : BRow B w v l) (hb : Below w.heap.size w w') : BRow B w' v l := own_keep h hb
theorem BRow.chg {B : Nat} {S : Nat → Prop} {w w' : World} {v : Value} {l : List UInt8} (h : BRow B w v l) (hc : Chg S w w') (hS : ∀ k, B ≤ k → S k → ∀ c, w.heap[k]? ≠ some (.cells c 5 (0, 0))) : BRow B w' v l :=
  own_chg h hc fun k e hk => by
    obtain ⟨c, hcc⟩ := own_type h k e
    exact hS k (own_base h k e) hk c hcc
/-- the table that numbers are written by -/
def Tab (B : Nat) (w : World) : Prop := Lib.TabBelow Tryd.prog B w "internal/strconv.uint64pow10" .u64 Lib.pow10Tab
/-- strconv.AppendInt -/
def NumP (B : Nat) (W : World) (l : List UInt8) (m : List UInt8) (e : Ending) (W' : World) : Prop := ∃ v', e = .returned v' ∧ BRow B W' v' (l ++ m) ∧ Chg (U8s B W) W W'
theorem num_any (B : Nat) (W : World) (v : Value) (l : List UInt8) (i : Int) (h0 : -9223372036854775808 ≤ i) (h1 : i ≤ 9223372036854775807) (h : BRow B W v l) (hB : B ≤ W.heap.size) (hl : l.length + 21 ≤ 140737488355328) (ht : Tab B W) :
    Calls Tryd.prog 32 #[v, .int .i64 i, .int .i64 10] W (NumP B W l (Lib.itoa i)) := by
  refine (Any.strconv_AppendInt_10 Tryd.laysAI B l.length i h0 h1 v _ W h hB hl ht).mono ?_
  rintro e w' ⟨v', rfl, ho, hb, hk⟩
  refine ⟨v', rfl, ?_, wrote hb hk ?_⟩
  · unfold BRow
    rw [List.length_append, bcells_app]
    exact ho
  · exact hb.size
/-- strconv.AppendInt, of what is not negative -/
theorem num_nat (B : Nat) (W : World) (v : Value) (l : List UInt8) (u : Nat) (h1 : u ≤ 9223372036854775807) (h : BRow B W v l) (hB : B ≤ W.heap.size) (hl : l.length + 21 ≤ 140737488355328) (ht : Tab B W) :
    Calls Tryd.prog 32 #[v, .int .i64 u, .int .i64 10] W (fun e W' => ∃ v', e = .returned v' ∧ BRow B W' v' (l ++ Lib.itoa u) ∧ Chg (fun k => some k = v.ownBlock) W W') := by
  refine (aint_pub Tryd.laysAI B l.length u h1 v _ W h hB hl ht.here).mono ?_
  rintro e w' ⟨v', rfl, ho, hc⟩
  refine ⟨v', rfl, ?_, hc⟩
  unfold BRow
  rw [Lib.itoa_nonneg, List.length_append, bcells_app]
  exact ho
/-- a row that ends so is no row of one other byte -/
theorem not_block {B : Nat} {w : World} {v : Value} {l : List UInt8} {x y : UInt8} {g : Nat} {T : TypeId} {fz : Nat × Nat} (h : BRow B w v (l ++ [x])) (hg : w.heap[g]? = some (.cells #[.int .u8 (y.toNat : Int)] T fz)) (hxy : x ≠ y) : v.ownBlock ≠ some g := by
  intro e
  obtain ⟨hl, ⟨rfl, h0⟩ | ⟨g', cap, cur, rfl, hb, hh, h3, h4, h5, h6⟩⟩ := h
  · cases e
  · obtain rfl : g' = g := Option.some.inj e
    rw [hg] at hh
    have e2 := (Obj.cells.inj (Option.some.inj hh)).1
    subst e2
    have h7 := congrArg List.length h6
    rw [Lib.byteCells_length, List.length_append, List.length_take] at h7
    simp only [List.length_cons, List.length_nil, Nat.mul_one, Nat.zero_add, List.length_append, Array.length_toList, List.size_toArray] at h7
    have h8 : l = [] := by
      apply List.eq_nil_of_length_eq_zero
      omega
    subst h8
    simp [Lib.byteCells] at h6
    exact hxy (UInt8.toNat_inj.1 (by omega))
end Go.Proofs.YtaomakhhkjflaaaDoor
namespace Go.Proofs.YtaomakhhkjflaaaDoor
open Go.ChangeShapes Go.WideShapes Go.ChangeAt Go.RowKit
set_option linter.unusedVariables false
set_option linter.unusedSimpArgs false
set_option maxRecDepth 100000
section
variable {P : Program} {ops : Array Oper} {rest : List Oper} {a : Act} {w : World} {Q : Exit → Act → World → Prop} {o : Oper}
theorem wl_string (hgd : o.guard = none) (s x : Operand) (ho : o.op = .call { callee := .builtin .append, args := #[s, x], argTypes := #[47, 9] }) (B : Nat) (v : Value) (l : List UInt8) (hs : a.eval s = v) (h : BRow B w v l) (m : ByteArray) (hx : a.eval x = .string m)
    (hl : l.length + m.size ≤ 140737488355328) (hB : B ≤ w.heap.size)
    (hk : ∀ v' w', BRow B w' v' (l ++ m.data.toList) → Chg (fun k => some k = v.ownBlock) w w' → wpList Tryd.prog ops Q rest (a.put o.dst v') w') : wpList Tryd.prog ops Q (o :: rest) a w :=
  wpList_plain hgd fun K hK => op_string s x ho B v l hs h m hx hl hB fun v' w' h1 h2 => hK _ _ (hk v' w' h1 h2)
theorem wl_bytes (hgd : o.guard = none) (s x : Operand) (ho : o.op = .call { callee := .builtin .append, args := #[s, x], argTypes := #[47, 47] }) (B : Nat) (v : Value) (l m : List UInt8) (hs : a.eval s = v) (h : BRow B w v l) (ad : Addr) (c : Nat) (hx : a.eval x = .slice (some ad) m.length c)
    (hm : ∀ j u, (Lib.byteCells m)[j]? = some u → w.cell? (ad.add j) = some u) (hl : l.length + m.length ≤ 140737488355328) (hB : B ≤ w.heap.size)
    (hk : ∀ v' w', BRow B w' v' (l ++ m) → Chg (fun k => some k = v.ownBlock) w w' → wpList Tryd.prog ops Q rest (a.put o.dst v') w') : wpList Tryd.prog ops Q (o :: rest) a w :=
  wpList_plain hgd fun K hK => op_bytes s x ho B v l m hs h ad c hx hm hl hB fun v' w' h1 h2 => hK _ _ (hk v' w' h1 h2)
end
/-- a term's text is put behind -/
def WrP (B : Nat) (W : World) (l : List UInt8) (t : Tm) (e : Ending) (W' : World) : Prop := ∃ v', e = .returned v' ∧ BRow B W' v' (l ++ tx t) ∧ Chg (U8s B W) W W'
set_option maxHeartbeats 8000000 in
theorem write_num (B : Nat) (W : World) (v : Value) (l : List UInt8) (te : TE) (hk : te.k = 0) (hf : fields te.k te.n te.s te.u) (h : BRow B W v l) (hB : B ≤ W.heap.size) (hl : l.length + 21 ≤ 140737488355328) (ht : Tab B W) :
    Calls Tryd.prog 22 #[v, .agg te.cells.toArray] W (WrP B W l te.t) := by
  obtain ⟨vo, vc, rfl⟩ := own_slice h
  obtain ⟨gk, gn, gs, gu, gao, gcap, gl⟩ := te
  have hk : gk = 0 := hk
  subst hk
  have hb2 := ((Below.refl W.heap.size W).alloc (Nat.le_refl _) (.cells #[.slice vo l.length vc] 47)).alloc (by simp) (.cells #[.int .i8 0, .int .i64 gn, .string gs, .string gu, .slice gao gl.length gcap] 25)
  have hX := heap_old (heap_new W (.cells #[.slice vo l.length vc] 47)) (.cells #[.int .i8 0, .int .i64 gn, .string gs, .string gu, .slice gao gl.length gcap] 25)
  have hY := heap_new (W.alloc (.cells #[.slice vo l.length vc] 47)) (.cells #[.int .i8 0, .int .i64 gn, .string gs, .string gu, .slice gao gl.length gcap] 25)
  have hs1 : (W.alloc (.cells #[.slice vo l.length vc] 47)).heap.size = W.heap.size + 1 := by simp
  rw [hs1] at hY
  have ht2 : Tab B _ := ht.on (hb2.mono hB)
  have hr2 := h.keep hb2
  have hB2 : B ≤ ((W.alloc (.cells #[.slice vo l.length vc] 47)).alloc (.cells #[.int .i8 0, .int .i64 gn, .string gs, .string gu, .slice gao gl.length gcap] 25)).heap.size := Nat.le_trans hB hb2.size
  have HB2 := Lib.hid hb2
  have HX := Lib.hid hX
  have HY := Lib.hid hY
  have HT := Lib.hid ht2
  have HR := Lib.hid hr2
  have HBB := Lib.hid hB2
  clear hb2 hX hY hs1 ht2 hr2 hB2 ht h
  have HC := Lib.hid (num_any B _ _ l gn hf.2.1.1 hf.2.1.2 HR.out HBB.out hl HT.out)
  obtain ⟨x0, -⟩ := cells_at HX.out 0 _ rfl
  obtain ⟨y0, -⟩ := cells_at HY.out 0 _ rfl
  obtain ⟨y1, -⟩ := cells_at HY.out 1 _ rfl
  simp only [TE.cells, TE.t] at *
  go_enter Tryd.func22, Tryd.ntmps22
  go_wp2_with fail
  refine HC.out.mono ?_
  rintro e w3 ⟨v', rfl, hr, hc⟩
  clear x0 y0 y1
  go_wp2_with fail
  go_ret
  exact ⟨v', rfl, by rw [tx, form, if_pos rfl]; exact hr, (chg_of_below HB2.out _).wtrans hc⟩
set_option maxHeartbeats 8000000 in
theorem write_atom (B : Nat) (W : World) (v : Value) (l : List UInt8) (te : TE) (hk : te.k = 1) (h : BRow B W v l) (hB : B ≤ W.heap.size) (hl : l.length + te.s.size ≤ 140737488355328) (ht : Tab B W) :
    Calls Tryd.prog 22 #[v, .agg te.cells.toArray] W (WrP B W l te.t) := by
  obtain ⟨vo, vc, rfl⟩ := own_slice h
  obtain ⟨gk, gn, gs, gu, gao, gcap, gl⟩ := te
  have hk : gk = 1 := hk
  subst hk
  have hb2 := ((Below.refl W.heap.size W).alloc (Nat.le_refl _) (.cells #[.slice vo l.length vc] 47)).alloc (by simp) (.cells #[.int .i8 1, .int .i64 gn, .string gs, .string gu, .slice gao gl.length gcap] 25)
  have hX := heap_old (heap_new W (.cells #[.slice vo l.length vc] 47)) (.cells #[.int .i8 1, .int .i64 gn, .string gs, .string gu, .slice gao gl.length gcap] 25)
  have hY := heap_new (W.alloc (.cells #[.slice vo l.length vc] 47)) (.cells #[.int .i8 1, .int .i64 gn, .string gs, .string gu, .slice gao gl.length gcap] 25)
  have hs1 : (W.alloc (.cells #[.slice vo l.length vc] 47)).heap.size = W.heap.size + 1 := by simp
  rw [hs1] at hY
  have ht2 : Tab B _ := ht.on (hb2.mono hB)
  have hr2 := h.keep hb2
  have hB2 : B ≤ ((W.alloc (.cells #[.slice vo l.length vc] 47)).alloc (.cells #[.int .i8 1, .int .i64 gn, .string gs, .string gu, .slice gao gl.length gcap] 25)).heap.size := Nat.le_trans hB hb2.size
  have HB2 := Lib.hid hb2
  have HX := Lib.hid hX
  have HY := Lib.hid hY
  have HT := Lib.hid ht2
  have HR := Lib.hid hr2
  have HBB := Lib.hid hB2
  clear hb2 hX hY hs1 ht2 hr2 hB2 ht h
  have hl : l.length + gs.size ≤ 140737488355328 := hl
  obtain ⟨x0, -⟩ := cells_at HX.out 0 _ rfl
  obtain ⟨y0, -⟩ := cells_at HY.out 0 _ rfl
  obtain ⟨y1, -⟩ := cells_at HY.out 1 _ rfl
  obtain ⟨y2, -⟩ := cells_at HY.out 2 _ rfl
  simp only [TE.cells, TE.t] at *
  go_enter Tryd.func22, Tryd.ntmps22
  go_wp2_with (at_builtin; refine stop_here ?_)
  refine Lib.hid ?_
  refine wl_string rfl (.tmp 19) (.tmp 21) rfl B _ l rfl HR.out gs rfl hl HBB.out ?_
  intro v' w3 hr hc
  have hc3 := wrote_own HR.out hc
  have HR3 := Lib.hid hr
  have HC3 := Lib.hid hc3
  clear x0 y0 y1 y2 hr hc hc3
  go_wp2_with fail
  go_ret
  refine ⟨v', rfl, ?_, (chg_of_below HB2.out _).wtrans HC3.out⟩
  rw [tx, form, if_neg (by decide), if_pos rfl, ByteArray.toList_eq]
  exact HR3.out
/-- what region 12 reads -/
def Z12 (g y : Nat) (v : Value) (n : Int) (s u : ByteArray) (W : World) : Prop := W.cell? ⟨g, 0, none⟩ = some v ∧ W.cell? ⟨y, 1, none⟩ = some (.int .i64 n) ∧ W.cell? ⟨y, 2, none⟩ = some (.string s) ∧ W.cell? ⟨y, 3, none⟩ = some (.string u)
theorem z12_of {g y : Nat} {v lv : Value} {k n : Int} {s u : ByteArray} {W : World} (hx : W.heap[g]? = some (.cells #[v] 47 (0, 0))) (hy : W.heap[y]? = some (.cells #[.int .i8 k, .int .i64 n, .string s, .string u, lv] 25 (0, 0))) : Z12 g y v n s u W :=
  ⟨(cells_at hx 0 _ rfl).1, (cells_at hy 1 _ rfl).1, (cells_at hy 2 _ rfl).1, (cells_at hy 3 _ rfl).1⟩
set_option maxHeartbeats 8000000 in
theorem write_fun (B : Nat) (W : World) (v : Value) (l : List UInt8) (te : TE) (hk : te.k = 3) (hf : fields te.k te.n te.s te.u) (h : BRow B W v l) (hB : B ≤ W.heap.size) (hl : l.length + te.s.size + te.u.size + 40 ≤ 140737488355328) (ht : Tab B W) :
    Calls Tryd.prog 22 #[v, .agg te.cells.toArray] W (WrP B W l te.t) := by
  obtain ⟨vo, vc, rfl⟩ := own_slice h
  obtain ⟨gk, gn, gs, gu, gao, gcap, gl⟩ := te
  have hk : gk = 3 := hk
  subst hk
  have hb2 := ((Below.refl W.heap.size W).alloc (Nat.le_refl _) (.cells #[.slice vo l.length vc] 47)).alloc (by simp) (.cells #[.int .i8 3, .int .i64 gn, .string gs, .string gu, .slice gao gl.length gcap] 25)
  have hX := heap_old (heap_new W (.cells #[.slice vo l.length vc] 47)) (.cells #[.int .i8 3, .int .i64 gn, .string gs, .string gu, .slice gao gl.length gcap] 25)
  have hY := heap_new (W.alloc (.cells #[.slice vo l.length vc] 47)) (.cells #[.int .i8 3, .int .i64 gn, .string gs, .string gu, .slice gao gl.length gcap] 25)
  have hs1 : (W.alloc (.cells #[.slice vo l.length vc] 47)).heap.size = W.heap.size + 1 := by simp
  rw [hs1] at hY
  have ht2 : Tab B _ := ht.on (hb2.mono hB)
  have hr2 := h.keep hb2
  have hB2 : B ≤ ((W.alloc (.cells #[.slice vo l.length vc] 47)).alloc (.cells #[.int .i8 3, .int .i64 gn, .string gs, .string gu, .slice gao gl.length gcap] 25)).heap.size := Nat.le_trans hB hb2.size
  have HB2 := Lib.hid hb2
  have HX := Lib.hid hX
  have HY := Lib.hid hY
  have HT := Lib.hid ht2
  have HR := Lib.hid hr2
  have HBB := Lib.hid hB2
  clear hb2 hX hY hs1 ht2 hr2 hB2 ht h
  have hl : l.length + gs.size + gu.size + 40 ≤ 140737488355328 := hl
  have hn1 := hf.2.1.1
  have hn2 := hf.2.1.2
  obtain ⟨x0, -⟩ := cells_at HX.out 0 _ rfl
  obtain ⟨y0, -⟩ := cells_at HY.out 0 _ rfl
  obtain ⟨y1, -⟩ := cells_at HY.out 1 _ rfl
  obtain ⟨y2, -⟩ := cells_at HY.out 2 _ rfl
  obtain ⟨y3, -⟩ := cells_at HY.out 3 _ rfl
  simp only [TE.cells, TE.t] at *
  go_enter Tryd.func22, Tryd.ntmps22
  go_wp2_with fail
  generalize (W.alloc (.cells #[.slice vo l.length vc] 47)).alloc (.cells #[.int .i8 3, .int .i64 gn, .string gs, .string gu, .slice gao gl.length gcap] 25) = W2 at *
  have hd := (Below.refl W2.heap.size W2).drew
  have hS : Z12 W.heap.size (W.heap.size + 1) (.slice vo l.length vc) gn gs gu W2.drew := z12_of (keep_heap HX.out hd) (keep_heap HY.out hd)
  have HX5 := Lib.hid (keep_heap HX.out hd)
  have HY5 := Lib.hid (keep_heap HY.out hd)
  have HR5 := Lib.hid (HR.out.keep hd)
  have HT5 : Hid (Tab B W2.drew) := Lib.hid (HT.out.on (hd.mono HBB.out))
  have HBB5 : Hid (B ≤ W2.drew.heap.size) := Lib.hid HBB.out
  have HB5 := Lib.hid (HB2.out.trans (hd.mono HB2.out.size))
  clear x0 y0 y1 y2 y3 hd HR HT HBB HB2 HX HY
  refine region_plan (Z12 W.heap.size (W.heap.size + 1) (.slice vo l.length vc) gn gs gu) [(0, 0), (1, 0), (2, 0), (3, 0), (4, 0), (5, 0), (6, 0), (7, 0), (8, 0), (10, 0), (11, 0), (9, 1), (12, 1), (13, 0)] (by kernel_rfl) (by kernel_rfl) (by kernel_rfl) hS ?_
  generalize W2.drew = WD at *
  have hq1 : ¬ 9223372036854775807 < 4 + gs.size := by omega
  have hq2 : ¬ 9223372036854775807 < 4 + gs.size + 1 := by omega
  have hq3 : ¬ 9223372036854775807 < 4 + gs.size + 1 + gu.size := by omega
  have hq4 : ¬ 9223372036854775807 < 4 + gs.size + 1 + gu.size + 1 := by omega
  iterate 11 (first | (refine plan_skip rfl ?_ ?_; (focus (rfl)); (try simp only [Act.put, List.setIfInBounds_toArray, List.set_cons_zero, List.set_cons_succ])) | (refine plan_take (v := ?_) rfl ?_ (fun w hSw => ?_) ?_; rotate_left; (focus (rfl)); (focus (unfold Z12 at hSw; (go_simp <;> with_reducible rfl))); (try simp only [Act.put, List.setIfInBounds_toArray, List.set_cons_zero, List.set_cons_succ])))
  refine plan_run rfl ?_ (fun K hK => ?_)
  focus (rfl)
  refine op_string (.tmp 44) (.tmp 52) rfl B _ l rfl HR5.out (⟨#[102, 117, 110, 32]⟩ ++ gs ++ ⟨#[58]⟩ ++ gu ++ ⟨#[47]⟩) rfl (by simp only [ByteArray.size_append', ByteArray.size_mk', List.size_toArray, List.length_cons, List.length_nil]; omega) HBB5.out ?_
  intro v3 w3 hr3 hc3
  have hu3 := wrote_own HR5.out hc3
  have hS3 : Z12 W.heap.size (W.heap.size + 1) (.slice vo l.length vc) gn gs gu w3 := z12_of (hu3.wheap HX5.out (by decide)) (hu3.wheap HY5.out (by decide))
  have HX3 := Lib.hid (hu3.wheap HX5.out (by decide))
  have HY3 := Lib.hid (hu3.wheap HY5.out (by decide))
  have HU3 := Lib.hid hu3
  have HN := Lib.hid (num_any B w3 v3 _ gn hn1 hn2 hr3 (Nat.le_trans HBB5.out hu3.size) (by simp only [List.length_append, Array.length_toList, ByteArray.size_data, ByteArray.size_append', ByteArray.size_mk', List.size_toArray, List.length_cons, List.length_nil]; omega) (HT5.out.on (hu3.wbelow HBB5.out)))
  refine hK.out _ _ (hS3) ?_
  clear hK K
  (try simp only [Act.put, List.setIfInBounds_toArray, List.set_cons_zero, List.set_cons_succ])
  clear hS hr3 hc3 hu3 HX5 HY5
  refine plan_run rfl ?_ (fun K hK => ?_)
  focus (rfl)
  go_simp
  refine (HN.out).mono ?_
  rintro e w4 ⟨v4, rfl, hr4, hc4⟩
  have hS4 := z12_of (hc4.wheap HX3.out (by decide)) (hc4.wheap HY3.out (by decide))
  refine hK.out _ _ hS4 ?_
  clear hK K 
  (try simp only [Act.put, List.setIfInBounds_toArray, List.set_cons_zero, List.set_cons_succ])
  have HR4 := Lib.hid hr4
  have HC4 := Lib.hid (((chg_of_below HB5.out (U8s B W)).wtrans HU3.out).wtrans hc4)
  iterate 1 (first | (refine plan_skip rfl ?_ ?_; (focus (rfl)); (try simp only [Act.put, List.setIfInBounds_toArray, List.set_cons_zero, List.set_cons_succ])) | (refine plan_take (v := ?_) rfl ?_ (fun w hSw => ?_) ?_; rotate_left; (focus (rfl)); (focus (unfold Z12 at hSw; (go_simp <;> with_reducible rfl))); (try simp only [Act.put, List.setIfInBounds_toArray, List.set_cons_zero, List.set_cons_succ])))
  clear hr4 hc4 hS3 hS4
  refine plan_done ?_
  go_wp2_with fail
  go_ret
  refine ⟨_, rfl, ?_, HC4.out⟩
  have h4 := HR4.out
  rw [tx, form, if_neg (by decide), if_neg (by decide), if_neg (by decide), if_neg (by decide), if_pos rfl, ByteArray.toList_eq, ByteArray.toList_eq]
  simp only [ByteArray.data_append, Array.toList_append, List.append_assoc] at h4 ⊢
  exact h4
end Go.Proofs.YtaomakhhkjflaaaDoor
