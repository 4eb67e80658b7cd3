/- the unit's waits. Conditions: what is handed over reads; the letters stand. -/
import Derived.Test.YtepfmanbllegiaaDoorMt12
namespace Go.Proofs.YtepfmanbllegiaaDoor
open Go.ChangeShapes Go.WideShapes Go.ChangeAt Go.RowKit
set_option linter.unusedVariables false
set_option linter.unusedSimpArgs false
set_option maxRecDepth 100000
theorem infoIM {n : Nat} (h : n = 6) : (Tryd.prog.info? 72).map (·.size) = some n := by
  have : (Tryd.prog.info? 72).map (·.size) = some 6 := by kernel_rfl
  rw [this, h]
theorem isack_x (M : Nat → Prop) (w : World) (it : It) (pid : Int) (hi : TeOk M w it.x) (hp : -9223372036854775808 ≤ pid ∧ pid ≤ 9223372036854775807) :
    Calls Tryd.prog 36 #[.agg #[.int .i8 it.x.k, .int .i64 it.x.n, .string it.x.s, .string it.x.u, .slice it.x.ao it.x.l.length it.x.cap, .bool it.o], .int .i64 pid] w fun e w' => Below w.heap.size w w' ∧ ∃ y : TE, e = .returned (.tuple #[.agg #[.int .i8 y.k, .int .i64 y.n, .string y.s, .string y.u, .slice y.ao y.l.length y.cap], .bool (ackB it.x.t it.o pid)]) ∧ TeOk M w' y ∧ y.t = ackT it.x.t (ackB it.x.t it.o pid) := isack_any M w it pid hi hp
/-- where the loop stands -/
structure WtI (M : Nat → Prop) (w W : World) (ub : Nat) (m : Mm) (i : Im) (ev : Value) (E : List Ef) (RL : List Rc) (ML : List It) : Prop where
  k : NxW w W ub m i ev false E RL
  ml : ItsOk (MU M ub ev) W (.slice i.ml.o i.ml.n i.ml.c) ML
  lt : Cells W 0 letL
theorem WtI.keep {M : Nat → Prop} {w W W' : World} {ub : Nat} {m : Mm} {i : Im} {ev : Value} {E : List Ef} {RL : List Rc} {ML : List It} (h : WtI M w W ub m i ev E RL ML) (hb : Below W.heap.size W W') : WtI M w W' ub m i ev E RL ML := ⟨h.k.keep hb, h.ml.keep hb, keepCells h.lt hb⟩
def WaP (M : Nat → Prop) (w : World) (ub : Nat) (m : Mm) (i : Im) (ev : Value) (E : List Ef) (RL : List Rc) (ML : List It) (e : Ending) (w' : World) : Prop :=
  ((∀ x ∈ ML, hitB m.pid x = false) ∧ UnR M w ub m i ev true E (fun _ _ m' E1 RL' => SmQ RL m m' E1 RL') e w') ∨ UnR M w ub m i ev false E (WaQ RL m ML) e w'
def WiS (q ub : Nat) (pid : Int) (it : It) (W : World) : Prop := W.heap[q]? = some (.cells #[.int .i8 it.x.k, .int .i64 it.x.n, .string it.x.s, .string it.x.u, .slice it.x.ao it.x.l.length it.x.cap, .bool it.o] 72 (0, 0)) ∧ W.cell? ⟨ub, 1, none⟩ = some (.int .i64 pid)
theorem WiS.keep {q ub : Nat} {pid : Int} {it : It} {W W' : World} (h : WiS q ub pid it W) (hb : Below W.heap.size W W') : WiS q ub pid it W' := ⟨keep_heap h.1 hb, keep_cell h.2 hb⟩
set_option maxHeartbeats 16000000 in
theorem waits_any (M : Nat → Prop) (w : World) (hM : ∀ k, M k → k < w.heap.size) (hc : Cells w 0 letL) (ub : Nat) (m : Mm) (i : Im) (ev : Value) (E : List Ef) (h : UnOk w ub (unL m i) ev false E) (hn : E.length ≤ 40) (hlu : ¬ UnB ub ev 0)
    (RL : List Rc) (hr : RcOwn w ub m.rs RL) (hrM : ∀ k, (Value.slice m.rs.o m.rs.n m.rs.c).ownBlock = some k → ¬ MU M ub ev k) (N : Nat) (hN : m.n = (N : Int)) (hl : N < RL.length) (hm : RL.length ≤ 100) (hp : ∀ r ∈ RL, r.pid ≤ 576460752303423487)
    (ML : List It) (hml : ItsOk (MU M ub ev) w (.slice i.ml.o i.ml.n i.ml.c) ML) (hpid : -9223372036854775808 ≤ m.pid ∧ m.pid ≤ 9223372036854775807) :
    Calls Tryd.prog 19 #[.pointer (some ⟨ub, 0, none⟩)] w (WaP M w ub m i ev E RL ML) := by
  obtain ⟨mo, mc, emv, hml1, hml2, -, -⟩ := hml.form
  injection emv with e1 e2 e3
  have HMU := Lib.hid (mu_lt h hM)
  have c29 : w.cell? ⟨ub, 29, none⟩ = some (.slice mo ML.length mc) := by rw [← e1, ← e2, ← e3]; exact h.cell (i := 29) rfl
  have H0 : Hid (WtI M w w ub m i ev E RL ML) := Lib.hid ⟨⟨Below.refl _ _, h, hr⟩, hml, hc⟩
  have HP := Lib.hid (And.intro hrM (And.intro hp (And.intro hN (And.intro hlu (And.intro hM (And.intro hpid (And.intro e1 (And.intro e2 e3))))))))
  have HUL := Lib.hid (And.intro (own_lt hr (Nat.le_refl _)) (And.intro hml hc))
  clear h hr hrM hp hM hc hlu hN hml hpid e1 e2 e3
  go_enter Tryd.func19, Tryd.ntmps19
  go_wp2_with fail
  clear c29
  go_loopw [15] (fun iv wr => ∃ j : Nat, j ≤ ML.length ∧ iv = .int .i64 j ∧ Hid (WtI M w wr ub m i ev E RL ML ∧ ∀ x ∈ ML.take j, hitB m.pid x = false)) (fun iv _ => ML.length - (intOf iv).toNat)
  case atStart => exact ⟨0, Nat.zero_le _, rfl, Lib.hid ⟨H0.out, fun x hx => by simp at hx⟩⟩
  case round =>
    clear H0
    obtain ⟨j, hj, rfl, HI⟩ := hrel
    by_cases hlt : j < ML.length
    · obtain ⟨it, hit⟩ : ∃ it, ML[j]? = some it := ⟨ML[j], List.getElem?_eq_getElem hlt⟩
      have hte := HI.out.1.ml.te it (List.mem_of_getElem? hit)
      obtain ⟨ao', cap', e, -, -, -, hat⟩ := HI.out.1.ml.form
      rw [HP.out.2.2.2.2.2.2.1, HP.out.2.2.2.2.2.2.2.1, HP.out.2.2.2.2.2.2.2.2] at e
      injection e with e1 e2 e3
      subst e1 e3
      obtain ⟨b, off, rfl, ⟨c0, c1, c2, c3, c4, c5⟩, -⟩ := hat j it hit
      have HT := Lib.hid (And.intro hte hit)
      clear hte hit e2 hat
      go_wp2_with (with_reducible refine stop_op (o := ⟨_, .store 72 (.tmp 3) (.tmp 19), _, _, _, _⟩) ?_)
      refine Lib.hid ?_
      refine wpList_store_new (o := ⟨none, _, _, _, _, _⟩) rfl 72 (.tmp 3) (.tmp 19) rfl #[.int .i8 it.x.k, .int .i64 it.x.n, .string it.x.s, .string it.x.u, .slice it.x.ao it.x.l.length it.x.cap, .bool it.o] rfl rfl (infoIM rfl) rfl (by simp [Value.oneCell']) ?_
      clear c0 c1 c2 c3 c4 c5
      have hb1 := (Below.refl wr.heap.size wr).alloc (Nat.le_refl _) (.cells #[.int .i8 it.x.k, .int .i64 it.x.n, .string it.x.s, .string it.x.u, .slice it.x.ao it.x.l.length it.x.cap, .bool it.o] 72)
      have HI1 := Lib.hid (And.intro (HI.out.1.keep hb1) (And.intro (heap_new wr (.cells #[.int .i8 it.x.k, .int .i64 it.x.n, .string it.x.s, .string it.x.u, .slice it.x.ao it.x.l.length it.x.cap, .bool it.o] 72)) (And.intro (HT.out.1.keep hb1) HI.out.2)))
      have HQ3 := Lib.hid (show w.heap.size ≤ wr.heap.size from HI.out.1.k.hb.size)
      clear hb1 HI
      generalize wr.alloc (.cells #[.int .i8 it.x.k, .int .i64 it.x.n, .string it.x.s, .string it.x.u, .slice it.x.ao it.x.l.length it.x.cap, .bool it.o] 72) = w1 at *
      generalize wr.heap.size = q3 at *
      go_wp2_with fail
      simp only [Act.put]
      go_cut [4, 5] from 20 to 29 (fun pv av wx => ∃ (q4 : Nat) (y : TE), pv = .pointer (some ⟨q4, 0, none⟩) ∧ av = .bool (ackB it.x.t it.o m.pid) ∧ Hid (WtI M w wx ub m i ev E RL ML ∧ wx.heap[q3]? = some (.cells #[.int .i8 it.x.k, .int .i64 it.x.n, .string it.x.s, .string it.x.u, .slice it.x.ao it.x.l.length it.x.cap, .bool it.o] 72 (0, 0)) ∧ TeOk (MU M ub ev) wx it.x ∧ wx.heap[q4]? = some (.cells #[.int .i8 y.k, .int .i64 y.n, .string y.s, .string y.u, .slice y.ao y.l.length y.cap] 27 (0, 0)) ∧ TeOk (MU M ub ev) wx y ∧ y.t = ackT it.x.t (ackB it.x.t it.o m.pid) ∧ w.heap.size ≤ q4))
      case first =>
        have hdr : Below w1.heap.size w1 w1.drew := (Below.refl _ _).drew
        have hS : WiS q3 ub m.pid it w1.drew := ⟨keep_heap HI1.out.2.1 hdr, (HI1.out.1.k.un.keep hdr).cell (i := 1) rfl⟩
        have HIA := Lib.hid (And.intro (HI1.out.1.keep hdr) (And.intro (keep_heap HI1.out.2.1 hdr) (HI1.out.2.2.1.keep hdr)))
        refine region_planT (WiS q3 ub m.pid it) (.take 0 (.take 1 (.take 2 (.take 3 (.take 4 (.take 5 (.fork 6 (.take 7 (.take 8 (.take 9 (.run 10 (.run 11 (.take 12 .done)))))) 10 (.run 6 (.take 7 (.take 8 (.take 9 (.run 11 (.take 12 .done))))))))))))) (by kernel_rfl) (by kernel_rfl) (by kernel_rfl) hS ?_
        generalize w1.drew = WD at *
        clear hdr HI1
        refine planT_take rfl ?_ (fun wS hSw => exec_row 72 (.tmp 3) rfl q3 rfl #[.int .i8 it.x.k, .int .i64 it.x.n, .string it.x.s, .string it.x.u, .slice it.x.ao it.x.l.length it.x.cap, .bool it.o] 72 (0, 0) _ hSw.1 Tryd.underlying72 rfl (infoIM rfl)) ?_
        focus (rfl)
        (try simp only [Act.put, List.setIfInBounds_toArray, List.set_cons_zero, List.set_cons_succ])
        iterate 5 (first | (refine planT_skip rfl ?_ ?_; (focus (rfl)); (try simp only [Act.put, List.setIfInBounds_toArray, List.set_cons_zero, List.set_cons_succ])) | (refine planT_take (v := ?_) rfl ?_ (fun w hSw => ?_) ?_; rotate_left; (focus (rfl)); (focus (unfold WiS at hSw; (go_simp <;> with_reducible rfl))); (try simp only [Act.put, List.setIfInBounds_toArray, List.set_cons_zero, List.set_cons_succ])))
        refine planT_fork ?_ ?_
        · skip
          have HC := Lib.hid (isack_x (MU M ub ev) WD it m.pid HIA.out.2.2 HP.out.2.2.2.2.2.1)
          refine planT_run rfl ?_ (fun K hK => ?_)
          focus (rfl)
          go_simp
          refine HC.out.mono ?_
          clear HC
          rintro e WA ⟨hba, y, rfl, hyo, hyt⟩
          have hS1 := hS.keep hba
          have HIB := Lib.hid (And.intro (HIA.out.1.keep hba) (And.intro (keep_heap HIA.out.2.1 hba) (And.intro (HIA.out.2.2.keep hba) (And.intro hyo hyt))))
          have HG4 := Lib.hid (show w.heap.size ≤ WA.heap.size from HIB.out.1.k.hb.size)
          refine hK.out _ _ (hS1) ?_
          clear hK K
          (try simp only [Act.put, List.setIfInBounds_toArray, List.set_cons_zero, List.set_cons_succ])
          clear hS hba hyo hyt HIA
          generalize hak : ackB it.x.t it.o m.pid = ak at *
          have HAK := Lib.hid hak
          clear hak
          iterate 3 (first | (refine planT_skip rfl ?_ ?_; (focus (rfl)); (try simp only [Act.put, List.setIfInBounds_toArray, List.set_cons_zero, List.set_cons_succ])) | (refine planT_take (v := ?_) rfl ?_ (fun w hSw => ?_) ?_; rotate_left; (focus (rfl)); (focus (unfold WiS at hSw; (go_simp <;> with_reducible rfl))); (try simp only [Act.put, List.setIfInBounds_toArray, List.set_cons_zero, List.set_cons_succ])))
          have hb2 := (Below.refl WA.heap.size WA).alloc (Nat.le_refl _) (.cells zT 27)
          have hS2 := hS1.keep hb2
          refine planT_run rfl ?_ (fun K hK => ?_)
          focus (rfl)
          go_simp
          refine hK.out _ _ (hS2) ?_
          clear hK K
          (try simp only [Act.put, List.setIfInBounds_toArray, List.set_cons_zero, List.set_cons_succ])
          have hb3 := (Below.refl WA.heap.size WA).alloc (Nat.le_refl _) (.cells #[.int .i8 y.k, .int .i64 y.n, .string y.s, .string y.u, .slice y.ao y.l.length y.cap] 27)
          have hS3 := hS1.keep hb3
          refine planT_run rfl ?_ (fun K hK => ?_)
          focus (rfl)
          refine wp_store_row 27 (.tmp 4) (.tmp 28) rfl WA.heap.size #[.int .i8 y.k, .int .i64 y.n, .string y.s, .string y.u, .slice y.ao y.l.length y.cap] rfl rfl 27 zT (heap_new WA _) (infoTM' _ rfl) rfl (by simp [Value.oneCell']) ?_
          rw [setRow_alloc]
          refine hK.out _ _ (hS3) ?_
          clear hK K
          (try simp only [Act.put, List.setIfInBounds_toArray, List.set_cons_zero, List.set_cons_succ])
          iterate 1 (first | (refine planT_skip rfl ?_ ?_; (focus (rfl)); (try simp only [Act.put, List.setIfInBounds_toArray, List.set_cons_zero, List.set_cons_succ])) | (refine planT_take (v := ?_) rfl ?_ (fun w hSw => ?_) ?_; rotate_left; (focus (rfl)); (focus (unfold WiS at hSw; (go_simp <;> with_reducible rfl))); (try simp only [Act.put, List.setIfInBounds_toArray, List.set_cons_zero, List.set_cons_succ])))
          refine planT_done ?_
          have HF := Lib.hid (And.intro (HIB.out.1.keep hb3) (And.intro (keep_heap HIB.out.2.1 hb3) (And.intro (HIB.out.2.2.1.keep hb3) (And.intro (heap_new WA (.cells #[.int .i8 y.k, .int .i64 y.n, .string y.s, .string y.u, .slice y.ao y.l.length y.cap] 27)) (And.intro (HIB.out.2.2.2.1.keep hb3) (And.intro HIB.out.2.2.2.2 HG4.out))))))
          clear hS1 hS2 hS3 hb2 hb3 HIB
          go_wp2_with fail
          go_meet
          exact ⟨_, y, rfl, rfl, HF⟩
        · skip
          have hb2 := (Below.refl WD.heap.size WD).alloc (Nat.le_refl _) (.cells zT 27)
          have hS2 := hS.keep hb2
          refine planT_run rfl ?_ (fun K hK => ?_)
          focus (rfl)
          go_simp
          refine hK.out _ _ (hS2) ?_
          clear hK K
          (try simp only [Act.put, List.setIfInBounds_toArray, List.set_cons_zero, List.set_cons_succ])
          have HIB := Lib.hid (And.intro (HIA.out.1.keep hb2) (And.intro (keep_heap HIA.out.2.1 hb2) (And.intro (HIA.out.2.2.chg (M' := fun k => MU M ub ev k ∨ k = WD.heap.size) (chg_of_below hb2 (fun _ => False)) (fun _ h => h.elim) (fun k hk hl => hk.elim id fun e => by omega)) (And.intro (heap_new WD (.cells zT 27)) (show w.heap.size ≤ WD.heap.size from HIA.out.1.k.hb.size)))))
          have HG5 := Lib.hid (show ¬ MU M ub ev WD.heap.size from fun e => by have := HMU.out _ e; have := HIB.out.2.2.2.2; omega)
          have HG6 := Lib.hid (show q3 ≠ WD.heap.size from fun e => by have := heap_lt HIA.out.2.1; omega)
          have HSZ := Lib.hid (show WD.heap.size < (WD.alloc (.cells zT 27)).heap.size by simp)
          clear hS hb2 HIA
          generalize WD.alloc (.cells zT 27) = WB at *
          generalize WD.heap.size = q4 at *
          have HC := Lib.hid (isack_x (fun k => MU M ub ev k ∨ k = q4) WB it m.pid HIB.out.2.2.1 HP.out.2.2.2.2.2.1)
          refine planT_run rfl ?_ (fun K hK => ?_)
          focus (rfl)
          go_simp
          refine HC.out.mono ?_
          clear HC
          rintro e WA ⟨hba, y, rfl, hyo, hyt⟩
          have hS1 := hS2.keep hba
          have HIC := Lib.hid (And.intro (HIB.out.1.keep hba) (And.intro (keep_heap HIB.out.2.1 hba) (And.intro (HIB.out.2.2.1.keep hba) (And.intro (keep_heap HIB.out.2.2.2.1 hba) (And.intro hyo (And.intro hyt HIB.out.2.2.2.2))))))
          refine hK.out _ _ (hS1) ?_
          clear hK K
          (try simp only [Act.put, List.setIfInBounds_toArray, List.set_cons_zero, List.set_cons_succ])
          clear hS2 hba hyo hyt HIB
          generalize hak : ackB it.x.t it.o m.pid = ak at *
          have HAK := Lib.hid hak
          clear hak
          iterate 3 (first | (refine planT_skip rfl ?_ ?_; (focus (rfl)); (try simp only [Act.put, List.setIfInBounds_toArray, List.set_cons_zero, List.set_cons_succ])) | (refine planT_take (v := ?_) rfl ?_ (fun w hSw => ?_) ?_; rotate_left; (focus (rfl)); (focus (unfold WiS at hSw; (go_simp <;> with_reducible rfl))); (try simp only [Act.put, List.setIfInBounds_toArray, List.set_cons_zero, List.set_cons_succ])))
          have hc4 := chg_setRow WA q4 #[.int .i8 y.k, .int .i64 y.n, .string y.s, .string y.u, .slice y.ao y.l.length y.cap]
          have hu4 : ¬ ub = q4 := fun e => HG5.out (.inr (.inl e.symm))
          have hS3 : WiS q3 ub m.pid it (WA.setRow q4 #[.int .i8 y.k, .int .i64 y.n, .string y.s, .string y.u, .slice y.ao y.l.length y.cap]) := ⟨hc4.heap hS1.1 HG6.out, hc4.cell hS1.2 hu4⟩
          refine planT_run rfl ?_ (fun K hK => ?_)
          focus (rfl)
          refine wp_store_row 27 (.tmp 4) (.tmp 28) rfl q4 #[.int .i8 y.k, .int .i64 y.n, .string y.s, .string y.u, .slice y.ao y.l.length y.cap] rfl rfl 27 zT HIC.out.2.2.2.1 (infoTM' _ rfl) rfl (by simp [Value.oneCell']) ?_
          refine hK.out _ _ (hS3) ?_
          clear hK K
          (try simp only [Act.put, List.setIfInBounds_toArray, List.set_cons_zero, List.set_cons_succ])
          iterate 1 (first | (refine planT_skip rfl ?_ ?_; (focus (rfl)); (try simp only [Act.put, List.setIfInBounds_toArray, List.set_cons_zero, List.set_cons_succ])) | (refine planT_take (v := ?_) rfl ?_ (fun w hSw => ?_) ?_; rotate_left; (focus (rfl)); (focus (unfold WiS at hSw; (go_simp <;> with_reducible rfl))); (try simp only [Act.put, List.setIfInBounds_toArray, List.set_cons_zero, List.set_cons_succ])))
          refine planT_done ?_
          have hbf := HIC.out.1.k.hb.trans (hc4.below HIC.out.1.k.hb.size fun k hk => by have hk : k = q4 := hk; have := HIC.out.2.2.2.2.2.2; omega)
          have HF := Lib.hid (And.intro (show WtI M w (WA.setRow q4 #[.int .i8 y.k, .int .i64 y.n, .string y.s, .string y.u, .slice y.ao y.l.length y.cap]) ub m i ev E RL ML from ⟨⟨hbf, HIC.out.1.k.un.chg hc4 hu4 (fun k hk e => HG5.out (.inr (.inr (by rw [← e]; exact hk)))), own_chg HIC.out.1.k.rs hc4 (fun k hk e => by have := HUL.out.1 k hk; have e : k = q4 := e; have := HIC.out.2.2.2.2.2.2; omega)⟩, HUL.out.2.1.keep hbf, keepCells HUL.out.2.2 hbf⟩) (And.intro hS3.1 (And.intro (HIC.out.2.2.1.chg (M' := MU M ub ev) hc4 (fun k hk _ => .inr hk) (fun k hk _ => .inl hk)) (And.intro (setRow_heap WA q4 _ #[.int .i8 y.k, .int .i64 y.n, .string y.s, .string y.u, .slice y.ao y.l.length y.cap] 27 (0, 0) HIC.out.2.2.2.1) (And.intro (HIC.out.2.2.2.2.1.chg (M' := MU M ub ev) hc4 (fun k hk _ => .inr hk) (fun k hk _ => .inl hk)) (And.intro HIC.out.2.2.2.2.2.1 HIC.out.2.2.2.2.2.2))))))
          clear hS1 hS3 hc4 hu4 HIC hbf
          go_wp2_with fail
          go_meet
          exact ⟨q4, y, rfl, rfl, HF⟩
      case rest =>
        obtain ⟨q4, y, rfl, rfl, HC⟩ := hcut
        generalize hak : ackB it.x.t it.o m.pid = ak at *
        have HAK := Lib.hid hak
        clear hak
        go_wp2_with (with_reducible refine stop_op (o := ⟨_, .load 72 (.tmp 3), _, _, _, _⟩) ?_)
        refine Lib.hid ?_
        refine wpList_load_row (o := ⟨_, _, _, _, _, _⟩) rfl 72 (.tmp 3) rfl q3 rfl 72 #[.int .i8 it.x.k, .int .i64 it.x.n, .string it.x.s, .string it.x.u, .slice it.x.ao it.x.l.length it.x.cap, .bool it.o] (0, 0) _ HC.out.2.1 Tryd.underlying72 rfl (infoIM rfl) ?_
        have HX := Lib.hid (isexit_any (MU M ub ev) wc HC.out.1.lt it HC.out.2.2.1)
        go_wp2_with fail
        refine HX.out.mono ?_
        clear HX
        rintro e w2 ⟨hb2, z, rfl, hzo, hzt⟩
        generalize hen : exB it.x.t it.o = en at *
        generalize hep : exN it.x.t it.o = ep at *
        have HZ := Lib.hid (And.intro hen (And.intro hep (And.intro hzo hzt)))
        have HC2 := Lib.hid (And.intro (HC.out.1.keep hb2) (And.intro (keep_heap HC.out.2.2.2.1 hb2) (And.intro (HC.out.2.2.2.2.1.keep hb2) HC.out.2.2.2.2.2)))
        clear hb2 hzo hzt hen hep HC
        go_wp2_with (with_reducible refine stop_op (o := ⟨_, .store 27 (.tmp 7) (.tmp 34), _, _, _, _⟩) ?_)
        refine Lib.hid ?_
        refine wpList_store_new (o := ⟨none, _, _, _, _, _⟩) rfl 27 (.tmp 7) (.tmp 34) rfl #[.int .i8 z.k, .int .i64 z.n, .string z.s, .string z.u, .slice z.ao z.l.length z.cap] rfl rfl (infoTM' _ rfl) rfl (by simp [Value.oneCell']) ?_
        have hb3 := (Below.refl w2.heap.size w2).alloc (Nat.le_refl _) (.cells #[.int .i8 z.k, .int .i64 z.n, .string z.s, .string z.u, .slice z.ao z.l.length z.cap] 27)
        have hq7 : w.heap.size ≤ w2.heap.size := HC2.out.1.k.hb.size
        have hnu : ∀ k, w.heap.size ≤ k → ¬ UnB ub ev k := fun k hk e => by have := HMU.out k (.inr e); omega
        have h3 := HC2.out.1.keep hb3
        have HG : Hid (WtG M w (w2.alloc (.cells #[.int .i8 z.k, .int .i64 z.n, .string z.s, .string z.u, .slice z.ao z.l.length z.cap] 27)) ub m i ev ev E RL q4 w2.heap.size y z) := Lib.hid ⟨h3.k.un, h3.k.rs, chg_of_below h3.k.hb _, fun _ _ h => h, keep_heap HC2.out.2.1 hb3, hnu _ HC2.out.2.2.2.2, heap_new w2 _, hnu _ hq7, HC2.out.2.2.1.keep hb3, HZ.out.2.2.1.keep hb3, h3.lt, HP.out.2.2.2.1, HP.out.1⟩
        have HI3 := Lib.hid (And.intro h3 HI1.out.2.2.2)
        have HYT := Lib.hid HC2.out.2.2.2.1
        clear hb3 hq7 hnu h3 HC2 HI1
        generalize w2.alloc (.cells #[.int .i8 z.k, .int .i64 z.n, .string z.s, .string z.u, .slice z.ao z.l.length z.cap] 27) = w3 at *
        generalize w2.heap.size = q7 at *
        cases ak
        · cases en
          · have HNO := Lib.hid (show hitB m.pid it = false by unfold hitB; rw [HAK.out, HZ.out.1]; rfl)
            go_wp2_with fail
            go_roundw
            case rel => exact ⟨j + 1, by omega, by go_num, Lib.hid ⟨HI3.out.1, fun x hx => by
              rw [List.take_add_one, HT.out.2] at hx
              rcases List.mem_append.1 hx with hx | hx
              · exact HI3.out.2 x hx
              · simp at hx
                rw [hx]
                exact HNO.out⟩⟩
            case measure => simp [intOf]; omega
          · by_cases hpe : ep = m.pid
            · have q1 : (ep != m.pid) = false := by simp [hpe]
              have c1 : w3.cell? ⟨ub, 1, none⟩ = some (.int .i64 m.pid) := HG.out.un.cell (i := 1) rfl
              have HH := Lib.hid (And.intro (show hitB m.pid it = true by unfold hitB; rw [HAK.out, HZ.out.1, HZ.out.2.1, hpe]; simp) (And.intro HI3.out.2 hpe))
              clear hpe
              have HE := Lib.hid (effect_any w3 ub _ _ false _ (takeE (j : Int)) HG.out.un (by first | omega | (simp; omega)))
              go_wp2_with fail
              refine HE.out.mono ?_
              clear HE
              rintro e w4 ⟨⟨vr, rfl⟩, ev4, hu, hcc, hbb⟩
              have HG4 := Lib.hid (HG.out.step hu hcc hbb)
              have HCE := Lib.hid (And.intro hcc hbb)
              clear hu hcc hbb
              have c14 : w4.cell? ⟨ub, 1, none⟩ = some (.int .i64 m.pid) := HG4.out.un.cell (i := 1) rfl
              clear c1
              have HE := Lib.hid (effect_any w4 ub _ _ false _ (cutE m.pid) HG4.out.un (by first | omega | (simp; omega)))
              go_wp2_with fail
              refine HE.out.mono ?_
              clear HE
              rintro e w5 ⟨⟨vr, rfl⟩, ev5, hu, hcc, hbb⟩
              have HG5 := Lib.hid (HG4.out.step hu hcc hbb)
              have HCE := Lib.hid (And.intro hcc hbb)
              clear hu hcc hbb
              clear c14
              obtain ⟨z0, z1, z2, z3, z4⟩ := BxS.of (x := z) HG5.out.b7
              have happ : E ++ [takeE (j : Int)] ++ [cutE m.pid] = E ++ [takeE (j : Int), cutE m.pid] := by simp
              have HG6 := Lib.hid (show WtG M w w5 ub m i ev ev5 (E ++ [takeE (j : Int), cutE m.pid]) RL q4 q7 y z by rw [← happ]; exact HG5.out)
              clear HG5 happ
              skip
              have HFL := Lib.hid (And.intro (fails_any M w5 (fun k hk => Nat.lt_of_lt_of_le (HP.out.2.2.2.2.1 k hk) (Nat.le_trans HG6.out.hc.size (Below.refl w5.heap.size w5).size)) (keepCells HG6.out.lt (Below.refl w5.heap.size w5)) ub m i ev5 false (E ++ [takeE (j : Int), cutE m.pid]) (HG6.out.un.keep (Below.refl w5.heap.size w5)) (by simp; omega) HG6.out.lv RL (own_keep HG6.out.rs (Below.refl w5.heap.size w5)) HG6.out.hr N HP.out.2.2.1 (Nat.le_of_lt hl) hm HP.out.2.1 z HG6.out.tz) (show TeOk (MU M ub ev5) w5 z from HG6.out.tz))
              skip
              go_wp2_with fail
              refine HFL.out.1.mono ?_
              rintro e WZ hq
              have hqr := (hq.withx HFL.out.2).toR (RL := RL) (own_keep HG6.out.rs (Below.refl w5.heap.size w5)) HG6.out.hr fun _ _ _ _ h => h.1.rs
              have HQR := Lib.hid (UnR.behind (HG6.out.keep (Below.refl w5.heap.size w5)) hqr)
              obtain ⟨⟨vr', rfl⟩, -⟩ := hq
              clear hqr HFL
              go_wp2_with fail
              go_end0
              refine .inr (HQR.out.imp ?_).ends
              rintro N' w' m' E1 RL' ⟨E2, rfl, ⟨hfa, htx⟩, hRL⟩
              exact ⟨j, it, cutE m.pid :: E2, HT.out.2, HH.out.1, HH.out.2.1, rfl, .inr (.inr ⟨HAK.out, HZ.out.1, by rw [HZ.out.2.1]; exact HH.out.2.2, E2, rfl, z, hfa, hRL, htx, HZ.out.2.2.2⟩)⟩
            · have HNO := Lib.hid (show hitB m.pid it = false by unfold hitB; rw [HAK.out, HZ.out.1, HZ.out.2.1, decide_eq_false hpe]; rfl)
              have q1 : (ep != m.pid) = true := by simp [hpe]
              have c1 : w3.cell? ⟨ub, 1, none⟩ = some (.int .i64 m.pid) := HG.out.un.cell (i := 1) rfl
              clear hpe
              go_wp2_with fail
              go_roundw
              case rel => exact ⟨j + 1, by omega, by go_num, Lib.hid ⟨HI3.out.1, fun x hx => by
                rw [List.take_add_one, HT.out.2] at hx
                rcases List.mem_append.1 hx with hx | hx
                · exact HI3.out.2 x hx
                · simp at hx
                  rw [hx]
                  exact HNO.out⟩⟩
              case measure => simp [intOf]; omega
        · have HH := Lib.hid (And.intro (show hitB m.pid it = true by unfold hitB; rw [HAK.out]; rfl) (And.intro HI3.out.2 trivial))
          obtain ⟨rb, hb, hob⟩ := HG.out.rs.blk (by omega)
          have HRB := Lib.hid (And.intro hb hob)
          clear hb hob
          have HE := Lib.hid (effect_any w3 ub _ _ false _ (takeE (j : Int)) HG.out.un (by first | omega | (simp; omega)))
          go_wp2_with fail
          refine HE.out.mono ?_
          clear HE
          rintro e w4 ⟨⟨vr, rfl⟩, ev4, hu, hcc, hbb⟩
          have HG4 := Lib.hid (HG.out.step hu hcc hbb)
          have HCE := Lib.hid (And.intro hcc hbb)
          clear hu hcc hbb
          obtain ⟨y0, y1, y2, y3, y4⟩ := BxS.of (x := y) HG4.out.b4
          have HYK := Lib.hid (show ∀ s, isAt (ackT it.x.t true) s = (decide (y.k = 1) && decide (y.s = s)) from fun s => by rw [← HYT.out]; rfl)
          by_cases k1 : y.k = 1
          · rw [k1] at y0
            by_cases s1 : y.s = okS
            · have HA1 := Lib.hid (show isAt (ackT it.x.t true) okS = true by rw [HYK.out, k1, s1]; rfl)
              have c14 : w4.cell? ⟨ub, 1, none⟩ = some (.int .i64 m.pid) := HG4.out.un.cell (i := 1) rfl
              rw [s1] at y2
              change w4.cell? _ = some (.string ⟨#[111, 107]⟩) at y2
              clear k1 s1 HYK
              have HG4' := HG4
              have HSL := Lib.hid (stands_any w4 ub rb m i ev4 false _ HG4'.out.un RL HG4'.out.rs N HP.out.2.2.1 hl (by omega) HRB.out.1 (fun e => HG4'.out.hr rb HRB.out.2 (.inr (.inr e))) m.pid)
              go_wp2_with fail
              refine HSL.out.mono ?_
              clear HSL
              rintro e WZ hq
              have HQR := Lib.hid (UnR.behind HG4'.out (hq.toR (M := M) HP.out.2.2.1 HRB.out.2))
              obtain ⟨⟨vr', rfl⟩, -⟩ := hq
              go_wp2_with fail
              go_end0
              refine .inr (HQR.out.imp ?_).ends
              rintro N' w' m' E1 RL' ⟨E2, rfl, hsa⟩
              exact ⟨j, it, E2, HT.out.2, HH.out.1, HH.out.2.1, rfl, .inl ⟨HAK.out, HA1.out, hsa⟩⟩
            · have HA1 := Lib.hid (show isAt (ackT it.x.t true) okS = false by rw [HYK.out, decide_eq_false s1, Bool.and_false])
              have n1 := (str_ne_of (l := [111, 107]) s1).1
              by_cases s2 : y.s = ignS
              · have HA2 := Lib.hid (show isAt (ackT it.x.t true) ignS = true by rw [HYK.out, k1, s2]; rfl)
                rw [s2] at y2
                change w4.cell? _ = some (.string ⟨#[105, 103, 110, 111, 114, 101]⟩) at y2
                have c14 : w4.cell? ⟨ub, 1, none⟩ = some (.int .i64 m.pid) := HG4.out.un.cell (i := 1) rfl
                have HK1 := Lib.hid k1
                clear k1 s1 HYK n1
                have HE := Lib.hid (effect_any w4 ub _ _ false _ (cutE m.pid) HG4.out.un (by first | omega | (simp; omega)))
                go_wp2_with fail
                refine HE.out.mono ?_
                clear HE
                rintro e w5 ⟨⟨vr, rfl⟩, ev5, hu, hcc, hbb⟩
                have HG5 := Lib.hid (HG4.out.step hu hcc hbb)
                have HCE := Lib.hid (And.intro hcc hbb)
                clear hu hcc hbb
                clear c14 y0 y1 y2 y3 y4
                obtain ⟨y0, y1, y2, y3, y4⟩ := BxS.of (x := y) HG5.out.b4
                rw [s2] at y2
                rw [HK1.out] at y0
                change w5.cell? _ = some (.string ⟨#[105, 103, 110, 111, 114, 101]⟩) at y2
                have HG6 := Lib.hid (show WtG M w w5 ub m i ev ev5 (E ++ [takeE (j : Int), cutE m.pid]) RL q4 q7 y z by have h := HG5.out; rw [List.append_assoc] at h; exact h)
                clear HG5 s2
                have HSL := Lib.hid (stands_any w5 ub rb m i ev5 false _ HG6.out.un RL HG6.out.rs N HP.out.2.2.1 hl (by omega) HRB.out.1 (fun e => HG6.out.hr rb HRB.out.2 (.inr (.inr e))) 0)
                go_wp2_with fail
                refine HSL.out.mono ?_
                clear HSL
                rintro e WZ hq
                have HQR := Lib.hid (UnR.behind HG6.out (hq.toR (M := M) HP.out.2.2.1 HRB.out.2))
                obtain ⟨⟨vr', rfl⟩, -⟩ := hq
                go_wp2_with fail
                go_end0
                refine .inr (HQR.out.imp ?_).ends
                rintro N' w' m' E1 RL' ⟨E2, rfl, hsa⟩
                exact ⟨j, it, cutE m.pid :: E2, HT.out.2, HH.out.1, HH.out.2.1, rfl, .inr (.inl ⟨HAK.out, HA1.out, E2, rfl, .inl ⟨HA2.out, hsa⟩⟩)⟩
              · have HA2 := Lib.hid (show isAt (ackT it.x.t true) ignS = false by rw [HYK.out, decide_eq_false s2, Bool.and_false])
                have HA3 := Lib.hid (show isEr (ackT it.x.t true) = false by rw [← HYT.out]; unfold isEr; rw [decide_eq_false (show ¬ y.t.k = 5 by show ¬ y.k = 5; rw [k1]; decide)]; rfl)
                have n2 := (str_ne_of (l := [105, 103, 110, 111, 114, 101]) s2).1
                have HK1 := Lib.hid k1
                clear s1 s2 HYK k1
                have c14 : w4.cell? ⟨ub, 1, none⟩ = some (.int .i64 m.pid) := HG4.out.un.cell (i := 1) rfl
                have HE := Lib.hid (effect_any w4 ub _ _ false _ (cutE m.pid) HG4.out.un (by first | omega | (simp; omega)))
                go_wp2_with fail
                refine HE.out.mono ?_
                clear HE
                rintro e w5 ⟨⟨vr, rfl⟩, ev5, hu, hcc, hbb⟩
                have HG5 := Lib.hid (HG4.out.step hu hcc hbb)
                have HCE := Lib.hid (And.intro hcc hbb)
                clear hu hcc hbb
                clear c14 y0 y1 y2 y3 y4
                obtain ⟨y0, y1, y2, y3, y4⟩ := BxS.of (x := y) HG5.out.b4
                rw [HK1.out] at y0
                clear HCE
                go_wp2_with fail
                refine (atom_x w5 _).mono ?_
                rintro e w6 ⟨rfl, hb6⟩
                have HB6 := Lib.hid hb6
                clear hb6
                have happ : E ++ [takeE (j : Int)] ++ [cutE m.pid] = E ++ [takeE (j : Int), cutE m.pid] := by simp
                have HG6 := Lib.hid (show WtG M w w5 ub m i ev ev5 (E ++ [takeE (j : Int), cutE m.pid]) RL q4 q7 y z by rw [← happ]; exact HG5.out)
                clear HG5 happ
                skip
                have HFL := Lib.hid (And.intro (fails_any M w6 (fun k hk => Nat.lt_of_lt_of_le (HP.out.2.2.2.2.1 k hk) (Nat.le_trans HG6.out.hc.size HB6.out.size)) (keepCells HG6.out.lt HB6.out) ub m i ev5 false (E ++ [takeE (j : Int), cutE m.pid]) (HG6.out.un.keep HB6.out) (by simp; omega) HG6.out.lv RL (own_keep HG6.out.rs HB6.out) HG6.out.hr N HP.out.2.2.1 (Nat.le_of_lt hl) hm HP.out.2.1 (atomT badS) (atomT_ok _ _ badS (by decide))) (show TeOk (MU M ub ev5) w6 (atomT badS) from (atomT_ok _ _ badS (by decide))))
                clear y0 y1 y2 y3 y4
                go_wp2_with fail
                refine HFL.out.1.mono ?_
                rintro e WZ hq
                have hqr := (hq.withx HFL.out.2).toR (RL := RL) (own_keep HG6.out.rs HB6.out) HG6.out.hr fun _ _ _ _ h => h.1.rs
                have HQR := Lib.hid (UnR.behind (HG6.out.keep HB6.out) hqr)
                obtain ⟨⟨vr', rfl⟩, -⟩ := hq
                clear hqr HFL
                go_wp2_with fail
                go_end0
                refine .inr (HQR.out.imp ?_).ends
                rintro N' w' m' E1 RL' ⟨E2, rfl, ⟨hfa, htx⟩, hRL⟩
                exact ⟨j, it, cutE m.pid :: E2, HT.out.2, HH.out.1, HH.out.2.1, rfl, .inr (.inl ⟨HAK.out, HA1.out, E2, rfl, .inr ⟨HA2.out, atomT badS, hfa, hRL, htx, .inr ⟨HA3.out, rfl⟩⟩⟩)⟩
          · have q1 : (y.k == 1) = false := by simp [k1]
            have HA1 := Lib.hid (show isAt (ackT it.x.t true) okS = false by rw [HYK.out, decide_eq_false k1]; rfl)
            have HA2 := Lib.hid (show isAt (ackT it.x.t true) ignS = false by rw [HYK.out, decide_eq_false k1]; rfl)
            clear HYK
            by_cases k5 : y.k = 5
            · by_cases l2 : y.l.length = 2
              · obtain ⟨b5, o5, a, e1, e2, -, hp0, hMb⟩ := HG4.out.ty.part (i := 0) (by omega)
                obtain ⟨b5', o5', x, e1', e2', hxo, hp1, -⟩ := HG4.out.ty.part (i := 1) (by omega)
                rw [e1] at e1'
                injection e1' with e1'
                injection e1' with g1 g2
                subst g1 g2
                have HEY := Lib.hid (show isEr (ackT it.x.t true) = (decide (a.k = 1) && decide (a.s = errS)) from by
                  rw [← HYT.out]
                  unfold isEr
                  rw [decide_eq_true (show y.t.k = 5 from k5), decide_eq_true (show y.t.l.length = 2 from l2), Bool.true_and, Bool.true_and]
                  show (match y.l with
                    | a :: _ => decide (a.k = 1) && decide (a.s = errS)
                    | [] => false) = _
                  cases hyl : y.l with
                  | nil => rw [hyl] at l2; simp at l2
                  | cons c l =>
                    rw [hyl] at e2
                    simp at e2
                    subst e2
                    rfl)
                have HXX := Lib.hid (show (ackT it.x.t true).l[1]? = some x.t from by rw [← HYT.out]; exact e2')
                have HPB := Lib.hid (show ∀ ev', (∀ k, k < w4.heap.size → UnB ub ev' k → UnB ub ev4 k) → ¬ UnB ub ev' b5 from fun ev' hev e => hMb (.inr (hev _ (World.block_lt_of_cell? w4 _ hp0.c0) e)))
                have HXO := Lib.hid hxo
                rw [k5] at y0
                rw [l2, e1] at y4
                have HK5 := Lib.hid (And.intro k5 (And.intro l2 e1))
                have HPP := Lib.hid (And.intro hp0 hp1)
                clear k1 k5 l2 q1 e1 e2 e2' hxo hMb hp0 hp1
                by_cases a1 : a.k = 1
                · by_cases as1 : a.s = errS
                  · have HA3 := Lib.hid (show isEr (ackT it.x.t true) = true by rw [HEY.out, a1, as1]; rfl)
                    have HAA := Lib.hid (And.intro a1 as1)
                    clear HEY a1 as1
                    have c14 : w4.cell? ⟨ub, 1, none⟩ = some (.int .i64 m.pid) := HG4.out.un.cell (i := 1) rfl
                    have HE := Lib.hid (effect_any w4 ub _ _ false _ (cutE m.pid) HG4.out.un (by first | omega | (simp; omega)))
                    go_wp2_with fail
                    refine HE.out.mono ?_
                    clear HE
                    rintro e w5 ⟨⟨vr, rfl⟩, ev5, hu, hcc, hbb⟩
                    have HG5 := Lib.hid (HG4.out.step hu hcc hbb)
                    have HCE := Lib.hid (And.intro hcc hbb)
                    clear hu hcc hbb
                    clear c14 y0 y1 y2 y3 y4
                    obtain ⟨y0, y1, y2, y3, y4⟩ := BxS.of (x := y) HG5.out.b4
                    obtain ⟨hcE, hbE⟩ := HCE.out
                    have hp0 := HPP.out.1.chg hcE (HPB.out _ (fun _ _ h => h))
                    have hp1 := HPP.out.2.chg hcE (HPB.out _ (fun _ _ h => h))
                    have HTX := Lib.hid (un_te hcE hbE HXO.out)
                    obtain ⟨p0, -, p2, -, -⟩ := hp0
                    obtain ⟨r0, r1, r2, r3, r4⟩ := hp1
                    rw [HAA.out.1] at p0
                    rw [HAA.out.2] at p2
                    rw [HK5.out.1] at y0
                    rw [HK5.out.2.1, HK5.out.2.2] at y4
                    rw [show o5 + 0 * 5 = o5 by omega] at p0 p2
                    rw [show o5 + 1 * 5 = o5 + 5 by omega] at r0 r1 r2 r3 r4
                    change w5.cell? _ = some (.string ⟨#[101, 114, 114, 111, 114]⟩) at p2
                    clear hcE hbE HCE
                    have happ : E ++ [takeE (j : Int)] ++ [cutE m.pid] = E ++ [takeE (j : Int), cutE m.pid] := by simp
                    have HG6 := Lib.hid (show WtG M w w5 ub m i ev ev5 (E ++ [takeE (j : Int), cutE m.pid]) RL q4 q7 y z by rw [← happ]; exact HG5.out)
                    clear HG5 happ
                    skip
                    have HFL := Lib.hid (And.intro (fails_any M w5 (fun k hk => Nat.lt_of_lt_of_le (HP.out.2.2.2.2.1 k hk) (Nat.le_trans HG6.out.hc.size (Below.refl w5.heap.size w5).size)) (keepCells HG6.out.lt (Below.refl w5.heap.size w5)) ub m i ev5 false (E ++ [takeE (j : Int), cutE m.pid]) (HG6.out.un.keep (Below.refl w5.heap.size w5)) (by simp; omega) HG6.out.lv RL (own_keep HG6.out.rs (Below.refl w5.heap.size w5)) HG6.out.hr N HP.out.2.2.1 (Nat.le_of_lt hl) hm HP.out.2.1 x HTX.out) (show TeOk (MU M ub ev5) w5 x from HTX.out))
                    skip
                    go_wp2_with fail
                    refine HFL.out.1.mono ?_
                    rintro e WZ hq
                    have hqr := (hq.withx HFL.out.2).toR (RL := RL) (own_keep HG6.out.rs (Below.refl w5.heap.size w5)) HG6.out.hr fun _ _ _ _ h => h.1.rs
                    have HQR := Lib.hid (UnR.behind (HG6.out.keep (Below.refl w5.heap.size w5)) hqr)
                    obtain ⟨⟨vr', rfl⟩, -⟩ := hq
                    clear hqr HFL
                    go_wp2_with fail
                    go_end0
                    refine .inr (HQR.out.imp ?_).ends
                    rintro N' w' m' E1 RL' ⟨E2, rfl, ⟨hfa, htx⟩, hRL⟩
                    exact ⟨j, it, cutE m.pid :: E2, HT.out.2, HH.out.1, HH.out.2.1, rfl, .inr (.inl ⟨HAK.out, HA1.out, E2, rfl, .inr ⟨HA2.out, x, hfa, hRL, htx, .inl ⟨HA3.out, HXX.out⟩⟩⟩)⟩
                  · have HA3 := Lib.hid (show isEr (ackT it.x.t true) = false by rw [HEY.out, decide_eq_false as1, Bool.and_false])
                    have n3 := (str_ne_of (l := [101, 114, 114, 111, 114]) as1).1
                    have HAA := Lib.hid a1
                    clear HEY a1 as1
                    have c14 : w4.cell? ⟨ub, 1, none⟩ = some (.int .i64 m.pid) := HG4.out.un.cell (i := 1) rfl
                    have HE := Lib.hid (effect_any w4 ub _ _ false _ (cutE m.pid) HG4.out.un (by first | omega | (simp; omega)))
                    go_wp2_with fail
                    refine HE.out.mono ?_
                    clear HE
                    rintro e w5 ⟨⟨vr, rfl⟩, ev5, hu, hcc, hbb⟩
                    have HG5 := Lib.hid (HG4.out.step hu hcc hbb)
                    have HCE := Lib.hid (And.intro hcc hbb)
                    clear hu hcc hbb
                    clear c14 y0 y1 y2 y3 y4
                    obtain ⟨y0, y1, y2, y3, y4⟩ := BxS.of (x := y) HG5.out.b4
                    obtain ⟨hcE, hbE⟩ := HCE.out; have hp0 := HPP.out.1.chg hcE (HPB.out _ (fun _ _ h => h)); obtain ⟨p0, -, p2, -, -⟩ := hp0; rw [HAA.out] at p0; rw [HK5.out.1] at y0; rw [HK5.out.2.1, HK5.out.2.2] at y4; rw [show o5 + 0 * 5 = o5 by omega] at p0 p2
                    clear HCE
                    go_wp2_with fail
                    refine (atom_x w5 _).mono ?_
                    rintro e w6 ⟨rfl, hb6⟩
                    have HB6 := Lib.hid hb6
                    clear hb6
                    have happ : E ++ [takeE (j : Int)] ++ [cutE m.pid] = E ++ [takeE (j : Int), cutE m.pid] := by simp
                    have HG6 := Lib.hid (show WtG M w w5 ub m i ev ev5 (E ++ [takeE (j : Int), cutE m.pid]) RL q4 q7 y z by rw [← happ]; exact HG5.out)
                    clear HG5 happ
                    skip
                    have HFL := Lib.hid (And.intro (fails_any M w6 (fun k hk => Nat.lt_of_lt_of_le (HP.out.2.2.2.2.1 k hk) (Nat.le_trans HG6.out.hc.size HB6.out.size)) (keepCells HG6.out.lt HB6.out) ub m i ev5 false (E ++ [takeE (j : Int), cutE m.pid]) (HG6.out.un.keep HB6.out) (by simp; omega) HG6.out.lv RL (own_keep HG6.out.rs HB6.out) HG6.out.hr N HP.out.2.2.1 (Nat.le_of_lt hl) hm HP.out.2.1 (atomT badS) (atomT_ok _ _ badS (by decide))) (show TeOk (MU M ub ev5) w6 (atomT badS) from (atomT_ok _ _ badS (by decide))))
                    clear y0 y1 y2 y3 y4
                    go_wp2_with fail
                    refine HFL.out.1.mono ?_
                    rintro e WZ hq
                    have hqr := (hq.withx HFL.out.2).toR (RL := RL) (own_keep HG6.out.rs HB6.out) HG6.out.hr fun _ _ _ _ h => h.1.rs
                    have HQR := Lib.hid (UnR.behind (HG6.out.keep HB6.out) hqr)
                    obtain ⟨⟨vr', rfl⟩, -⟩ := hq
                    clear hqr HFL
                    go_wp2_with fail
                    go_end0
                    refine .inr (HQR.out.imp ?_).ends
                    rintro N' w' m' E1 RL' ⟨E2, rfl, ⟨hfa, htx⟩, hRL⟩
                    exact ⟨j, it, cutE m.pid :: E2, HT.out.2, HH.out.1, HH.out.2.1, rfl, .inr (.inl ⟨HAK.out, HA1.out, E2, rfl, .inr ⟨HA2.out, atomT badS, hfa, hRL, htx, .inr ⟨HA3.out, rfl⟩⟩⟩)⟩
                · have HA3 := Lib.hid (show isEr (ackT it.x.t true) = false by rw [HEY.out, decide_eq_false a1]; rfl)
                  have q3 : (a.k == 1) = false := by simp [a1]
                  clear HEY a1
                  have c14 : w4.cell? ⟨ub, 1, none⟩ = some (.int .i64 m.pid) := HG4.out.un.cell (i := 1) rfl
                  have HE := Lib.hid (effect_any w4 ub _ _ false _ (cutE m.pid) HG4.out.un (by first | omega | (simp; omega)))
                  go_wp2_with fail
                  refine HE.out.mono ?_
                  clear HE
                  rintro e w5 ⟨⟨vr, rfl⟩, ev5, hu, hcc, hbb⟩
                  have HG5 := Lib.hid (HG4.out.step hu hcc hbb)
                  have HCE := Lib.hid (And.intro hcc hbb)
                  clear hu hcc hbb
                  clear c14 y0 y1 y2 y3 y4
                  obtain ⟨y0, y1, y2, y3, y4⟩ := BxS.of (x := y) HG5.out.b4
                  obtain ⟨hcE, hbE⟩ := HCE.out; have hp0 := HPP.out.1.chg hcE (HPB.out _ (fun _ _ h => h)); obtain ⟨p0, -, p2, -, -⟩ := hp0; rw [HK5.out.1] at y0; rw [HK5.out.2.1, HK5.out.2.2] at y4; rw [show o5 + 0 * 5 = o5 by omega] at p0 p2
                  clear HCE
                  go_wp2_with fail
                  refine (atom_x w5 _).mono ?_
                  rintro e w6 ⟨rfl, hb6⟩
                  have HB6 := Lib.hid hb6
                  clear hb6
                  have happ : E ++ [takeE (j : Int)] ++ [cutE m.pid] = E ++ [takeE (j : Int), cutE m.pid] := by simp
                  have HG6 := Lib.hid (show WtG M w w5 ub m i ev ev5 (E ++ [takeE (j : Int), cutE m.pid]) RL q4 q7 y z by rw [← happ]; exact HG5.out)
                  clear HG5 happ
                  skip
                  have HFL := Lib.hid (And.intro (fails_any M w6 (fun k hk => Nat.lt_of_lt_of_le (HP.out.2.2.2.2.1 k hk) (Nat.le_trans HG6.out.hc.size HB6.out.size)) (keepCells HG6.out.lt HB6.out) ub m i ev5 false (E ++ [takeE (j : Int), cutE m.pid]) (HG6.out.un.keep HB6.out) (by simp; omega) HG6.out.lv RL (own_keep HG6.out.rs HB6.out) HG6.out.hr N HP.out.2.2.1 (Nat.le_of_lt hl) hm HP.out.2.1 (atomT badS) (atomT_ok _ _ badS (by decide))) (show TeOk (MU M ub ev5) w6 (atomT badS) from (atomT_ok _ _ badS (by decide))))
                  clear y0 y1 y2 y3 y4
                  go_wp2_with fail
                  refine HFL.out.1.mono ?_
                  rintro e WZ hq
                  have hqr := (hq.withx HFL.out.2).toR (RL := RL) (own_keep HG6.out.rs HB6.out) HG6.out.hr fun _ _ _ _ h => h.1.rs
                  have HQR := Lib.hid (UnR.behind (HG6.out.keep HB6.out) hqr)
                  obtain ⟨⟨vr', rfl⟩, -⟩ := hq
                  clear hqr HFL
                  go_wp2_with fail
                  go_end0
                  refine .inr (HQR.out.imp ?_).ends
                  rintro N' w' m' E1 RL' ⟨E2, rfl, ⟨hfa, htx⟩, hRL⟩
                  exact ⟨j, it, cutE m.pid :: E2, HT.out.2, HH.out.1, HH.out.2.1, rfl, .inr (.inl ⟨HAK.out, HA1.out, E2, rfl, .inr ⟨HA2.out, atomT badS, hfa, hRL, htx, .inr ⟨HA3.out, rfl⟩⟩⟩)⟩
              · have HA3 := Lib.hid (show isEr (ackT it.x.t true) = false by rw [← HYT.out]; unfold isEr; rw [decide_eq_false (show ¬ y.t.l.length = 2 from l2), Bool.false_and, Bool.and_false])
                have q2 : ((y.l.length : Int) == 2) = false := by simp; omega
                rw [k5] at y0
                have HK5 := Lib.hid k5
                clear k1 k5 l2 q1
                have c14 : w4.cell? ⟨ub, 1, none⟩ = some (.int .i64 m.pid) := HG4.out.un.cell (i := 1) rfl
                have HE := Lib.hid (effect_any w4 ub _ _ false _ (cutE m.pid) HG4.out.un (by first | omega | (simp; omega)))
                go_wp2_with fail
                refine HE.out.mono ?_
                clear HE
                rintro e w5 ⟨⟨vr, rfl⟩, ev5, hu, hcc, hbb⟩
                have HG5 := Lib.hid (HG4.out.step hu hcc hbb)
                have HCE := Lib.hid (And.intro hcc hbb)
                clear hu hcc hbb
                clear c14 y0 y1 y2 y3 y4
                obtain ⟨y0, y1, y2, y3, y4⟩ := BxS.of (x := y) HG5.out.b4
                rw [HK5.out] at y0
                clear HCE
                go_wp2_with fail
                refine (atom_x w5 _).mono ?_
                rintro e w6 ⟨rfl, hb6⟩
                have HB6 := Lib.hid hb6
                clear hb6
                have happ : E ++ [takeE (j : Int)] ++ [cutE m.pid] = E ++ [takeE (j : Int), cutE m.pid] := by simp
                have HG6 := Lib.hid (show WtG M w w5 ub m i ev ev5 (E ++ [takeE (j : Int), cutE m.pid]) RL q4 q7 y z by rw [← happ]; exact HG5.out)
                clear HG5 happ
                skip
                have HFL := Lib.hid (And.intro (fails_any M w6 (fun k hk => Nat.lt_of_lt_of_le (HP.out.2.2.2.2.1 k hk) (Nat.le_trans HG6.out.hc.size HB6.out.size)) (keepCells HG6.out.lt HB6.out) ub m i ev5 false (E ++ [takeE (j : Int), cutE m.pid]) (HG6.out.un.keep HB6.out) (by simp; omega) HG6.out.lv RL (own_keep HG6.out.rs HB6.out) HG6.out.hr N HP.out.2.2.1 (Nat.le_of_lt hl) hm HP.out.2.1 (atomT badS) (atomT_ok _ _ badS (by decide))) (show TeOk (MU M ub ev5) w6 (atomT badS) from (atomT_ok _ _ badS (by decide))))
                clear y0 y1 y2 y3 y4
                go_wp2_with fail
                refine HFL.out.1.mono ?_
                rintro e WZ hq
                have hqr := (hq.withx HFL.out.2).toR (RL := RL) (own_keep HG6.out.rs HB6.out) HG6.out.hr fun _ _ _ _ h => h.1.rs
                have HQR := Lib.hid (UnR.behind (HG6.out.keep HB6.out) hqr)
                obtain ⟨⟨vr', rfl⟩, -⟩ := hq
                clear hqr HFL
                go_wp2_with fail
                go_end0
                refine .inr (HQR.out.imp ?_).ends
                rintro N' w' m' E1 RL' ⟨E2, rfl, ⟨hfa, htx⟩, hRL⟩
                exact ⟨j, it, cutE m.pid :: E2, HT.out.2, HH.out.1, HH.out.2.1, rfl, .inr (.inl ⟨HAK.out, HA1.out, E2, rfl, .inr ⟨HA2.out, atomT badS, hfa, hRL, htx, .inr ⟨HA3.out, rfl⟩⟩⟩)⟩
            · have HA3 := Lib.hid (show isEr (ackT it.x.t true) = false by rw [← HYT.out]; unfold isEr; rw [decide_eq_false (show ¬ y.t.k = 5 from k5)]; rfl)
              have q5 : (y.k == 5) = false := by simp [k5]
              clear k1 k5
              have c14 : w4.cell? ⟨ub, 1, none⟩ = some (.int .i64 m.pid) := HG4.out.un.cell (i := 1) rfl
              have HE := Lib.hid (effect_any w4 ub _ _ false _ (cutE m.pid) HG4.out.un (by first | omega | (simp; omega)))
              go_wp2_with fail
              refine HE.out.mono ?_
              clear HE
              rintro e w5 ⟨⟨vr, rfl⟩, ev5, hu, hcc, hbb⟩
              have HG5 := Lib.hid (HG4.out.step hu hcc hbb)
              have HCE := Lib.hid (And.intro hcc hbb)
              clear hu hcc hbb
              clear c14 y0 y1 y2 y3 y4
              obtain ⟨y0, y1, y2, y3, y4⟩ := BxS.of (x := y) HG5.out.b4
              skip
              clear HCE
              go_wp2_with fail
              refine (atom_x w5 _).mono ?_
              rintro e w6 ⟨rfl, hb6⟩
              have HB6 := Lib.hid hb6
              clear hb6
              have happ : E ++ [takeE (j : Int)] ++ [cutE m.pid] = E ++ [takeE (j : Int), cutE m.pid] := by simp
              have HG6 := Lib.hid (show WtG M w w5 ub m i ev ev5 (E ++ [takeE (j : Int), cutE m.pid]) RL q4 q7 y z by rw [← happ]; exact HG5.out)
              clear HG5 happ
              skip
              have HFL := Lib.hid (And.intro (fails_any M w6 (fun k hk => Nat.lt_of_lt_of_le (HP.out.2.2.2.2.1 k hk) (Nat.le_trans HG6.out.hc.size HB6.out.size)) (keepCells HG6.out.lt HB6.out) ub m i ev5 false (E ++ [takeE (j : Int), cutE m.pid]) (HG6.out.un.keep HB6.out) (by simp; omega) HG6.out.lv RL (own_keep HG6.out.rs HB6.out) HG6.out.hr N HP.out.2.2.1 (Nat.le_of_lt hl) hm HP.out.2.1 (atomT badS) (atomT_ok _ _ badS (by decide))) (show TeOk (MU M ub ev5) w6 (atomT badS) from (atomT_ok _ _ badS (by decide))))
              clear y0 y1 y2 y3 y4
              go_wp2_with fail
              refine HFL.out.1.mono ?_
              rintro e WZ hq
              have hqr := (hq.withx HFL.out.2).toR (RL := RL) (own_keep HG6.out.rs HB6.out) HG6.out.hr fun _ _ _ _ h => h.1.rs
              have HQR := Lib.hid (UnR.behind (HG6.out.keep HB6.out) hqr)
              obtain ⟨⟨vr', rfl⟩, -⟩ := hq
              clear hqr HFL
              go_wp2_with fail
              go_end0
              refine .inr (HQR.out.imp ?_).ends
              rintro N' w' m' E1 RL' ⟨E2, rfl, ⟨hfa, htx⟩, hRL⟩
              exact ⟨j, it, cutE m.pid :: E2, HT.out.2, HH.out.1, HH.out.2.1, rfl, .inr (.inl ⟨HAK.out, HA1.out, E2, rfl, .inr ⟨HA2.out, atomT badS, hfa, hRL, htx, .inr ⟨HA3.out, rfl⟩⟩⟩)⟩
    · obtain rfl : j = ML.length := by omega
      obtain ⟨c39, f39⟩ := HI.out.1.k.un.idle
      have hnone := HI.out.2
      rw [List.take_length] at hnone
      have hc1 : Chg (fun k => k = ub) wr (wr.setCell ⟨ub, 39, none⟩ (.bool true)) := chg_set (p := ⟨ub, 39, none⟩) _
      have HFIN := Lib.hid (And.intro hnone (And.intro (HI.out.1.k.un.setI true) (And.intro (show RcOwn (wr.setCell ⟨ub, 39, none⟩ (.bool true)) ub m.rs RL from own_chg HI.out.1.k.rs hc1 fun k hk e => HP.out.1 k hk (.inr (.inl e))) ((chg_of_below HI.out.1.k.hb _).trans (hc1.mono (T := fun k => UnB ub ev k ∨ (Value.slice m.rs.o m.rs.n m.rs.c).ownBlock = some k) fun k _ h => .inl (.inl h))))))
      clear hnone hc1
      go_wp2_with fail
      go_end0
      refine .inl ⟨HFIN.out.1, ⟨_, rfl⟩, m, [], ev, RL, ?_, rfl, ?_, ?_, fun _ _ h => h, rfl, rfl, rfl⟩
      · rw [List.append_nil]
        exact HFIN.out.2.1
      · exact HFIN.out.2.2.1
      · exact HFIN.out.2.2.2
end Go.Proofs.YtepfmanbllegiaaDoor
