/- the unit's next, undone. Conditions: what is handed over reads; the letters stand. -/
/- the unit's undone, spawned. Conditions: what is handed over reads; the letters stand. -/
/- the unit's spawned. Conditions: what is handed over reads; the letters stand. -/
import Derived.Test.YtepfmanbllegiaaDoorMt9
namespace Go.Proofs.YtepfmanbllegiaaDoor
open Go.ChangeShapes Go.WideShapes Go.ChangeAt Go.RowKit
set_option linter.unusedVariables false
set_option linter.unusedSimpArgs false
set_option maxRecDepth 100000
theorem infoCH {n : Nat} (h : n = 12) : (Tryd.prog.info? 44).map (·.size) = some n := by
  have : (Tryd.prog.info? 44).map (·.size) = some 12 := by kernel_rfl
  rw [this, h]
/-- a row that a region loads, in the middle of a block -/
theorem exec_mid {P : Program} {op : Oper} {a : Act} {w : World} (ty : TypeId) (x : Operand) (ho : op.op = .load ty x) (b o : Nat) (hx : a.eval x = .pointer (some ⟨b, o, none⟩)) (cs : Array Value) (d : TypeDesc)
    (hr : w.rangeAt b o cs.toList) (hu : P.underlying ty = some d) (hd : d.isRow = true) (hi : (P.info? ty).map (·.size) = some cs.size) : (execOp a.eval op).run P w = .ok (.value (.agg cs)) w := by
  have := run_loadVar_mid (P := P) w b o ty cs.toList d hr hu hd (by simpa using hi)
  unfold execOp
  simp only [ho, hx, Instr.loadAt, Instr.sureAddr, Sem.run_bind, Sem.run_pure, Result.andThen_ok, this]
def NeQ (RL : List Rc) (m : Mm) (N : Nat → Prop) (w' : World) (m' : Mm) (E1 : List Ef) : Prop :=
  (m.n = (RL.length : Int) ∧ m' = m ∧ ∃ y, E1 = [backE y] ∧ y.t = tupS [okA, listT RL] ∧ TeOk N w' y) ∨ (m.n < (RL.length : Int) ∧ m' = { m with ph := 1 } ∧ ∃ r, RL[m.n.toNat]? = some r ∧ E1 = [spawnE r.c])
theorem StS.keep {ub : Nat} {rv : Value} {n : Int} {W W' : World} (h : StS ub rv n W) (hb : Below W.heap.size W W') : StS ub rv n W' := ⟨keep_cell h.1 hb, keep_cell h.2 hb⟩
theorem StS.chg {T : Nat → Prop} {ub : Nat} {rv : Value} {n : Int} {W W' : World} (h : StS ub rv n W) (hc : Chg T W W') (hu : ¬ T ub) (_ : True) : StS ub rv n W' := ⟨hc.cell h.1 hu, hc.cell h.2 hu⟩
theorem StS.of {w : World} {ub : Nat} {m : Mm} {i : Im} {ev : Value} {bi : Bool} {E : List Ef} {n : Int} (h : UnOk w ub (unL m i) ev bi E) (hn : m.n = n) : StS ub (.slice m.rs.o m.rs.n m.rs.c) n w := ⟨h.cell (i := 20) rfl, by rw [← hn]; exact h.cell (i := 4) rfl⟩
theorem RcOwn.blk {w : World} {ub : Nat} {s : Sl} {L : List Rc} (h : RcOwn w ub s L) (h0 : 0 < L.length) : ∃ rb, s.o = some ⟨rb, 0, none⟩ ∧ (Value.slice s.o s.n s.c).ownBlock = some rb := by
  rcases h.2 with ⟨-, e⟩ | ⟨g, c, cur, e, -⟩
  · omega
  · injection e with e1 e2 e3
    rw [e1]
    exact ⟨g, rfl, rfl⟩
theorem RcOwn.rec {w : World} {ub rb N : Nat} {s : Sl} {L : List Rc} {r : Rc} (h : RcOwn w ub s L) (hb : (Value.slice s.o s.n s.c).ownBlock = some rb) (hr : L[N]? = some r) : w.rangeAt rb (N * 13) r.c.cells := fun j v hj => by
  have hj12 : j < 12 := (List.getElem?_eq_some_iff.1 hj).1
  refine (own_cell h hb ?_).1
  rw [rcs_at L N j r hr (by omega)]
  have e : r.cells = r.c.cells ++ [.int .i64 r.pid] := rfl
  rw [e, List.getElem?_append_left (by show j < 12; exact hj12)]
  exact hj
def SpS (ub b o : Nat) (rv : Value) (n : Int) (cs : List Value) (W : World) : Prop := W.cell? ⟨ub, 20, none⟩ = some rv ∧ W.cell? ⟨ub, 4, none⟩ = some (.int .i64 n) ∧ W.rangeAt b o cs
set_option maxHeartbeats 16000000 in
theorem next_any (M : Nat → Prop) (w : World) (hM : ∀ k, M k → k < w.heap.size) (hc : Cells w 0 letL) (ub : Nat) (m : Mm) (i : Im) (ev : Value) (bi : Bool) (E : List Ef) (h : UnOk w ub (unL m i) ev bi E) (hn : E.length ≤ 50) (hlv : 0 < w.heap.size)
    (RL : List Rc) (hr : RcOwn w ub m.rs RL) (hrM : ∀ k, (Value.slice m.rs.o m.rs.n m.rs.c).ownBlock = some k → ¬ MU M ub ev k) (N : Nat) (hN : m.n = (N : Int)) (hl : N ≤ RL.length) (hm : RL.length ≤ 100) (hp : ∀ r ∈ RL, r.pid ≤ 576460752303423487) :
    Calls Tryd.prog 17 #[.pointer (some ⟨ub, 0, none⟩)] w (UnQ M w ub i ev bi E (NeQ RL m)) := by
  have hsn := hr.len
  have HMU := Lib.hid (mu_lt h hM)
  have hdr : Below w.heap.size w w.drew := (Below.refl _ _).drew
  have HK0 : Hid (NxW w w.drew ub m i ev bi E RL) := Lib.hid ⟨hdr, h.keep hdr, own_keep hr hdr⟩
  have hS : StS ub (.slice m.rs.o RL.length m.rs.c) (N : Int) w.drew := by rw [← hsn]; exact StS.of (h.keep hdr) hN
  have HP := Lib.hid (And.intro hrM (And.intro hp (And.intro hlv (And.intro hN (And.intro hc hsn)))))
  clear h hc hr hrM hp hlv hM hN hsn hdr
  go_enter Tryd.func17, Tryd.ntmps17
  go_wp2_with fail
  refine region_plan (StS ub (.slice m.rs.o RL.length m.rs.c) (N : Int)) [(0, 0), (1, 0), (2, 0), (3, 0), (4, 0), (5, 0), (6, 0), (7, 0), (8, 0), (9, 0), (10, 0), (11, 0)] (by kernel_rfl) (by kernel_rfl) (by kernel_rfl) hS ?_
  generalize w.drew = W1 at *
  iterate 12 (first | (refine plan_skip rfl ?_ ?_; (focus (rfl)); (try simp only [Act.put, List.setIfInBounds_toArray, List.set_cons_zero, List.set_cons_succ])) | (refine plan_take (v := ?_) rfl ?_ (fun w hSw => ?_) ?_; rotate_left; (focus (rfl)); (focus (unfold StS at hSw; (go_simp <;> with_reducible rfl))); (try simp only [Act.put, List.setIfInBounds_toArray, List.set_cons_zero, List.set_cons_succ])))
  refine plan_done ?_
  by_cases hlt : N = RL.length
  · subst hlt
    go_wp2_with fail
    have hdr : Below W1.heap.size W1 W1.drew := (Below.refl _ _).drew
    have hS0 : StS ub (.slice m.rs.o RL.length m.rs.c) (RL.length : Int) W1.drew := hS.keep hdr
    have HK1 := Lib.hid (HK0.out.keep hdr)
    clear hS HK0
    refine region_plan (StS ub (.slice m.rs.o RL.length m.rs.c) (RL.length : Int)) [(0, 0), (2, 0), (3, 0), (4, 0), (5, 0), (6, 0), (1, 1), (7, 1), (8, 1), (9, 1), (10, 0), (11, 1)] (by kernel_rfl) (by kernel_rfl) (by kernel_rfl) hS0 ?_
    generalize W1.drew = WD at *
    clear hdr
    iterate 6 (first | (refine plan_skip rfl ?_ ?_; (focus (rfl)); (try simp only [Act.put, List.setIfInBounds_toArray, List.set_cons_zero, List.set_cons_succ])) | (refine plan_take (v := ?_) rfl ?_ (fun w hSw => ?_) ?_; rotate_left; (focus (rfl)); (focus (unfold StS at hSw; (go_simp <;> with_reducible rfl))); (try simp only [Act.put, List.setIfInBounds_toArray, List.set_cons_zero, List.set_cons_succ])))
    refine plan_run rfl ?_ (fun K hK => ?_)
    focus (rfl)
    go_simp
    refine (atom_x WD _).mono ?_
    rintro e WA ⟨rfl, hba⟩
    have hS1 := hS0.keep hba
    have HKA := Lib.hid (HK1.out.keep hba)
    refine hK.out _ _ hS1 ?_
    clear hK K 
    (try simp only [Act.put, List.setIfInBounds_toArray, List.set_cons_zero, List.set_cons_succ])
    have HXA := Lib.hid (keepCells HP.out.2.2.2.2.1 HKA.out.hb)
    clear hS0 hba HK1
    have hmu : ∀ k, MU M ub ev k → k < WA.heap.size := fun k hk => Nat.lt_of_lt_of_le (HMU.out k hk) HKA.out.hb.size
    have HRA := Lib.hid (show RcAt (MU M ub ev) WA ⟨m.rs.o, RL.length, m.rs.c⟩ RL by rw [← HP.out.2.2.2.2.2]; exact HKA.out.rs.at HP.out.1)
    refine plan_run rfl ?_ (fun K hK => ?_)
    focus (rfl)
    go_simp
    refine (list_x (MU M ub ev) WA hmu HXA.out m.rs.o RL.length m.rs.c RL HRA.out HP.out.2.1 hm).mono ?_
    rintro e WB ⟨y, rfl, hyt, hyo, hbb⟩
    have hS2 := hS1.keep hbb
    have HKB := Lib.hid (HKA.out.keep hbb)
    refine hK.out _ _ hS2 ?_
    clear hK K 
    (try simp only [Act.put, List.setIfInBounds_toArray, List.set_cons_zero, List.set_cons_succ])
    have HYB := Lib.hid (And.intro hyt (And.intro hyo (And.intro trivial (keepCells HXA.out hbb))))
    clear hS1 hbb hmu hyt hyo HKA HXA HRA
    have HEQ := Lib.hid (show tupS (([atomT ⟨#[111, 107]⟩] ++ [y]).map TE.t) = tupS [okA, listT RL] by rw [← HYB.out.1]; rfl)
    have hlvg : WB.heap.size ≠ 0 := by have := HP.out.2.2.1; have := HKB.out.hb.size; omega
    have hb3 := (Below.refl WB.heap.size WB).alloc (Nat.le_refl _) (.cells #[.int .i8 1, .int .i64 0, .string ⟨#[111, 107]⟩, .string ⟨#[]⟩, .slice none 0 0, .int .i8 y.k, .int .i64 y.n, .string y.s, .string y.u, .slice y.ao y.l.length y.cap] 27)
    have hS3 := hS2.keep hb3
    refine plan_run rfl ?_ (fun K hK => ?_)
    focus (rfl)
    go_simp
    refine hK.out _ _ (hS3) ?_
    clear hK K
    (try simp only [Act.put, List.setIfInBounds_toArray, List.set_cons_zero, List.set_cons_succ])
    have hg0 := HKB.out.hb.size
    have hmg : ∀ k, MU M ub ev k → k < WB.heap.size := fun k hk => Nat.lt_of_lt_of_le (HMU.out k hk) (Nat.le_trans (Nat.le_refl _) hg0)
    have hg1 : ¬ MU M ub ev WB.heap.size := fun h => Nat.lt_irrefl _ (hmg _ h)
    have HKC := Lib.hid (HKB.out.keep hb3)
    have HT := Lib.hid (stup_any (MU M ub ev) (WB.alloc (.cells #[.int .i8 1, .int .i64 0, .string ⟨#[111, 107]⟩, .string ⟨#[]⟩, .slice none 0 0, .int .i8 y.k, .int .i64 y.n, .string y.s, .string y.u, .slice y.ao y.l.length y.cap] 27)) (fun k hk => Nat.lt_of_lt_of_le (hmg k hk) hb3.size) (keepCells HYB.out.2.2.2 hb3) WB.heap.size hlvg [atomT ⟨#[111, 107]⟩] y 2 rfl (by simp) (heap_new WB (.cells #[.int .i8 1, .int .i64 0, .string ⟨#[111, 107]⟩, .string ⟨#[]⟩, .slice none 0 0, .int .i8 y.k, .int .i64 y.n, .string y.s, .string y.u, .slice y.ao y.l.length y.cap] 27)) hg1 (fun z hz => by
      simp only [List.cons_append, List.nil_append, List.mem_cons, List.not_mem_nil, or_false] at hz
      have hold : ∀ u : TE, TeOk (MU M ub ev) WB u → TeOk (fun k => MU M ub ev k ∨ k = WB.heap.size) (WB.alloc (.cells #[.int .i8 1, .int .i64 0, .string ⟨#[111, 107]⟩, .string ⟨#[]⟩, .slice none 0 0, .int .i8 y.k, .int .i64 y.n, .string y.s, .string y.u, .slice y.ao y.l.length y.cap] 27)) u := fun u hu => hu.chg (chg_of_below hb3 (fun _ => False)) (fun _ h => h.elim) (fun k hk hl => hk.elim id fun e => by omega)
      rcases hz with rfl | rfl; exact atomT_ok _ _ _ (by decide); exact hold _ HYB.out.2.1))
    have HG := Lib.hid (And.intro hg1 (And.intro (show w.heap.size ≤ WB.heap.size from Nat.le_trans (Nat.le_refl _) hg0) hg0))
    clear hg0 hmg hg1 hb3 hS2 HKB HYB
    generalize WB.alloc (.cells #[.int .i8 1, .int .i64 0, .string ⟨#[111, 107]⟩, .string ⟨#[]⟩, .slice none 0 0, .int .i8 y.k, .int .i64 y.n, .string y.s, .string y.u, .slice y.ao y.l.length y.cap] 27) = WC at *
    generalize WB.heap.size = g at *
    refine plan_run rfl ?_ (fun K hK => ?_)
    focus (rfl)
    go_simp
    refine HT.out.mono ?_
    clear HT
    rintro e WF ⟨z, rfl, hzt, hzo, hcz⟩
    have hub : ¬ ub = g := fun e => HG.out.1 (.inr (.inl e.symm))
    have hu4 := HKC.out.un.chg hcz hub (fun k hk e => HG.out.1 (.inr (.inr (by rw [← e]; exact hk))))
    have hS4 := hS3.chg hcz hub trivial
    refine hK.out _ _ (hS4) ?_
    clear hK K
    (try simp only [Act.put, List.setIfInBounds_toArray, List.set_cons_zero, List.set_cons_succ])
    iterate 1 (first | (refine plan_skip rfl ?_ ?_; (focus (rfl)); (try simp only [Act.put, List.setIfInBounds_toArray, List.set_cons_zero, List.set_cons_succ])) | (refine plan_take (v := ?_) rfl ?_ (fun w hSw => ?_) ?_; rotate_left; (focus (rfl)); (focus (unfold StS at hSw; (go_simp <;> with_reducible rfl))); (try simp only [Act.put, List.setIfInBounds_toArray, List.set_cons_zero, List.set_cons_succ])))
    have HC := Lib.hid (effect_any WF ub _ ev _ E (backE z) hu4 (by omega))
    have H4 := Lib.hid (And.intro (chg_new ((Chg.refl (UnB ub ev) w).trans (chg_of_below HKC.out.hb (UnB ub ev))) hcz HG.out.2.1) (And.intro hzt hzo))
    clear hu4 hS3 hcz hzt hzo hub HKC
    refine plan_run rfl ?_ (fun K hK => ?_)
    focus (rfl)
    go_simp
    refine HC.out.mono ?_
    clear HC
    rintro e WE ⟨⟨v, rfl⟩, ev', hu5, hc5, hb5⟩
    have hS5 : StS ub (.slice m.rs.o RL.length m.rs.c) (RL.length : Int) WE := (by have h0 := StS.of hu5 HP.out.2.2.2.1; rw [HP.out.2.2.2.2.2] at h0; exact h0)
    refine hK.out _ _ (hS5) ?_
    clear hK K
    (try simp only [Act.put, List.setIfInBounds_toArray, List.set_cons_zero, List.set_cons_succ])
    refine plan_done ?_
    have hws : w.heap.size ≤ WF.heap.size := H4.out.1.size
    have HZ := Lib.hid (And.intro hu5 (And.intro (un_trans H4.out.1 (fun _ _ h => h) hc5) (And.intro (fun k hk e => hb5 k (Nat.lt_of_lt_of_le hk hws) e) (And.intro H4.out.2.1 (un_te hc5 hb5 H4.out.2.2)))))
    clear hS4 hS5 hu5 hc5 hb5 hws H4
    go_wp2_with fail
    go_end0
    refine ⟨⟨_, rfl⟩, m, [backE z], ev', ?_, ?_, ?_, ?_⟩
    · exact HZ.out.1
    · exact HZ.out.2.1
    · exact HZ.out.2.2.1
    · exact .inl ⟨HP.out.2.2.2.1, rfl, z, rfl, HZ.out.2.2.2.1.trans HEQ.out, HZ.out.2.2.2.2⟩
  · have hlt' : N < RL.length := by omega
    have q1 : ((N : Int) == (RL.length : Int)) = false := by simp; omega
    have x0 : W1.cell? ⟨ub, 0, none⟩ = some (.int .i8 m.ph) := HK0.out.un.cell (i := 0) rfl
    have f0 : W1.frozen? ⟨ub, 0, none⟩ = false := HK0.out.un.frozen (i := 0) (v := .int .i8 m.ph) rfl
    obtain ⟨r, hri⟩ : ∃ r, RL[N]? = some r := ⟨RL[N], List.getElem?_eq_getElem hlt'⟩
    have hc1 : Chg (fun k => k = ub) W1 (W1.setCell ⟨ub, 0, none⟩ (.int .i8 1)) := chg_set (p := ⟨ub, 0, none⟩) _
    have hu1 : UnOk (W1.setCell ⟨ub, 0, none⟩ (.int .i8 1)) ub (unL { m with ph := 1 } i) ev bi E := HK0.out.un.set 0 (.int .i8 1) (by decide)
    have hr1 : RcOwn (W1.setCell ⟨ub, 0, none⟩ (.int .i8 1)) ub m.rs RL := own_chg HK0.out.rs hc1 (fun k hk e => HP.out.1 k hk (.inr (.inl e)))
    have H1 := Lib.hid (And.intro hu1 (And.intro hr1 (And.intro ((chg_of_below HK0.out.hb (UnB ub ev)).trans (hc1.mono fun k _ h => .inl h)) hri)))
    clear hlt hu1 hr1 hc1 hS hri
    go_wp2_with fail
    clear x0 f0
    generalize W1.setCell ⟨ub, 0, none⟩ (.int .i8 1) = W2 at *
    obtain ⟨rb, hb, hob⟩ := H1.out.2.1.blk (by omega)
    have hdr : Below W2.heap.size W2 W2.drew := (Below.refl _ _).drew
    have hr2 : RcOwn W2.drew ub m.rs RL := own_keep H1.out.2.1 hdr
    have hu2 := H1.out.1.keep hdr
    have hS : SpS ub rb (N * 13) (.slice (some ⟨rb, 0, none⟩) RL.length m.rs.c) (N : Int) r.c.cells W2.drew := ⟨by rw [← hb, ← HP.out.2.2.2.2.2]; exact hu2.cell (i := 20) rfl, by rw [← HP.out.2.2.2.1]; exact hu2.cell (i := 4) rfl, hr2.rec hob H1.out.2.2.2⟩
    have HK2 := Lib.hid (And.intro hu2 (And.intro (H1.out.2.2.1.trans (chg_of_below hdr (UnB ub ev))) (And.intro (show ¬ rb = ub from fun e => by have := own_base hr2 rb hob; omega) (And.intro (show ¬ ev.ownBlock = some rb from fun e => HP.out.1 rb hob (.inr (.inr e))) hb))))
    have hix : (N : Int) < (RL.length : Int) := by omega
    have hi0 : (0 : Int) ≤ (N : Int) := by omega
    clear hdr hr2 hu2 hb hob
    refine region_plan (SpS ub rb (N * 13) (.slice (some ⟨rb, 0, none⟩) RL.length m.rs.c) (N : Int) r.c.cells) [(0, 0), (1, 0), (2, 0), (3, 0), (4, 0), (5, 0), (6, 0), (7, 0), (8, 0), (9, 0), (10, 0), (11, 0), (12, 0), (13, 0), (14, 0), (15, 1)] (by kernel_rfl) (by kernel_rfl) (by kernel_rfl) hS ?_
    generalize W2.drew = WD at *
    iterate 13 (first | (refine plan_skip rfl ?_ ?_; (focus (rfl)); (try simp only [Act.put, List.setIfInBounds_toArray, List.set_cons_zero, List.set_cons_succ])) | (refine plan_take (v := ?_) rfl ?_ (fun w hSw => ?_) ?_; rotate_left; (focus (rfl)); (focus (unfold SpS at hSw; (go_simp <;> with_reducible rfl))); (try simp only [Act.put, List.setIfInBounds_toArray, List.set_cons_zero, List.set_cons_succ])))
    refine plan_take rfl ?_ (fun wS hSw => exec_mid 44 (.tmp 42) rfl rb (N * 13) rfl #[.int .i8 r.c.id.k, .int .i64 r.c.id.n, .string r.c.id.s, .string r.c.id.u, .slice r.c.id.ao r.c.id.l.length r.c.id.cap, .int .i8 r.c.ki, .int .i8 r.c.re, .int .i64 r.c.sh, .string r.c.m, .string r.c.f, .slice r.c.ao r.c.an r.c.ac, .slice r.c.so r.c.sn r.c.sc] _ hSw.2.2 Tryd.underlying44 rfl (infoCH rfl)) ?_
    focus (rfl)
    (try simp only [Act.put, List.setIfInBounds_toArray, List.set_cons_zero, List.set_cons_succ])
    iterate 1 (first | (refine plan_skip rfl ?_ ?_; (focus (rfl)); (try simp only [Act.put, List.setIfInBounds_toArray, List.set_cons_zero, List.set_cons_succ])) | (refine plan_take (v := ?_) rfl ?_ (fun w hSw => ?_) ?_; rotate_left; (focus (rfl)); (focus (unfold SpS at hSw; (go_simp <;> with_reducible rfl))); (try simp only [Act.put, List.setIfInBounds_toArray, List.set_cons_zero, List.set_cons_succ])))
    have HC := Lib.hid (effect_any WD ub _ ev bi E (spawnE r.c) HK2.out.1 (by omega))
    refine plan_run rfl ?_ (fun K hK => ?_)
    focus (rfl)
    go_simp
    refine HC.out.mono ?_
    clear HC
    rintro e WE ⟨⟨v, rfl⟩, ev', hu5, hc5, hb5⟩
    have hrb5 : ¬ UnB ub ev rb := fun e => e.elim HK2.out.2.2.1 HK2.out.2.2.2.1
    have hS5 : SpS ub rb (N * 13) (.slice (some ⟨rb, 0, none⟩) RL.length m.rs.c) (N : Int) r.c.cells WE := ⟨by rw [← HK2.out.2.2.2.2, ← HP.out.2.2.2.2.2]; exact hu5.cell (i := 20) rfl, by rw [← HP.out.2.2.2.1]; exact hu5.cell (i := 4) rfl, fun j v hj => hc5.cell (hS.2.2 j v hj) hrb5⟩
    refine hK.out _ _ (hS5) ?_
    clear hK K
    (try simp only [Act.put, List.setIfInBounds_toArray, List.set_cons_zero, List.set_cons_succ])
    refine plan_done ?_
    have HZ := Lib.hid (And.intro hu5 (And.intro (un_trans HK2.out.2.1 (fun _ _ h => h) hc5) (fun k hk e => hb5 k (Nat.lt_of_lt_of_le hk HK2.out.2.1.size) e)))
    clear hS hS5 hu5 hc5 hb5 hrb5
    go_wp2_with fail
    go_end0
    refine ⟨⟨_, rfl⟩, { m with ph := 1 }, [spawnE r.c], ev', ?_, ?_, ?_, ?_⟩
    · exact HZ.out.1
    · exact HZ.out.2.1
    · exact HZ.out.2.2
    · refine .inr ⟨by rw [HP.out.2.2.2.1]; omega, rfl, r, ?_, rfl⟩
      rw [HP.out.2.2.2.1, Int.toNat_natCast]
      exact H1.out.2.2.2
end Go.Proofs.YtepfmanbllegiaaDoor
namespace Go.Proofs.YtepfmanbllegiaaDoor
open Go.ChangeShapes Go.WideShapes Go.ChangeAt Go.RowKit
set_option linter.unusedVariables false
set_option linter.unusedSimpArgs false
set_option maxRecDepth 100000
/-- a step of the unit: what it comes to, its records too -/
def UnR (M : Nat → Prop) (w : World) (ub : Nat) (m : Mm) (i : Im) (ev : Value) (bi : Bool) (E : List Ef) (Q : (Nat → Prop) → World → Mm → List Ef → List Rc → Prop) (e : Ending) (w' : World) : Prop :=
  (∃ v, e = .returned v) ∧ ∃ (m' : Mm) (E1 : List Ef) (ev' : Value) (RL' : List Rc), UnOk w' ub (unL m' i) ev' bi (E ++ E1) ∧ m'.rs = m.rs ∧ RcOwn w' ub m'.rs RL' ∧ Chg (fun k => UnB ub ev k ∨ (Value.slice m.rs.o m.rs.n m.rs.c).ownBlock = some k) w w' ∧
    (∀ k, k < w.heap.size → ev'.ownBlock = some k → ev.ownBlock = some k) ∧ Q (MU M ub ev') w' m' E1 RL'
theorem UnQ.toR {M : Nat → Prop} {w w' : World} {ub : Nat} {m : Mm} {i : Im} {ev : Value} {bi : Bool} {E : List Ef} {RL : List Rc} {Q : (Nat → Prop) → World → Mm → List Ef → Prop} {e : Ending} (h : UnQ M w ub i ev bi E Q e w') (hr : RcOwn w ub m.rs RL) (hrM : ∀ k, (Value.slice m.rs.o m.rs.n m.rs.c).ownBlock = some k → ¬ MU M ub ev k)
    (hm : ∀ N w' m' E1, Q N w' m' E1 → m'.rs = m.rs) : UnR M w ub m i ev bi E (fun N w' m' E1 RL' => Q N w' m' E1 ∧ RL' = RL) e w' := by
  obtain ⟨hv, m', E1, ev', h1, h2, h3, h4⟩ := h
  have he := hm _ _ _ _ h4
  refine ⟨hv, m', E1, ev', RL, h1, he, ?_, h2.mono fun k _ h => .inl h, h3, h4, rfl⟩
  rw [he]
  exact own_chg hr h2 fun k hk e => hrM k hk (.inr e)
theorem FaQ.rs {RL : List Rc} {m : Mm} {x : TE} {N : Nat → Prop} {w' : World} {m' : Mm} {E1 : List Ef} (h : FaQ RL m x N w' m' E1) : m'.rs = m.rs := by
  rcases h with ⟨-, rfl, -⟩ | ⟨-, rfl, -⟩ <;> rfl
def UdQ (i : Im) (m : Mm) (N : Nat → Prop) (w' : World) (m' : Mm) (E1 : List Ef) : Prop :=
  m' = m ∧ ((i.some = true ∧ ∃ y, E1 = [backE y] ∧ y.t = tupS [errA, listT [], m.U.t] ∧ TeOk N w' y) ∨ (i.some = false ∧ E1 = []))
def UdS (ub : Nat) (x : TE) (W : World) : Prop := W.cell? ⟨ub, 10, none⟩ = some (.int .i8 x.k) ∧ W.cell? ⟨ub, 11, none⟩ = some (.int .i64 x.n) ∧ W.cell? ⟨ub, 12, none⟩ = some (.string x.s) ∧ W.cell? ⟨ub, 13, none⟩ = some (.string x.u) ∧ W.cell? ⟨ub, 14, none⟩ = some (.slice x.ao x.l.length x.cap)
theorem UdS.keep {ub : Nat} {x : TE} {W W' : World} (h : UdS ub x W) (hb : Below W.heap.size W W') : UdS ub x W' := ⟨keep_cell h.1 hb, keep_cell h.2.1 hb, keep_cell h.2.2.1 hb, keep_cell h.2.2.2.1 hb, keep_cell h.2.2.2.2 hb⟩
theorem UdS.chg {T : Nat → Prop} {ub : Nat} {x : TE} {W W' : World} (h : UdS ub x W) (hc : Chg T W W') (hu : ¬ T ub) (_ : True) : UdS ub x W' := ⟨hc.cell h.1 hu, hc.cell h.2.1 hu, hc.cell h.2.2.1 hu, hc.cell h.2.2.2.1 hu, hc.cell h.2.2.2.2 hu⟩
theorem UdS.of {w : World} {ub : Nat} {m : Mm} {i : Im} {ev : Value} {bi : Bool} {E : List Ef} (h : UnOk w ub (unL m i) ev bi E) : UdS ub m.U w := ⟨h.cell (i := 10) rfl, h.cell (i := 11) rfl, h.cell (i := 12) rfl, h.cell (i := 13) rfl, h.cell (i := 14) rfl⟩
set_option maxHeartbeats 16000000 in
theorem undone_any (M : Nat → Prop) (w : World) (hM : ∀ k, M k → k < w.heap.size) (hc : Cells w 0 letL) (ub : Nat) (m : Mm) (i : Im) (ev : Value) (bi0 : Bool) (E : List Ef) (h : UnOk w ub (unL m i) ev bi0 E) (hn : E.length ≤ 50) (hlv : 0 < w.heap.size) (hlu : ¬ UnB ub ev 0)
    (RL : List Rc) (hr : RcOwn w ub m.rs RL) (hrM : ∀ k, (Value.slice m.rs.o m.rs.n m.rs.c).ownBlock = some k → ¬ MU M ub ev k) (hx : TeOk (MU M ub ev) w m.U) :
    Calls Tryd.prog 21 #[.pointer (some ⟨ub, 0, none⟩)] w (UnQ M w ub i ev (!i.some) E (UdQ i m)) := by
  have HMU := Lib.hid (mu_lt h hM)
  have c31 : w.cell? ⟨ub, 31, none⟩ = some (.bool i.some) := h.cell (i := 31) rfl
  obtain ⟨c39, f39⟩ := h.idle
  have hc1 : Chg (fun k => k = ub) w (w.setCell ⟨ub, 39, none⟩ (.bool (!i.some))) := chg_set (p := ⟨ub, 39, none⟩) _
  have hc1' : Chg (UnB ub ev) w (w.setCell ⟨ub, 39, none⟩ (.bool (!i.some))) := hc1.mono fun k _ h => .inl h
  have H1 := Lib.hid (And.intro (h.setI (!i.some)) (And.intro (show RcOwn (w.setCell ⟨ub, 39, none⟩ (.bool (!i.some))) ub m.rs RL from own_chg hr hc1' fun k hk e => hrM k hk (.inr e)) (And.intro hc1' (And.intro (hx.chg hc1' (fun k hk _ => .inr hk) (fun k hk _ => hk)) (let_chg hc hc1' hlu)))))
  have HP := Lib.hid (And.intro hrM hlv)
  clear h hr hrM hx hc hM hlv hlu hc1 hc1'
  go_enter Tryd.func21, Tryd.ntmps21
  cases hb : i.some
  · have HB := Lib.hid hb
    rw [hb] at c31 H1
    clear hb
    go_wp2_with fail
    go_end0
    refine ⟨⟨_, rfl⟩, m, [], ev, ?_, ?_, ?_, ?_⟩
    · rw [List.append_nil]
      exact H1.out.1
    · exact H1.out.2.2.1
    · exact fun _ _ h => h
    · exact ⟨rfl, .inr ⟨HB.out, rfl⟩⟩
  · have HB := Lib.hid hb
    rw [hb] at c31 H1
    clear hb
    go_wp2_with fail
    change Hid (UnOk (w.setCell ⟨ub, 39, none⟩ (.bool false)) ub (unL m i) ev false E ∧ RcOwn (w.setCell ⟨ub, 39, none⟩ (.bool false)) ub m.rs RL ∧ Chg (UnB ub ev) w (w.setCell ⟨ub, 39, none⟩ (.bool false)) ∧ TeOk (MU M ub ev) (w.setCell ⟨ub, 39, none⟩ (.bool false)) m.U ∧ Cells (w.setCell ⟨ub, 39, none⟩ (.bool false)) 0 letL) at H1
    clear c31 c39 f39
    generalize w.setCell ⟨ub, 39, none⟩ (.bool false) = w2 at *
    have hdr : Below w2.heap.size w2 w2.drew := (Below.refl _ _).drew
    have HK0 : Hid (NxW w2 w2.drew ub m i ev false E RL) := Lib.hid ⟨hdr, H1.out.1.keep hdr, own_keep H1.out.2.1 hdr⟩
    have hS : UdS ub m.U w2.drew := UdS.of HK0.out.un
    refine region_plan (UdS ub m.U) [(0, 0), (3, 0), (4, 0), (5, 0), (6, 0), (7, 0), (1, 1), (2, 1), (8, 1), (9, 1), (10, 0), (11, 1)] (by kernel_rfl) (by kernel_rfl) (by kernel_rfl) hS ?_
    generalize w2.drew = WD at *
    clear hdr
    iterate 6 (first | (refine plan_skip rfl ?_ ?_; (focus (rfl)); (try simp only [Act.put, List.setIfInBounds_toArray, List.set_cons_zero, List.set_cons_succ])) | (refine plan_take (v := ?_) rfl ?_ (fun w hSw => ?_) ?_; rotate_left; (focus (rfl)); (focus (unfold UdS at hSw; (go_simp <;> with_reducible rfl))); (try simp only [Act.put, List.setIfInBounds_toArray, List.set_cons_zero, List.set_cons_succ])))
    refine plan_run rfl ?_ (fun K hK => ?_)
    focus (rfl)
    go_simp
    refine (atom_x WD _).mono ?_
    rintro e WA ⟨rfl, hba⟩
    have hS1 := hS.keep hba
    have HKA := Lib.hid (HK0.out.keep hba)
    refine hK.out _ _ hS1 ?_
    clear hK K 
    (try simp only [Act.put, List.setIfInBounds_toArray, List.set_cons_zero, List.set_cons_succ])
    have HXA := Lib.hid (And.intro (H1.out.2.2.2.1.keep HKA.out.hb) (keepCells H1.out.2.2.2.2 HKA.out.hb))
    clear hS hba HK0
    have hmu : ∀ k, MU M ub ev k → k < WA.heap.size := fun k hk => Nat.lt_of_lt_of_le (HMU.out k hk) (Nat.le_trans H1.out.2.2.1.size HKA.out.hb.size)
    refine plan_run rfl ?_ (fun K hK => ?_)
    focus (rfl)
    go_simp
    refine (list_x (MU M ub ev) WA hmu HXA.out.2 none 0 0 [] ⟨rfl, Nat.le_refl _, Nat.zero_le _, .inl rfl⟩ (fun r hr => by cases hr) (by decide)).mono ?_
    rintro e WB ⟨y, rfl, hyt, hyo, hbb⟩
    have hS2 := hS1.keep hbb
    have HKB := Lib.hid (HKA.out.keep hbb)
    refine hK.out _ _ hS2 ?_
    clear hK K 
    (try simp only [Act.put, List.setIfInBounds_toArray, List.set_cons_zero, List.set_cons_succ])
    have HYB := Lib.hid (And.intro hyt (And.intro hyo (And.intro (HXA.out.1.keep hbb) (keepCells HXA.out.2 hbb))))
    clear hS1 hbb hmu hyt hyo HKA HXA
    have HEQ := Lib.hid (show tupS (([atomT ⟨#[101, 114, 114, 111, 114]⟩, y] ++ [m.U]).map TE.t) = tupS [errA, listT [], m.U.t] by rw [← HYB.out.1]; rfl)
    have hlvg : WB.heap.size ≠ 0 := by have := HP.out.2; have := HKB.out.hb.size; have := H1.out.2.2.1.size; omega
    have hb3 := (Below.refl WB.heap.size WB).alloc (Nat.le_refl _) (.cells #[.int .i8 1, .int .i64 0, .string ⟨#[101, 114, 114, 111, 114]⟩, .string ⟨#[]⟩, .slice none 0 0, .int .i8 y.k, .int .i64 y.n, .string y.s, .string y.u, .slice y.ao y.l.length y.cap, .int .i8 m.U.k, .int .i64 m.U.n, .string m.U.s, .string m.U.u, .slice m.U.ao m.U.l.length m.U.cap] 27)
    have hS3 := hS2.keep hb3
    refine plan_run rfl ?_ (fun K hK => ?_)
    focus (rfl)
    go_simp
    refine hK.out _ _ (hS3) ?_
    clear hK K
    (try simp only [Act.put, List.setIfInBounds_toArray, List.set_cons_zero, List.set_cons_succ])
    have hg0 := HKB.out.hb.size
    have hmg : ∀ k, MU M ub ev k → k < WB.heap.size := fun k hk => Nat.lt_of_lt_of_le (HMU.out k hk) (Nat.le_trans H1.out.2.2.1.size hg0)
    have hg1 : ¬ MU M ub ev WB.heap.size := fun h => Nat.lt_irrefl _ (hmg _ h)
    have HKC := Lib.hid (HKB.out.keep hb3)
    have HT := Lib.hid (stup_any (MU M ub ev) (WB.alloc (.cells #[.int .i8 1, .int .i64 0, .string ⟨#[101, 114, 114, 111, 114]⟩, .string ⟨#[]⟩, .slice none 0 0, .int .i8 y.k, .int .i64 y.n, .string y.s, .string y.u, .slice y.ao y.l.length y.cap, .int .i8 m.U.k, .int .i64 m.U.n, .string m.U.s, .string m.U.u, .slice m.U.ao m.U.l.length m.U.cap] 27)) (fun k hk => Nat.lt_of_lt_of_le (hmg k hk) hb3.size) (keepCells HYB.out.2.2.2 hb3) WB.heap.size hlvg [atomT ⟨#[101, 114, 114, 111, 114]⟩, y] m.U 3 rfl (by simp) (heap_new WB (.cells #[.int .i8 1, .int .i64 0, .string ⟨#[101, 114, 114, 111, 114]⟩, .string ⟨#[]⟩, .slice none 0 0, .int .i8 y.k, .int .i64 y.n, .string y.s, .string y.u, .slice y.ao y.l.length y.cap, .int .i8 m.U.k, .int .i64 m.U.n, .string m.U.s, .string m.U.u, .slice m.U.ao m.U.l.length m.U.cap] 27)) hg1 (fun z hz => by
      simp only [List.cons_append, List.nil_append, List.mem_cons, List.not_mem_nil, or_false] at hz
      have hold : ∀ u : TE, TeOk (MU M ub ev) WB u → TeOk (fun k => MU M ub ev k ∨ k = WB.heap.size) (WB.alloc (.cells #[.int .i8 1, .int .i64 0, .string ⟨#[101, 114, 114, 111, 114]⟩, .string ⟨#[]⟩, .slice none 0 0, .int .i8 y.k, .int .i64 y.n, .string y.s, .string y.u, .slice y.ao y.l.length y.cap, .int .i8 m.U.k, .int .i64 m.U.n, .string m.U.s, .string m.U.u, .slice m.U.ao m.U.l.length m.U.cap] 27)) u := fun u hu => hu.chg (chg_of_below hb3 (fun _ => False)) (fun _ h => h.elim) (fun k hk hl => hk.elim id fun e => by omega)
      rcases hz with rfl | rfl | rfl; exact atomT_ok _ _ _ (by decide); exact hold _ HYB.out.2.1; exact hold _ HYB.out.2.2.1))
    have HG := Lib.hid (And.intro hg1 (And.intro (show w.heap.size ≤ WB.heap.size from Nat.le_trans H1.out.2.2.1.size hg0) hg0))
    clear hg0 hmg hg1 hb3 hS2 HKB HYB
    generalize WB.alloc (.cells #[.int .i8 1, .int .i64 0, .string ⟨#[101, 114, 114, 111, 114]⟩, .string ⟨#[]⟩, .slice none 0 0, .int .i8 y.k, .int .i64 y.n, .string y.s, .string y.u, .slice y.ao y.l.length y.cap, .int .i8 m.U.k, .int .i64 m.U.n, .string m.U.s, .string m.U.u, .slice m.U.ao m.U.l.length m.U.cap] 27) = WC at *
    generalize WB.heap.size = g at *
    refine plan_run rfl ?_ (fun K hK => ?_)
    focus (rfl)
    go_simp
    refine HT.out.mono ?_
    clear HT
    rintro e WF ⟨z, rfl, hzt, hzo, hcz⟩
    have hub : ¬ ub = g := fun e => HG.out.1 (.inr (.inl e.symm))
    have hu4 := HKC.out.un.chg hcz hub (fun k hk e => HG.out.1 (.inr (.inr (by rw [← e]; exact hk))))
    have hS4 := hS3.chg hcz hub trivial
    refine hK.out _ _ (hS4) ?_
    clear hK K
    (try simp only [Act.put, List.setIfInBounds_toArray, List.set_cons_zero, List.set_cons_succ])
    iterate 1 (first | (refine plan_skip rfl ?_ ?_; (focus (rfl)); (try simp only [Act.put, List.setIfInBounds_toArray, List.set_cons_zero, List.set_cons_succ])) | (refine plan_take (v := ?_) rfl ?_ (fun w hSw => ?_) ?_; rotate_left; (focus (rfl)); (focus (unfold UdS at hSw; (go_simp <;> with_reducible rfl))); (try simp only [Act.put, List.setIfInBounds_toArray, List.set_cons_zero, List.set_cons_succ])))
    have HC := Lib.hid (effect_any WF ub _ ev _ E (backE z) hu4 (by omega))
    have H4 := Lib.hid (And.intro (chg_new (H1.out.2.2.1.trans (chg_of_below HKC.out.hb (UnB ub ev))) hcz HG.out.2.1) (And.intro hzt hzo))
    clear hu4 hS3 hcz hzt hzo hub HKC
    refine plan_run rfl ?_ (fun K hK => ?_)
    focus (rfl)
    go_simp
    refine HC.out.mono ?_
    clear HC
    rintro e WE ⟨⟨v, rfl⟩, ev', hu5, hc5, hb5⟩
    have hS5 : UdS ub m.U WE := UdS.of hu5
    refine hK.out _ _ (hS5) ?_
    clear hK K
    (try simp only [Act.put, List.setIfInBounds_toArray, List.set_cons_zero, List.set_cons_succ])
    refine plan_done ?_
    have hws : w.heap.size ≤ WF.heap.size := H4.out.1.size
    have HZ := Lib.hid (And.intro hu5 (And.intro (un_trans H4.out.1 (fun _ _ h => h) hc5) (And.intro (fun k hk e => hb5 k (Nat.lt_of_lt_of_le hk hws) e) (And.intro H4.out.2.1 (un_te hc5 hb5 H4.out.2.2)))))
    clear hS4 hS5 hu5 hc5 hb5 hws H4
    go_wp2_with fail
    go_end0
    refine ⟨⟨_, rfl⟩, m, [backE z], ev', ?_, ?_, ?_, ?_⟩
    · exact HZ.out.1
    · exact HZ.out.2.1
    · exact HZ.out.2.2.1
    · exact ⟨rfl, .inl ⟨HB.out, z, rfl, HZ.out.2.2.2.1.trans HEQ.out, HZ.out.2.2.2.2⟩⟩
end Go.Proofs.YtepfmanbllegiaaDoor
namespace Go.Proofs.YtepfmanbllegiaaDoor
open Go.ChangeShapes Go.WideShapes Go.ChangeAt Go.RowKit
set_option linter.unusedVariables false
set_option linter.unusedSimpArgs false
set_option maxRecDepth 100000
def undfS : ByteArray := ⟨#[117, 110, 100, 101, 102]⟩
/-- a record stands -/
def SaQ (RL : List Rc) (p : Int) (m m' : Mm) (E1 : List Ef) (RL' : List Rc) : Prop := m' = { m with ph := 0, n := m.n + 1 } ∧ E1 = [] ∧ ∃ r, RL[m.n.toNat]? = some r ∧ RL' = RL.set m.n.toNat ⟨r.c, p⟩
def SpQ (RL : List Rc) (i : Im) (m : Mm) (N : Nat → Prop) (w' : World) (m' : Mm) (E1 : List Ef) (RL' : List Rc) : Prop :=
  (0 < i.have_ ∧ ((∃ r, RL[m.n.toNat]? = some r ∧ r.c.ki = 1) ∧ SaQ RL i.have_ m m' E1 RL' ∨ (∃ r, RL[m.n.toNat]? = some r ∧ r.c.ki ≠ 1) ∧ m' = { m with pid := i.have_, ph := 2 } ∧ E1 = [] ∧ RL' = RL)) ∨
  (i.have_ ≤ 0 ∧ FaQ RL m (atomT (if i.have_ = 0 then limS else undfS)) N w' m' E1 ∧ RL' = RL)
def SwS (ub rb : Nat) (rv : Value) (n o : Nat) (ki : Int) (W : World) : Prop := W.cell? ⟨ub, 20, none⟩ = some rv ∧ W.cell? ⟨ub, 4, none⟩ = some (.int .i64 (n : Int)) ∧ W.cell? ⟨rb, o, none⟩ = some (.int .i8 ki)
def TrS (_ : World) : Prop := True
set_option maxHeartbeats 16000000 in
theorem spawned_any (M : Nat → Prop) (w : World) (hM : ∀ k, M k → k < w.heap.size) (hc : Cells w 0 letL) (ub : Nat) (m : Mm) (i : Im) (ev : Value) (bi : Bool) (E : List Ef) (h : UnOk w ub (unL m i) ev bi E) (hn : E.length ≤ 50) (hlv : 0 < w.heap.size) (hlu : ¬ UnB ub ev 0)
    (RL : List Rc) (hr : RcOwn w ub m.rs RL) (hrM : ∀ k, (Value.slice m.rs.o m.rs.n m.rs.c).ownBlock = some k → ¬ MU M ub ev k) (N : Nat) (hN : m.n = (N : Int)) (hl : N < RL.length) (hm : RL.length ≤ 100) (hp : ∀ r ∈ RL, r.pid ≤ 576460752303423487) :
    Calls Tryd.prog 18 #[.pointer (some ⟨ub, 0, none⟩)] w (UnR M w ub m i ev bi E (SpQ RL i m)) := by
  have hsn := hr.len
  obtain ⟨rb, hb, hob⟩ := hr.blk (by omega)
  obtain ⟨r, hri⟩ : ∃ r, RL[N]? = some r := ⟨RL[N], List.getElem?_eq_getElem hl⟩
  have hne : rb ≠ ub := by
    have := own_base hr rb hob
    omega
  have c37 : w.cell? ⟨ub, 37, none⟩ = some (.int .i64 i.have_) := h.cell (i := 37) rfl
  have hdr : Below w.heap.size w w.drew := (Below.refl _ _).drew
  have hu := h.keep hdr
  have hr1 : RcOwn w.drew ub m.rs RL := own_keep hr hdr
  have hS : SwS ub rb (.slice (some ⟨rb, 0, none⟩) RL.length m.rs.c) N (N * 13 + 5) r.c.ki w.drew := ⟨by rw [← hb, ← hsn]; exact hu.cell (i := 20) rfl, by rw [← hN]; exact hu.cell (i := 4) rfl, hr1.rec hob hri 5 _ rfl⟩
  have H0 := Lib.hid (And.intro hdr (And.intro hu hr1))
  have HP := Lib.hid (And.intro hrM (And.intro hp (And.intro hN (And.intro hri (And.intro hlu (And.intro hM hc))))))
  have HB := Lib.hid (And.intro hb (And.intro hob (And.intro hne hsn)))
  have hix : (N : Int) < (RL.length : Int) := by omega
  have hi0 : (0 : Int) ≤ (N : Int) := by omega
  clear h hr hrM hp hM hc hlv hlu hdr hu hr1 hN hri hb hob hne hsn
  generalize hhv : i.have_ = hv at *
  go_enter Tryd.func18, Tryd.ntmps18
  by_cases h0 : 0 < hv
  · have q0 : decide (0 < hv) = true := by simpa using h0
    go_wp2_with fail
    refine region_plan (SwS ub rb (.slice (some ⟨rb, 0, none⟩) RL.length m.rs.c) N (N * 13 + 5) r.c.ki) [(0, 0), (1, 0), (2, 0), (3, 0), (4, 0), (5, 0), (6, 0), (7, 0), (8, 0), (9, 0), (10, 0), (11, 0), (12, 0), (13, 0), (14, 0), (15, 0), (16, 0), (17, 0), (18, 0), (19, 0)] (by kernel_rfl) (by kernel_rfl) (by kernel_rfl) hS ?_
    generalize w.drew = WD at *
    iterate 20 (first | (refine plan_skip rfl ?_ ?_; (focus (rfl)); (try simp only [Act.put, List.setIfInBounds_toArray, List.set_cons_zero, List.set_cons_succ])) | (refine plan_take (v := ?_) rfl ?_ (fun w hSw => ?_) ?_; rotate_left; (focus (rfl)); (focus (unfold SwS at hSw; (go_simp <;> with_reducible rfl))); (try simp only [Act.put, List.setIfInBounds_toArray, List.set_cons_zero, List.set_cons_succ])))
    refine plan_done ?_
    by_cases hk : r.c.ki = 1
    · have HK := Lib.hid hk
      have hkb : (r.c.ki == 1) = true := by simp [hk]
      rw [hkb]
      go_wp2_with fail
      refine (stands_any WD ub rb m i ev bi E H0.out.2.1 RL H0.out.2.2 N HP.out.2.2.1 hl (by omega) HB.out.1 (fun e => HP.out.1 rb HB.out.2.1 (.inr (.inr e))) hv).mono ?_
      rintro e WB ⟨⟨v, rfl⟩, hu3, hc3, r', hr', hr3⟩
      have HZ := Lib.hid (And.intro hu3 (And.intro hc3 (And.intro hr' hr3)))
      clear hu3 hc3 hr' hr3 hS
      go_wp2_with fail
      go_end0
      have hNn : m.n.toNat = N := by rw [HP.out.2.2.1, Int.toNat_natCast]
      refine ⟨⟨_, rfl⟩, { m with ph := 0, n := m.n + 1 }, [], ev, RL.set N ⟨r'.c, hv⟩, ?_, ?_, ?_, ?_, ?_, ?_⟩
      · rw [List.append_nil]
        exact HZ.out.1
      · rfl
      · exact HZ.out.2.2.2
      · exact (chg_of_below H0.out.1 _).trans (HZ.out.2.1.mono fun k _ h => h.elim (fun e => .inl (.inl e)) (fun e => .inr (by rw [e]; exact HB.out.2.1)))
      · exact fun _ _ h => h
      · refine .inl ⟨by rw [hhv]; exact h0, .inl ⟨⟨r, by rw [hNn]; exact HP.out.2.2.2.1, HK.out⟩, rfl, rfl, r', by rw [hNn]; exact HZ.out.2.2.1, by rw [hNn, hhv]⟩⟩
    · have HK := Lib.hid hk
      have hkb : (r.c.ki == 1) = false := by simp [hk]
      rw [hkb]
      have x1 : WD.cell? ⟨ub, 1, none⟩ = some (.int .i64 m.pid) := H0.out.2.1.cell (i := 1) rfl
      have f1 : WD.frozen? ⟨ub, 1, none⟩ = false := H0.out.2.1.frozen (i := 1) (v := .int .i64 m.pid) rfl
      have x0 : WD.cell? ⟨ub, 0, none⟩ = some (.int .i8 m.ph) := H0.out.2.1.cell (i := 0) rfl
      have f0 : WD.frozen? ⟨ub, 0, none⟩ = false := H0.out.2.1.frozen (i := 0) (v := .int .i8 m.ph) rfl
      clear hS
      go_wp2_with fail
      go_end0
      have hNn : m.n.toNat = N := by rw [HP.out.2.2.1, Int.toNat_natCast]
      have hu3 := (H0.out.2.1.set 1 (.int .i64 hv) (by decide)).set 0 (.int .i8 2) (by decide)
      have hc4 : Chg (fun k => k = ub) WD (WD.setCell ⟨ub, 1, none⟩ (.int .i64 hv)) := chg_set (p := ⟨ub, 1, none⟩) _
      have hc5 : Chg (fun k => k = ub) (WD.setCell ⟨ub, 1, none⟩ (.int .i64 hv)) ((WD.setCell ⟨ub, 1, none⟩ (.int .i64 hv)).setCell ⟨ub, 0, none⟩ (.int .i8 2)) := chg_set (p := ⟨ub, 0, none⟩) _
      refine ⟨⟨_, rfl⟩, { m with pid := hv, ph := 2 }, [], ev, RL, ?_, ?_, ?_, ?_, ?_, ?_⟩
      · rw [List.append_nil]
        exact hu3
      · rfl
      · exact own_chg H0.out.2.2 (hc4.trans hc5) fun k hk e => HP.out.1 k hk (.inr (.inl e))
      · exact (chg_of_below H0.out.1 _).trans ((hc4.trans hc5).mono fun k _ h => .inl (.inl h))
      · exact fun _ _ h => h
      · exact .inl ⟨by rw [hhv]; exact h0, .inr ⟨⟨r, by rw [hNn]; exact HP.out.2.2.2.1, HK.out⟩, by rw [hhv], rfl, rfl⟩⟩
  · have q0 : decide (0 < hv) = false := by simpa using h0
    go_wp2_with fail
    have hS2 : TrS w.drew := trivial
    refine region_plan (TrS) [(0, 0), (1, 0), (2, 0), (3, 0), (4, 0), (5, 0), (6, 0), (7, 0), (8, 0), (9, 0), (10, 0), (11, 0), (12, 0), (13, 0), (14, 0), (15, 0), (16, 0), (17, 0), (18, 0), (19, 0)] (by kernel_rfl) (by kernel_rfl) (by kernel_rfl) hS2 ?_
    generalize w.drew = WD at *
    iterate 20 (first | (refine plan_skip rfl ?_ ?_; (focus (rfl)); (try simp only [Act.put, List.setIfInBounds_toArray, List.set_cons_zero, List.set_cons_succ])) | (refine plan_take (v := ?_) rfl ?_ (fun w hSw => ?_) ?_; rotate_left; (focus (rfl)); (focus (unfold TrS at hSw; (go_simp <;> with_reducible rfl))); (try simp only [Act.put, List.setIfInBounds_toArray, List.set_cons_zero, List.set_cons_succ])))
    refine plan_done ?_
    clear hS hS2
    by_cases hz : hv = 0
    · have HZ := Lib.hid (And.intro hhv hz)
      subst hz
      clear hhv h0
      go_wp2_with fail
      refine (atom_x WD _).mono ?_
      rintro e WA ⟨rfl, hba⟩
      have hbA := H0.out.1.trans (hba.mono H0.out.1.size)
      have huA := H0.out.2.1.keep hba
      have hrA : RcOwn WA ub m.rs RL := own_keep H0.out.2.2 hba
      have hF := fails_any M WA (fun k hk => Nat.lt_of_lt_of_le (HP.out.2.2.2.2.2.1 k hk) hbA.size) (keepCells HP.out.2.2.2.2.2.2 hbA) ub m i ev bi E huA hn HP.out.2.2.2.2.1 RL hrA HP.out.1 N HP.out.2.2.1 (Nat.le_of_lt hl) hm HP.out.2.1 (atomT ⟨#[115, 121, 115, 116, 101, 109, 95, 108, 105, 109, 105, 116]⟩) (atomT_ok _ _ _ (by decide))
      have HF := Lib.hid (And.intro hF (And.intro hrA hbA))
      clear huA hrA hF hbA hba H0
      go_wp2_with fail
      refine HF.out.1.mono ?_
      rintro e WB hq
      have HR := Lib.hid (hq.toR HF.out.2.1 HP.out.1 fun _ _ _ _ h => h.rs)
      obtain ⟨⟨v, rfl⟩, -⟩ := hq
      go_wp2_with fail
      go_end0
      obtain ⟨-, m', E1, ev', RL', g1, g2, g3, g4, g5, g6, g7⟩ := HR.out
      refine ⟨⟨_, rfl⟩, m', E1, ev', RL', ?_, ?_, ?_, ?_, ?_, ?_⟩
      · exact g1
      · exact g2
      · exact g3
      · exact (chg_of_below HF.out.2.2 _).trans g4
      · exact fun k hk e => g5 k (Nat.lt_of_lt_of_le hk HF.out.2.2.size) e
      · exact .inr ⟨by rw [HZ.out.1]; exact Int.le_refl _, by rw [if_pos HZ.out.1]; exact g6, g7⟩
    · have HZ := Lib.hid (And.intro hhv (And.intro hz h0))
      have q1 : (hv == 0) = false := by simp [hz]
      clear hz h0
      go_wp2_with fail
      refine (atom_x WD _).mono ?_
      rintro e WA ⟨rfl, hba⟩
      have hbA := H0.out.1.trans (hba.mono H0.out.1.size)
      have huA := H0.out.2.1.keep hba
      have hrA : RcOwn WA ub m.rs RL := own_keep H0.out.2.2 hba
      have hF := fails_any M WA (fun k hk => Nat.lt_of_lt_of_le (HP.out.2.2.2.2.2.1 k hk) hbA.size) (keepCells HP.out.2.2.2.2.2.2 hbA) ub m i ev bi E huA hn HP.out.2.2.2.2.1 RL hrA HP.out.1 N HP.out.2.2.1 (Nat.le_of_lt hl) hm HP.out.2.1 (atomT ⟨#[117, 110, 100, 101, 102]⟩) (atomT_ok _ _ _ (by decide))
      have HF := Lib.hid (And.intro hF (And.intro hrA hbA))
      clear huA hrA hF hbA hba H0
      go_wp2_with fail
      refine HF.out.1.mono ?_
      rintro e WB hq
      have HR := Lib.hid (hq.toR HF.out.2.1 HP.out.1 fun _ _ _ _ h => h.rs)
      obtain ⟨⟨v, rfl⟩, -⟩ := hq
      go_wp2_with fail
      go_end0
      obtain ⟨-, m', E1, ev', RL', g1, g2, g3, g4, g5, g6, g7⟩ := HR.out
      refine ⟨⟨_, rfl⟩, m', E1, ev', RL', ?_, ?_, ?_, ?_, ?_, ?_⟩
      · exact g1
      · exact g2
      · exact g3
      · exact (chg_of_below HF.out.2.2 _).trans g4
      · exact fun k hk e => g5 k (Nat.lt_of_lt_of_le hk HF.out.2.2.size) e
      · exact .inr ⟨by rw [HZ.out.1]; exact (by first | exact HZ.out.2.2 | exact Int.not_lt.1 HZ.out.2.2), by rw [if_neg (by rw [HZ.out.1]; exact HZ.out.2.1)]; exact g6, g7⟩
end Go.Proofs.YtepfmanbllegiaaDoor
