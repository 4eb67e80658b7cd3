/- a plan for a region that draws its order: a tree (where two may come up, each way has a plan of its own). No conditions. -/
/- the unit's fails, next, undone. Conditions: what is handed over reads; the letters stand. -/
import Derived.Test.YtepfmanbllegiaaDoorK
import Derived.Test.YtepfmanbllegiaaDoorKi
import Derived.Test.YtepfmanbllegiaaDoorMt8
namespace Go.Proofs.YtepfmanbllegiaaDoor
open Go.ChangeShapes Go.WideShapes Go.ChangeAt Go.RowKit
set_option linter.unusedVariables false
inductive PT
  | done
  | take (i : Nat) (p : PT)
  | run (i : Nat) (p : PT)
  | fork (i : Nat) (p : PT) (j : Nat) (q : PT)
def planFitsT (md : Region.Mode) (ops : Array Oper) : PT → Array Bool → Nat → Bool
  | .done, l, n => (Region.ready md ops l).isEmpty && n == 0
  | .take i p, l, n => n != 0 && Region.free md ops l i && (Region.ready md ops l).contains i && planFitsT md ops p (l.setIfInBounds i true) (n - 1)
  | .run i p, l, n => n != 0 && (Region.ready md ops l == [i]) && planFitsT md ops p (l.setIfInBounds i true) (n - 1)
  | .fork i p j q, l, n => n != 0 && (Region.ready md ops l == [i, j]) && planFitsT md ops p (l.setIfInBounds i true) (n - 1) && planFitsT md ops q (l.setIfInBounds j true) (n - 1)
section
variable (P : Program) (ops : Array Oper) (Q : Exit → Act → World → Prop) (S : World → Prop)
def planWpT : PT → Act → World → Prop
  | .done, a, w => Q .normal a w
  | .take i p, a, w => ∃ oi v, ops[i]? = some oi ∧ YieldsIf P ops S oi v a ∧ planWpT p (a.put oi.dst v) w
  | .run i p, a, w => wpOp P ops Q i (fun a' w' => S w' ∧ planWpT p a' w') a w
  | .fork i p j q, a, w => wpOp P ops Q i (fun a' w' => S w' ∧ planWpT p a' w') a w ∧ wpOp P ops Q j (fun a' w' => S w' ∧ planWpT q a' w') a w
end
section
variable {P : Program} {ops : Array Oper} {Q : Exit → Act → World → Prop} {S : World → Prop} {md : Region.Mode}
theorem planT_held (hs : Region.noSelect ops = true) (hQ : ∀ c a d v w, Q (.panic c) (Act.put a d v) w → Q (.panic c) a w) :
    ∀ (p : PT) (l : Array Bool) (n : Nat) (a : Act) (w : World), planFitsT md ops p l n = true → S w → planWpT P ops Q S p a w → wpAnyH P md ops Q S n l a w
  | .done, l, n, a, w, hf, _, h => by
    simp only [planFitsT, Bool.and_eq_true, beq_iff_eq] at hf
    exact wpAnyH_done (by simpa using hf.1) h n
  | .take i p, l, n, a, w, hf, hS, h => by
    simp only [planFitsT, Bool.and_eq_true, bne_iff_ne] at hf
    obtain ⟨⟨⟨h0, h1⟩, h2⟩, h3⟩ := hf
    obtain ⟨oi, v, e1, e2, e3⟩ := h
    obtain ⟨m, rfl⟩ : ∃ m, n = m + 1 := ⟨n - 1, by omega⟩
    exact wpAnyH_take e1 hs h1 h2 (fun c a w => hQ c a _ _ w) e2 hS (planT_held hs hQ p _ _ _ _ (by simpa using h3) hS e3)
  | .run i p, l, n, a, w, hf, _, h => by
    simp only [planFitsT, Bool.and_eq_true, bne_iff_ne, beq_iff_eq] at hf
    obtain ⟨⟨h0, h1⟩, h2⟩ := hf
    obtain ⟨m, rfl⟩ : ∃ m, n = m + 1 := ⟨n - 1, by omega⟩
    exact wpAnyH_one h1 (wpOp_mono (fun a' w' h' => ⟨h'.1, planT_held hs hQ p _ _ _ _ (by simpa using h2) h'.1 h'.2⟩) h)
  | .fork i p j q, l, n, a, w, hf, _, h => by
    simp only [planFitsT, Bool.and_eq_true, bne_iff_ne, beq_iff_eq] at hf
    obtain ⟨⟨⟨h0, h1⟩, h2⟩, h3⟩ := hf
    obtain ⟨m, rfl⟩ : ∃ m, n = m + 1 := ⟨n - 1, by omega⟩
    refine wpAnyH_all h1 (by simp) fun k hk => ?_
    have hk' : k = i ∨ k = j := by simpa using hk
    rcases hk' with rfl | rfl
    · exact wpOp_mono (fun a' w' h' => ⟨h'.1, planT_held hs hQ p _ _ _ _ (by simpa using h2) h'.1 h'.2⟩) h.1
    · exact wpOp_mono (fun a' w' h' => ⟨h'.1, planT_held hs hQ q _ _ _ _ (by simpa using h3) h'.1 h'.2⟩) h.2
/-- A region that draws its order, by a tree. -/
theorem region_planT {id : Nat} {a : Act} {w : World} (S : World → Prop) (p : PT) (hm : P.follows .mixedOrders = true) (hs : Region.noSelect ops = true)
    (hf : planFitsT .any ops p (Array.replicate ops.size false) ops.size = true) (hS : S w.drew) (h : planWpT P ops (NoPanic Q) S p a w.drew) : (Code.region id ops true).wp P Q a w :=
  wp_region_noPanic (wp_region_held hm (planT_held hs (fun _ _ _ _ _ h => h.elim) p _ _ _ _ hf hS h))
theorem planT_done {a : Act} {w : World} (h : Q .normal a w) : planWpT P ops (NoPanic Q) S .done a w := h
theorem planT_take {i : Nat} {p : PT} {a : Act} {w : World} {oi : Oper} {l : List Oper} {v : Value} (h0 : l[i]? = some oi) (h1 : Region.wanted oi (yielded l.toArray a.tmps) = true)
    (h2 : ∀ w, S w → (execOp a.eval oi).run P w = .ok (.value v) w) (h : planWpT P l.toArray Q S p (a.put oi.dst v) w) : planWpT P l.toArray Q S (.take i p) a w :=
  ⟨oi, v, by simpa using h0, .inl ⟨h1, h2⟩, h⟩
theorem planT_skip {i : Nat} {p : PT} {a : Act} {w : World} {oi : Oper} {l : List Oper} (h0 : l[i]? = some oi) (h1 : Region.wanted oi (yielded l.toArray a.tmps) = false)
    (h : planWpT P l.toArray Q S p (a.put oi.dst undef) w) : planWpT P l.toArray Q S (.take i p) a w :=
  ⟨oi, undef, by simpa using h0, .inr ⟨h1, rfl⟩, h⟩
theorem planT_run {i : Nat} {p : PT} {a : Act} {w : World} {oi : Oper} {l : List Oper} (h0 : l[i]? = some oi) (h1 : Region.wanted oi (yielded l.toArray a.tmps) = true)
    (h : ∀ K : Act → World → Prop, Shut (∀ a' w', S w' → planWpT P l.toArray Q S p a' w' → K a' w') → Oper.wp P oi a w K Q) : planWpT P l.toArray Q S (.run i p) a w :=
  plan_op h0 h1 h
theorem planT_run_skip {i : Nat} {p : PT} {a : Act} {w : World} {oi : Oper} {l : List Oper} (h0 : l[i]? = some oi) (h1 : Region.wanted oi (yielded l.toArray a.tmps) = false)
    (hS : S w) (h : planWpT P l.toArray Q S p (a.put oi.dst undef) w) : planWpT P l.toArray Q S (.run i p) a w := plan_op_skip h0 h1 hS h
theorem planT_fork {i j : Nat} {p q : PT} {a : Act} {w : World} {l : List Oper} (h1 : planWpT P l.toArray Q S (.run i p) a w) (h2 : planWpT P l.toArray Q S (.run j q) a w) : planWpT P l.toArray Q S (.fork i p j q) a w := ⟨h1, h2⟩
end
end Go.Proofs.YtepfmanbllegiaaDoor
namespace Go.Proofs.YtepfmanbllegiaaDoor
open Go.ChangeShapes Go.WideShapes Go.ChangeAt Go.RowKit
set_option linter.unusedVariables false
set_option linter.unusedSimpArgs false
set_option maxRecDepth 100000
def errA : Tm := .mk 1 0 ⟨#[101, 114, 114, 111, 114]⟩ ⟨#[]⟩ []
def okA : Tm := .mk 1 0 ⟨#[111, 107]⟩ ⟨#[]⟩ []
def backE (x : TE) : Ef := ⟨11, 0, x, chZ, faZ, mmZ⟩
def spawnE (c : Ch) : Ef := ⟨3, 0, numT 0 0, c, faZ, mmZ⟩
/-- a step of the unit: what it comes to -/
def UnQ (M : Nat → Prop) (w : World) (ub : Nat) (i : Im) (ev : Value) (bi : Bool) (E : List Ef) (Q : (Nat → Prop) → World → Mm → List Ef → Prop) (e : Ending) (w' : World) : Prop :=
  (∃ v, e = .returned v) ∧ ∃ (m' : Mm) (E1 : List Ef) (ev' : Value), UnOk w' ub (unL m' i) ev' bi (E ++ E1) ∧ Chg (UnB ub ev) w w' ∧ (∀ k, k < w.heap.size → ev'.ownBlock = some k → ev.ownBlock = some k) ∧ Q (MU M ub ev') w' m' E1
/-- while a step makes things -/
structure NxW (w W : World) (ub : Nat) (m : Mm) (i : Im) (ev : Value) (bi : Bool) (E : List Ef) (RL : List Rc) : Prop where
  hb : Below w.heap.size w W
  un : UnOk W ub (unL m i) ev bi E
  rs : RcOwn W ub m.rs RL
theorem NxW.keep {w W W' : World} {ub : Nat} {m : Mm} {i : Im} {ev : Value} {bi : Bool} {E : List Ef} {RL : List Rc} (h : NxW w W ub m i ev bi E RL) (hb : Below W.heap.size W W') : NxW w W' ub m i ev bi E RL := ⟨h.hb.trans (hb.mono h.hb.size), h.un.keep hb, own_keep h.rs hb⟩
/-- what failing comes to -/
def FaQ (RL : List Rc) (m : Mm) (x : TE) (N : Nat → Prop) (w' : World) (m' : Mm) (E1 : List Ef) : Prop :=
  (m.ref = 1 ∧ m' = { m with U := x } ∧ ∃ y, E1 = [backE y] ∧ y.t = tupS [errA, listT (RL.take m.n.toNat), x.t] ∧ TeOk N w' y) ∨ (m.ref ≠ 1 ∧ m' = { m with U := x, ph := 3 } ∧ E1 = [])
def FsS (ub q : Nat) (rv : Value) (n : Int) (x : TE) (W : World) : Prop := W.cell? ⟨ub, 20, none⟩ = some rv ∧ W.cell? ⟨ub, 4, none⟩ = some (.int .i64 n) ∧ W.cell? ⟨q, 0, none⟩ = some (.int .i8 x.k) ∧ W.cell? ⟨q, 1, none⟩ = some (.int .i64 x.n) ∧ W.cell? ⟨q, 2, none⟩ = some (.string x.s) ∧ W.cell? ⟨q, 3, none⟩ = some (.string x.u) ∧ W.cell? ⟨q, 4, none⟩ = some (.slice x.ao x.l.length x.cap)
theorem FsS.keep {ub q : Nat} {rv : Value} {n : Int} {x : TE} {W W' : World} (h : FsS ub q rv n x W) (hb : Below W.heap.size W W') : FsS ub q rv n x W' := ⟨keep_cell h.1 hb, keep_cell h.2.1 hb, keep_cell h.2.2.1 hb, keep_cell h.2.2.2.1 hb, keep_cell h.2.2.2.2.1 hb, keep_cell h.2.2.2.2.2.1 hb, keep_cell h.2.2.2.2.2.2 hb⟩
theorem FsS.chg {T : Nat → Prop} {ub q : Nat} {rv : Value} {n : Int} {x : TE} {W W' : World} (h : FsS ub q rv n x W) (hc : Chg T W W') (hu : ¬ T ub) (hq : ¬ T q) : FsS ub q rv n x W' := ⟨hc.cell h.1 hu, hc.cell h.2.1 hu, hc.cell h.2.2.1 hq, hc.cell h.2.2.2.1 hq, hc.cell h.2.2.2.2.1 hq, hc.cell h.2.2.2.2.2.1 hq, hc.cell h.2.2.2.2.2.2 hq⟩
theorem FsS.of {w : World} {ub q : Nat} {m : Mm} {i : Im} {ev : Value} {bi : Bool} {E : List Ef} {x : TE} (h : UnOk w ub (unL m i) ev bi E) (hx : BxS q x w) : FsS ub q (.slice m.rs.o m.rs.n m.rs.c) m.n x w := ⟨h.cell (i := 20) rfl, h.cell (i := 4) rfl, hx.1, hx.2.1, hx.2.2.1, hx.2.2.2.1, hx.2.2.2.2⟩
theorem FsS.un {T : Nat → Prop} {ub q : Nat} {rv : Value} {n : Int} {N : Nat} {x : TE} {m : Mm} {i : Im} {ev : Value} {bi : Bool} {E : List Ef} {W W' : World} (h : FsS ub q rv n x W) (hN : m.n = (N : Int)) (hu : UnOk W' ub (unL { m with U := x } i) ev bi E) (hc : Chg T W W') (hq : ¬ T q) : FsS ub q (.slice m.rs.o m.rs.n m.rs.c) (N : Int) x W' := ⟨hu.cell (i := 20) rfl, by rw [← hN]; exact hu.cell (i := 4) rfl, hc.cell h.2.2.1 hq, hc.cell h.2.2.2.1 hq, hc.cell h.2.2.2.2.1 hq, hc.cell h.2.2.2.2.2.1 hq, hc.cell h.2.2.2.2.2.2 hq⟩
theorem list_x (M : Nat → Prop) (w : World) (hM : ∀ k, M k → k < w.heap.size) (hc : Cells w 0 letL) (o : Option Addr) (n c : Nat) (RL : List Rc) (h : RcAt M w ⟨o, n, c⟩ RL) (hp : ∀ r ∈ RL, r.pid ≤ 576460752303423487) (hl : RL.length ≤ 100) :
    Calls Tryd.prog 33 #[.slice o n c] w fun e w' => ∃ y : TE, e = .returned (.agg #[.int .i8 y.k, .int .i64 y.n, .string y.s, .string y.u, .slice y.ao y.l.length y.cap]) ∧ y.t = listT RL ∧ TeOk M w' y ∧ Below w.heap.size w w' := list_any M w hM hc ⟨o, n, c⟩ RL h hp hl
theorem chg_new {S : Nat → Prop} {w w1 w2 : World} {g : Nat} (h1 : Chg S w w1) (h2 : Chg (fun k => k = g) w1 w2) (hg : w.heap.size ≤ g) : Chg S w w2 :=
  ((h1.mono (T := fun k => S k ∨ w.heap.size ≤ k) fun k _ h => .inl h).trans (h2.mono (T := fun k => S k ∨ w.heap.size ≤ k) fun k _ h => .inr (by have h : k = g := h; omega))).mono fun k hk h => h.resolve_right (by omega)
set_option maxHeartbeats 16000000 in
theorem fails_any (M : Nat → Prop) (w : World) (hM : ∀ k, M k → k < w.heap.size) (hc : Cells w 0 letL) (ub : Nat) (m : Mm) (i : Im) (ev : Value) (bi : Bool) (E : List Ef) (h : UnOk w ub (unL m i) ev bi E) (hn : E.length ≤ 50) (hlv : ¬ UnB ub ev 0)
    (RL : List Rc) (hr : RcOwn w ub m.rs RL) (hrM : ∀ k, (Value.slice m.rs.o m.rs.n m.rs.c).ownBlock = some k → ¬ MU M ub ev k) (N : Nat) (hN : m.n = (N : Int)) (hl : N ≤ RL.length) (hm : RL.length ≤ 100) (hp : ∀ r ∈ RL, r.pid ≤ 576460752303423487) (x : TE) (hx : TeOk (MU M ub ev) w x) :
    Calls Tryd.prog 35 #[.pointer (some ⟨ub, 0, none⟩), .agg #[.int .i8 x.k, .int .i64 x.n, .string x.s, .string x.u, .slice x.ao x.l.length x.cap]] w (UnQ M w ub i ev bi E (FaQ RL m x)) := by
  have hul := heap_lt h.hU
  have hb1 := (Below.refl w.heap.size w).alloc (Nat.le_refl _) (.cells #[.int .i8 x.k, .int .i64 x.n, .string x.s, .string x.u, .slice x.ao x.l.length x.cap] 27)
  have n1 := heap_new w (.cells #[.int .i8 x.k, .int .i64 x.n, .string x.s, .string x.u, .slice x.ao x.l.length x.cap] 27)
  have hu1 := h.keep hb1
  have ho := own_lt h.hown (Nat.le_refl _)
  have HMU := Lib.hid (mu_lt h hM)
  have HH := Lib.hid (And.intro hu1 (And.intro n1 (And.intro (show RcOwn (w.alloc (.cells #[.int .i8 x.k, .int .i64 x.n, .string x.s, .string x.u, .slice x.ao x.l.length x.cap] 27)) ub m.rs RL from own_keep hr hb1) (And.intro (hx.keep hb1) (And.intro (keepCells hc hb1) (And.intro hb1 (And.intro hul ho)))))))
  have HP := Lib.hid (And.intro hrM (And.intro hp (And.intro hlv hN)))
  obtain ⟨y0, y1, y2, y3, y4⟩ := BxS.of (x := x) n1
  clear hul hb1 n1 h hu1 ho hc hx hr hrM hp hlv hM
  go_enter Tryd.func35, Tryd.ntmps35
  go_wp2_with (with_reducible refine stop_op (o := ⟨_, .store 27 (.tmp 8) (.tmp 5), _, _, _, _⟩) ?_)
  refine Lib.hid ?_
  generalize w.alloc (.cells #[.int .i8 x.k, .int .i64 x.n, .string x.s, .string x.u, .slice x.ao x.l.length x.cap] 27) = w1 at *
  refine wpList_store_mid (op := ⟨none, _, _, _, _, _⟩) rfl 27 (.tmp 8) (.tmp 5) rfl ub 10 #[.int .i8 x.k, .int .i64 x.n, .string x.s, .string x.u, .slice x.ao x.l.length x.cap] rfl rfl (HH.out.1.there (by show 10 + 5 ≤ 38; decide)) (infoTM' _ rfl) (by simp [Value.oneCell']) ?_
  rw [show (#[.int .i8 x.k, .int .i64 x.n, .string x.s, .string x.u, .slice x.ao x.l.length x.cap] : Array Value).toList = [.int .i8 x.k, .int .i64 x.n, .string x.s, .string x.u, .slice x.ao x.l.length x.cap] from rfl]
  have hc2 := chg_cells [.int .i8 x.k, .int .i64 x.n, .string x.s, .string x.u, .slice x.ao x.l.length x.cap] ub 10 w1
  have hu2 := UnOk.setL [.int .i8 x.k, .int .i64 x.n, .string x.s, .string x.u, .slice x.ao x.l.length x.cap] 10 HH.out.1 (by show 10 + 5 ≤ 38; decide)
  rw [setU] at hu2
  have hc2' : Chg (UnB ub ev) w1 _ := hc2.mono fun k _ h => .inl h
  have hq : w.heap.size ≠ ub := by have := HH.out.2.2.2.2.2.2.1; omega
  have H2 := Lib.hid (And.intro hu2 (And.intro (show RcOwn (w1.setCells ub 10 [.int .i8 x.k, .int .i64 x.n, .string x.s, .string x.u, .slice x.ao x.l.length x.cap]) ub m.rs RL from own_chg HH.out.2.2.1 hc2' (fun k hk e => HP.out.1 k hk (.inr e))) (And.intro (HH.out.2.2.2.1.chg hc2' (fun k hk _ => .inr hk) (fun k hk _ => hk)) (And.intro (let_chg HH.out.2.2.2.2.1 hc2' HP.out.2.2.1) (And.intro ((chg_of_below HH.out.2.2.2.2.2.1 (UnB ub ev)).trans hc2') (hc2.heap HH.out.2.1 hq))))))
  have HS2 := Lib.hid (show w.heap.size < (w1.setCells ub 10 [.int .i8 x.k, .int .i64 x.n, .string x.s, .string x.u, .slice x.ao x.l.length x.cap]).heap.size from heap_lt H2.out.2.2.2.2.2)
  clear hc2 hu2 hc2' hq y0 y1 y2 y3 y4
  generalize w1.setCells ub 10 [.int .i8 x.k, .int .i64 x.n, .string x.s, .string x.u, .slice x.ao x.l.length x.cap] = w2 at *
  have c2 : w2.cell? ⟨ub, 2, none⟩ = some (.int .i64 m.ref) := H2.out.1.cell (i := 2) rfl
  by_cases hr1 : m.ref = 1
  · have HR1 := Lib.hid hr1
    rw [hr1] at c2
    clear hr1
    go_wp2_with fail
    clear c2
    have hdr : Below w2.heap.size w2 w2.drew := (Below.refl _ _).drew
    have hS : FsS ub w.heap.size (.slice m.rs.o m.rs.n m.rs.c) (N : Int) x w2.drew := by rw [← HP.out.2.2.2]; exact FsS.of (m := { m with U := x }) (H2.out.1.keep hdr) (BxS.of (keep_heap H2.out.2.2.2.2.2 hdr))
    have HK0 : Hid (NxW w2 w2.drew ub { m with U := x } i ev bi E RL) := Lib.hid ⟨hdr, H2.out.1.keep hdr, own_keep H2.out.2.1 hdr⟩
    have hsc : (N : Int) ≤ (m.rs.c : Int) := by have := H2.out.2.1.at (M := fun _ => False) (fun _ _ h => h); have := this.2.1; omega
    have hs0 : (0 : Int) ≤ (N : Int) := by omega
    refine region_plan (FsS ub w.heap.size (.slice m.rs.o m.rs.n m.rs.c) (N : Int) x) [(0, 0), (2, 0), (3, 0), (4, 0), (5, 0), (6, 0), (7, 0), (8, 0), (9, 0), (10, 0), (11, 0), (12, 0), (14, 0), (1, 1), (13, 1), (15, 1), (16, 1), (17, 0), (18, 1)] (by kernel_rfl) (by kernel_rfl) (by kernel_rfl) hS ?_
    generalize w2.drew = WD at *
    clear hdr
    iterate 13 (first | (refine plan_skip rfl ?_ ?_; (focus (rfl)); (try simp only [Act.put, List.setIfInBounds_toArray, List.set_cons_zero, List.set_cons_succ])) | (refine plan_take (v := ?_) rfl ?_ (fun w hSw => ?_) ?_; rotate_left; (focus (rfl)); (focus (unfold FsS at hSw; (go_simp <;> with_reducible rfl))); (try simp only [Act.put, List.setIfInBounds_toArray, List.set_cons_zero, List.set_cons_succ])))
    refine plan_run rfl ?_ (fun K hK => ?_)
    focus (rfl)
    go_simp
    refine (atom_x WD _).mono ?_
    rintro e WA ⟨rfl, hba⟩
    have hS1 := hS.keep hba
    have HKA := Lib.hid (HK0.out.keep hba)
    refine hK.out _ _ hS1 ?_
    clear hK K 
    (try simp only [Act.put, List.setIfInBounds_toArray, List.set_cons_zero, List.set_cons_succ])
    have HXA := Lib.hid (And.intro (H2.out.2.2.1.keep HKA.out.hb) (keepCells H2.out.2.2.2.1 HKA.out.hb))
    clear hS hba HK0
    have hmu : ∀ k, MU M ub ev k → k < WA.heap.size := fun k hk => Nat.lt_of_lt_of_le (HMU.out k hk) (Nat.le_trans H2.out.2.2.2.2.1.size HKA.out.hb.size)
    refine plan_run rfl ?_ (fun K hK => ?_)
    focus (rfl)
    go_simp
    refine (list_x (MU M ub ev) WA hmu HXA.out.2 m.rs.o N m.rs.c (RL.take N) ((HKA.out.rs.at HP.out.1).take hl) (fun r hr => HP.out.2.1 r (List.mem_of_mem_take hr)) (by rw [List.length_take]; omega)).mono ?_
    rintro e WB ⟨y, rfl, hyt, hyo, hbb⟩
    have hS2 := hS1.keep hbb
    have HKB := Lib.hid (HKA.out.keep hbb)
    refine hK.out _ _ hS2 ?_
    clear hK K 
    (try simp only [Act.put, List.setIfInBounds_toArray, List.set_cons_zero, List.set_cons_succ])
    have HYB := Lib.hid (And.intro hyt (And.intro hyo (And.intro (HXA.out.1.keep hbb) (keepCells HXA.out.2 hbb))))
    clear hS1 hbb hmu hyt hyo HKA HXA
    have HEQ := Lib.hid (show tupS (([atomT ⟨#[101, 114, 114, 111, 114]⟩, y] ++ [x]).map TE.t) = tupS [errA, listT (RL.take m.n.toNat), x.t] by rw [HP.out.2.2.2, Int.toNat_natCast, ← HYB.out.1]; rfl)
    have HQ := Lib.hid (show ¬ UnB ub ev w.heap.size from fun h => by
      rcases h with h | h
      · have := HH.out.2.2.2.2.2.2.1
        omega
      · exact Nat.lt_irrefl _ (HH.out.2.2.2.2.2.2.2 _ h))
    have hlvg : WB.heap.size ≠ 0 := by have := HH.out.2.2.2.2.2.2.1; have := HKB.out.hb.size; have := HS2.out; omega
    have hb3 := (Below.refl WB.heap.size WB).alloc (Nat.le_refl _) (.cells #[.int .i8 1, .int .i64 0, .string ⟨#[101, 114, 114, 111, 114]⟩, .string ⟨#[]⟩, .slice none 0 0, .int .i8 y.k, .int .i64 y.n, .string y.s, .string y.u, .slice y.ao y.l.length y.cap, .int .i8 x.k, .int .i64 x.n, .string x.s, .string x.u, .slice x.ao x.l.length x.cap] 27)
    have hS3 := hS2.keep hb3
    refine plan_run rfl ?_ (fun K hK => ?_)
    focus (rfl)
    go_simp
    refine hK.out _ _ (hS3) ?_
    clear hK K
    (try simp only [Act.put, List.setIfInBounds_toArray, List.set_cons_zero, List.set_cons_succ])
    have hg0 := HKB.out.hb.size
    have hmg : ∀ k, MU M ub ev k → k < WB.heap.size := fun k hk => Nat.lt_of_lt_of_le (HMU.out k hk) (Nat.le_trans H2.out.2.2.2.2.1.size hg0)
    have hg1 : ¬ MU M ub ev WB.heap.size := fun h => Nat.lt_irrefl _ (hmg _ h)
    have HKC := Lib.hid (HKB.out.keep hb3)
    have HT := Lib.hid (stup_any (MU M ub ev) (WB.alloc (.cells #[.int .i8 1, .int .i64 0, .string ⟨#[101, 114, 114, 111, 114]⟩, .string ⟨#[]⟩, .slice none 0 0, .int .i8 y.k, .int .i64 y.n, .string y.s, .string y.u, .slice y.ao y.l.length y.cap, .int .i8 x.k, .int .i64 x.n, .string x.s, .string x.u, .slice x.ao x.l.length x.cap] 27)) (fun k hk => Nat.lt_of_lt_of_le (hmg k hk) hb3.size) (keepCells HYB.out.2.2.2 hb3) WB.heap.size hlvg [atomT ⟨#[101, 114, 114, 111, 114]⟩, y] x 3 rfl (by simp) (heap_new WB (.cells #[.int .i8 1, .int .i64 0, .string ⟨#[101, 114, 114, 111, 114]⟩, .string ⟨#[]⟩, .slice none 0 0, .int .i8 y.k, .int .i64 y.n, .string y.s, .string y.u, .slice y.ao y.l.length y.cap, .int .i8 x.k, .int .i64 x.n, .string x.s, .string x.u, .slice x.ao x.l.length x.cap] 27)) hg1 (fun z hz => by
      simp only [List.cons_append, List.nil_append, List.mem_cons, List.not_mem_nil, or_false] at hz
      have hold : ∀ u : TE, TeOk (MU M ub ev) WB u → TeOk (fun k => MU M ub ev k ∨ k = WB.heap.size) (WB.alloc (.cells #[.int .i8 1, .int .i64 0, .string ⟨#[101, 114, 114, 111, 114]⟩, .string ⟨#[]⟩, .slice none 0 0, .int .i8 y.k, .int .i64 y.n, .string y.s, .string y.u, .slice y.ao y.l.length y.cap, .int .i8 x.k, .int .i64 x.n, .string x.s, .string x.u, .slice x.ao x.l.length x.cap] 27)) u := fun u hu => hu.chg (chg_of_below hb3 (fun _ => False)) (fun _ h => h.elim) (fun k hk hl => hk.elim id fun e => by omega)
      rcases hz with rfl | rfl | rfl; exact atomT_ok _ _ _ (by decide); exact hold _ HYB.out.2.1; exact hold _ HYB.out.2.2.1))
    have HG := Lib.hid (And.intro hg1 (And.intro (show w.heap.size ≤ WB.heap.size from Nat.le_trans H2.out.2.2.2.2.1.size hg0) hg0))
    clear hg0 hmg hg1 hb3 hS2 HKB HYB
    generalize WB.alloc (.cells #[.int .i8 1, .int .i64 0, .string ⟨#[101, 114, 114, 111, 114]⟩, .string ⟨#[]⟩, .slice none 0 0, .int .i8 y.k, .int .i64 y.n, .string y.s, .string y.u, .slice y.ao y.l.length y.cap, .int .i8 x.k, .int .i64 x.n, .string x.s, .string x.u, .slice x.ao x.l.length x.cap] 27) = WC at *
    generalize WB.heap.size = g at *
    refine plan_run rfl ?_ (fun K hK => ?_)
    focus (rfl)
    go_simp
    refine HT.out.mono ?_
    clear HT
    rintro e WF ⟨z, rfl, hzt, hzo, hcz⟩
    have hub : ¬ ub = g := fun e => HG.out.1 (.inr (.inl e.symm))
    have hu4 := HKC.out.un.chg hcz hub (fun k hk e => HG.out.1 (.inr (.inr (by rw [← e]; exact hk))))
    have hS4 := hS3.chg hcz hub (fun e => by have := HS2.out; have := HG.out.2.2; omega)
    refine hK.out _ _ (hS4) ?_
    clear hK K
    (try simp only [Act.put, List.setIfInBounds_toArray, List.set_cons_zero, List.set_cons_succ])
    iterate 1 (first | (refine plan_skip rfl ?_ ?_; (focus (rfl)); (try simp only [Act.put, List.setIfInBounds_toArray, List.set_cons_zero, List.set_cons_succ])) | (refine plan_take (v := ?_) rfl ?_ (fun w hSw => ?_) ?_; rotate_left; (focus (rfl)); (focus (unfold FsS at hSw; (go_simp <;> with_reducible rfl))); (try simp only [Act.put, List.setIfInBounds_toArray, List.set_cons_zero, List.set_cons_succ])))
    have HC := Lib.hid (effect_any WF ub _ ev _ E (backE z) hu4 (by omega))
    have H4 := Lib.hid (And.intro (chg_new (H2.out.2.2.2.2.1.trans (chg_of_below HKC.out.hb (UnB ub ev))) hcz HG.out.2.1) (And.intro hzt hzo))
    clear hu4 hS3 hcz hzt hzo hub HKC
    refine plan_run rfl ?_ (fun K hK => ?_)
    focus (rfl)
    go_simp
    refine HC.out.mono ?_
    clear HC
    rintro e WE ⟨⟨v, rfl⟩, ev', hu5, hc5, hb5⟩
    have hS5 : FsS ub w.heap.size (.slice m.rs.o m.rs.n m.rs.c) (N : Int) x WE := FsS.un hS4 HP.out.2.2.2 hu5 hc5 HQ.out
    refine hK.out _ _ (hS5) ?_
    clear hK K
    (try simp only [Act.put, List.setIfInBounds_toArray, List.set_cons_zero, List.set_cons_succ])
    refine plan_done ?_
    have hws : w.heap.size ≤ WF.heap.size := H4.out.1.size
    have HZ := Lib.hid (And.intro hu5 (And.intro (un_trans H4.out.1 (fun _ _ h => h) hc5) (And.intro (fun k hk e => hb5 k (Nat.lt_of_lt_of_le hk hws) e) (And.intro H4.out.2.1 (un_te hc5 hb5 H4.out.2.2)))))
    clear hS4 hS5 hu5 hc5 hb5 hws H4
    go_wp2_with fail
    go_end0
    refine ⟨⟨_, rfl⟩, { m with U := x }, [backE z], ev', ?_, ?_, ?_, ?_⟩
    · exact HZ.out.1
    · exact HZ.out.2.1
    · exact HZ.out.2.2.1
    · exact .inl ⟨HR1.out, rfl, z, rfl, HZ.out.2.2.2.1.trans HEQ.out, HZ.out.2.2.2.2⟩
  · have q1 : (m.ref == 1) = false := by simp [hr1]
    have HR1 := Lib.hid hr1
    have x0 : w2.cell? ⟨ub, 0, none⟩ = some (.int .i8 m.ph) := H2.out.1.cell (i := 0) rfl
    have f0 : w2.frozen? ⟨ub, 0, none⟩ = false := H2.out.1.frozen (i := 0) (v := .int .i8 m.ph) rfl
    clear hr1
    go_wp2_with fail
    go_end0
    have hc3 : Chg (UnB ub ev) w2 (w2.setCell ⟨ub, 0, none⟩ (.int .i8 3)) := (chg_set (p := ⟨ub, 0, none⟩) _).mono fun k _ h => .inl h
    have hu3 := H2.out.1.set 0 (.int .i8 3) (by decide)
    refine ⟨⟨_, rfl⟩, { m with U := x, ph := 3 }, [], ev, ?_, ?_, ?_, ?_⟩
    · rw [List.append_nil]
      exact hu3
    · exact H2.out.2.2.2.2.1.trans hc3
    · exact fun _ _ h => h
    · exact .inr ⟨HR1.out, rfl, rfl⟩
end Go.Proofs.YtepfmanbllegiaaDoor
