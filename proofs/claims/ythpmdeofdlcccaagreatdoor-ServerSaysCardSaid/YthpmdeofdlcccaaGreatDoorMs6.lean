/- a plan for a region that draws its order: a tree (where two may come up, each way has a plan of its own). No conditions. -/
/- the unit's reply. Conditions: what is handed over reads; the letters stand. -/
import Derived.Test.YthpmdeofdlcccaaGreatDoorK
import Derived.Test.YthpmdeofdlcccaaGreatDoorKi
import Derived.Test.YthpmdeofdlcccaaGreatDoorMs5
namespace Go.Proofs.YthpmdeofdlcccaaGreatDoor
open Go.ChangeShapes Go.WideShapes Go.ChangeAt Go.RowKit
set_option linter.unusedVariables false
inductive PT
  | done
  | take (i : Nat) (p : PT)
  | run (i : Nat) (p : PT)
  | fork (i : Nat) (p : PT) (j : Nat) (q : PT)
def planFitsT (md : Region.Mode) (ops : Array Oper) : PT → Array Bool → Nat → Bool
  | .done, l, n => (Region.ready md ops l).isEmpty && n == 0
  | .take i p, l, n => n != 0 && Region.free md ops l i && (Region.ready md ops l).contains i && planFitsT md ops p (l.setIfInBounds i true) (n - 1)
  | .run i p, l, n => n != 0 && (Region.ready md ops l == [i]) && planFitsT md ops p (l.setIfInBounds i true) (n - 1)
  | .fork i p j q, l, n => n != 0 && (Region.ready md ops l == [i, j]) && planFitsT md ops p (l.setIfInBounds i true) (n - 1) && planFitsT md ops q (l.setIfInBounds j true) (n - 1)
section
variable (P : Program) (ops : Array Oper) (Q : Exit → Act → World → Prop) (S : World → Prop)
def planWpT : PT → Act → World → Prop
  | .done, a, w => Q .normal a w
  | .take i p, a, w => ∃ oi v, ops[i]? = some oi ∧ YieldsIf P ops S oi v a ∧ planWpT p (a.put oi.dst v) w
  | .run i p, a, w => wpOp P ops Q i (fun a' w' => S w' ∧ planWpT p a' w') a w
  | .fork i p j q, a, w => wpOp P ops Q i (fun a' w' => S w' ∧ planWpT p a' w') a w ∧ wpOp P ops Q j (fun a' w' => S w' ∧ planWpT q a' w') a w
end
section
variable {P : Program} {ops : Array Oper} {Q : Exit → Act → World → Prop} {S : World → Prop} {md : Region.Mode}
theorem planT_held (hs : Region.noSelect ops = true) (hQ : ∀ c a d v w, Q (.panic c) (Act.put a d v) w → Q (.panic c) a w) :
    ∀ (p : PT) (l : Array Bool) (n : Nat) (a : Act) (w : World), planFitsT md ops p l n = true → S w → planWpT P ops Q S p a w → wpAnyH P md ops Q S n l a w
  | .done, l, n, a, w, hf, _, h => by
    simp only [planFitsT, Bool.and_eq_true, beq_iff_eq] at hf
    exact wpAnyH_done (by simpa using hf.1) h n
  | .take i p, l, n, a, w, hf, hS, h => by
    simp only [planFitsT, Bool.and_eq_true, bne_iff_ne] at hf
    obtain ⟨⟨⟨h0, h1⟩, h2⟩, h3⟩ := hf
    obtain ⟨oi, v, e1, e2, e3⟩ := h
    obtain ⟨m, rfl⟩ : ∃ m, n = m + 1 := ⟨n - 1, by omega⟩
    exact wpAnyH_take e1 hs h1 h2 (fun c a w => hQ c a _ _ w) e2 hS (planT_held hs hQ p _ _ _ _ (by simpa using h3) hS e3)
  | .run i p, l, n, a, w, hf, _, h => by
    simp only [planFitsT, Bool.and_eq_true, bne_iff_ne, beq_iff_eq] at hf
    obtain ⟨⟨h0, h1⟩, h2⟩ := hf
    obtain ⟨m, rfl⟩ : ∃ m, n = m + 1 := ⟨n - 1, by omega⟩
    exact wpAnyH_one h1 (wpOp_mono (fun a' w' h' => ⟨h'.1, planT_held hs hQ p _ _ _ _ (by simpa using h2) h'.1 h'.2⟩) h)
  | .fork i p j q, l, n, a, w, hf, _, h => by
    simp only [planFitsT, Bool.and_eq_true, bne_iff_ne, beq_iff_eq] at hf
    obtain ⟨⟨⟨h0, h1⟩, h2⟩, h3⟩ := hf
    obtain ⟨m, rfl⟩ : ∃ m, n = m + 1 := ⟨n - 1, by omega⟩
    refine wpAnyH_all h1 (by simp) fun k hk => ?_
    have hk' : k = i ∨ k = j := by simpa using hk
    rcases hk' with rfl | rfl
    · exact wpOp_mono (fun a' w' h' => ⟨h'.1, planT_held hs hQ p _ _ _ _ (by simpa using h2) h'.1 h'.2⟩) h.1
    · exact wpOp_mono (fun a' w' h' => ⟨h'.1, planT_held hs hQ q _ _ _ _ (by simpa using h3) h'.1 h'.2⟩) h.2
/-- A region that draws its order, by a tree. -/
theorem region_planT {id : Nat} {a : Act} {w : World} (S : World → Prop) (p : PT) (hm : P.follows .mixedOrders = true) (hs : Region.noSelect ops = true)
    (hf : planFitsT .any ops p (Array.replicate ops.size false) ops.size = true) (hS : S w.drew) (h : planWpT P ops (NoPanic Q) S p a w.drew) : (Code.region id ops true).wp P Q a w :=
  wp_region_noPanic (wp_region_held hm (planT_held hs (fun _ _ _ _ _ h => h.elim) p _ _ _ _ hf hS h))
theorem planT_done {a : Act} {w : World} (h : Q .normal a w) : planWpT P ops (NoPanic Q) S .done a w := h
theorem planT_take {i : Nat} {p : PT} {a : Act} {w : World} {oi : Oper} {l : List Oper} {v : Value} (h0 : l[i]? = some oi) (h1 : Region.wanted oi (yielded l.toArray a.tmps) = true)
    (h2 : ∀ w, S w → (execOp a.eval oi).run P w = .ok (.value v) w) (h : planWpT P l.toArray Q S p (a.put oi.dst v) w) : planWpT P l.toArray Q S (.take i p) a w :=
  ⟨oi, v, by simpa using h0, .inl ⟨h1, h2⟩, h⟩
theorem planT_skip {i : Nat} {p : PT} {a : Act} {w : World} {oi : Oper} {l : List Oper} (h0 : l[i]? = some oi) (h1 : Region.wanted oi (yielded l.toArray a.tmps) = false)
    (h : planWpT P l.toArray Q S p (a.put oi.dst undef) w) : planWpT P l.toArray Q S (.take i p) a w :=
  ⟨oi, undef, by simpa using h0, .inr ⟨h1, rfl⟩, h⟩
theorem planT_run {i : Nat} {p : PT} {a : Act} {w : World} {oi : Oper} {l : List Oper} (h0 : l[i]? = some oi) (h1 : Region.wanted oi (yielded l.toArray a.tmps) = true)
    (h : ∀ K : Act → World → Prop, Shut (∀ a' w', S w' → planWpT P l.toArray Q S p a' w' → K a' w') → Oper.wp P oi a w K Q) : planWpT P l.toArray Q S (.run i p) a w :=
  plan_op h0 h1 h
theorem planT_run_skip {i : Nat} {p : PT} {a : Act} {w : World} {oi : Oper} {l : List Oper} (h0 : l[i]? = some oi) (h1 : Region.wanted oi (yielded l.toArray a.tmps) = false)
    (hS : S w) (h : planWpT P l.toArray Q S p (a.put oi.dst undef) w) : planWpT P l.toArray Q S (.run i p) a w := plan_op_skip h0 h1 hS h
theorem planT_fork {i j : Nat} {p q : PT} {a : Act} {w : World} {l : List Oper} (h1 : planWpT P l.toArray Q S (.run i p) a w) (h2 : planWpT P l.toArray Q S (.run j q) a w) : planWpT P l.toArray Q S (.fork i p j q) a w := ⟨h1, h2⟩
end
end Go.Proofs.YthpmdeofdlcccaaGreatDoor
namespace Go.Proofs.YthpmdeofdlcccaaGreatDoor
open Go.ChangeShapes Go.WideShapes Go.ChangeAt Go.RowKit
set_option linter.unusedVariables false
set_option linter.unusedSimpArgs false
set_option maxRecDepth 100000
def sendE (rc : Int) (a : TE) : Ef := ⟨1, rc, a, chZ⟩
theorem reply_x (M : Nat → Prop) (w : World) (hM : ∀ k, M k → k < w.heap.size) (hc : Cells w 0 letL) (r : Int) (x : TE) (hx : TeOk M w x) : Calls Tryz.prog 91 #[.int .i64 r, .agg #[.int .i8 x.k, .int .i64 x.n, .string x.s, .string x.u, .slice x.ao x.l.length x.cap]] w fun e w' => ∃ (y : TE) (n : Int), e = .returned (.tuple #[.agg #[.int .i8 y.k, .int .i64 y.n, .string y.s, .string y.u, .slice y.ao y.l.length y.cap], .int .i64 n]) ∧ TeOk M w' y ∧ Below w.heap.size w w' := reply_any M w hM hc r x hx
/-- what stands while a reply is made -/
structure RyW (w0 w : World) (ub : Nat) (m : Mc) (i : Inn) (ev : Value) (E : List Ef) (x : TE) : Prop where
  hb : Below w0.heap.size w0 w
  hu : UnOk w ub (unL m i) ev E
  hx : w.heap[w0.heap.size]? = some (.cells x.cells.toArray 25 (0, 0))
theorem RyW.keep {w0 w w' : World} {ub : Nat} {m : Mc} {i : Inn} {ev : Value} {E : List Ef} {x : TE} (h : RyW w0 w ub m i ev E x) (hb : Below w.heap.size w w') : RyW w0 w' ub m i ev E x := ⟨h.hb.trans (hb.mono h.hb.size), h.hu.keep hb, keep_heap h.hx hb⟩
def RyS (b o q : Nat) (rn : Int) (x : TE) (W : World) : Prop := W.cell? ⟨b, o + 5 + 1, none⟩ = some (.int .i64 rn) ∧ W.cell? ⟨q, 0, none⟩ = some (.int .i8 x.k) ∧ W.cell? ⟨q, 1, none⟩ = some (.int .i64 x.n) ∧ W.cell? ⟨q, 2, none⟩ = some (.string x.s) ∧ W.cell? ⟨q, 3, none⟩ = some (.string x.u) ∧ W.cell? ⟨q, 4, none⟩ = some (.slice x.ao x.l.length x.cap)
theorem RyS.keep {b o q : Nat} {rn : Int} {x : TE} {W W' : World} (h : RyS b o q rn x W) (hb : Below W.heap.size W W') : RyS b o q rn x W' := ⟨keep_cell h.1 hb, keep_cell h.2.1 hb, keep_cell h.2.2.1 hb, keep_cell h.2.2.2.1 hb, keep_cell h.2.2.2.2.1 hb, keep_cell h.2.2.2.2.2 hb⟩
def PrS (b o : Nat) (r : TE) (W : World) : Prop := W.cell? ⟨b, o + 5, none⟩ = some (.int .i8 r.k) ∧ W.cell? ⟨b, o + 5 + 1, none⟩ = some (.int .i64 r.n) ∧ W.cell? ⟨b, o + 5 + 2, none⟩ = some (.string r.s) ∧ W.cell? ⟨b, o + 5 + 3, none⟩ = some (.string r.u) ∧ W.cell? ⟨b, o + 5 + 4, none⟩ = some (.slice r.ao r.l.length r.cap)
theorem PrS.keep {b o : Nat} {r : TE} {W W' : World} (h : PrS b o r W) (hb : Below W.heap.size W W') : PrS b o r W' := ⟨keep_cell h.1 hb, keep_cell h.2.1 hb, keep_cell h.2.2.1 hb, keep_cell h.2.2.2.1 hb, keep_cell h.2.2.2.2 hb⟩
def SdS (b o Y : Nat) (pn : Int) (x : TE) (W : World) : Prop := W.cell? ⟨b, o + 1, none⟩ = some (.int .i64 pn) ∧ W.cell? ⟨Y, 0, none⟩ = some (.int .i8 x.k) ∧ W.cell? ⟨Y, 1, none⟩ = some (.int .i64 x.n) ∧ W.cell? ⟨Y, 2, none⟩ = some (.string x.s) ∧ W.cell? ⟨Y, 3, none⟩ = some (.string x.u) ∧ W.cell? ⟨Y, 4, none⟩ = some (.slice x.ao x.l.length x.cap)
set_option maxHeartbeats 8000000 in
theorem ureply_any (M : Nat → Prop) (w : World) (hM : ∀ k, M k → k < w.heap.size) (hc : Cells w 0 letL) (ub : Nat) (m : Mc) (i : Inn) (ev : Value) (E : List Ef) (h : UnOk w ub (unL m i) ev E) (hn : E.length ≤ 100) (x : TE) (hx : TeOk (MU M ub ev) w x)
    (hT : TeOk (MU M ub ev) w m.T) (hl : m.T.l.length = 2) :
    Calls Tryz.prog 76 #[.pointer (some ⟨ub, 0, none⟩), .agg x.cells.toArray] w (fun e w' => ∃ (rc : Int) (a : TE), UnT M w ub ev (unL m i) (E ++ [sendE rc a]) a e w') := by
  have hb1 := (Below.refl w.heap.size w).alloc (Nat.le_refl _) (.cells x.cells.toArray 25)
  have HR := Lib.hid (RyW.mk hb1 (h.keep hb1) (heap_new w (.cells x.cells.toArray 25)))
  have HL := Lib.hid (heap_lt h.hU)
  have HMU := Lib.hid (mu_lt h hM)
  have HX := Lib.hid (And.intro hx (And.intro hT hc))
  obtain ⟨b, o, p, e1, -, hp, pp, hpb⟩ := hT.part (i := 0) (by omega)
  obtain ⟨b', o', r, e2, -, hr, pr, -⟩ := hT.part (i := 1) (by omega)
  rw [e1] at e2
  injection e2 with e2
  injection e2 with g1 g2 g3
  subst g1 g2
  have t4 : (w.alloc (.cells x.cells.toArray 25)).cell? ⟨ub, 9, none⟩ = some (.slice m.T.ao m.T.l.length m.T.cap) := HR.out.hu.cell (i := 9) rfl
  rw [e1, hl] at t4
  have HPB := Lib.hid hpb
  have HP := Lib.hid (And.intro pp (And.intro pr (And.intro hp hr)))
  clear h hb1 hc hx hM hT e1 hl pp pr hp hr g3
  go_enter Tryz.func76, Tryz.ntmps76
  go_wp2_with fail
  generalize w.alloc (.cells x.cells.toArray 25) = w1 at *
  go_cut [5, 6] from 13 to 37 (fun yv nv wx => ∃ (Y : Nat) (y : TE) (n : Int), yv = .pointer (some ⟨Y, 0, none⟩) ∧ nv = .int .i64 n ∧ Hid (RyW w wx ub m i ev E x ∧ wx.heap[Y]? = some (.cells y.cells.toArray 25 (0, 0)) ∧ w.heap.size < Y ∧ TeOk (MU M ub ev) wx y))
  case first =>
    have hdr : Below w1.heap.size w1 w1.drew := (Below.refl _ _).drew
    have hR := HR.out.keep hdr
    have hbx := BxS.of hR.hx
    have hpr := HP.out.2.1.keep hR.hb
    have hS : RyS b o w.heap.size r.n x w1.drew := ⟨by have := hpr.c1; rw [show o + 1 * 5 = o + 5 by omega] at this; exact this, hbx.1, hbx.2.1, hbx.2.2.1, hbx.2.2.2.1, hbx.2.2.2.2⟩
    have hq : w.heap.size < w1.drew.heap.size := heap_lt hR.hx
    refine region_planT (RyS b o w.heap.size r.n x) (.take 0 (.take 1 (.take 2 (.take 3 (.take 4 (.fork 5 (.take 6 (.take 7 (.take 8 (.run 9 (.run 10 (.take 11 .done)))))) 9 (.run 5 (.take 6 (.take 7 (.take 8 (.run 10 (.take 11 .done)))))))))))) (by kernel_rfl) (by kernel_rfl) (by kernel_rfl) hS ?_
    generalize w1.drew = WD at *
    clear hdr HR hbx hpr t4
    iterate 5 (first | (refine planT_skip rfl ?_ ?_; (focus (rfl)); (try simp only [Act.put, List.setIfInBounds_toArray, List.set_cons_zero, List.set_cons_succ])) | (refine planT_take (v := ?_) rfl ?_ (fun w hSw => ?_) ?_; rotate_left; (focus (rfl)); (focus (unfold RyS at hSw; (go_simp <;> with_reducible rfl))); (try simp only [Act.put, List.setIfInBounds_toArray, List.set_cons_zero, List.set_cons_succ])))
    refine planT_fork ?_ ?_
    · skip
      refine planT_run rfl ?_ (fun K hK => ?_)
      focus (rfl)
      go_simp
      refine (reply_x (MU M ub ev) WD (fun k hk => Nat.lt_of_lt_of_le (HMU.out k hk) hR.hb.size) (keepCells HX.out.2.2 hR.hb) r.n x (HX.out.1.keep hR.hb)).mono ?_
      rintro e W1 ⟨y, n, rfl, hy, hb1⟩
      have hS1 := hS.keep hb1
      refine hK.out _ _ hS1 ?_
      clear hK K 
      (try simp only [Act.put, List.setIfInBounds_toArray, List.set_cons_zero, List.set_cons_succ])
      have hR1 := hR.keep hb1
      have hq1 := Nat.lt_of_lt_of_le hq hb1.size
      clear hS hR hq hb1
      iterate 3 (first | (refine planT_skip rfl ?_ ?_; (focus (rfl)); (try simp only [Act.put, List.setIfInBounds_toArray, List.set_cons_zero, List.set_cons_succ])) | (refine planT_take (v := ?_) rfl ?_ (fun w hSw => ?_) ?_; rotate_left; (focus (rfl)); (focus (unfold RyS at hSw; (go_simp <;> with_reducible rfl))); (try simp only [Act.put, List.setIfInBounds_toArray, List.set_cons_zero, List.set_cons_succ])))
      have hb2 := (Below.refl W1.heap.size W1).alloc (Nat.le_refl _) (.cells zT 25)
      have hS2 := hS1.keep hb2
      refine planT_run rfl ?_ (fun K hK => ?_)
      focus (rfl)
      go_simp
      refine hK.out _ _ (hS2) ?_
      clear hK K
      (try simp only [Act.put, List.setIfInBounds_toArray, List.set_cons_zero, List.set_cons_succ])
      have hb3 := (Below.refl W1.heap.size W1).alloc (Nat.le_refl _) (.cells #[.int .i8 y.k, .int .i64 y.n, .string y.s, .string y.u, .slice y.ao y.l.length y.cap] 25)
      have hS3 := hS1.keep hb3
      refine planT_run rfl ?_ (fun K hK => ?_)
      focus (rfl)
      refine wp_store_row 25 (.tmp 5) (.tmp 20) rfl W1.heap.size #[.int .i8 y.k, .int .i64 y.n, .string y.s, .string y.u, .slice y.ao y.l.length y.cap] rfl rfl 25 zT (heap_new W1 _) (infoTM' _ rfl) rfl (by simp [Value.oneCell']) ?_
      rw [setRow_alloc]
      refine hK.out _ _ (hS3) ?_
      clear hK K
      (try simp only [Act.put, List.setIfInBounds_toArray, List.set_cons_zero, List.set_cons_succ])
      iterate 1 (first | (refine planT_skip rfl ?_ ?_; (focus (rfl)); (try simp only [Act.put, List.setIfInBounds_toArray, List.set_cons_zero, List.set_cons_succ])) | (refine planT_take (v := ?_) rfl ?_ (fun w hSw => ?_) ?_; rotate_left; (focus (rfl)); (focus (unfold RyS at hSw; (go_simp <;> with_reducible rfl))); (try simp only [Act.put, List.setIfInBounds_toArray, List.set_cons_zero, List.set_cons_succ])))
      refine planT_done ?_
      have HF := Lib.hid (And.intro (hR1.keep hb3) (And.intro (heap_new W1 (.cells #[.int .i8 y.k, .int .i64 y.n, .string y.s, .string y.u, .slice y.ao y.l.length y.cap] 25)) (And.intro hq1 (hy.keep hb3))))
      clear hS1 hS2 hS3 hR1 hq1 hb2 hb3 hy
      go_wp2_with fail
      go_meet
      refine ⟨_, y, n, rfl, rfl, HF⟩
    · skip
      have hb2 := (Below.refl WD.heap.size WD).alloc (Nat.le_refl _) (.cells zT 25)
      have hS2 := hS.keep hb2
      have hR2 := hR.keep hb2
      have hz2 := heap_new WD (.cells zT 25)
      refine planT_run rfl ?_ (fun K hK => ?_)
      focus (rfl)
      go_simp
      refine hK.out _ _ (hS2) ?_
      clear hK K
      (try simp only [Act.put, List.setIfInBounds_toArray, List.set_cons_zero, List.set_cons_succ])
      have hsz : (WD.alloc (.cells zT 25)).heap.size = WD.heap.size + 1 := by simp
      clear hS hb2
      have HS0 := Lib.hid (And.intro hR hq)
      clear hR hq
      generalize WD.alloc (.cells zT 25) = Wz at *
      have HQ := Lib.hid HS0.out.2
      have HMW := Lib.hid (fun k hk => Nat.lt_of_lt_of_le (HMU.out k hk) HS0.out.1.hb.size)
      clear HS0
      generalize WD.heap.size = g at *
      refine planT_run rfl ?_ (fun K hK => ?_)
      focus (rfl)
      go_simp
      refine (reply_x (fun k => MU M ub ev k ∨ k = g) Wz (fun k hk => hk.elim (fun h => by have := HMW.out k h; omega) (fun e => by omega)) (keepCells HX.out.2.2 hR2.hb) r.n x (HX.out.1.chg (chg_of_below hR2.hb (fun _ => False)) (fun _ h => h.elim) (fun k hk hl => hk.elim id (fun e => by have := HQ.out; omega)))).mono ?_
      rintro e W1 ⟨y, n, rfl, hy, hb1⟩
      have hS1 := hS2.keep hb1
      refine hK.out _ _ hS1 ?_
      clear hK K 
      (try simp only [Act.put, List.setIfInBounds_toArray, List.set_cons_zero, List.set_cons_succ])
      have hR1 := hR2.keep hb1
      have hz1 := keep_heap hz2 hb1
      clear hS2 hR2 hz2 hb1 hsz
      iterate 3 (first | (refine planT_skip rfl ?_ ?_; (focus (rfl)); (try simp only [Act.put, List.setIfInBounds_toArray, List.set_cons_zero, List.set_cons_succ])) | (refine planT_take (v := ?_) rfl ?_ (fun w hSw => ?_) ?_; rotate_left; (focus (rfl)); (focus (unfold RyS at hSw; (go_simp <;> with_reducible rfl))); (try simp only [Act.put, List.setIfInBounds_toArray, List.set_cons_zero, List.set_cons_succ])))
      have hc4 := chg_setRow W1 g #[.int .i8 y.k, .int .i64 y.n, .string y.s, .string y.u, .slice y.ao y.l.length y.cap]
      have hub : ub ≠ g := fun e => by
        have := HL.out
        have := HQ.out
        omega
      have hevg : ∀ k, ev.ownBlock = some k → ¬ (k = g) := fun k hk e => by
        have := HMW.out k (.inr (.inr hk))
        omega
      have hbl : b ≠ g := fun e => by
        have h1 := World.block_lt_of_cell? w _ HP.out.1.c0
        have h2 : b < w.heap.size := h1
        have := HQ.out
        omega
      have hqg : w.heap.size ≠ g := fun e => by
        have := HQ.out
        omega
      have hS3 : RyS b o w.heap.size r.n x (W1.setRow g #[.int .i8 y.k, .int .i64 y.n, .string y.s, .string y.u, .slice y.ao y.l.length y.cap]) := ⟨hc4.cell hS1.1 hbl, hc4.cell hS1.2.1 hqg, hc4.cell hS1.2.2.1 hqg, hc4.cell hS1.2.2.2.1 hqg, hc4.cell hS1.2.2.2.2.1 hqg, hc4.cell hS1.2.2.2.2.2 hqg⟩
      have hR3 : RyW w (W1.setRow g #[.int .i8 y.k, .int .i64 y.n, .string y.s, .string y.u, .slice y.ao y.l.length y.cap]) ub m i ev E x := ⟨bel_setRow hR1.hb hR1.hb.size (Nat.le_of_lt HQ.out) _, ⟨hc4.heap hR1.hu.hU hub, hR1.hu.hcs, own_chg hR1.hu.hown hc4 hevg⟩, hc4.heap hR1.hx hqg⟩
      refine planT_run rfl ?_ (fun K hK => ?_)
      focus (rfl)
      refine wp_store_row 25 (.tmp 5) (.tmp 20) rfl g #[.int .i8 y.k, .int .i64 y.n, .string y.s, .string y.u, .slice y.ao y.l.length y.cap] rfl rfl 25 zT hz1 (infoTM' _ rfl) rfl (by simp [Value.oneCell']) ?_
      refine hK.out _ _ (hS3) ?_
      clear hK K
      (try simp only [Act.put, List.setIfInBounds_toArray, List.set_cons_zero, List.set_cons_succ])
      iterate 1 (first | (refine planT_skip rfl ?_ ?_; (focus (rfl)); (try simp only [Act.put, List.setIfInBounds_toArray, List.set_cons_zero, List.set_cons_succ])) | (refine planT_take (v := ?_) rfl ?_ (fun w hSw => ?_) ?_; rotate_left; (focus (rfl)); (focus (unfold RyS at hSw; (go_simp <;> with_reducible rfl))); (try simp only [Act.put, List.setIfInBounds_toArray, List.set_cons_zero, List.set_cons_succ])))
      refine planT_done ?_
      have HF := Lib.hid (And.intro hR3 (And.intro (setRow_heap W1 g zT #[.int .i8 y.k, .int .i64 y.n, .string y.s, .string y.u, .slice y.ao y.l.length y.cap] 25 (0, 0) hz1) (And.intro HQ.out (hy.chg (M' := MU M ub ev) hc4 (fun k e _ => .inr e) (fun k hk _ => .inl hk)))))
      clear hS1 hS3 hR1 hR3 hc4 hub hevg hbl hqg hz1 hy
      go_wp2_with fail
      go_meet
      refine ⟨_, y, n, rfl, rfl, HF⟩
  case rest =>
    obtain ⟨Y, y, n, rfl, rfl, HI⟩ := hcut
    by_cases h0 : n = 0
    · have q1 : (n != 0) = false := by simp [h0]
      clear h0
      go_wp2_with fail
      have hdr : Below wc.heap.size wc wc.drew := (Below.refl _ _).drew
      have hR := HI.out.1.keep hdr
      have hpp := HP.out.1.keep hR.hb
      have hz := keep_heap HI.out.2.1 hdr
      have hbx := BxS.of hz
      have hy := HI.out.2.2.2.keep hdr
      have HYs := Lib.hid HI.out.2.2.1
      have hS : SdS b o Y p.n y wc.drew := ⟨by have := hpp.c1; rw [show o + 0 * 5 = o by omega] at this; exact this, hbx.1, hbx.2.1, hbx.2.2.1, hbx.2.2.2.1, hbx.2.2.2.2⟩
      refine region_plan (SdS b o Y p.n y) [(0, 0), (1, 0), (2, 0), (3, 0), (4, 0), (5, 0), (6, 0), (7, 1)] (by kernel_rfl) (by kernel_rfl) (by kernel_rfl) hS ?_
      generalize wc.drew = WE at *
      clear hdr HI hpp hbx
      iterate 7 (first | (refine plan_skip rfl ?_ ?_; (focus (rfl)); (try simp only [Act.put, List.setIfInBounds_toArray, List.set_cons_zero, List.set_cons_succ])) | (refine plan_take (v := ?_) rfl ?_ (fun w hSw => ?_) ?_; rotate_left; (focus (rfl)); (focus (unfold SdS at hSw; (go_simp <;> with_reducible rfl))); (try simp only [Act.put, List.setIfInBounds_toArray, List.set_cons_zero, List.set_cons_succ])))
      have HC := Lib.hid (effect_any WE ub _ ev E (sendE p.n y) hR.hu (by omega))
      refine plan_run rfl ?_ (fun K hK => ?_)
      focus (rfl)
      go_simp
      refine HC.out.mono ?_
      clear HC
      rintro e W5 ⟨⟨v, rfl⟩, ev', hu3, hc3, hb3⟩
      have hnY : ¬ UnB ub ev Y := fun h => by
        rcases h with h | h
        · have := HL.out
          have := HYs.out
          omega
        · have := HMU.out _ (.inr (.inr h))
          have := HYs.out
          omega
      have hnb : ¬ UnB ub ev b := fun h => HPB.out (.inr h)
      have hS5 : SdS b o Y p.n y W5 := ⟨hc3.cell hS.1 hnb, hc3.cell hS.2.1 hnY, hc3.cell hS.2.2.1 hnY, hc3.cell hS.2.2.2.1 hnY, hc3.cell hS.2.2.2.2.1 hnY, hc3.cell hS.2.2.2.2.2 hnY⟩
      refine hK.out _ _ (hS5) ?_
      clear hK K
      (try simp only [Act.put, List.setIfInBounds_toArray, List.set_cons_zero, List.set_cons_succ])
      refine plan_done ?_
      have hB := hR.hb
      have HF := Lib.hid (And.intro hu3 (And.intro (un_trans (chg_of_below hB _) (fun _ _ h => h) hc3) (And.intro (fun k hk e => hb3 k (Nat.lt_of_lt_of_le hk hB.size) e) (un_te hc3 hb3 hy))))
      clear hS hS5 hR hz hy hu3 hc3 hb3 hnY hnb hB
      go_wp2_with fail
      go_end0
      refine ⟨p.n, y, ⟨_, rfl⟩, ev', ?_, ?_, ?_, ?_⟩
      · exact HF.out.1
      · exact HF.out.2.1
      · exact HF.out.2.2.1
      · exact HF.out.2.2.2
    · have q1 : (n != 0) = true := by simp [h0]
      clear h0
      go_wp2_with fail
      have hdr : Below wc.heap.size wc wc.drew := (Below.refl _ _).drew
      have hR := HI.out.1.keep hdr
      have hpr := HP.out.2.1.keep hR.hb
      have hz := keep_heap HI.out.2.1 hdr
      have hYl : Y < wc.drew.heap.size := heap_lt hz
      have HYq := Lib.hid HI.out.2.2.1
      have hS : PrS b o r wc.drew := by
        obtain ⟨g0, g1, g2, g3, g4⟩ := hpr
        rw [show o + 1 * 5 = o + 5 by omega] at g0 g1 g2 g3 g4
        exact ⟨g0, g1, g2, g3, g4⟩
      refine region_plan (PrS b o r) [(0, 0), (1, 0), (2, 0), (3, 1), (4, 1), (5, 1), (6, 1)] (by kernel_rfl) (by kernel_rfl) (by kernel_rfl) hS ?_
      generalize wc.drew = WD at *
      clear hdr HI hpr
      iterate 3 (first | (refine plan_skip rfl ?_ ?_; (focus (rfl)); (try simp only [Act.put, List.setIfInBounds_toArray, List.set_cons_zero, List.set_cons_succ])) | (refine plan_take (v := ?_) rfl ?_ (fun w hSw => ?_) ?_; rotate_left; (focus (rfl)); (focus (unfold PrS at hSw; (go_simp <;> with_reducible rfl))); (try simp only [Act.put, List.setIfInBounds_toArray, List.set_cons_zero, List.set_cons_succ])))
      refine plan_run rfl ?_ (fun K hK => ?_)
      focus (rfl)
      go_simp
      refine (satom_x WD _).mono ?_
      rintro e W1 ⟨rfl, hb1⟩
      have hS1 := hS.keep hb1
      refine hK.out _ _ hS1 ?_
      clear hK K 
      (try simp only [Act.put, List.setIfInBounds_toArray, List.set_cons_zero, List.set_cons_succ])
      have hR1 := hR.keep hb1
      have hz1 := keep_heap hz hb1
      have hY1 := Nat.lt_of_lt_of_le hYl hb1.size
      clear hS hR hz hb1 hYl
      have hba := (Below.refl W1.heap.size W1).alloc (Nat.le_refl _) (.cells #[.int .i8 r.k, .int .i64 r.n, .string r.s, .string r.u, .slice r.ao r.l.length r.cap, .int .i8 1, .int .i64 0, .string ⟨#[115, 121, 115, 116, 101, 109, 95, 108, 105, 109, 105, 116]⟩, .string ⟨#[]⟩, .slice none 0 0] 25)
      have hSa := hS1.keep hba
      have hMq : ∀ k, (MU M ub ev k ∨ k = Y) → k < W1.heap.size := fun k hk => by
        rcases hk with hk | hk
        · have := HMU.out k hk
          have := hR1.hb.size
          omega
        · omega
      have hta := two_tes (fun k => MU M ub ev k ∨ k = Y) W1 hMq r (atomT ⟨#[115, 121, 115, 116, 101, 109, 95, 108, 105, 109, 105, 116]⟩) (HP.out.2.2.2.chg (chg_of_below hR1.hb (fun _ => False)) (fun _ h => h.elim) (fun k hk hl => hk.elim id (fun e => by have := HYq.out; omega))) (atomT_ok _ _ _ (by decide))
      have HT := Lib.hid (stuple_x _ (W1.alloc (.cells #[.int .i8 r.k, .int .i64 r.n, .string r.s, .string r.u, .slice r.ao r.l.length r.cap, .int .i8 1, .int .i64 0, .string ⟨#[115, 121, 115, 116, 101, 109, 95, 108, 105, 109, 105, 116]⟩, .string ⟨#[]⟩, .slice none 0 0] 25)) (fun k hk => Nat.lt_of_lt_of_le (hMq k hk) hba.size) (keepCells (keepCells HX.out.2.2 hR1.hb) hba) _ _ hta (fun c => .inl (by simp)) (by simp))
      have hRa := hR1.keep hba
      have hza := keep_heap hz1 hba
      refine plan_run rfl ?_ (fun K hK => ?_)
      focus (rfl)
      go_simp
      refine hK.out _ _ (hSa) ?_
      clear hK K
      (try simp only [Act.put, List.setIfInBounds_toArray, List.set_cons_zero, List.set_cons_succ])
      clear hba hta hS1 hR1 hz1 hMq hY1
      generalize W1.alloc (.cells #[.int .i8 r.k, .int .i64 r.n, .string r.s, .string r.u, .slice r.ao r.l.length r.cap, .int .i8 1, .int .i64 0, .string ⟨#[115, 121, 115, 116, 101, 109, 95, 108, 105, 109, 105, 116]⟩, .string ⟨#[]⟩, .slice none 0 0] 25) = Wa at *
      refine plan_run rfl ?_ (fun K hK => ?_)
      focus (rfl)
      go_simp
      refine (HT.out).mono ?_
      rintro e W2 ⟨y2, rfl, hyt, hy, hb2⟩
      have hS2 := hSa.keep hb2
      refine hK.out _ _ hS2 ?_
      clear hK K 
      (try simp only [Act.put, List.setIfInBounds_toArray, List.set_cons_zero, List.set_cons_succ])
      have hR2 := hRa.keep hb2
      have hz2 := keep_heap hza hb2
      clear hSa hRa hza hb2 HT hyt
      have hc4 := chg_setRow W2 Y #[.int .i8 y2.k, .int .i64 y2.n, .string y2.s, .string y2.u, .slice y2.ao y2.l.length y2.cap]
      have hub : ub ≠ Y := fun e => by
        have := HL.out
        have := HYq.out
        omega
      have hevg : ∀ k, ev.ownBlock = some k → ¬ (k = Y) := fun k hk e => by
        have := HMU.out k (.inr (.inr hk))
        have := HYq.out
        omega
      have hbl : b ≠ Y := fun e => by
        have h1 := World.block_lt_of_cell? w _ HP.out.1.c0
        have h2 : b < w.heap.size := h1
        have := HYq.out
        omega
      have hqg : w.heap.size ≠ Y := fun e => by
        have := HYq.out
        omega
      have hS3 : PrS b o r (W2.setRow Y #[.int .i8 y2.k, .int .i64 y2.n, .string y2.s, .string y2.u, .slice y2.ao y2.l.length y2.cap]) := ⟨hc4.cell hS2.1 hbl, hc4.cell hS2.2.1 hbl, hc4.cell hS2.2.2.1 hbl, hc4.cell hS2.2.2.2.1 hbl, hc4.cell hS2.2.2.2.2 hbl⟩
      have hR3 : RyW w (W2.setRow Y #[.int .i8 y2.k, .int .i64 y2.n, .string y2.s, .string y2.u, .slice y2.ao y2.l.length y2.cap]) ub m i ev E x := ⟨bel_setRow hR2.hb hR2.hb.size (Nat.le_of_lt HYq.out) _, ⟨hc4.heap hR2.hu.hU hub, hR2.hu.hcs, own_chg hR2.hu.hown hc4 hevg⟩, hc4.heap hR2.hx hqg⟩
      refine plan_run rfl ?_ (fun K hK => ?_)
      focus (rfl)
      refine wp_store_row 25 (.tmp 5) (.tmp 29) rfl Y #[.int .i8 y2.k, .int .i64 y2.n, .string y2.s, .string y2.u, .slice y2.ao y2.l.length y2.cap] rfl rfl 25 y.cells.toArray hz2 (infoTM' _ rfl) rfl (by simp [Value.oneCell']) ?_
      refine hK.out _ _ (hS3) ?_
      clear hK K
      (try simp only [Act.put, List.setIfInBounds_toArray, List.set_cons_zero, List.set_cons_succ])
      refine plan_done ?_
      have HJ := Lib.hid (And.intro hR3 (And.intro (setRow_heap W2 Y y.cells.toArray #[.int .i8 y2.k, .int .i64 y2.n, .string y2.s, .string y2.u, .slice y2.ao y2.l.length y2.cap] 25 (0, 0) hz2) (And.intro HYq.out (hy.chg (M' := MU M ub ev) hc4 (fun k e _ => .inr e) (fun k hk _ => .inl hk)))))
      generalize W2.setRow Y #[.int .i8 y2.k, .int .i64 y2.n, .string y2.s, .string y2.u, .slice y2.ao y2.l.length y2.cap] = W3 at *
      clear hS2 hS3 hR2 hR3 hc4 hub hevg hbl hqg hz2 hy
      go_wp2_with fail
      have hdr : Below W3.heap.size W3 W3.drew := (Below.refl _ _).drew
      have hR := HJ.out.1.keep hdr
      have hpp := HP.out.1.keep hR.hb
      have hz := keep_heap HJ.out.2.1 hdr
      have hbx := BxS.of hz
      have hy := HJ.out.2.2.2.keep hdr
      have HYs := Lib.hid HJ.out.2.2.1
      have hS : SdS b o Y p.n y2 W3.drew := ⟨by have := hpp.c1; rw [show o + 0 * 5 = o by omega] at this; exact this, hbx.1, hbx.2.1, hbx.2.2.1, hbx.2.2.2.1, hbx.2.2.2.2⟩
      refine region_plan (SdS b o Y p.n y2) [(0, 0), (1, 0), (2, 0), (3, 0), (4, 0), (5, 0), (6, 0), (7, 1)] (by kernel_rfl) (by kernel_rfl) (by kernel_rfl) hS ?_
      generalize W3.drew = WE at *
      clear hdr HJ hpp hbx
      iterate 7 (first | (refine plan_skip rfl ?_ ?_; (focus (rfl)); (try simp only [Act.put, List.setIfInBounds_toArray, List.set_cons_zero, List.set_cons_succ])) | (refine plan_take (v := ?_) rfl ?_ (fun w hSw => ?_) ?_; rotate_left; (focus (rfl)); (focus (unfold SdS at hSw; (go_simp <;> with_reducible rfl))); (try simp only [Act.put, List.setIfInBounds_toArray, List.set_cons_zero, List.set_cons_succ])))
      have HC := Lib.hid (effect_any WE ub _ ev E (sendE p.n y2) hR.hu (by omega))
      refine plan_run rfl ?_ (fun K hK => ?_)
      focus (rfl)
      go_simp
      refine HC.out.mono ?_
      clear HC
      rintro e W5 ⟨⟨v, rfl⟩, ev', hu3, hc3, hb3⟩
      have hnY : ¬ UnB ub ev Y := fun h => by
        rcases h with h | h
        · have := HL.out
          have := HYs.out
          omega
        · have := HMU.out _ (.inr (.inr h))
          have := HYs.out
          omega
      have hnb : ¬ UnB ub ev b := fun h => HPB.out (.inr h)
      have hS5 : SdS b o Y p.n y2 W5 := ⟨hc3.cell hS.1 hnb, hc3.cell hS.2.1 hnY, hc3.cell hS.2.2.1 hnY, hc3.cell hS.2.2.2.1 hnY, hc3.cell hS.2.2.2.2.1 hnY, hc3.cell hS.2.2.2.2.2 hnY⟩
      refine hK.out _ _ (hS5) ?_
      clear hK K
      (try simp only [Act.put, List.setIfInBounds_toArray, List.set_cons_zero, List.set_cons_succ])
      refine plan_done ?_
      have hB := hR.hb
      have HF := Lib.hid (And.intro hu3 (And.intro (un_trans (chg_of_below hB _) (fun _ _ h => h) hc3) (And.intro (fun k hk e => hb3 k (Nat.lt_of_lt_of_le hk hB.size) e) (un_te hc3 hb3 hy))))
      clear hS hS5 hR hz hy hu3 hc3 hb3 hnY hnb hB
      go_wp2_with fail
      go_end0
      refine ⟨p.n, y2, ⟨_, rfl⟩, ev', ?_, ?_, ?_, ?_⟩
      · exact HF.out.1
      · exact HF.out.2.1
      · exact HF.out.2.2.1
      · exact HF.out.2.2.2
end Go.Proofs.YthpmdeofdlcccaaGreatDoor
