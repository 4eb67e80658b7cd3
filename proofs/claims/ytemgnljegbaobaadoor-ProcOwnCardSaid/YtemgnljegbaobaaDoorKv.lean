/- a plan for a region that draws its order: a tree (where two or three may come up, each way has a plan of its own). No conditions. -/
import Derived.Test.YtemgnljegbaobaaDoorK
import Derived.Test.YtemgnljegbaobaaDoorKi
namespace Go.Proofs.YtemgnljegbaobaaDoor
open Go.ChangeShapes Go.WideShapes Go.ChangeAt Go.RowKit
set_option linter.unusedVariables false
inductive PV
  | done
  | take (i : Nat) (p : PV)
  | run (i : Nat) (p : PV)
  | fork (i : Nat) (p : PV) (j : Nat) (q : PV)
  | forkc (i : Nat) (p : PV) (j : Nat) (q : PV) (k : Nat) (r : PV)
def planFitsV (md : Region.Mode) (ops : Array Oper) : PV → Array Bool → Nat → Bool
  | .done, l, n => (Region.ready md ops l).isEmpty && n == 0
  | .take i p, l, n => n != 0 && Region.free md ops l i && (Region.ready md ops l).contains i && planFitsV md ops p (l.setIfInBounds i true) (n - 1)
  | .run i p, l, n => n != 0 && (Region.ready md ops l == [i]) && planFitsV md ops p (l.setIfInBounds i true) (n - 1)
  | .fork i p j q, l, n => n != 0 && (Region.ready md ops l == [i, j]) && planFitsV md ops p (l.setIfInBounds i true) (n - 1) && planFitsV md ops q (l.setIfInBounds j true) (n - 1)
  | .forkc i p j q k r, l, n => n != 0 && (Region.ready md ops l == [i, j, k]) && planFitsV md ops p (l.setIfInBounds i true) (n - 1) && planFitsV md ops q (l.setIfInBounds j true) (n - 1) && planFitsV md ops r (l.setIfInBounds k true) (n - 1)
section
variable (P : Program) (ops : Array Oper) (Q : Exit → Act → World → Prop) (S : World → Prop)
def planWpV : PV → Act → World → Prop
  | .done, a, w => Q .normal a w
  | .take i p, a, w => ∃ oi v, ops[i]? = some oi ∧ YieldsIf P ops S oi v a ∧ planWpV p (a.put oi.dst v) w
  | .run i p, a, w => wpOp P ops Q i (fun a' w' => S w' ∧ planWpV p a' w') a w
  | .fork i p j q, a, w => wpOp P ops Q i (fun a' w' => S w' ∧ planWpV p a' w') a w ∧ wpOp P ops Q j (fun a' w' => S w' ∧ planWpV q a' w') a w
  | .forkc i p j q k r, a, w => wpOp P ops Q i (fun a' w' => S w' ∧ planWpV p a' w') a w ∧ wpOp P ops Q j (fun a' w' => S w' ∧ planWpV q a' w') a w ∧ wpOp P ops Q k (fun a' w' => S w' ∧ planWpV r a' w') a w
end
section
variable {P : Program} {ops : Array Oper} {Q : Exit → Act → World → Prop} {S : World → Prop} {md : Region.Mode}
theorem planV_held (hs : Region.noSelect ops = true) (hQ : ∀ c a d v w, Q (.panic c) (Act.put a d v) w → Q (.panic c) a w) :
    ∀ (p : PV) (l : Array Bool) (n : Nat) (a : Act) (w : World), planFitsV md ops p l n = true → S w → planWpV P ops Q S p a w → wpAnyH P md ops Q S n l a w
  | .done, l, n, a, w, hf, _, h => by
    simp only [planFitsV, Bool.and_eq_true, beq_iff_eq] at hf
    exact wpAnyH_done (by simpa using hf.1) h n
  | .take i p, l, n, a, w, hf, hS, h => by
    simp only [planFitsV, Bool.and_eq_true, bne_iff_ne] at hf
    obtain ⟨⟨⟨h0, h1⟩, h2⟩, h3⟩ := hf
    obtain ⟨oi, v, e1, e2, e3⟩ := h
    obtain ⟨m, rfl⟩ : ∃ m, n = m + 1 := ⟨n - 1, by omega⟩
    exact wpAnyH_take e1 hs h1 h2 (fun c a w => hQ c a _ _ w) e2 hS (planV_held hs hQ p _ _ _ _ (by simpa using h3) hS e3)
  | .run i p, l, n, a, w, hf, _, h => by
    simp only [planFitsV, Bool.and_eq_true, bne_iff_ne, beq_iff_eq] at hf
    obtain ⟨⟨h0, h1⟩, h2⟩ := hf
    obtain ⟨m, rfl⟩ : ∃ m, n = m + 1 := ⟨n - 1, by omega⟩
    exact wpAnyH_one h1 (wpOp_mono (fun a' w' h' => ⟨h'.1, planV_held hs hQ p _ _ _ _ (by simpa using h2) h'.1 h'.2⟩) h)
  | .fork i p j q, l, n, a, w, hf, _, h => by
    simp only [planFitsV, Bool.and_eq_true, bne_iff_ne, beq_iff_eq] at hf
    obtain ⟨⟨⟨h0, h1⟩, h2⟩, h3⟩ := hf
    obtain ⟨m, rfl⟩ : ∃ m, n = m + 1 := ⟨n - 1, by omega⟩
    refine wpAnyH_all h1 (by simp) fun k hk => ?_
    have hk' : k = i ∨ k = j := by simpa using hk
    rcases hk' with rfl | rfl
    · exact wpOp_mono (fun a' w' h' => ⟨h'.1, planV_held hs hQ p _ _ _ _ (by simpa using h2) h'.1 h'.2⟩) h.1
    · exact wpOp_mono (fun a' w' h' => ⟨h'.1, planV_held hs hQ q _ _ _ _ (by simpa using h3) h'.1 h'.2⟩) h.2
  | .forkc i p j q k r, l, n, a, w, hf, _, h => by
    simp only [planFitsV, Bool.and_eq_true, bne_iff_ne, beq_iff_eq] at hf
    obtain ⟨⟨⟨⟨h0, h1⟩, h2⟩, h3⟩, h4⟩ := hf
    obtain ⟨m, rfl⟩ : ∃ m, n = m + 1 := ⟨n - 1, by omega⟩
    refine wpAnyH_all h1 (by simp) fun x hx => ?_
    have hx' : x = i ∨ x = j ∨ x = k := by simpa using hx
    rcases hx' with rfl | rfl | rfl
    · exact wpOp_mono (fun a' w' h' => ⟨h'.1, planV_held hs hQ p _ _ _ _ (by simpa using h2) h'.1 h'.2⟩) h.1
    · exact wpOp_mono (fun a' w' h' => ⟨h'.1, planV_held hs hQ q _ _ _ _ (by simpa using h3) h'.1 h'.2⟩) h.2.1
    · exact wpOp_mono (fun a' w' h' => ⟨h'.1, planV_held hs hQ r _ _ _ _ (by simpa using h4) h'.1 h'.2⟩) h.2.2
/-- A region that draws its order, by a tree. -/
theorem region_planV {id : Nat} {a : Act} {w : World} (S : World → Prop) (p : PV) (hm : P.follows .mixedOrders = true) (hs : Region.noSelect ops = true)
    (hf : planFitsV .any ops p (Array.replicate ops.size false) ops.size = true) (hS : S w.drew) (h : planWpV P ops (NoPanic Q) S p a w.drew) : (Code.region id ops true).wp P Q a w :=
  wp_region_noPanic (wp_region_held hm (planV_held hs (fun _ _ _ _ _ h => h.elim) p _ _ _ _ hf hS h))
theorem planV_done {a : Act} {w : World} (h : Q .normal a w) : planWpV P ops (NoPanic Q) S .done a w := h
theorem planV_take {i : Nat} {p : PV} {a : Act} {w : World} {oi : Oper} {l : List Oper} {v : Value} (h0 : l[i]? = some oi) (h1 : Region.wanted oi (yielded l.toArray a.tmps) = true)
    (h2 : ∀ w, S w → (execOp a.eval oi).run P w = .ok (.value v) w) (h : planWpV P l.toArray Q S p (a.put oi.dst v) w) : planWpV P l.toArray Q S (.take i p) a w :=
  ⟨oi, v, by simpa using h0, .inl ⟨h1, h2⟩, h⟩
theorem planV_skip {i : Nat} {p : PV} {a : Act} {w : World} {oi : Oper} {l : List Oper} (h0 : l[i]? = some oi) (h1 : Region.wanted oi (yielded l.toArray a.tmps) = false)
    (h : planWpV P l.toArray Q S p (a.put oi.dst undef) w) : planWpV P l.toArray Q S (.take i p) a w :=
  ⟨oi, undef, by simpa using h0, .inr ⟨h1, rfl⟩, h⟩
theorem planV_run {i : Nat} {p : PV} {a : Act} {w : World} {oi : Oper} {l : List Oper} (h0 : l[i]? = some oi) (h1 : Region.wanted oi (yielded l.toArray a.tmps) = true)
    (h : ∀ K : Act → World → Prop, Shut (∀ a' w', S w' → planWpV P l.toArray Q S p a' w' → K a' w') → Oper.wp P oi a w K Q) : planWpV P l.toArray Q S (.run i p) a w :=
  plan_op h0 h1 h
theorem planV_run_skip {i : Nat} {p : PV} {a : Act} {w : World} {oi : Oper} {l : List Oper} (h0 : l[i]? = some oi) (h1 : Region.wanted oi (yielded l.toArray a.tmps) = false)
    (hS : S w) (h : planWpV P l.toArray Q S p (a.put oi.dst undef) w) : planWpV P l.toArray Q S (.run i p) a w := plan_op_skip h0 h1 hS h
theorem planV_fork {i j : Nat} {p q : PV} {a : Act} {w : World} {l : List Oper} (h1 : planWpV P l.toArray Q S (.run i p) a w) (h2 : planWpV P l.toArray Q S (.run j q) a w) : planWpV P l.toArray Q S (.fork i p j q) a w := ⟨h1, h2⟩
theorem planV_forkc {i j k : Nat} {p q r : PV} {a : Act} {w : World} {l : List Oper} (h1 : planWpV P l.toArray Q S (.run i p) a w) (h2 : planWpV P l.toArray Q S (.run j q) a w) (h3 : planWpV P l.toArray Q S (.run k r) a w) : planWpV P l.toArray Q S (.forkc i p j q k r) a w := ⟨h1, h2, h3⟩
end
end Go.Proofs.YtemgnljegbaobaaDoor
