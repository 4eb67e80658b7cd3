/- a plan for a region that draws its order: a tree (where two may come up, each way has a plan of its own). No conditions. -/
import Derived.Test.YtaomakhhkjflaaaDoorK
import Derived.Test.YtaomakhhkjflaaaDoorKi
namespace Go.Proofs.YtaomakhhkjflaaaDoor
open Go.ChangeShapes Go.WideShapes Go.ChangeAt Go.RowKit
set_option linter.unusedVariables false
inductive PT
  | done
  | take (i : Nat) (p : PT)
  | run (i : Nat) (p : PT)
  | fork (i : Nat) (p : PT) (j : Nat) (q : PT)
def planFitsT (md : Region.Mode) (ops : Array Oper) : PT → Array Bool → Nat → Bool
  | .done, l, n => (Region.ready md ops l).isEmpty && n == 0
  | .take i p, l, n => n != 0 && Region.free md ops l i && (Region.ready md ops l).contains i && planFitsT md ops p (l.setIfInBounds i true) (n - 1)
  | .run i p, l, n => n != 0 && (Region.ready md ops l == [i]) && planFitsT md ops p (l.setIfInBounds i true) (n - 1)
  | .fork i p j q, l, n => n != 0 && (Region.ready md ops l == [i, j]) && planFitsT md ops p (l.setIfInBounds i true) (n - 1) && planFitsT md ops q (l.setIfInBounds j true) (n - 1)
section
variable (P : Program) (ops : Array Oper) (Q : Exit → Act → World → Prop) (S : World → Prop)
def planWpT : PT → Act → World → Prop
  | .done, a, w => Q .normal a w
  | .take i p, a, w => ∃ oi v, ops[i]? = some oi ∧ YieldsIf P ops S oi v a ∧ planWpT p (a.put oi.dst v) w
  | .run i p, a, w => wpOp P ops Q i (fun a' w' => S w' ∧ planWpT p a' w') a w
  | .fork i p j q, a, w => wpOp P ops Q i (fun a' w' => S w' ∧ planWpT p a' w') a w ∧ wpOp P ops Q j (fun a' w' => S w' ∧ planWpT q a' w') a w
end
section
variable {P : Program} {ops : Array Oper} {Q : Exit → Act → World → Prop} {S : World → Prop} {md : Region.Mode}
theorem planT_held (hs : Region.noSelect ops = true) (hQ : ∀ c a d v w, Q (.panic c) (Act.put a d v) w → Q (.panic c) a w) :
    ∀ (p : PT) (l : Array Bool) (n : Nat) (a : Act) (w : World), planFitsT md ops p l n = true → S w → planWpT P ops Q S p a w → wpAnyH P md ops Q S n l a w
  | .done, l, n, a, w, hf, _, h => by
    simp only [planFitsT, Bool.and_eq_true, beq_iff_eq] at hf
    exact wpAnyH_done (by simpa using hf.1) h n
  | .take i p, l, n, a, w, hf, hS, h => by
    simp only [planFitsT, Bool.and_eq_true, bne_iff_ne] at hf
    obtain ⟨⟨⟨h0, h1⟩, h2⟩, h3⟩ := hf
    obtain ⟨oi, v, e1, e2, e3⟩ := h
    obtain ⟨m, rfl⟩ : ∃ m, n = m + 1 := ⟨n - 1, by omega⟩
    exact wpAnyH_take e1 hs h1 h2 (fun c a w => hQ c a _ _ w) e2 hS (planT_held hs hQ p _ _ _ _ (by simpa using h3) hS e3)
  | .run i p, l, n, a, w, hf, _, h => by
    simp only [planFitsT, Bool.and_eq_true, bne_iff_ne, beq_iff_eq] at hf
    obtain ⟨⟨h0, h1⟩, h2⟩ := hf
    obtain ⟨m, rfl⟩ : ∃ m, n = m + 1 := ⟨n - 1, by omega⟩
    exact wpAnyH_one h1 (wpOp_mono (fun a' w' h' => ⟨h'.1, planT_held hs hQ p _ _ _ _ (by simpa using h2) h'.1 h'.2⟩) h)
  | .fork i p j q, l, n, a, w, hf, _, h => by
    simp only [planFitsT, Bool.and_eq_true, bne_iff_ne, beq_iff_eq] at hf
    obtain ⟨⟨⟨h0, h1⟩, h2⟩, h3⟩ := hf
    obtain ⟨m, rfl⟩ : ∃ m, n = m + 1 := ⟨n - 1, by omega⟩
    refine wpAnyH_all h1 (by simp) fun k hk => ?_
    have hk' : k = i ∨ k = j := by simpa using hk
    rcases hk' with rfl | rfl
    · exact wpOp_mono (fun a' w' h' => ⟨h'.1, planT_held hs hQ p _ _ _ _ (by simpa using h2) h'.1 h'.2⟩) h.1
    · exact wpOp_mono (fun a' w' h' => ⟨h'.1, planT_held hs hQ q _ _ _ _ (by simpa using h3) h'.1 h'.2⟩) h.2
/-- A region that draws its order, by a tree. -/
theorem region_planT {id : Nat} {a : Act} {w : World} (S : World → Prop) (p : PT) (hm : P.follows .mixedOrders = true) (hs : Region.noSelect ops = true)
    (hf : planFitsT .any ops p (Array.replicate ops.size false) ops.size = true) (hS : S w.drew) (h : planWpT P ops (NoPanic Q) S p a w.drew) : (Code.region id ops true).wp P Q a w :=
  wp_region_noPanic (wp_region_held hm (planT_held hs (fun _ _ _ _ _ h => h.elim) p _ _ _ _ hf hS h))
theorem planT_done {a : Act} {w : World} (h : Q .normal a w) : planWpT P ops (NoPanic Q) S .done a w := h
theorem planT_take {i : Nat} {p : PT} {a : Act} {w : World} {oi : Oper} {l : List Oper} {v : Value} (h0 : l[i]? = some oi) (h1 : Region.wanted oi (yielded l.toArray a.tmps) = true)
    (h2 : ∀ w, S w → (execOp a.eval oi).run P w = .ok (.value v) w) (h : planWpT P l.toArray Q S p (a.put oi.dst v) w) : planWpT P l.toArray Q S (.take i p) a w :=
  ⟨oi, v, by simpa using h0, .inl ⟨h1, h2⟩, h⟩
theorem planT_skip {i : Nat} {p : PT} {a : Act} {w : World} {oi : Oper} {l : List Oper} (h0 : l[i]? = some oi) (h1 : Region.wanted oi (yielded l.toArray a.tmps) = false)
    (h : planWpT P l.toArray Q S p (a.put oi.dst undef) w) : planWpT P l.toArray Q S (.take i p) a w :=
  ⟨oi, undef, by simpa using h0, .inr ⟨h1, rfl⟩, h⟩
theorem planT_run {i : Nat} {p : PT} {a : Act} {w : World} {oi : Oper} {l : List Oper} (h0 : l[i]? = some oi) (h1 : Region.wanted oi (yielded l.toArray a.tmps) = true)
    (h : ∀ K : Act → World → Prop, Shut (∀ a' w', S w' → planWpT P l.toArray Q S p a' w' → K a' w') → Oper.wp P oi a w K Q) : planWpT P l.toArray Q S (.run i p) a w :=
  plan_op h0 h1 h
theorem planT_run_skip {i : Nat} {p : PT} {a : Act} {w : World} {oi : Oper} {l : List Oper} (h0 : l[i]? = some oi) (h1 : Region.wanted oi (yielded l.toArray a.tmps) = false)
    (hS : S w) (h : planWpT P l.toArray Q S p (a.put oi.dst undef) w) : planWpT P l.toArray Q S (.run i p) a w := plan_op_skip h0 h1 hS h
theorem planT_fork {i j : Nat} {p q : PT} {a : Act} {w : World} {l : List Oper} (h1 : planWpT P l.toArray Q S (.run i p) a w) (h2 : planWpT P l.toArray Q S (.run j q) a w) : planWpT P l.toArray Q S (.fork i p j q) a w := ⟨h1, h2⟩
end
end Go.Proofs.YtaomakhhkjflaaaDoor
