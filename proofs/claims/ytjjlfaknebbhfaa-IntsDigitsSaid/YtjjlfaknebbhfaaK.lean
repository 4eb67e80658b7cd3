/- Small lemmas of our own on worlds that grow. No conditions. -/
import Derived.Test.YtjjlfaknebbhfaaRows
import Derived.WalkKit
import Derived.ProofKit
import Derived.OpenShut
import Derived.Handy
import Derived.Outline
import Derived.WalkSpells
import Derived.WalkLawsBesides
import Derived.Deep.RegionHeld3
import Derived.Deep.RegionLawGrows
import Derived.BigQuiet
import Derived.Deep.QuietTactic
import Derived.Deep.DeepFit
import Derived.Deep.DeepMust
import Derived.Deep.DeepCutAuto
import Derived.Deep.LoopGhost
import Derived.Deep.Light
import Derived.Deep.Slices
import Derived.Lib.Hide
import Derived.Lib.MinMax
import Derived.Lib.SmallJoins
import Derived.Laws.AppendOwnNone
import Derived.SizedLaws
namespace Go.Proofs.Ytjjlfaknebbhfaa
open Go.ChangeShapes Go.WideShapes Go.ChangeAt Go.RowKit
set_option linter.unusedVariables false
theorem keep_cell {W W' : World} {p : Addr} {v : Value} (h : W.cell? p = some v) (hb : Below W.heap.size W W') : W'.cell? p = some v := (hb.cell (World.block_lt_of_cell? W _ h)).trans h
theorem keep_frozen {W W' : World} {p : Addr} {v : Value} {c : Bool} (h : W.frozen? p = c) (hc : W.cell? p = some v) (hb : Below W.heap.size W W') : W'.frozen? p = c := (hb.frozen (World.block_lt_of_cell? W _ hc)).trans h
theorem keep_below {B : Nat} {W0 W W' : World} (h : Below B W0 W) (hs : B ≤ W.heap.size) (hb : Below W.heap.size W W') : Below B W0 W' := h.trans (hb.mono hs)
/-- a plan for a region that draws its order: (i, 0): number i is taken first; (i, 1): it is carried out; (i, j + 2): i and j, in either order -/
def planFits (md : Region.Mode) (ops : Array Oper) : List (Nat × Nat) → Array Bool → Nat → Bool
  | [], l, n => (Region.ready md ops l).isEmpty && n == 0
  | (i, 0) :: p, l, n => n != 0 && Region.free md ops l i && (Region.ready md ops l).contains i && planFits md ops p (l.setIfInBounds i true) (n - 1)
  | (i, 1) :: p, l, n => n != 0 && (Region.ready md ops l == [i]) && planFits md ops p (l.setIfInBounds i true) (n - 1)
  | (i, j + 2) :: p, l, n => n != 0 && n != 1 && (Region.ready md ops l == [i, j]) && (Region.ready md ops (l.setIfInBounds i true) == [j]) && (Region.ready md ops (l.setIfInBounds j true) == [i]) &&
      planFits md ops p ((l.setIfInBounds i true).setIfInBounds j true) (n - 2) && planFits md ops p ((l.setIfInBounds j true).setIfInBounds i true) (n - 2)
section
variable (P : Program) (ops : Array Oper) (Q : Exit → Act → World → Prop) (S : World → Prop)
def planWp : List (Nat × Nat) → Act → World → Prop
  | [], a, w => Q .normal a w
  | (i, 0) :: p, a, w => ∃ oi v, ops[i]? = some oi ∧ YieldsIf P ops S oi v a ∧ planWp p (a.put oi.dst v) w
  | (i, 1) :: p, a, w => wpOp P ops Q i (fun a' w' => S w' ∧ planWp p a' w') a w
  | (i, j + 2) :: p, a, w => wpOp P ops Q i (fun a' w' => S w' ∧ wpOp P ops Q j (fun a' w' => S w' ∧ planWp p a' w') a' w') a w ∧
      wpOp P ops Q j (fun a' w' => S w' ∧ wpOp P ops Q i (fun a' w' => S w' ∧ planWp p a' w') a' w') a w
end
section
variable {P : Program} {ops : Array Oper} {Q : Exit → Act → World → Prop} {S : World → Prop} {md : Region.Mode}
theorem wpAnyH_one {i n : Nat} {l : Array Bool} {a : Act} {w : World} (h1 : Region.ready md ops l = [i]) (h : wpOp P ops Q i (fun a' w' => S w' ∧ wpAnyH P md ops Q S n (l.setIfInBounds i true) a' w') a w) :
    wpAnyH P md ops Q S (n + 1) l a w := by
  refine wpAnyH_all h1 (by simp) fun j hj => ?_
  obtain rfl : j = i := by simpa using hj
  exact h
theorem plan_held (hs : Region.noSelect ops = true) (hQ : ∀ c a d v w, Q (.panic c) (Act.put a d v) w → Q (.panic c) a w) :
    ∀ (p : List (Nat × Nat)) (l : Array Bool) (n : Nat) (a : Act) (w : World), planFits md ops p l n = true → S w → planWp P ops Q S p a w → wpAnyH P md ops Q S n l a w
  | [], l, n, a, w, hf, _, h => by
    simp only [planFits, Bool.and_eq_true, beq_iff_eq] at hf
    exact wpAnyH_done (by simpa using hf.1) h n
  | (i, 0) :: p, l, n, a, w, hf, hS, h => by
    simp only [planFits, Bool.and_eq_true, bne_iff_ne] at hf
    obtain ⟨⟨⟨h0, h1⟩, h2⟩, h3⟩ := hf
    obtain ⟨oi, v, e1, e2, e3⟩ := h
    obtain ⟨m, rfl⟩ : ∃ m, n = m + 1 := ⟨n - 1, by omega⟩
    exact wpAnyH_take e1 hs h1 h2 (fun c a w => hQ c a _ _ w) e2 hS (plan_held hs hQ p _ _ _ _ (by simpa using h3) hS e3)
  | (i, 1) :: p, l, n, a, w, hf, _, h => by
    simp only [planFits, Bool.and_eq_true, bne_iff_ne, beq_iff_eq] at hf
    obtain ⟨⟨h0, h1⟩, h2⟩ := hf
    obtain ⟨m, rfl⟩ : ∃ m, n = m + 1 := ⟨n - 1, by omega⟩
    exact wpAnyH_one h1 (wpOp_mono (fun a' w' h' => ⟨h'.1, plan_held hs hQ p _ _ _ _ (by simpa using h2) h'.1 h'.2⟩) h)
  | (i, j + 2) :: p, l, n, a, w, hf, _, h => by
    simp only [planFits, Bool.and_eq_true, bne_iff_ne, beq_iff_eq] at hf
    obtain ⟨⟨⟨⟨⟨⟨h0, h00⟩, h1⟩, h2⟩, h3⟩, h4⟩, h5⟩ := hf
    obtain ⟨m, rfl⟩ : ∃ m, n = m + 1 + 1 := ⟨n - 2, by omega⟩
    refine wpAnyH_all h1 (by simp) fun k hk => ?_
    have hk' : k = i ∨ k = j := by simpa using hk
    rcases hk' with rfl | rfl
    · exact wpOp_mono (fun a' w' h' => ⟨h'.1, wpAnyH_one h2 (wpOp_mono (fun a' w' h' => ⟨h'.1, plan_held hs hQ p _ _ _ _ (by simpa using h4) h'.1 h'.2⟩) h'.2)⟩) h.1
    · exact wpOp_mono (fun a' w' h' => ⟨h'.1, wpAnyH_one h3 (wpOp_mono (fun a' w' h' => ⟨h'.1, plan_held hs hQ p _ _ _ _ (by simpa using h5) h'.1 h'.2⟩) h'.2)⟩) h.2
/-- A region that draws its order, by a plan. -/
theorem region_plan {id : Nat} {a : Act} {w : World} (S : World → Prop) (p : List (Nat × Nat)) (hm : P.follows .mixedOrders = true) (hs : Region.noSelect ops = true)
    (hf : planFits .any ops p (Array.replicate ops.size false) ops.size = true) (hS : S w.drew) (h : planWp P ops (NoPanic Q) S p a w.drew) : (Code.region id ops true).wp P Q a w :=
  wp_region_noPanic (wp_region_held hm (plan_held hs (fun _ _ _ _ _ h => h.elim) p _ _ _ _ hf hS h))
theorem plan_done {a : Act} {w : World} (h : Q .normal a w) : planWp P ops (NoPanic Q) S [] a w := h
theorem plan_take {i : Nat} {p : List (Nat × Nat)} {a : Act} {w : World} {oi : Oper} {l : List Oper} {v : Value} (h0 : l[i]? = some oi) (h1 : Region.wanted oi (yielded l.toArray a.tmps) = true)
    (h2 : ∀ w, S w → (execOp a.eval oi).run P w = .ok (.value v) w) (h : planWp P l.toArray Q S p (a.put oi.dst v) w) : planWp P l.toArray Q S ((i, 0) :: p) a w :=
  ⟨oi, v, by simpa using h0, .inl ⟨h1, h2⟩, h⟩
theorem plan_skip {i : Nat} {p : List (Nat × Nat)} {a : Act} {w : World} {oi : Oper} {l : List Oper} (h0 : l[i]? = some oi) (h1 : Region.wanted oi (yielded l.toArray a.tmps) = false)
    (h : planWp P l.toArray Q S p (a.put oi.dst undef) w) : planWp P l.toArray Q S ((i, 0) :: p) a w :=
  ⟨oi, undef, by simpa using h0, .inr ⟨h1, rfl⟩, h⟩
theorem plan_op {i : Nat} {G : Act → World → Prop} {a : Act} {w : World} {oi : Oper} {l : List Oper} (h0 : l[i]? = some oi) (h1 : Region.wanted oi (yielded l.toArray a.tmps) = true)
    (h : ∀ K : Act → World → Prop, Shut (∀ a' w', S w' → G a' w' → K a' w') → Oper.wp P oi a w K Q) : wpOp P l.toArray Q i (fun a' w' => S w' ∧ G a' w') a w := by
  unfold wpOp
  have h0' : l.toArray[i]? = some oi := by simpa using h0
  simp only [h0', h1, if_true]
  exact .inl (h _ fun a' w' h1 h2 => ⟨h1, h2⟩)
theorem plan_op_skip {i : Nat} {G : Act → World → Prop} {a : Act} {w : World} {oi : Oper} {l : List Oper} (h0 : l[i]? = some oi) (h1 : Region.wanted oi (yielded l.toArray a.tmps) = false)
    (hS : S w) (h : G (a.put oi.dst undef) w) : wpOp P l.toArray Q i (fun a' w' => S w' ∧ G a' w') a w := by
  unfold wpOp
  have h0' : l.toArray[i]? = some oi := by simpa using h0
  simp only [h0', h1]
  exact ⟨hS, h⟩
theorem plan_run {i : Nat} {p : List (Nat × Nat)} {a : Act} {w : World} {oi : Oper} {l : List Oper} (h0 : l[i]? = some oi) (h1 : Region.wanted oi (yielded l.toArray a.tmps) = true)
    (h : ∀ K : Act → World → Prop, Shut (∀ a' w', S w' → planWp P l.toArray Q S p a' w' → K a' w') → Oper.wp P oi a w K Q) : planWp P l.toArray Q S ((i, 1) :: p) a w :=
  plan_op h0 h1 h
theorem plan_run_skip {i : Nat} {p : List (Nat × Nat)} {a : Act} {w : World} {oi : Oper} {l : List Oper} (h0 : l[i]? = some oi) (h1 : Region.wanted oi (yielded l.toArray a.tmps) = false)
    (hS : S w) (h : planWp P l.toArray Q S p (a.put oi.dst undef) w) : planWp P l.toArray Q S ((i, 1) :: p) a w := plan_op_skip h0 h1 hS h
end

theorem op_of_step {P : Program} {ops : Array Oper} {oi : Oper} {a : Act} {w : World} {K : Act → World → Prop} {Q : Exit → Act → World → Prop} (h1 : Region.wanted oi (yielded ops a.tmps) = true)
    (h : if Region.wanted oi (yielded ops a.tmps) = true then Oper.wp P oi a w K Q else True) : Oper.wp P oi a w K Q := by rwa [if_pos h1] at h
end Go.Proofs.Ytjjlfaknebbhfaa
