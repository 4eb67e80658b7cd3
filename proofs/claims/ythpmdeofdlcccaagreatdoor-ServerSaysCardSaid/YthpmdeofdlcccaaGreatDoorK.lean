/- Small lemmas of our own on worlds that grow. No conditions. -/
import Derived.Test.YthpmdeofdlcccaaGreatDoorRows
import Derived.WalkKit
import Derived.ProofKit
import Derived.OpenShut
import Derived.Handy
import Derived.Outline
import Derived.WalkSpells
import Derived.WalkLawsBesides
import Derived.Deep.RegionHeld3
import Derived.Deep.RegionLawGrows
import Derived.BigQuiet
import Derived.Deep.QuietTactic
import Derived.Deep.DeepFit
import Derived.Deep.DeepMust
import Derived.Deep.DeepCutAuto
import Derived.Deep.LoopGhost
import Derived.Deep.Light
import Derived.Deep.Slices
import Derived.Lib.Hide
import Derived.Lib.MinMax
import Derived.Lib.SmallJoins
import Derived.Laws.AppendOwnNone
import Derived.SizedLaws
import Derived.Maps.OwnSet
import Derived.Maps.OwnOps
import Derived.Maps.Ext
import Derived.OneCell
namespace Go.Proofs.YthpmdeofdlcccaaGreatDoor
open Go.ChangeShapes Go.WideShapes Go.ChangeAt Go.RowKit
set_option linter.unusedVariables false
theorem keep_cell {W W' : World} {p : Addr} {v : Value} (h : W.cell? p = some v) (hb : Below W.heap.size W W') : W'.cell? p = some v := (hb.cell (World.block_lt_of_cell? W _ h)).trans h
theorem keep_frozen {W W' : World} {p : Addr} {v : Value} {c : Bool} (h : W.frozen? p = c) (hc : W.cell? p = some v) (hb : Below W.heap.size W W') : W'.frozen? p = c := (hb.frozen (World.block_lt_of_cell? W _ hc)).trans h
theorem keep_below {B : Nat} {W0 W W' : World} (h : Below B W0 W) (hs : B ≤ W.heap.size) (hb : Below W.heap.size W W') : Below B W0 W' := h.trans (hb.mono hs)
/-- a plan for a region that draws its order: (i, 0): number i is taken first; (i, 1): it is carried out; (i, j + 2): i and j, in either order -/
def planFits (md : Region.Mode) (ops : Array Oper) : List (Nat × Nat) → Array Bool → Nat → Bool
  | [], l, n => (Region.ready md ops l).isEmpty && n == 0
  | (i, 0) :: p, l, n => n != 0 && Region.free md ops l i && (Region.ready md ops l).contains i && planFits md ops p (l.setIfInBounds i true) (n - 1)
  | (i, 1) :: p, l, n => n != 0 && (Region.ready md ops l == [i]) && planFits md ops p (l.setIfInBounds i true) (n - 1)
  | (i, j + 2) :: p, l, n => n != 0 && n != 1 && (Region.ready md ops l == [i, j]) && (Region.ready md ops (l.setIfInBounds i true) == [j]) && (Region.ready md ops (l.setIfInBounds j true) == [i]) &&
      planFits md ops p ((l.setIfInBounds i true).setIfInBounds j true) (n - 2) && planFits md ops p ((l.setIfInBounds j true).setIfInBounds i true) (n - 2)
section
variable (P : Program) (ops : Array Oper) (Q : Exit → Act → World → Prop) (S : World → Prop)
def planWp : List (Nat × Nat) → Act → World → Prop
  | [], a, w => Q .normal a w
  | (i, 0) :: p, a, w => ∃ oi v, ops[i]? = some oi ∧ YieldsIf P ops S oi v a ∧ planWp p (a.put oi.dst v) w
  | (i, 1) :: p, a, w => wpOp P ops Q i (fun a' w' => S w' ∧ planWp p a' w') a w
  | (i, j + 2) :: p, a, w => wpOp P ops Q i (fun a' w' => S w' ∧ wpOp P ops Q j (fun a' w' => S w' ∧ planWp p a' w') a' w') a w ∧
      wpOp P ops Q j (fun a' w' => S w' ∧ wpOp P ops Q i (fun a' w' => S w' ∧ planWp p a' w') a' w') a w
end
section
variable {P : Program} {ops : Array Oper} {Q : Exit → Act → World → Prop} {S : World → Prop} {md : Region.Mode}
theorem wpAnyH_one {i n : Nat} {l : Array Bool} {a : Act} {w : World} (h1 : Region.ready md ops l = [i]) (h : wpOp P ops Q i (fun a' w' => S w' ∧ wpAnyH P md ops Q S n (l.setIfInBounds i true) a' w') a w) :
    wpAnyH P md ops Q S (n + 1) l a w := by
  refine wpAnyH_all h1 (by simp) fun j hj => ?_
  obtain rfl : j = i := by simpa using hj
  exact h
theorem plan_held (hs : Region.noSelect ops = true) (hQ : ∀ c a d v w, Q (.panic c) (Act.put a d v) w → Q (.panic c) a w) :
    ∀ (p : List (Nat × Nat)) (l : Array Bool) (n : Nat) (a : Act) (w : World), planFits md ops p l n = true → S w → planWp P ops Q S p a w → wpAnyH P md ops Q S n l a w
  | [], l, n, a, w, hf, _, h => by
    simp only [planFits, Bool.and_eq_true, beq_iff_eq] at hf
    exact wpAnyH_done (by simpa using hf.1) h n
  | (i, 0) :: p, l, n, a, w, hf, hS, h => by
    simp only [planFits, Bool.and_eq_true, bne_iff_ne] at hf
    obtain ⟨⟨⟨h0, h1⟩, h2⟩, h3⟩ := hf
    obtain ⟨oi, v, e1, e2, e3⟩ := h
    obtain ⟨m, rfl⟩ : ∃ m, n = m + 1 := ⟨n - 1, by omega⟩
    exact wpAnyH_take e1 hs h1 h2 (fun c a w => hQ c a _ _ w) e2 hS (plan_held hs hQ p _ _ _ _ (by simpa using h3) hS e3)
  | (i, 1) :: p, l, n, a, w, hf, _, h => by
    simp only [planFits, Bool.and_eq_true, bne_iff_ne, beq_iff_eq] at hf
    obtain ⟨⟨h0, h1⟩, h2⟩ := hf
    obtain ⟨m, rfl⟩ : ∃ m, n = m + 1 := ⟨n - 1, by omega⟩
    exact wpAnyH_one h1 (wpOp_mono (fun a' w' h' => ⟨h'.1, plan_held hs hQ p _ _ _ _ (by simpa using h2) h'.1 h'.2⟩) h)
  | (i, j + 2) :: p, l, n, a, w, hf, _, h => by
    simp only [planFits, Bool.and_eq_true, bne_iff_ne, beq_iff_eq] at hf
    obtain ⟨⟨⟨⟨⟨⟨h0, h00⟩, h1⟩, h2⟩, h3⟩, h4⟩, h5⟩ := hf
    obtain ⟨m, rfl⟩ : ∃ m, n = m + 1 + 1 := ⟨n - 2, by omega⟩
    refine wpAnyH_all h1 (by simp) fun k hk => ?_
    have hk' : k = i ∨ k = j := by simpa using hk
    rcases hk' with rfl | rfl
    · exact wpOp_mono (fun a' w' h' => ⟨h'.1, wpAnyH_one h2 (wpOp_mono (fun a' w' h' => ⟨h'.1, plan_held hs hQ p _ _ _ _ (by simpa using h4) h'.1 h'.2⟩) h'.2)⟩) h.1
    · exact wpOp_mono (fun a' w' h' => ⟨h'.1, wpAnyH_one h3 (wpOp_mono (fun a' w' h' => ⟨h'.1, plan_held hs hQ p _ _ _ _ (by simpa using h5) h'.1 h'.2⟩) h'.2)⟩) h.2
/-- A region that draws its order, by a plan. -/
theorem region_plan {id : Nat} {a : Act} {w : World} (S : World → Prop) (p : List (Nat × Nat)) (hm : P.follows .mixedOrders = true) (hs : Region.noSelect ops = true)
    (hf : planFits .any ops p (Array.replicate ops.size false) ops.size = true) (hS : S w.drew) (h : planWp P ops (NoPanic Q) S p a w.drew) : (Code.region id ops true).wp P Q a w :=
  wp_region_noPanic (wp_region_held hm (plan_held hs (fun _ _ _ _ _ h => h.elim) p _ _ _ _ hf hS h))
theorem plan_done {a : Act} {w : World} (h : Q .normal a w) : planWp P ops (NoPanic Q) S [] a w := h
theorem plan_take {i : Nat} {p : List (Nat × Nat)} {a : Act} {w : World} {oi : Oper} {l : List Oper} {v : Value} (h0 : l[i]? = some oi) (h1 : Region.wanted oi (yielded l.toArray a.tmps) = true)
    (h2 : ∀ w, S w → (execOp a.eval oi).run P w = .ok (.value v) w) (h : planWp P l.toArray Q S p (a.put oi.dst v) w) : planWp P l.toArray Q S ((i, 0) :: p) a w :=
  ⟨oi, v, by simpa using h0, .inl ⟨h1, h2⟩, h⟩
theorem plan_skip {i : Nat} {p : List (Nat × Nat)} {a : Act} {w : World} {oi : Oper} {l : List Oper} (h0 : l[i]? = some oi) (h1 : Region.wanted oi (yielded l.toArray a.tmps) = false)
    (h : planWp P l.toArray Q S p (a.put oi.dst undef) w) : planWp P l.toArray Q S ((i, 0) :: p) a w :=
  ⟨oi, undef, by simpa using h0, .inr ⟨h1, rfl⟩, h⟩
theorem plan_op {i : Nat} {G : Act → World → Prop} {a : Act} {w : World} {oi : Oper} {l : List Oper} (h0 : l[i]? = some oi) (h1 : Region.wanted oi (yielded l.toArray a.tmps) = true)
    (h : ∀ K : Act → World → Prop, Shut (∀ a' w', S w' → G a' w' → K a' w') → Oper.wp P oi a w K Q) : wpOp P l.toArray Q i (fun a' w' => S w' ∧ G a' w') a w := by
  unfold wpOp
  have h0' : l.toArray[i]? = some oi := by simpa using h0
  simp only [h0', h1, if_true]
  exact .inl (h _ fun a' w' h1 h2 => ⟨h1, h2⟩)
theorem plan_op_skip {i : Nat} {G : Act → World → Prop} {a : Act} {w : World} {oi : Oper} {l : List Oper} (h0 : l[i]? = some oi) (h1 : Region.wanted oi (yielded l.toArray a.tmps) = false)
    (hS : S w) (h : G (a.put oi.dst undef) w) : wpOp P l.toArray Q i (fun a' w' => S w' ∧ G a' w') a w := by
  unfold wpOp
  have h0' : l.toArray[i]? = some oi := by simpa using h0
  simp only [h0', h1]
  exact ⟨hS, h⟩
theorem plan_run {i : Nat} {p : List (Nat × Nat)} {a : Act} {w : World} {oi : Oper} {l : List Oper} (h0 : l[i]? = some oi) (h1 : Region.wanted oi (yielded l.toArray a.tmps) = true)
    (h : ∀ K : Act → World → Prop, Shut (∀ a' w', S w' → planWp P l.toArray Q S p a' w' → K a' w') → Oper.wp P oi a w K Q) : planWp P l.toArray Q S ((i, 1) :: p) a w :=
  plan_op h0 h1 h
theorem plan_run_skip {i : Nat} {p : List (Nat × Nat)} {a : Act} {w : World} {oi : Oper} {l : List Oper} (h0 : l[i]? = some oi) (h1 : Region.wanted oi (yielded l.toArray a.tmps) = false)
    (hS : S w) (h : planWp P l.toArray Q S p (a.put oi.dst undef) w) : planWp P l.toArray Q S ((i, 1) :: p) a w := plan_op_skip h0 h1 hS h
end

theorem op_of_step {P : Program} {ops : Array Oper} {oi : Oper} {a : Act} {w : World} {K : Act → World → Prop} {Q : Exit → Act → World → Prop} (h1 : Region.wanted oi (yielded ops a.tmps) = true)
    (h : if Region.wanted oi (yielded ops a.tmps) = true then Oper.wp P oi a w K Q else True) : Oper.wp P oi a w K Q := by rwa [if_pos h1] at h
/- lemmas of our own on rows, blocks and frames -/
instance lawfulBA : LawfulBEq ByteArray where
  eq_of_beq {a b} h := by
    have : (a.data == b.data) = true := h
    cases a; cases b; simp at this; simp [this]
  rfl {a} := by
    show (a.data == a.data) = true
    simp
theorem bd {a : Int} (h : (Lit.int .i64 a).wf = true) : -9223372036854775808 ≤ a ∧ a ≤ 9223372036854775807 := by
  exact bounds_i64 h
theorem below_drewN {B : Nat} {a w : World} (h : Below B a w) (n : Nat) : Below B a (w.drewN n) := ⟨h.os, h.tape, h.output, h.size, h.block⟩
theorem grown_below {W w' : World} (h : W.grownBy w' none) : Below W.heap.size W w' := ⟨h.os, h.tape, h.output, h.size, fun k hk => h.block k hk (by simp)⟩
theorem own_keep {w w' : World} {base e size n : Nat} {v : Value} {xs : List Value} (h : w.ownsRow base e size v n xs) (hb : Below w.heap.size w w') : w'.ownsRow base e size v n xs := by
  obtain ⟨h1, h2⟩ := h
  refine ⟨h1, h2.imp id ?_⟩
  rintro ⟨g, cap, cur, hv, hg, hh, r⟩
  refine ⟨g, cap, cur, hv, hg, ?_, r⟩
  rw [hb.block g ?_]
  · exact hh
  · rcases Nat.lt_or_ge g w.heap.size with h | h
    · exact h
    · rw [Array.getElem?_eq_none h] at hh; cases hh
theorem own_base {w : World} {base e size n : Nat} {v : Value} {xs : List Value} (h : w.ownsRow base e size v n xs) : ∀ k, v.ownBlock = some k → base ≤ k := by
  obtain ⟨h1, ⟨rfl, _⟩ | ⟨g, cap, cur, rfl, hg, hh, r⟩⟩ := h
  · intro k hk; cases hk
  · intro k hk; cases hk; exact hg
theorem own_lt {w : World} {base e size n B : Nat} {v : Value} {xs : List Value} (h : w.ownsRow base e size v n xs) (hB : w.heap.size ≤ B) : ∀ k, v.ownBlock = some k → k < B := by
  obtain ⟨h1, ⟨rfl, _⟩ | ⟨g, cap, cur, rfl, hg, hh, r⟩⟩ := h
  · intro k hk; cases hk
  · intro k hk
    cases hk
    show g < B
    rcases Nat.lt_or_ge g w.heap.size with h | h
    · omega
    · rw [Array.getElem?_eq_none h] at hh; cases hh
theorem own_facts {w : World} {base e n : Nat} {v : Value} {xs : List Value} (h : w.ownsRow base e 1 v n xs) (hn : 0 < n) :
    ∃ g cap, v = .slice (some ⟨g, 0, none⟩) n cap ∧ base ≤ g ∧ g < w.heap.size ∧ n ≤ cap ∧ cap ≤ 9223372036854775807 ∧ ∀ j u, xs[j]? = some u → w.cell? ⟨g, j, none⟩ = some u := by
  obtain ⟨hl, h2⟩ := h
  rcases h2 with ⟨_, h0⟩ | ⟨g, cap, cur, hv, hg, hh, h3, h4, h5, h6⟩
  · omega
  · refine ⟨g, cap, hv, hg, ?_, h3, by unfold maxLen at h4; omega, fun j u hj => ?_⟩
    · rcases Nat.lt_or_ge g w.heap.size with h | h
      · exact h
      · rw [Array.getElem?_eq_none h] at hh; cases hh
    · rw [← h6] at hj
      have hj' : cur[j]? = some u := by
        rw [List.getElem?_take] at hj
        split at hj
        · simpa using hj
        · cases hj
      simp [World.cell?, hh, hj']
theorem one_new (w : World) (u : Value) (t : TypeId) : ∀ j x, [u][j]? = some x → (w.alloc (.cells #[u] t)).cell? ((⟨w.heap.size, 0, none⟩ : Addr).add j) = some x := by
  intro j x hj
  match j, hj with
  | 0, hj => simp at hj; subst hj; simp [go_sem]
/-- nothing has turned but new blocks and the blocks of S -/
structure Chg (S : Nat → Prop) (w w' : World) : Prop where
  os : w'.os = w.os
  tape : w'.tape = w.tape
  output : w'.output = w.output
  size : w.heap.size ≤ w'.heap.size
  block : ∀ k, k < w.heap.size → ¬ S k → w'.heap[k]? = w.heap[k]?
theorem Chg.refl (S : Nat → Prop) (w : World) : Chg S w w := ⟨rfl, rfl, rfl, Nat.le_refl _, fun _ _ _ => rfl⟩
theorem Chg.trans {S : Nat → Prop} {a b c : World} (h : Chg S a b) (k : Chg S b c) : Chg S a c :=
  ⟨k.os.trans h.os, k.tape.trans h.tape, k.output.trans h.output, Nat.le_trans h.size k.size, fun i hi hs => (k.block i (Nat.lt_of_lt_of_le hi h.size) hs).trans (h.block i hi hs)⟩
theorem Chg.mono {S T : Nat → Prop} {w w' : World} (h : Chg S w w') (hs : ∀ k, k < w.heap.size → S k → T k) : Chg T w w' := ⟨h.os, h.tape, h.output, h.size, fun k hk ht => h.block k hk fun s => ht (hs k hk s)⟩
theorem Below.chg {B : Nat} {w w' : World} (h : Below B w w') (S : Nat → Prop) (hS : ∀ k, B ≤ k → k < w.heap.size → S k) : Chg S w w' :=
  ⟨h.os, h.tape, h.output, h.size, fun k hk hs => h.block k (Nat.lt_of_not_le fun hb => hs (hS k hb hk))⟩
theorem chg_of_below {w w' : World} (h : Below w.heap.size w w') (S : Nat → Prop) : Chg S w w' := Below.chg h S fun k hb hk => absurd hk (by omega)
theorem Chg.below {S : Nat → Prop} {B : Nat} {w w' : World} (h : Chg S w w') (hB : B ≤ w.heap.size) (hS : ∀ k, S k → B ≤ k) : Below B w w' :=
  ⟨h.os, h.tape, h.output, h.size, fun k hk => h.block k (by omega) fun s => by have := hS k s; omega⟩
theorem chg_grown {w w' : World} {row : Option Nat} (h : w.grownBy w' row) : Chg (fun k => some k = row) w w' := ⟨h.os, h.tape, h.output, h.size, fun k hk hs => h.block k hk hs⟩
theorem chg_set {w : World} {p : Addr} (u : Value) : Chg (fun k => k = p.block) w (w.setCell p u) := ⟨rfl, rfl, rfl, by simp [World.setCell], fun k _ hs => Below.heap_setCell _ _ _ _ hs⟩
theorem chg_alloc (S : Nat → Prop) (w : World) (o : Obj) : Chg S w (w.alloc o) := chg_of_below (((Below.refl _ _).alloc (Nat.le_refl _) _)) S
theorem heap_lt {w : World} {k : Nat} {o : Obj} (h : w.heap[k]? = some o) : k < w.heap.size := (Array.getElem?_eq_some_iff.1 h).1
theorem Chg.heap {S : Nat → Prop} {w w' : World} {k : Nat} {o : Obj} (h : Chg S w w') (hk : w.heap[k]? = some o) (hs : ¬ S k) : w'.heap[k]? = some o := (h.block k (heap_lt hk) hs).trans hk
theorem Chg.cell {S : Nat → Prop} {w w' : World} {p : Addr} {v : Value} (h : Chg S w w') (hc : w.cell? p = some v) (hs : ¬ S p.block) : w'.cell? p = some v :=
  (World.cell?_of_block (w := w) (h.block _ (World.block_lt_of_cell? w _ hc) hs)).trans hc
theorem keep_heap {w w' : World} {k : Nat} {o : Obj} (h : w.heap[k]? = some o) (hb : Below w.heap.size w w') : w'.heap[k]? = some o := (hb.block k (heap_lt h)).trans h
theorem own_chg {S : Nat → Prop} {w w' : World} {base e size n : Nat} {v : Value} {xs : List Value} (h : w.ownsRow base e size v n xs) (hc : Chg S w w') (hs : ∀ k, v.ownBlock = some k → ¬ S k) : w'.ownsRow base e size v n xs := by
  obtain ⟨h1, h2⟩ := h
  refine ⟨h1, h2.imp id ?_⟩
  rintro ⟨g, cap, cur, hv, hg, hh, r⟩
  exact ⟨g, cap, cur, hv, hg, hc.heap hh (hs g (by rw [hv]; rfl)), r⟩
/-- the block of a row bears the row's type -/
theorem own_type {w : World} {base e size n : Nat} {v : Value} {xs : List Value} (h : w.ownsRow base e size v n xs) : ∀ k, v.ownBlock = some k → ∃ cur, w.heap[k]? = some (.cells cur e (0, 0)) := by
  obtain ⟨h1, ⟨rfl, _⟩ | ⟨g, cap, cur, rfl, hg, hh, r⟩⟩ := h
  · intro k hk; cases hk
  · intro k hk; cases hk; exact ⟨cur, hh⟩
theorem map_chg {S : Nat → Prop} {w w' : World} {H : Type} {P : Program} {k : TypeId} {R : Value → Option (DataW H × List MemPlace)} {b n : Nat} {D : DataW H} (h : w.ownsMap P k R b n D) (hc : Chg S w w') (hs : ¬ S b) : w'.ownsMap P k R b n D := by
  obtain ⟨es, clock, hb, r⟩ := h
  exact ⟨es, clock, hc.heap hb hs, r⟩
theorem map_obj {w : World} {H : Type} {P : Program} {k : TypeId} {R : Value → Option (DataW H × List MemPlace)} {b n : Nat} {D : DataW H} (h : w.ownsMap P k R b n D) : ∃ es clock, w.heap[b]? = some (.map es clock) := by
  obtain ⟨es, clock, hb, r⟩ := h
  exact ⟨es, clock, hb⟩
theorem cells_at {w : World} {b : Nat} {cs : Array Value} {e : TypeId} (h : w.heap[b]? = some (.cells cs e (0, 0))) (i : Nat) (v : Value) (hv : cs[i]? = some v) : w.cell? ⟨b, i, none⟩ = some v ∧ w.frozen? ⟨b, i, none⟩ = false := by
  simp [World.cell?, World.frozen?, h, hv]
theorem set_at {w : World} {b i : Nat} {cs : Array Value} {e : TypeId} (h : w.heap[b]? = some (.cells cs e (0, 0))) (u : Value) : (w.setCell ⟨b, i, none⟩ u).heap[b]? = some (.cells (cs.setIfInBounds i u) e (0, 0)) := by
  simp [World.setCell, Array.getElem?_modify, h]
/-- a slice value that reads as a list of values, each of one cell -/
def SlV (w : World) (v : Value) (xs : List Value) : Prop :=
  ∃ ao cap, v = .slice ao xs.length cap ∧ xs.length ≤ cap ∧ cap ≤ 9223372036854775807 ∧ (xs = [] ∨ ∃ b off, ao = some ⟨b, off, none⟩ ∧ b < w.heap.size ∧ ∀ i u, xs[i]? = some u → w.cell? ⟨b, off + i, none⟩ = some u)
theorem SlV.keep {w w' : World} {v : Value} {xs : List Value} (h : SlV w v xs) (hb : Below w.heap.size w w') : SlV w' v xs := by
  obtain ⟨ao, cap, h1, h2, h3, h4⟩ := h
  refine ⟨ao, cap, h1, h2, h3, h4.imp id ?_⟩
  rintro ⟨b, off, e1, e2, e4⟩
  exact ⟨b, off, e1, Nat.lt_of_lt_of_le e2 hb.size, fun i u hi => keep_cell (e4 i u hi) hb⟩
theorem SlV_own {w : World} {base e n : Nat} {v : Value} {xs : List Value} (h : w.ownsRow base e 1 v n xs) (hn : n = xs.length) : SlV w v xs := by
  subst hn
  rcases Nat.eq_zero_or_pos xs.length with h0 | h0
  · obtain rfl := List.eq_nil_of_length_eq_zero h0
    obtain ⟨_, ⟨rfl, _⟩ | ⟨g, cap, cur, rfl, hg, hh, h3, h4, r⟩⟩ := h
    · exact ⟨none, 0, rfl, Nat.le_refl _, by omega, .inl rfl⟩
    · exact ⟨_, cap, rfl, by simp, by unfold maxLen at h4; omega, .inl rfl⟩
  · obtain ⟨g, cap, e1, e2, e3, e4, e5, e6⟩ := own_facts h h0
    exact ⟨_, cap, e1, e4, e5, .inr ⟨g, 0, rfl, e3, fun i u hi => by simpa using e6 i u hi⟩⟩
theorem SlV.at {w : World} {ao : Option Addr} {n cap : Nat} {xs : List Value} (h : SlV w (.slice ao n cap) xs) {i : Nat} {u : Value} (hi : xs[i]? = some u) : ∃ b off, ao = some ⟨b, off, none⟩ ∧ b < w.heap.size ∧ w.cell? ⟨b, off + i, none⟩ = some u := by
  obtain ⟨ao', cap', h1, h2, h3, h4⟩ := h
  injection h1 with e1 e2 e3
  subst e1
  rcases h4 with rfl | ⟨b, off, e1, e2, e4⟩
  · simp at hi
  · exact ⟨b, off, e1, e2, e4 i u hi⟩
section
variable {P : Program} {w : World}
theorem own_slice {w : World} {base e size n : Nat} {v : Value} {xs : List Value} (h : w.ownsRow base e size v n xs) : ∃ ao c, v = .slice ao n c := by
  obtain ⟨h1, ⟨rfl, rfl⟩ | ⟨g, cap, cur, rfl, hg, hh, r⟩⟩ := h
  · exact ⟨_, _, rfl⟩
  · exact ⟨_, _, rfl⟩
theorem str_ne {s t : ByteArray} (h : s ≠ t) : (s.toList == t.toList) = false := by
  rw [beq_eq_false_iff_ne]
  intro e
  rw [ByteArray.toList_eq, ByteArray.toList_eq] at e
  exact h (bytes_inj e)
theorem str_beq (s t : ByteArray) : (s.toList == t.toList) = (s == t) := by
  by_cases h : s = t
  · subst h; simp
  · rw [str_ne h]; simp [h]
theorem str_ne_of {s : ByteArray} {l : List UInt8} (h : s ≠ ⟨l.toArray⟩) : (s.toList == l) = false ∧ ¬ s.toList = l := by
  have : ¬ s.toList = l := by
    intro e
    apply h
    apply bytes_inj
    rw [ByteArray.toList_eq] at e
    simpa using e
  exact ⟨by rw [beq_eq_false_iff_ne]; exact this, this⟩
/-- the walk is halted: behind it 'refine Lib.hid ?_' -/
theorem stop_here {p : Prop} (h : Hid p) : p := h.out
/-- where the row lies behind an append: where it lay, or in the next new block -/
theorem run_append_where (base : Nat) (t ty e : TypeId) (i : TypeInfo) (z : Value) (size bytes : Nat) (ht : P.underlying t = some (.slice e)) (hi : P.info? e = some i) (hz : i.zero = some z)
    (hsize : i.size = size) (hby : i.bytes = bytes) (v : Value) (n : Nat) (xs : List Value) (hown : w.ownsRow base e size v n xs)
    (a : Addr) (m c : Nat) (news : List Value) (hl : news.length = m * size) (hnews : ∀ j u, news[j]? = some u → w.cell? (a.add j) = some u) (h1 : ∀ u ∈ news, u.oneCell' = true)
    (h63 : n + m ≤ maxLen) (hbytes : (n + m) * bytes ≤ 140737488355328) (v' : Value) (w' : World) (hr : (Builtin.append_ #[t, t] ty #[v, .slice (some a) m c]).run P w = .ok v' w') :
    v'.ownBlock = v.ownBlock ∨ v'.ownBlock = some w.heap.size := by
  subst hsize
  subst hby
  have hsmall : n + m ≤ 9223372036854775807 := by simp only [maxLen] at h63; omega
  rcases hown.2 with ⟨rfl, rfl⟩ | ⟨g, cap, cur, rfl, hbg, hg, hnc, hcm, hcs, htake⟩
  · by_cases hm : m = 0
    · subst hm
      have hn : news = [] := List.eq_nil_of_length_eq_zero (by simpa using hl)
      subst hn
      have hr2 : (Builtin.append_ #[t, t] ty #[.slice none 0 0, .slice (some a) 0 c]).run P w = .ok (.slice none 0 0) w := by
        simp [Builtin.append_, run_underlying ht, sizeOf, typeInfo, hi, Builtin.lenOf, Builtin.firstCells, loadCells, loadCellsFrom]
      rw [hr2] at hr
      injection hr with e1 e2
      subst e1
      exact .inl rfl
    · have hr2 := run_append_nil (P := P) w t ty e i z ht hi hz a m c news hl hnews (by omega) (by omega) (by have hb := hbytes; simp only [Nat.zero_add] at hb; omega)
      rw [hr2] at hr
      injection hr with e1 e2
      subst e1
      exact .inr rfl
  · by_cases hroom : n + m ≤ cap
    · have hfit : n * i.size + news.length ≤ cur.size := by rw [hl, hcs, ← Nat.add_mul]; exact Nat.mul_le_mul_right _ hroom
      have hr2 := run_append_room (P := P) w t ty e i ht hi g n cap cur hg a m c news hl hnews h1 hroom hfit
      rw [hr2] at hr
      injection hr with e1 e2
      subst e1
      exact .inl rfl
    · have holds : ∀ j u, xs[j]? = some u → w.cell? ((⟨g, 0, none⟩ : Addr).add j) = some u := hown.cells (g := g) rfl
      have hr2 := run_append_grow (P := P) w t ty e i z ht hi hz ⟨g, 0, none⟩ n cap xs hown.1 holds a m c news hl hnews (by omega) (by omega) (growslice_fits (by omega) hbytes)
      rw [hr2] at hr
      injection hr with e1 e2
      subst e1
      exact .inr rfl
theorem wpList_append_own2 {ops : Array Oper} {rest : List Oper} {o : Oper} {a : Act} {Q : Exit → Act → World → Prop} (hgd : o.guard = none) (s x : Operand) (t : TypeId)
    (ho : o.op = .call { callee := .builtin .append, args := #[s, x], argTypes := #[t, t] })
    (base : Nat) (e : TypeId) (i : TypeInfo) (z : Value) (size bytes : Nat) (ht : P.underlying t = some (.slice e)) (hi : P.info? e = some i) (hz : i.zero = some z)
    (hsize : i.size = size) (hby : i.bytes = bytes) (hzs : z.cells.size = size) (hsz : 0 < size)
    (v : Value) (n : Nat) (xs : List Value) (hs : a.eval s = v) (hown : w.ownsRow base e size v n xs)
    (ad : Addr) (m c : Nat) (news : List Value) (hx : a.eval x = .slice (some ad) m c) (hl : news.length = m * size) (hnews : ∀ j u, news[j]? = some u → w.cell? (ad.add j) = some u) (h1 : ∀ u ∈ news, u.oneCell' = true)
    (h63 : n + m ≤ maxLen) (hbytes : (n + m) * bytes ≤ 140737488355328) (hbase : base ≤ w.heap.size)
    (h : ∀ v' w', w'.ownsRow base e size v' (n + m) (xs ++ news) → w.grownBy w' v.ownBlock → (v'.ownBlock = v.ownBlock ∨ v'.ownBlock = some w.heap.size) → wpList P ops Q rest (a.put o.dst v') w') : wpList P ops Q (o :: rest) a w := by
  refine wpList_plain hgd fun _ hK => ?_
  obtain ⟨v', w', hr, h2, h3, h4⟩ := run_append_own (P := P) w base t o.type e i z size bytes ht hi hz hsize hby hzs hsz v n xs hown ad m c news hl hnews h1 h63 hbytes hbase
  have h5 := run_append_where (P := P) base t o.type e i z size bytes ht hi hz hsize hby v n xs hown ad m c news hl hnews h1 h63 hbytes v' w' hr
  unfold Oper.wp execOp
  simp only [ho, resolve, invoke, builtin, Sem.run_bind, Sem.run_pure, Result.andThen_ok, List.map_toArray, List.map_cons, List.map_nil, hs, hx, hr]
  exact hK _ _ (h v' w' h2 h3 h5)
end
theorem heap_new (w : World) (o : Obj) : (w.alloc o).heap[w.heap.size]? = some o := (MapKept.heap_alloc w o).1
theorem heap_old {w : World} {k : Nat} {x : Obj} (h : w.heap[k]? = some x) (o : Obj) : (w.alloc o).heap[k]? = some x := (Below.heap_alloc w o k (heap_lt h)).trans h
def IsPost (w : World) (b : Bool) (x : Ending) (w' : World) : Prop := x = .returned (.bool b) ∧ Below w.heap.size w w'
def SameB (w : World) (v : Bool) (e : Ending) (w' : World) : Prop := e = .returned (.bool v) ∧ w = w'

def IntPost (w : World) (n : Int) (e : Ending) (w' : World) : Prop := e = .returned (.int .i64 n) ∧ Below w.heap.size w w'
theorem own_lower {w : World} {base b2 e size n : Nat} {v : Value} {xs : List Value} (h : w.ownsRow base e size v n xs) (hb : b2 ≤ base) : w.ownsRow b2 e size v n xs := by
  obtain ⟨h1, h2⟩ := h
  refine ⟨h1, h2.imp id ?_⟩
  rintro ⟨g, cap, cur, hv, hg, r⟩
  exact ⟨g, cap, cur, hv, by omega, r⟩
theorem Chg.grow {S T : Nat → Prop} {a b c : World} (h : Chg S a b) (k : Chg T b c) (hT : ∀ i, i < a.heap.size → T i → S i) : Chg S a c :=
  ⟨k.os.trans h.os, k.tape.trans h.tape, k.output.trans h.output, Nat.le_trans h.size k.size, fun i hi hs => (k.block i (Nat.lt_of_lt_of_le hi h.size) (fun t => hs (hT i hi t))).trans (h.block i hi hs)⟩
theorem chg_setRow (w : World) (g : Nat) (cs : Array Value) : Chg (fun k => k = g) w (w.setRow g cs) := ⟨rfl, rfl, rfl, by simp, fun k _ hk => setRow_other _ _ _ _ hk⟩
theorem bel_setRow {B g : Nat} {w0 w : World} (hb : Below B w0 w) (hs : B ≤ w.heap.size) (hg : B ≤ g) (cs : Array Value) : Below B w0 (w.setRow g cs) :=
  hb.trans ((chg_setRow w g cs).below hs (fun k e => by omega))
theorem stop_op {P : Program} {ops : Array Oper} {Q : Exit → Act → World → Prop} {o : Oper} {rest : List Oper} {a : Act} {w : World} (h : Hid (wpList P ops Q (o :: rest) a w)) : wpList P ops Q (o :: rest) a w := h.out
theorem setRow_alloc (W : World) (zs cs : Array Value) (t : TypeId) : (W.alloc (.cells zs t)).setRow W.heap.size cs = W.alloc (.cells cs t) := by
  have h1 := setRow_heap (W.alloc (.cells zs t)) W.heap.size zs cs t (0, 0) (heap_new W _)
  have h2 : ((W.alloc (.cells zs t)).setRow W.heap.size cs).heap = (W.alloc (.cells cs t)).heap := by
    apply Array.ext_getElem?
    intro i
    by_cases hi : i = W.heap.size
    · subst hi
      rw [h1, heap_new]
    · rw [setRow_other _ _ _ _ hi]
      rcases Nat.lt_or_ge i W.heap.size with h | h
      · rw [Below.heap_alloc _ _ _ h, Below.heap_alloc _ _ _ h]
      · rw [Array.getElem?_eq_none (by simp; omega), Array.getElem?_eq_none (by simp; omega)]
  have h3 : (W.alloc (.cells zs t)).setRow W.heap.size cs = { (W.alloc (.cells cs t)) with heap := ((W.alloc (.cells zs t)).setRow W.heap.size cs).heap } := rfl
  rw [h3, h2]
section
variable {P : Program}
theorem wpList_store_new {ops : Array Oper} {rest : List Oper} {o : Oper} {a : Act} {W : World} {zs : Array Value} {T : TypeId} {Q : Exit → Act → World → Prop} (hgd : o.guard = none) (ty : TypeId) (x y : Operand) (ho : o.op = .store ty x y)
    (cells : Array Value) (hx : a.eval x = .pointer (some ⟨W.heap.size, 0, none⟩)) (hy : a.eval y = .agg cells) (hi : (P.info? ty).map (·.size) = some cells.size) (hold : zs.size = cells.size) (h1 : cells.all (·.oneCell') = true)
    (h : wpList P ops Q rest (a.put o.dst undef) (W.alloc (.cells cells T))) : wpList P ops Q (o :: rest) a (W.alloc (.cells zs T)) := by
  refine wpList_store_row hgd ty x y ho W.heap.size cells hx hy T zs (heap_new W _) hi hold h1 ?_
  rw [setRow_alloc]
  exact h
end
end Go.Proofs.YthpmdeofdlcccaaGreatDoor
