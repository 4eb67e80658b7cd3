/- a loop over an iterator that writes cells of its own; the caller's invariant is the one that the iterator keeps. No conditions. -/
import Derived.Test.YtfbohajojaaiaaaDoorK
import Derived.RangeFuncWrites
import Derived.RangeFuncNested
import Derived.RangeFuncBound
import Derived.RangeFuncCalls
import Derived.RangeFuncLeaves
import Derived.Shelf.Abstract
import Derived.Shelf.RegionOpen
import Derived.OwnWalkIn
import Derived.TacticsInMore
import Derived.LoopNIn
import Derived.LoopIn
import Derived.RangeFuncBox
namespace Go.Proofs.YtfbohajojaaiaaaDoor
open Go.ChangeShapes Go.WideShapes Go.ChangeAt Go.RowKit
set_option linter.unusedVariables false
/-- how the body of a round is left -/
def RfPost {α : Type} (B : Nat) (I : List α → World → Prop) (Ix : Code → List α → World → Prop) (xs : List α) (W : World) : Exit → Act → World → Prop
  | .normal, _, W' => KeepsFrom B W W' ∧ I xs W'
  | .ret, _, W' => KeepsFrom B W W' ∧ Ix .ret xs W'
  | .exit id, _, W' => KeepsFrom B W W' ∧ Ix (.exit id) xs W'
  | .goto t, _, W' => KeepsFrom B W W' ∧ Ix (.goto t) xs W'
  | .panic _, _, _ => False
  | .outgrown, _, _ => False
/-- what holds of a world still holds when a block from B on, that is no cells, has turned -/
def Firm {β : Type} (B : Nat) (I : β → World → Prop) : Prop := ∀ s W l o o', B ≤ l → W.heap[l]? = some o → o.isCells = false → I s W → I s (W.putObj l o')
theorem rf_law {F : Fence} {n : Nat} {P : Program} {α : Type} {g : Operand} {ps : Array Tmp} {assign body : Code} {Q : Exit → Act → World → Prop} {a : Act} {w : World}
    (hro : F.round = none) (h1 : 1 ≤ n) {gf : Nat} {lb : Array Value} (hg : a.eval g = .func (.func gf) #[] lb) (hFg : F.fn gf) (eg : ∀ args w, (callFunc gf args).run P w = .ok (.enter gf args) w)
    {encs : α → Array Value} (hps : ∀ x, (encs x).size = ps.size)
    (I : List α → World → Prop) (Ix : Code → List α → World → Prop) (S : List α → World → Prop) (Sp : List α → Prop) (N : Nat) (A : List α → α → Act → World → Prop)
    (hI : Firm w.heap.size I) (hIa : ∀ W o, I [] W → I [] (W.alloc o)) (hIx : ∀ c, Firm w.heap.size (Ix c)) (hS : Firm w.heap.size S) (hA : ∀ pre x, Firm w.heap.size (A pre x)) (h0 : I [] w)
    (hassign : ∀ (l : Nat) (pre : List α) (x : α) (W : World) (K : Act → World → Prop), I pre W → pre.length < N → (∀ a1 w1, A pre x a1 w1 → KeepsFrom w.heap.size W w1 → K a1 w1) →
      assign.wpIn (F.inRound l) (n - 1 - 1) P (Exit.then K (fun _ _ _ => False)) { tmps := (ps.zip (encs x)).foldl (fun t (p, v) => t.setIfInBounds p v) a.tmps, defers := [] } W)
    (hbody : ∀ (l : Nat) (pre : List α) (x : α) (a1 : Act) (W : World), A pre x a1 W → pre.length < N → body.wpIn (F.inRound l) (n - 1 - 1) P (RfPost w.heap.size I Ix (pre ++ [x]) W) a1 W)
    (hiter : ∀ (l : Nat) (J Jx : List α → World → Prop) (T : World → Prop), (∀ pre W, J pre W → I pre W) → (∀ pre A B, J pre A → KeepsFrom w.heap.size A B → I pre B → J pre B) → (∀ pre A B, J pre A → KeepsFrom w.heap.size A B → T B) →
      (∀ pre x W1, J pre W1 → pre.length < N → YieldAt F (n - 1 - 1) P l (encs x) W1 fun e W' => (e = .returned (.bool true) ∧ J (pre ++ [x]) W') ∨ (e = .returned (.bool false) ∧ Jx (pre ++ [x]) W')) →
      ∀ W, w.heap.size ≤ W.heap.size → J [] W → CallsIn F (n - 1) P gf (#[.func (.yield l) #[] #[]] ++ lb) W fun e W' => (∃ v, e = .returned v) ∧ ((∃ xs, S xs W' ∧ T W') ∨ (∃ pre, Sp pre ∧ Jx pre W')))
    (hdone : ∀ (D : Nat) (xs : List α) (W : World), w.heap.size ≤ D → S xs W → W.heap[D]? = some (.deferred (some [])) → Q .normal { a with defers := { target := .collected D, args := #[] } :: a.defers } W)
    (hstop : ∀ (D : Nat) (c : Code) (pre : List α) (W : World), w.heap.size ≤ D → Sp pre → Ix c pre W → W.heap[D]? = some (.deferred (some [])) → c.wpIn F n P Q { a with defers := { target := .collected D, args := #[] } :: a.defers } W) :
    (Code.rangeFunc g ps assign body).wpIn F n P Q a w := by
  refine wpIn_rangeFunc fun fn hfn => ?_
  rw [hro]
  let B := w.heap.size
  let rec_ : LoopState → Option Code → Loop := fun st pe => { state := st, pending := pe, fn, tmps := a.tmps, params := ps, assign, body, defers := w.heap.size }
  let Bk : LoopState → Option Code → World → Prop := fun st pe W => W.heap[w.heap.size + 1]? = some (.loop (rec_ st pe)) ∧ W.heap[w.heap.size]? = some (.deferred (some []))
  let W1 := (w.alloc (.deferred (some []))).alloc (.loop (rec_ .ready none))
  have hB1 : Bk .ready none W1 := by
    refine ⟨?_, ?_⟩
    · have := World.alloc_heap_new (w.alloc (.deferred (some []))) (.loop (rec_ .ready none)); rwa [World.size_alloc] at this
    · exact (Below.heap_alloc _ _ _ (by simp)).trans (World.alloc_heap_new w _)
  have hkeep : ∀ {st pe} {X Y : World}, Bk st pe X → KeepsFrom w.heap.size X Y → Bk st pe Y := fun h k => ⟨k.same _ _ (by omega) h.1 rfl, k.same _ _ (Nat.le_refl _) h.2 rfl⟩
  have hset : ∀ {st pe} {X : World} (st' : LoopState) (pe' : Option Code), Bk st pe X → Bk st' pe' (X.putObj (w.heap.size + 1) (.loop (rec_ st' pe'))) := fun st' pe' h =>
    ⟨World.putObj_heap_same (heap_lt h.1), (World.putObj_heap_other (by omega)).trans h.2⟩
  refine ⟨w.heap.size + 1, [{ target := .collected w.heap.size, args := #[] }], W1, { target := .fn (.func gf) lb, args := #[.func (.yield (w.heap.size + 1)) #[] #[]] }, W1, gf,
    #[.func (.yield (w.heap.size + 1)) #[] #[]] ++ lb, W1, run_enterLoop_outer _ _ _ _ _, ?_, ?_, ?_, fun _ => h1, ?_⟩
  · simp only [resolve, hg]
    simp [go_sem]
  · intro f' hf'
    simp [Target.leads] at hf'
    subst hf'
    exact hFg
  · simp [invoke, go_sem, eg]
  · refine (hiter (w.heap.size + 1) (fun pre W => I pre W ∧ Bk .ready none W) (fun pre W => ∃ c, Ix c pre W ∧ Bk .done (some c) W) (Bk .ready none) (fun _ _ h => h.1) (fun _ _ _ h k hi => ⟨hi, hkeep h.2 k⟩) (fun _ _ _ h k => hkeep h.2 k) ?_ W1 (by show w.heap.size ≤ ((w.alloc _).alloc _).heap.size; simp; omega)
      ⟨hIa _ _ (hIa _ _ h0), hB1⟩).mono ?_
    · rintro pre x W ⟨hi, hb⟩ hlen
      refine ⟨fn, _, assign, body, run_yield (P := P) (args := encs x) hb.1 (hps x), roundIn_of_wpIn hfn (hassign _ pre x W _ hi hlen fun a1 w1 ha hkw => ⟨_, run_beginRound (hkeep hb hkw).1 rfl, ?_⟩)⟩
      have hb1 := hkeep hb hkw
      have hbb : Bk .busy none (w1.putObj (w.heap.size + 1) (.loop (rec_ .busy none))) := hset .busy none hb1
      refine wpIn_mono (hbody _ pre x a1 _ (hA _ _ _ _ _ _ _ (by omega) hb1.1 rfl ha) hlen) ?_
      have fin : ∀ (jump : Option Code) (W3 : World), KeepsFrom w.heap.size (w1.putObj (w.heap.size + 1) (.loop (rec_ .busy none))) W3 →
          (Instr.endRound (w.heap.size + 1) jump).run P W3 = .ok (.bool jump.isNone) (W3.putObj (w.heap.size + 1) (.loop (rec_ (if jump.isNone then .ready else .done) jump))) ∧ W3.heap[w.heap.size + 1]? = some (.loop (rec_ .busy none)) ∧
          Bk (if jump.isNone then .ready else .done) jump (W3.putObj (w.heap.size + 1) (.loop (rec_ (if jump.isNone then .ready else .done) jump))) := fun jump W3 k3 => by
        have h3 := hkeep hbb k3
        exact ⟨run_endRound (P := P) jump h3.1, h3.1, hset _ _ h3⟩
      rintro e a3 W3 hp
      cases e with
      | normal =>
        obtain ⟨hr, hl, hb3⟩ := fin none W3 hp.1
        exact ⟨_, _, hr, .inl ⟨rfl, hI _ _ _ _ _ (by omega) hl rfl hp.2, hb3⟩⟩
      | ret =>
        obtain ⟨hr, hl, hb3⟩ := fin (some .ret) W3 hp.1
        exact ⟨_, _, hr, .inr ⟨rfl, .ret, hIx _ _ _ _ _ _ (by omega) hl rfl hp.2, hb3⟩⟩
      | exit id =>
        obtain ⟨hr, hl, hb3⟩ := fin (some (.exit id)) W3 hp.1
        exact ⟨_, _, hr, .inr ⟨rfl, .exit id, hIx _ _ _ _ _ _ (by omega) hl rfl hp.2, hb3⟩⟩
      | goto t =>
        obtain ⟨hr, hl, hb3⟩ := fin (some (.goto t)) W3 hp.1
        exact ⟨_, _, hr, .inr ⟨rfl, .goto t, hIx _ _ _ _ _ _ (by omega) hl rfl hp.2, hb3⟩⟩
      | panic ch => exact hp.elim
      | outgrown => exact hp.elim
    · rintro e W2 ⟨⟨v, rfl⟩, (⟨xs, hs, hb⟩ | ⟨pre, hsp, c, hi, hb⟩)⟩
      · exact ⟨none, _, run_endLoop (P := P) hb.1 (by simp [rec_]), hdone _ xs _ (Nat.le_refl _) (hS _ _ _ _ _ (by omega) hb.1 rfl hs) ((World.putObj_heap_other (by omega)).trans hb.2)⟩
      · exact ⟨some c, _, run_endLoop (P := P) hb.1 (by simp [rec_]), hstop _ c pre _ (Nat.le_refl _) hsp (hIx _ _ _ _ _ _ (by omega) hb.1 rfl hi) ((World.putObj_heap_other (by omega)).trans hb.2)⟩
theorem chg_put (w : World) (l : Nat) (o : Obj) : Chg (fun k => k = l) w (w.putObj l o) := ⟨rfl, rfl, rfl, by simp, fun k _ hk => World.putObj_heap_other (fun e => hk e)⟩
theorem keeps_chg {S : Nat → Prop} {B : Nat} {A C : World} (h : Chg S A C) (hs : ∀ k, S k → k < B) : KeepsFrom B A C := ⟨h.size, fun k o hk ho _ => h.heap ho (fun e => by have := hs k e; omega)⟩
end Go.Proofs.YtfbohajojaaiaaaDoor
