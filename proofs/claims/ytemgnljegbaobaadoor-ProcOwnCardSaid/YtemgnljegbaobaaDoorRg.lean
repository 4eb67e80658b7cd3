/- ProcOwn: two copies of a process, in boxes, made in any order; then the second one's rows are written. No conditions. -/
import Derived.Test.YtemgnljegbaobaaDoorRe
import Derived.Test.YtemgnljegbaobaaDoorRc
import Derived.Test.YtemgnljegbaobaaDoorKv
namespace Go.Proofs.YtemgnljegbaobaaDoor
open Go.ChangeShapes Go.WideShapes Go.ChangeAt Go.RowKit
set_option linter.unusedVariables false
set_option linter.unusedSimpArgs false
set_option maxRecDepth 100000
/-- a block of the rows of q that are its own -/
def OwnB (q : Pv) (k : Nat) : Prop := q.mv.ownBlock = some k ∨ q.lv.ownBlock = some k ∨ q.wv.ownBlock = some k
structure OwnQ (B : Nat) (w : World) (D : Pd) (q : Pv) : Prop where
  om : w.ownsRow B 47 6 q.mv D.nm D.xm
  ol : w.ownsRow B 3 1 q.lv D.lk.length (iv D.lk)
  ow : w.ownsRow B 56 2 q.wv D.ws.length (wv D.ws)
theorem OwnQ.base {B : Nat} {w : World} {D : Pd} {q : Pv} (h : OwnQ B w D q) {k : Nat} (hk : OwnB q k) : B ≤ k := by
  rcases hk with hk | hk | hk
  · exact own_base h.om k hk
  · exact own_base h.ol k hk
  · exact own_base h.ow k hk
theorem OwnQ.lt {B : Nat} {w : World} {D : Pd} {q : Pv} (h : OwnQ B w D q) {k : Nat} (hk : OwnB q k) : k < w.heap.size := by
  rcases hk with hk | hk | hk
  · exact own_lt h.om (Nat.le_refl _) k hk
  · exact own_lt h.ol (Nat.le_refl _) k hk
  · exact own_lt h.ow (Nat.le_refl _) k hk
theorem OwnQ.keep {B : Nat} {w w' : World} {D : Pd} {q : Pv} (h : OwnQ B w D q) (hb : Below w.heap.size w w') : OwnQ B w' D q := ⟨own_keep h.om hb, own_keep h.ol hb, own_keep h.ow hb⟩
theorem OwnQ.chg {B : Nat} {S : Nat → Prop} {w w' : World} {D : Pd} {q : Pv} (h : OwnQ B w D q) (hc : Chg S w w') (hS : ∀ k, OwnB q k → ¬ S k) : OwnQ B w' D q :=
  ⟨own_chg h.om hc fun k hk => hS k (.inl hk), own_chg h.ol hc fun k hk => hS k (.inr (.inl hk)), own_chg h.ow hc fun k hk => hS k (.inr (.inr hk))⟩
theorem OwnQ.lower {B b2 : Nat} {w : World} {D : Pd} {q : Pv} (h : OwnQ B w D q) (hb : b2 ≤ B) : OwnQ b2 w D q := ⟨own_lower h.om hb, own_lower h.ol hb, own_lower h.ow hb⟩
structure P3 (W0 w : World) (p : Pv) (D : Pd) (A : Option (Pv × List Fm)) (Q : Option Pv) (x y : Option (Nat × Array Value)) : Prop where
  hb : Below W0.heap.size W0 w
  ha : ∀ q L, A = some (q, L) → SamePv p q ∧ Cp D.L L ∧ PrX w q (Pd.X ⟨L, D.nm, D.xm, D.lk, D.ws⟩)
  hq : ∀ q, Q = some q → OwnQ W0.heap.size w D q ∧ (q.cells.all fun v => v.oneCell') = true ∧ ∀ k, OwnB q k → ∀ r L, A = some (r, L) → PrN k r L
  hx : ∀ i c, x = some (i, c) → W0.heap.size ≤ i ∧ w.heap[i]? = some (.cells c 29 (0, 0)) ∧ (∀ q L, A = some (q, L) → PrN i q L) ∧ ∀ q, Q = some q → ¬ OwnB q i
  hy : ∀ i c, y = some (i, c) → W0.heap.size ≤ i ∧ w.heap[i]? = some (.cells c 29 (0, 0)) ∧ (∀ q L, A = some (q, L) → PrN i q L) ∧ ∀ q, Q = some q → ¬ OwnB q i
  hxy : ∀ i c j d, x = some (i, c) → y = some (j, d) → i ≠ j
section
variable {W0 w w' : World} {p : Pv} {D : Pd} {A : Option (Pv × List Fm)} {Q : Option Pv} {x y : Option (Nat × Array Value)}
theorem P3.swap (h : P3 W0 w p D A Q x y) : P3 W0 w p D A Q y x := ⟨h.hb, h.ha, h.hq, h.hy, h.hx, fun i c j d e1 e2 e => h.hxy j d i c e2 e1 e.symm⟩
theorem P3.keep (h : P3 W0 w p D A Q x y) (hb : Below w.heap.size w w') : P3 W0 w' p D A Q x y := by
  refine ⟨h.hb.trans (hb.mono h.hb.size), fun q L e => ?_, fun q e => ?_, fun i c e => ?_, fun i c e => ?_, h.hxy⟩
  · obtain ⟨h1, h2, h3⟩ := h.ha q L e
    exact ⟨h1, h2, h3.keep hb⟩
  · obtain ⟨h1, h2, h3⟩ := h.hq q e
    exact ⟨h1.keep hb, h2, h3⟩
  · obtain ⟨h1, h2, h3, h4⟩ := h.hx i c e
    exact ⟨h1, keep_heap h2 hb, h3, h4⟩
  · obtain ⟨h1, h2, h3, h4⟩ := h.hy i c e
    exact ⟨h1, keep_heap h2 hb, h3, h4⟩
theorem P3.boxx (h : P3 W0 w p D A Q none y) (z : Array Value) : P3 W0 (w.alloc (.cells z 29)) p D A Q (some (w.heap.size, z)) y := by
  have hb := (Below.refl w.heap.size w).alloc (Nat.le_refl _) (.cells z 29)
  obtain ⟨k1, k2, k3, k4, k5, k6⟩ := h.keep hb
  refine ⟨k1, k2, k3, fun i c e => ?_, k5, fun i c j d e1 e2 e => ?_⟩
  · cases e
    exact ⟨h.hb.size, heap_new _ _, fun q L e => (h.ha q L e).2.2.old (Nat.le_refl _), fun q e hk => absurd ((h.hq q e).1.lt hk) (Nat.lt_irrefl _)⟩
  · cases e1
    have := heap_lt (h.hy j d e2).2.1
    omega
theorem P3.boxy (h : P3 W0 w p D A Q x none) (z : Array Value) : P3 W0 (w.alloc (.cells z 29)) p D A Q x (some (w.heap.size, z)) := (h.swap.boxx z).swap
theorem P3.calla {q : Pv} {L : List Fm} (h : P3 W0 w p D none none x y) (hs : SamePv p q) (hb : Below w.heap.size w w') (hc : Cp D.L L) (hp : PrX w' q (Pd.X ⟨L, D.nm, D.xm, D.lk, D.ws⟩)) (hn : ∀ k, k < w.heap.size → PrN k q L) : P3 W0 w' p D (some (q, L)) none x y := by
  obtain ⟨k1, k2, k3, k4, k5, k6⟩ := h.keep hb
  refine ⟨k1, fun q L e => ?_, fun q e => (by cases e), fun i c e => ?_, fun i c e => ?_, k6⟩
  · cases e; exact ⟨hs, hc, hp⟩
  · obtain ⟨h1, h2, h3, h4⟩ := k4 i c e
    exact ⟨h1, h2, fun q L e' => by cases e'; exact hn i (heap_lt (h.hx i c e).2.1), fun q e => by cases e⟩
  · obtain ⟨h1, h2, h3, h4⟩ := k5 i c e
    exact ⟨h1, h2, fun q L e' => by cases e'; exact hn i (heap_lt (h.hy i c e).2.1), fun q e => by cases e⟩
theorem P3.callb {a q : Pv} {L : List Fm} {B : Nat} (h : P3 W0 w p D (some (a, L)) none x y) (hb : Below w.heap.size w w') (hB : w.heap.size ≤ B) (ho : OwnQ B w' D q) (h1 : (q.cells.all fun v => v.oneCell') = true) : P3 W0 w' p D (some (a, L)) (some q) x y := by
  obtain ⟨k1, k2, k3, k4, k5, k6⟩ := h.keep hb
  refine ⟨k1, k2, fun r e => ?_, fun i c e => ?_, fun i c e => ?_, k6⟩
  · cases e
    refine ⟨ho.lower (Nat.le_trans h.hb.size hB), h1, fun k hk r L' e => (h.ha r L' e).2.2.old ?_⟩
    have := ho.base hk
    omega
  · obtain ⟨h1, h2, h3, h4⟩ := k4 i c e
    refine ⟨h1, h2, h3, fun r e' hk => ?_⟩
    cases e'
    have h5 := ho.base hk
    have h6 := heap_lt (h.hx i c e).2.1
    omega
  · obtain ⟨h1, h2, h3, h4⟩ := k5 i c e
    refine ⟨h1, h2, h3, fun r e' hk => ?_⟩
    cases e'
    have h5 := ho.base hk
    have h6 := heap_lt (h.hy i c e).2.1
    omega
theorem P3.storex {i : Nat} {c : Array Value} (h : P3 W0 w p D A Q (some (i, c)) y) (c' : Array Value) : P3 W0 (w.setRow i c') p D A Q (some (i, c')) y := by
  obtain ⟨h1, h2, h3, h4⟩ := h.hx i c rfl
  have hc := chg_setRow w i c'
  refine ⟨bel_setRow h.hb h.hb.size h1 c', fun q L e => ?_, fun q e => ?_, fun j d e => ?_, fun j d e => ?_, fun j d k f e1 e2 => ?_⟩
  · obtain ⟨g1, g2, g3⟩ := h.ha q L e
    exact ⟨g1, g2, g3.chg hc fun k e' => by have e' : k = i := e'; rw [e']; exact h3 q L e⟩
  · obtain ⟨g1, g2, g3⟩ := h.hq q e
    exact ⟨g1.chg hc fun k hk e' => by have e' : k = i := e'; exact h4 q e (e' ▸ hk), g2, g3⟩
  · cases e
    exact ⟨h1, setRow_heap w i c c' 29 (0, 0) h2, h3, h4⟩
  · obtain ⟨g1, g2, g3, g4⟩ := h.hy j d e
    exact ⟨g1, hc.heap g2 fun e' => by have e' : j = i := e'; exact h.hxy i c j d rfl e e'.symm, g3, g4⟩
  · cases e1
    exact h.hxy i c k f rfl e2
theorem P3.storey {i : Nat} {c : Array Value} (h : P3 W0 w p D A Q x (some (i, c))) (c' : Array Value) : P3 W0 (w.setRow i c') p D A Q x (some (i, c')) := (h.swap.storex c').swap
end
/-- both copies stand; the second one's own rows may be written -/
structure Q3 (W0 w : World) (p : Pv) (D : Pd) (q : Pv) (L : List Fm) (r : Pv) (x y : Nat) : Prop where
  hb : Below W0.heap.size W0 w
  sp : SamePv p q
  cp : Cp D.L L
  pr : PrX w q (Pd.X ⟨L, D.nm, D.xm, D.lk, D.ws⟩)
  hx : w.heap[x]? = some (.cells q.cells 29 (0, 0))
  hy : w.heap[y]? = some (.cells r.cells 29 (0, 0))
  om : ∃ xs, w.ownsRow W0.heap.size 47 6 r.mv D.nm xs
  ol : ∃ ps : List Int, ps.length = D.lk.length ∧ w.ownsRow W0.heap.size 3 1 r.lv D.lk.length (iv ps)
  ow : ∃ ps : List (Int × Int), ps.length = D.ws.length ∧ w.ownsRow W0.heap.size 56 2 r.wv D.ws.length (wv ps)
  ap : ∀ k, OwnB r k → PrN k q L ∧ k ≠ x ∧ k ≠ y
theorem P3.out {W0 w : World} {p : Pv} {D : Pd} {q : Pv} {L : List Fm} {r : Pv} {x y : Nat} (h : P3 W0 w p D (some (q, L)) (some r) (some (x, q.cells)) (some (y, r.cells))) : Q3 W0 w p D q L r x y := by
  obtain ⟨a1, a2, a3⟩ := h.ha q L rfl
  obtain ⟨b1, b2, b3⟩ := h.hq r rfl
  obtain ⟨c1, c2, c3, c4⟩ := h.hx x _ rfl
  obtain ⟨d1, d2, d3, d4⟩ := h.hy y _ rfl
  exact ⟨h.hb, a1, a2, a3, c2, d2, ⟨_, b1.om⟩, ⟨_, rfl, b1.ol⟩, ⟨_, rfl, b1.ow⟩, fun k hk => ⟨b3 k hk q L rfl, fun e => c4 r rfl (e ▸ hk), fun e => d4 r rfl (e ▸ hk)⟩⟩
section
variable {W0 w w' : World} {p : Pv} {D : Pd} {q r : Pv} {L : List Fm} {x y : Nat}
theorem Q3.keep (h : Q3 W0 w p D q L r x y) (hb : Below w.heap.size w w') : Q3 W0 w' p D q L r x y := by
  obtain ⟨xs, h1⟩ := h.om
  obtain ⟨ps, h2, h3⟩ := h.ol
  obtain ⟨ws, h4, h5⟩ := h.ow
  exact ⟨h.hb.trans (hb.mono h.hb.size), h.sp, h.cp, h.pr.keep hb, keep_heap h.hx hb, keep_heap h.hy hb, ⟨_, own_keep h1 hb⟩, ⟨_, h2, own_keep h3 hb⟩, ⟨_, h4, own_keep h5 hb⟩, h.ap⟩
theorem Q3.chg {v : Value} (h : Q3 W0 w p D q L r x y) (hv : ∀ k, v.ownBlock = some k → OwnB r k) (hc : Chg (fun k => v.ownBlock = some k) w w') (hB : ∀ k, v.ownBlock = some k → W0.heap.size ≤ k)
    (om : ∃ xs, w'.ownsRow W0.heap.size 47 6 r.mv D.nm xs) (ol : ∃ ps : List Int, ps.length = D.lk.length ∧ w'.ownsRow W0.heap.size 3 1 r.lv D.lk.length (iv ps)) (ow : ∃ ps : List (Int × Int), ps.length = D.ws.length ∧ w'.ownsRow W0.heap.size 56 2 r.wv D.ws.length (wv ps)) :
    Q3 W0 w' p D q L r x y :=
  ⟨h.hb.trans (hc.below h.hb.size fun k hk => hB k hk), h.sp, h.cp, h.pr.chg hc fun k hk => (h.ap k (hv k hk)).1, hc.heap h.hx fun e => (h.ap x (hv x e)).2.1 rfl, hc.heap h.hy fun e => (h.ap y (hv y e)).2.2 rfl, om, ol, ow, h.ap⟩
theorem Q3.setl (h : Q3 W0 w p D q L r x y) {ps : List Int} (hl : ps.length = D.lk.length) (hc : Chg (fun k => r.lv.ownBlock = some k) w w') (ho : w'.ownsRow W0.heap.size 3 1 r.lv D.lk.length (iv ps)) : Q3 W0 w' p D q L r x y := by
  obtain ⟨xs, h1⟩ := h.om
  obtain ⟨ws, h4, h5⟩ := h.ow
  obtain ⟨qs, -, h6⟩ := h.ol
  refine h.chg (v := r.lv) (fun k hk => .inr (.inl hk)) hc (fun k hk => own_base ho k hk) ⟨_, own_chg h1 hc fun k hk e => ?_⟩ ⟨ps, hl, ho⟩ ⟨_, h4, own_chg h5 hc fun k hk e => ?_⟩
  · exact own_apart h1 h6 (by decide) hk e
  · exact own_apart h5 h6 (by decide) hk e
theorem Q3.setw (h : Q3 W0 w p D q L r x y) {ps : List (Int × Int)} (hl : ps.length = D.ws.length) (hc : Chg (fun k => r.wv.ownBlock = some k) w w') (ho : w'.ownsRow W0.heap.size 56 2 r.wv D.ws.length (wv ps)) : Q3 W0 w' p D q L r x y := by
  obtain ⟨xs, h1⟩ := h.om
  obtain ⟨ws, h4, h5⟩ := h.ol
  obtain ⟨qs, -, h6⟩ := h.ow
  refine h.chg (v := r.wv) (fun k hk => .inr (.inr hk)) hc (fun k hk => own_base ho k hk) ⟨_, own_chg h1 hc fun k hk e => ?_⟩ ⟨_, h4, own_chg h5 hc fun k hk e => ?_⟩ ⟨ps, hl, ho⟩
  · exact own_apart h1 h6 (by decide) hk e
  · exact own_apart h5 h6 (by decide) hk e
theorem Q3.setm (h : Q3 W0 w p D q L r x y) {xs : List Value} (hc : Chg (fun k => r.mv.ownBlock = some k) w w') (ho : w'.ownsRow W0.heap.size 47 6 r.mv D.nm xs) : Q3 W0 w' p D q L r x y := by
  obtain ⟨ys, h1⟩ := h.om
  obtain ⟨ps, h2, h3⟩ := h.ol
  obtain ⟨ws, h4, h5⟩ := h.ow
  refine h.chg (v := r.mv) (fun k hk => .inl hk) hc (fun k hk => own_base ho k hk) ⟨_, ho⟩ ⟨_, h2, own_chg h3 hc fun k hk e => ?_⟩ ⟨_, h4, own_chg h5 hc fun k hk e => ?_⟩
  · exact own_apart h3 h1 (by decide) hk e
  · exact own_apart h5 h1 (by decide) hk e
end
/-- cells of an own row are written -/
theorem own_sets {w : World} {B e size n g cap : Nat} {xs : List Value} (h : w.ownsRow B e size (.slice (some ⟨g, 0, none⟩) n cap) n xs) (i : Nat) (us : List Value) (hi : i + us.length ≤ n * size) :
    (w.setCells g i us).ownsRow B e size (.slice (some ⟨g, 0, none⟩) n cap) n (xs.take i ++ us ++ xs.drop (i + us.length)) ∧ w.there g i us.length := by
  obtain ⟨hl, ⟨h0, -⟩ | ⟨g', cap', cur, hv, hg, hh, h3, h4, h5, h6⟩⟩ := h
  · cases h0
  · cases hv
    have hc : cur.size = cap * size := h5
    have hcap : n * size ≤ cap * size := Nat.mul_le_mul_right _ h3
    refine ⟨⟨?_, .inr ⟨g, cap, _, rfl, hg, setCells_heap us i w cur hh, h3, h4, by rw [setMany_size]; exact h5, ?_⟩⟩, fun j hj => ?_⟩
    · simp [hl]
      omega
    · rw [setMany_list us i cur (by omega), ← h6]
      apply List.ext_getElem?
      intro j
      simp only [List.getElem?_take, List.getElem?_append, List.getElem?_drop, List.length_append, List.length_take, Array.length_toList]
      grind
    · have hlt : i + j < cur.size := by omega
      have := cells_at hh (i + j) cur[i + j] (Array.getElem?_eq_getElem hlt)
      exact ⟨by rw [this.1]; rfl, this.2⟩
end Go.Proofs.YtemgnljegbaobaaDoor
