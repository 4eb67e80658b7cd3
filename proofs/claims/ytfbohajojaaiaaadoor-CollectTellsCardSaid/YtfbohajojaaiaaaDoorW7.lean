/- a loop over cells, whose body looks at them. Conditions: what comes reads. -/
/- what both collections come to, either way. Conditions: what comes reads. -/
/- the law CollectTells: its loop over cells. Conditions: what comes reads. -/
import Derived.Test.YtfbohajojaaiaaaDoorHj
import Derived.Test.YtfbohajojaaiaaaDoorW1
import Derived.Test.YtfbohajojaaiaaaDoorW5
import Derived.Test.YtfbohajojaaiaaaDoorW6
import Derived.Test.YtfbohajojaaiaaaDoorHu
namespace Go.Proofs.YtfbohajojaaiaaaDoor
open Go.ChangeShapes Go.WideShapes Go.ChangeAt Go.RowKit Go.Shelf
set_option linter.unusedVariables false
set_option maxRecDepth 100000
attribute [local go_sem] Oper.semAt_some
/-- what is handed to the body -/
def YG (C : List HC) (pre : List (YC C)) (x : YC C) (W : World) : Prop := x.1.val = pre.length ∧ ∃ c lo lc, C[x.1.val]? = some c ∧ x.2 = .agg #[.int .i8 c.k, .int .i64 c.sz, .slice lo c.l.length lc] ∧ WRow W lo c.l
theorem rf_lawG {F : Fence} {n : Nat} {P : Program} {α : Type} {g : Operand} {ps : Array Tmp} {assign body : Code} {Q : Exit → Act → World → Prop} {a : Act} {w : World}
    (hro : F.round = none) (h1 : 1 ≤ n) {gf : Nat} {lb : Array Value} (hg : a.eval g = .func (.func gf) #[] lb) (hFg : F.fn gf) (eg : ∀ args w, (callFunc gf args).run P w = .ok (.enter gf args) w)
    {encs : α → Array Value} (hps : ∀ x, (encs x).size = ps.size)
    (I : List α → World → Prop) (Ix : Code → List α → World → Prop) (S : List α → World → Prop) (Sp : List α → Prop) (N : Nat) (A : List α → α → Act → World → Prop) (G : List α → α → World → Prop)
    (hI : Firm w.heap.size I) (hIa : ∀ W o, I [] W → I [] (W.alloc o)) (hIx : ∀ c, Firm w.heap.size (Ix c)) (hS : Firm w.heap.size S) (hA : ∀ pre x, Firm w.heap.size (A pre x)) (h0 : I [] w)
    (hassign : ∀ (l : Nat) (pre : List α) (x : α) (W : World) (K : Act → World → Prop), I pre W → G pre x W → pre.length < N → (∀ a1 w1, A pre x a1 w1 → KeepsFrom w.heap.size W w1 → K a1 w1) →
      assign.wpIn (F.inRound l) (n - 1 - 1) P (Exit.then K (fun _ _ _ => False)) { tmps := (ps.zip (encs x)).foldl (fun t (p, v) => t.setIfInBounds p v) a.tmps, defers := [] } W)
    (hbody : ∀ (l : Nat) (pre : List α) (x : α) (a1 : Act) (W : World), A pre x a1 W → pre.length < N → body.wpIn (F.inRound l) (n - 1 - 1) P (RfPost w.heap.size I Ix (pre ++ [x]) W) a1 W)
    (hiter : ∀ (l : Nat) (J Jx : List α → World → Prop) (T : World → Prop), (∀ pre W, J pre W → I pre W) → (∀ pre A B, J pre A → KeepsFrom w.heap.size A B → I pre B → J pre B) → (∀ pre A B, J pre A → KeepsFrom w.heap.size A B → T B) →
      (∀ pre x W1, J pre W1 → G pre x W1 → pre.length < N → YieldAt F (n - 1 - 1) P l (encs x) W1 fun e W' => (e = .returned (.bool true) ∧ J (pre ++ [x]) W') ∨ (e = .returned (.bool false) ∧ Jx (pre ++ [x]) W')) →
      ∀ W, w.heap.size ≤ W.heap.size → J [] W → CallsIn F (n - 1) P gf (#[.func (.yield l) #[] #[]] ++ lb) W fun e W' => (∃ v, e = .returned v) ∧ ((∃ xs, S xs W' ∧ T W') ∨ (∃ pre, Sp pre ∧ Jx pre W')))
    (hdone : ∀ (D : Nat) (xs : List α) (W : World), w.heap.size ≤ D → S xs W → W.heap[D]? = some (.deferred (some [])) → Q .normal { a with defers := { target := .collected D, args := #[] } :: a.defers } W)
    (hstop : ∀ (D : Nat) (c : Code) (pre : List α) (W : World), w.heap.size ≤ D → Sp pre → Ix c pre W → W.heap[D]? = some (.deferred (some [])) → c.wpIn F n P Q { a with defers := { target := .collected D, args := #[] } :: a.defers } W) :
    (Code.rangeFunc g ps assign body).wpIn F n P Q a w := by
  refine wpIn_rangeFunc fun fn hfn => ?_
  rw [hro]
  let B := w.heap.size
  let rec_ : LoopState → Option Code → Loop := fun st pe => { state := st, pending := pe, fn, tmps := a.tmps, params := ps, assign, body, defers := w.heap.size }
  let Bk : LoopState → Option Code → World → Prop := fun st pe W => W.heap[w.heap.size + 1]? = some (.loop (rec_ st pe)) ∧ W.heap[w.heap.size]? = some (.deferred (some []))
  let W1 := (w.alloc (.deferred (some []))).alloc (.loop (rec_ .ready none))
  have hB1 : Bk .ready none W1 := by
    refine ⟨?_, ?_⟩
    · have := World.alloc_heap_new (w.alloc (.deferred (some []))) (.loop (rec_ .ready none)); rwa [World.size_alloc] at this
    · exact (Below.heap_alloc _ _ _ (by simp)).trans (World.alloc_heap_new w _)
  have hkeep : ∀ {st pe} {X Y : World}, Bk st pe X → KeepsFrom w.heap.size X Y → Bk st pe Y := fun h k => ⟨k.same _ _ (by omega) h.1 rfl, k.same _ _ (Nat.le_refl _) h.2 rfl⟩
  have hset : ∀ {st pe} {X : World} (st' : LoopState) (pe' : Option Code), Bk st pe X → Bk st' pe' (X.putObj (w.heap.size + 1) (.loop (rec_ st' pe'))) := fun st' pe' h =>
    ⟨World.putObj_heap_same (heap_lt h.1), (World.putObj_heap_other (by omega)).trans h.2⟩
  refine ⟨w.heap.size + 1, [{ target := .collected w.heap.size, args := #[] }], W1, { target := .fn (.func gf) lb, args := #[.func (.yield (w.heap.size + 1)) #[] #[]] }, W1, gf,
    #[.func (.yield (w.heap.size + 1)) #[] #[]] ++ lb, W1, run_enterLoop_outer _ _ _ _ _, ?_, ?_, ?_, fun _ => h1, ?_⟩
  · simp only [resolve, hg]
    simp [go_sem]
  · intro f' hf'
    simp [Target.leads] at hf'
    subst hf'
    exact hFg
  · simp [invoke, go_sem, eg]
  · refine (hiter (w.heap.size + 1) (fun pre W => I pre W ∧ Bk .ready none W) (fun pre W => ∃ c, Ix c pre W ∧ Bk .done (some c) W) (Bk .ready none) (fun _ _ h => h.1) (fun _ _ _ h k hi => ⟨hi, hkeep h.2 k⟩) (fun _ _ _ h k => hkeep h.2 k) ?_ W1 (by show w.heap.size ≤ ((w.alloc _).alloc _).heap.size; simp; omega)
      ⟨hIa _ _ (hIa _ _ h0), hB1⟩).mono ?_
    · rintro pre x W ⟨hi, hb⟩ hgx hlen
      refine ⟨fn, _, assign, body, run_yield (P := P) (args := encs x) hb.1 (hps x), roundIn_of_wpIn hfn (hassign _ pre x W _ hi hgx hlen fun a1 w1 ha hkw => ⟨_, run_beginRound (hkeep hb hkw).1 rfl, ?_⟩)⟩
      have hb1 := hkeep hb hkw
      have hbb : Bk .busy none (w1.putObj (w.heap.size + 1) (.loop (rec_ .busy none))) := hset .busy none hb1
      refine wpIn_mono (hbody _ pre x a1 _ (hA _ _ _ _ _ _ _ (by omega) hb1.1 rfl ha) hlen) ?_
      have fin : ∀ (jump : Option Code) (W3 : World), KeepsFrom w.heap.size (w1.putObj (w.heap.size + 1) (.loop (rec_ .busy none))) W3 →
          (Instr.endRound (w.heap.size + 1) jump).run P W3 = .ok (.bool jump.isNone) (W3.putObj (w.heap.size + 1) (.loop (rec_ (if jump.isNone then .ready else .done) jump))) ∧ W3.heap[w.heap.size + 1]? = some (.loop (rec_ .busy none)) ∧
          Bk (if jump.isNone then .ready else .done) jump (W3.putObj (w.heap.size + 1) (.loop (rec_ (if jump.isNone then .ready else .done) jump))) := fun jump W3 k3 => by
        have h3 := hkeep hbb k3
        exact ⟨run_endRound (P := P) jump h3.1, h3.1, hset _ _ h3⟩
      rintro e a3 W3 hp
      cases e with
      | normal =>
        obtain ⟨hr, hl, hb3⟩ := fin none W3 hp.1
        exact ⟨_, _, hr, .inl ⟨rfl, hI _ _ _ _ _ (by omega) hl rfl hp.2, hb3⟩⟩
      | ret =>
        obtain ⟨hr, hl, hb3⟩ := fin (some .ret) W3 hp.1
        exact ⟨_, _, hr, .inr ⟨rfl, .ret, hIx _ _ _ _ _ _ (by omega) hl rfl hp.2, hb3⟩⟩
      | exit id =>
        obtain ⟨hr, hl, hb3⟩ := fin (some (.exit id)) W3 hp.1
        exact ⟨_, _, hr, .inr ⟨rfl, .exit id, hIx _ _ _ _ _ _ (by omega) hl rfl hp.2, hb3⟩⟩
      | goto t =>
        obtain ⟨hr, hl, hb3⟩ := fin (some (.goto t)) W3 hp.1
        exact ⟨_, _, hr, .inr ⟨rfl, .goto t, hIx _ _ _ _ _ _ (by omega) hl rfl hp.2, hb3⟩⟩
      | panic ch => exact hp.elim
      | outgrown => exact hp.elim
    · rintro e W2 ⟨⟨v, rfl⟩, (⟨xs, hs, hb⟩ | ⟨pre, hsp, c, hi, hb⟩)⟩
      · exact ⟨none, _, run_endLoop (P := P) hb.1 (by simp [rec_]), hdone _ xs _ (Nat.le_refl _) (hS _ _ _ _ _ (by omega) hb.1 rfl hs) ((World.putObj_heap_other (by omega)).trans hb.2)⟩
      · exact ⟨some c, _, run_endLoop (P := P) hb.1 (by simp [rec_]), hstop _ c pre _ (Nat.le_refl _) hsp (hIx _ _ _ _ _ _ (by omega) hb.1 rfl hi) ((World.putObj_heap_other (by omega)).trans hb.2)⟩
set_option maxHeartbeats 4000000 in
theorem cells1G_in (l base p : Nat) (v : Value) (C : List HC) (bn bh : Nat) (J Jx : List (YC C) → World → Prop) (T : World → Prop)
    (hJ : ∀ pre W, J pre W → ItC base p v C bn bh W) (hk : ∀ pre A B, J pre A → Below A.heap.size A B → J pre B) (hT : ∀ pre W, J pre W → T W)
    (hY : ∀ pre (x : YC C) W1, J pre W1 → YG C pre x W1 → pre.length < C.length → YieldAt Fence.wide (8 - 1) Tryd.prog l (encC x) W1 fun e W' => (e = .returned (.bool true) ∧ J (pre ++ [x]) W') ∨ (e = .returned (.bool false) ∧ Jx (pre ++ [x]) W'))
    (W : World) (h0 : J [] W) :
    CallsIn Fence.wide 8 Tryd.prog 34 #[.func (.yield l) #[] #[], .pointer (some ⟨bn, 0, none⟩), .pointer (some ⟨bh, 0, none⟩)] W fun e W' => (∃ v, e = .returned v) ∧
      ((∃ xs : List (YC C), (xs.map (·.1.val) = List.range C.length ∧ J xs W') ∧ T W') ∨ (∃ pre, True ∧ Jx pre W')) := by
  obtain ⟨a0, a1, a2⟩ := hJ _ _ h0
  have hC : C.length ≤ 1048576 := a0.2.2.2.1
  clear a0
  refine callsIn_of_wp Tryd.func34 rfl trivial ?_ rfl
  simp only [Tryd.ntmps34, List.size_toArray, List.length_cons, List.length_nil, Nat.reduceAdd, Nat.reduceSub, Array.replicate_succ, Array.replicate_zero, List.push_toArray, List.append_toArray, List.nil_append, List.cons_append]
  gi_wp2
  gi_loopw [8] (fun iv wr => ∃ (i : Nat) (pre : List (YC C)), i ≤ C.length ∧ iv = .int .i64 i ∧ J pre wr ∧ Hid (pre.map (·.1.val) = List.range i))
    (fun iv _ => C.length - (intOf iv).toNat)
  case atStart => exact ⟨0, [], by omega, rfl, h0, Lib.hid rfl⟩
  case round =>
    clear a1 a2 h0
    obtain ⟨i, pre, hi, rfl, hJp, HD⟩ := hrel
    obtain ⟨a0, a1, a2⟩ := hJ _ _ hJp
    by_cases hlt : i < C.length
    · have HC := Lib.hid (cell_any wr base p v C i a0)
      have HH := Lib.hid a0
      clear a0
      gi_wp2
      refine ⟨trivial, (callsIn_wide.2 HC.out).mono ?_⟩
      rintro e w2 ⟨hb2, (⟨i', c, lo, lc, hii, hc, rfl, hown⟩ | ⟨hbad, -⟩)⟩
      · obtain rfl : i = i' := by omega
        clear hii
        have hJ2 := hk _ _ _ hJp hb2
        gi_wp2_with (with_reducible refine stop_opIn (o := ⟨_, .store 65 (.tmp 5) (.tmp 15), _, _, _, _⟩) ?_)
        refine Lib.hid ?_
        refine wpListIn_store_new (o := ⟨none, _, _, _, _, _⟩) none rfl rfl 65 (.tmp 5) (.tmp 15) rfl #[.int .i8 c.k, .int .i64 c.sz, .slice lo c.l.length lc] rfl rfl (infoCL _ rfl) rfl (by simp [Value.oneCell']) ?_
        have hb3 := (Below.refl w2.heap.size w2).alloc (Nat.le_refl _) (.cells #[.int .i8 c.k, .int .i64 c.sz, .slice lo c.l.length lc] 65)
        have hJ3 := hk _ _ _ hJ2 hb3
        have hlen : pre.length < C.length := by
          have := congrArg List.length HD.out
          simp at this
          omega
        obtain ⟨lo', lc', e', -, -, hrw, -⟩ := own_wrow (own_keep hown hb3)
        injection e' with ea eb ec
        subst ea ec
        have hpl : i = pre.length := by
          have := congrArg List.length HD.out
          simp at this
          omega
        have hYG : YG C pre (⟨i, hlt⟩, .agg #[.int .i8 c.k, .int .i64 c.sz, .slice lo c.l.length lc]) (w2.alloc (.cells #[.int .i8 c.k, .int .i64 c.sz, .slice lo c.l.length lc] 65)) := ⟨hpl, c, lo, lc, by simpa using hc, rfl, hrw⟩
        obtain ⟨fn, tmps, assign, body, hy, hR⟩ := hY _ (⟨i, hlt⟩, .agg #[.int .i8 c.k, .int .i64 c.sz, .slice lo c.l.length lc]) _ hJ3 hYG hlen
        dsimp only [encC] at hy
        have HRR := Lib.hid hR
        clear hR hb2 hb3 hJ2 hJ3 hown hc hrw hYG eb hpl
        gi_wp2
        refine HRR.out.mono ?_
        rintro e W3 (⟨rfl, hJ3⟩ | ⟨rfl, hJx3⟩)
        · clear hy a1 a2
          gi_wp2
          go_roundw
          case rel => exact ⟨i + 1, pre ++ [(⟨i, hlt⟩, .agg #[.int .i8 c.k, .int .i64 c.sz, .slice lo c.l.length lc])], by omega, by go_num, hJ3, Lib.hid (by rw [List.map_append, HD.out, List.range_succ]; rfl)⟩
          case measure => simp [intOf]; omega
        · clear hy a1 a2
          gi_wp2
          refine bodyPost_ret (results_none rfl _ _ _) rfl ⟨⟨_, rfl⟩, .inr ⟨_, trivial, hJx3⟩⟩
      · exact absurd ⟨by omega, by omega⟩ hbad
    · have hil : i = C.length := by omega
      subst hil
      have HH := Lib.hid a0
      clear a0
      gi_wp2
      go_end0
      exact ⟨⟨_, rfl⟩, .inl ⟨pre, ⟨HD.out, hJp⟩, hT _ _ hJp⟩⟩
theorem Sim.get {C C' : List HC} (h : Sim C C') {i : Nat} {c : HC} (hc : C[i]? = some c) : ∃ c', C'[i]? = some c' ∧ c'.k = c.k ∧ c'.sz = c.sz ∧ c'.l = c.l := by
  have h1 := congrArg (·[i]?) h
  simp only [List.getElem?_map, hc, Option.map_some] at h1
  obtain ⟨c', h2, h3⟩ := Option.map_eq_some_iff.1 h1
  simp only [HC.key, Prod.mk.injEq] at h3
  exact ⟨c', h2, h3⟩
theorem Sim.symm {C C' : List HC} (h : Sim C C') : Sim C' C := Eq.symm h
theorem Sim.take {C C' : List HC} (h : Sim C C') (i : Nat) : Sim (C.take i) (C'.take i) := by
  unfold Sim at h ⊢
  rw [List.map_take, List.map_take, h]
theorem Sim.made {C C' : List HC} (h : Sim C C') (hM : Made C) : Made C' := by
  intro i c' hc'
  obtain ⟨c, h1, h2, h3, h4⟩ := h.symm.get hc'
  obtain ⟨m1, m2⟩ := hM i c h1
  rw [(h.take i).make, (h.take i).size, ← h2, ← h3, ← h4]
  exact ⟨m1, m2⟩
theorem Sim.tk {C C' : List HC} (h : Sim C C') : ∀ (N : Nat) (x : Wd), tkN C' N x = tkN C N x
  | 0, x => rfl
  | N + 1, x => by
    have ih := h.tk N
    rw [tkN, tkN]
    split
    · cases hc : C[x.a.toNat]? with
      | some c =>
        obtain ⟨c', h1, h2, h3, h4⟩ := h.get hc
        rw [h1]
        show Tm.mk c'.k 0 _ _ (c'.l.map (tkN C' N)) = Tm.mk c.k 0 _ _ (c.l.map (tkN C N))
        rw [h2, h4]
        congr 1
        exact List.map_congr_left fun y _ => ih y
      | none =>
        have : C'[x.a.toNat]? = none := by
          rw [List.getElem?_eq_none_iff] at hc ⊢
          rw [h.len]
          exact hc
        rw [this]
    · rfl
theorem Sim.rch {C C' : List HC} (h : Sim C C') {L : List Wd} {x : Int} (hx : Rch C L x) : Rch C' L x := by
  induction hx with
  | root h => exact .root h
  | @step x y _ hy ih =>
    refine .step ih ?_
    unfold chld at hy ⊢
    cases hc : C[x.toNat]? with
    | some c =>
      obtain ⟨c', h1, h2, h3, h4⟩ := h.get hc
      rw [hc] at hy
      rw [h1]
      show y ∈ namedW c'.l
      rw [h4]
      exact hy
    | none => rw [hc] at hy; cases hy
theorem rsame_same {C C' : List HC} (hC : Good C) (hM : Made C) (h : Sim C C') (x y : Wd) : rsameW C' C' x y = sameW C C x y := by
  unfold rsameW sameW
  rw [h.len, h.tk, h.tk]
  cases hx : mayW C.length x
  · rfl
  · cases hy : mayW C.length y
    · rfl
    · rw [tk_same hC hM hC hM hx hy]
theorem ran_sim {C C' : List HC} {S : List Int} {D D' : List HC} (h : Sim C C') (h1 : Ran C S D) (h2 : Ran C' S D') : Sim D D' := by
  unfold Sim
  apply List.ext_getElem?
  intro j
  rw [List.getElem?_map, List.getElem?_map]
  by_cases hj : j < S.length
  · obtain ⟨c, lo, lc, e1, e2⟩ := h1.cell j S[j] (List.getElem?_eq_getElem hj)
    obtain ⟨c', lo', lc', e3, e4⟩ := h2.cell j S[j] (List.getElem?_eq_getElem hj)
    obtain ⟨c2, g1, g2, g3, g4⟩ := h.get e1
    rw [g1] at e3
    injection e3 with e3
    subst e3
    rw [e2, e4]
    simp [HC.key, g2, g3, g4]
  · rw [List.getElem?_eq_none (by rw [h2.len]; omega), List.getElem?_eq_none (by rw [h1.len]; omega)]
end Go.Proofs.YtfbohajojaaiaaaDoor
namespace Go.Proofs.YtfbohajojaaiaaaDoor
open Go.ChangeShapes Go.WideShapes Go.ChangeAt Go.RowKit
set_option linter.unusedVariables false
def bad (C : List HC) (L : List Wd) : Bool := L.any fun x => !mayW C.length x
/-- what stands from both heaps on -/
structure TC (w w3 : World) (f : Nat) (R : List Wd) (ro : Option Addr) (C C' : List HC) : Prop where
  hL : Cells w3 0 letL
  hR : WRow w3 ro R
  made : Made C
  sim : Sim C C'
  hC : C.length ≤ 400
  hn : R.length ≤ 400
  ok : ∀ c ∈ C, ∀ x ∈ c.l, WOk f w3 x ∧ Pure x
  hwd : ∀ z ∈ R.map Wd.w, WOk f w3 z ∧ Pure z
theorem TC.ok' {w w3 : World} {f : Nat} {R : List Wd} {ro : Option Addr} {C C' : List HC} (t : TC w w3 f R ro C C') : ∀ c ∈ C', ∀ x ∈ c.l, WOk f w3 x ∧ Pure x := fun c hc x hx => by
  obtain ⟨i, hi⟩ := List.getElem?_of_mem hc
  obtain ⟨c', h1, h2, h3, h4⟩ := t.sim.symm.get hi
  exact t.ok c' (List.mem_of_getElem? h1) x (by rw [h4]; exact hx)
def RunF (C : List HC) (L : List Wd) (po : Option Addr) (ao : Option Addr) (n cap : Nat) (ee : Int) (W : World) : Prop :=
  (bad C L = true ∧ po = none ∧ ao = none ∧ n = 0 ∧ cap = 0 ∧ ee = 2) ∨
    (bad C L = false ∧ ee = 0 ∧ n = L.length ∧ ∃ s base v' D, po = some ⟨base, 0, none⟩ ∧ (∀ x, x ∈ s ↔ Rch C L x) ∧ Ran C (outL C.length s) D ∧ Hp W base base v' D ∧ WRow W ao (L.map (mv (gOf (outL C.length s)))))
theorem RunF.keep {C : List HC} {L : List Wd} {po ao : Option Addr} {n cap : Nat} {ee : Int} {W W' : World} (h : RunF C L po ao n cap ee W) (hb : Below W.heap.size W W') : RunF C L po ao n cap ee W' := by
  obtain h | ⟨h1, h2, h3, s, b, v, D, h4, h5, h6, h7, h8⟩ := h
  · exact .inl h
  · exact .inr ⟨h1, h2, h3, s, b, v, D, h4, h5, h6, h7.keep hb, h8.keep hb⟩
def RRunF (C : List HC) (L : List Wd) (po : Option Addr) (ao : Option Addr) (n cap : Nat) (ee : Int) (W : World) : Prop :=
  (bad C L = true ∧ po = none ∧ ao = none ∧ n = 0 ∧ cap = 0 ∧ ee = 2) ∨
    (bad C L = false ∧ ee = 0 ∧ n = L.length ∧ ∃ s base v' D, po = some ⟨base, 0, none⟩ ∧ (∀ x, x ∈ s ↔ Rch C L x) ∧ Ran C (outL C.length s) D ∧ RHp W base base v' D ∧ WRow W ao (L.map (mv (gOf (outL C.length s)))))
theorem RRunF.keep {C : List HC} {L : List Wd} {po ao : Option Addr} {n cap : Nat} {ee : Int} {W W' : World} (h : RRunF C L po ao n cap ee W) (hb : Below W.heap.size W W') : RRunF C L po ao n cap ee W' := by
  obtain h | ⟨h1, h2, h3, s, b, v, D, h4, h5, h6, h7, h8⟩ := h
  · exact .inl h
  · exact .inr ⟨h1, h2, h3, s, b, v, D, h4, h5, h6, h7.keep hb, h8.keep hb⟩
def ReF (C : List HC) (L : List Wd) (ao : Option Addr) (n cap : Nat) (ee : Int) (W : World) : Prop :=
  (bad C L = true ∧ ao = none ∧ n = 0 ∧ cap = 0 ∧ ee = 2) ∨
    (bad C L = false ∧ ee = 0 ∧ ∃ s B, (∀ x, x ∈ s ↔ Rch C L x) ∧ n = (outL C.length s).length ∧ W.ownsRow B 3 1 (.slice ao n cap) n (intsV (outL C.length s)))
theorem ReF.keep {C : List HC} {L : List Wd} {ao : Option Addr} {n cap : Nat} {ee : Int} {W W' : World} (h : ReF C L ao n cap ee W) (hb : Below W.heap.size W W') : ReF C L ao n cap ee W' := by
  obtain h | ⟨h1, h2, s, B, h4, h5, h6⟩ := h
  · exact .inl h
  · exact .inr ⟨h1, h2, s, B, h4, h5, own_keep h6 hb⟩
section
variable {w w3 : World} {f : Nat} {R : List Wd} {ro : Option Addr} {C C' : List HC}
theorem words_u (t : TC w w3 f R ro C C') (rc : Nat) (W : World) (hb : Below w3.heap.size w3 W) : Calls Tryd.prog 10 #[.slice ro R.length rc] W fun e W' => ∃ ao cap, e = .returned (.slice ao R.length cap) ∧ Below W.heap.size W W' ∧ Hid (WRow W' ao (R.map Wd.w)) := by
  refine (words_any W R ro rc (t.hR.keep hb) (by have := t.hn; omega)).mono ?_
  rintro e W' ⟨hbw, ao, cap, rfl, hown⟩
  have hlm : (R.map Wd.w).length = R.length := by simp
  rw [← hlm] at hown ⊢
  obtain ⟨ao', cap', ez, hrow, -⟩ := own_prow hown
  injection ez with e1 e2 e3
  subst e1 e3
  exact ⟨_, _, rfl, hbw, Lib.hid hrow⟩
theorem run_u (t : TC w w3 f R ro C C') {p : Nat} {v : Value} {ao : Option Addr} {cap : Nat} (W : World) (hb : Below w3.heap.size w3 W) (hH : Hp W p p v C) (hr : WRow W ao (R.map Wd.w)) :
    Calls Tryd.prog 9 #[.pointer (some ⟨p, 0, none⟩), .slice ao R.length cap] W fun e W' => ∃ po a n c ee, e = .returned (.tuple #[.pointer po, .slice a n c, .int .i64 ee]) ∧ Below W.heap.size W W' ∧ Hid (RunF C (R.map Wd.w) po a n c ee W') := by
  have hlm : (R.map Wd.w).length = R.length := by simp
  rw [← hlm]
  refine (run_any W f p p v C ao cap (R.map Wd.w) hH t.made (fun c hc x hx => (t.ok c hc x hx).1.keep hb) (keep_letters t.hL hb) hr (fun x hx => (t.hwd x hx).1.keep hb) (by have := t.hn; omega)).mono ?_
  rintro e W' ⟨hbw, (⟨h1, rfl⟩ | ⟨h1, s, base, v', D, a, c, h2, h3, h4, h5, h6, rfl, h7⟩)⟩
  · exact ⟨none, none, 0, 0, 2, rfl, hbw, Lib.hid (.inl ⟨h1, rfl, rfl, rfl, rfl, rfl⟩)⟩
  · have hl2 : ((R.map Wd.w).map (mv (gOf (outL C.length s)))).length = (R.map Wd.w).length := by simp
    rw [← hl2] at h7
    obtain ⟨ao', cap', ez, hrow, -⟩ := own_prow h7
    injection ez with e1 e2 e3
    subst e1 e3
    exact ⟨_, _, _, _, _, rfl, hbw, Lib.hid (.inr ⟨h1, rfl, rfl, s, base, v', D, rfl, h3, h4, h6, hrow⟩)⟩
theorem rrun_u (t : TC w w3 f R ro C C') {p : Nat} {v : Value} {ao : Option Addr} {cap : Nat} (W : World) (hb : Below w3.heap.size w3 W) (hH : RHp W p p v C') (hr : WRow W ao (R.map Wd.w)) :
    Calls Tryd.prog 16 #[.pointer (some ⟨p, 0, none⟩), .slice ao R.length cap] W fun e W' => ∃ po a n c ee, e = .returned (.tuple #[.pointer po, .slice a n c, .int .i64 ee]) ∧ Below W.heap.size W W' ∧ Hid (RRunF C' (R.map Wd.w) po a n c ee W') := by
  have hlm : (R.map Wd.w).length = R.length := by simp
  rw [← hlm]
  refine (rrun_any W f p p v C' ao cap (R.map Wd.w) hH (t.sim.made t.made) (fun c hc x hx => ⟨(t.ok' c hc x hx).1.keep hb, (t.ok' c hc x hx).2⟩) hr (fun x hx => (t.hwd x hx).1.keep hb) (fun x hx => (t.hwd x hx).2) (by have := t.hn; omega)).mono ?_
  rintro e W' ⟨hbw, (⟨h1, rfl⟩ | ⟨h1, s, base, v', D, a, c, h2, h3, h4, h6, rfl, h7⟩)⟩
  · exact ⟨none, none, 0, 0, 2, rfl, hbw, Lib.hid (.inl ⟨h1, rfl, rfl, rfl, rfl, rfl⟩)⟩
  · have hl2 : ((R.map Wd.w).map (mv (gOf (outL C'.length s)))).length = (R.map Wd.w).length := by simp
    rw [← hl2] at h7
    obtain ⟨ao', cap', ez, hrow, -⟩ := own_prow h7
    injection ez with e1 e2 e3
    subst e1 e3
    exact ⟨_, _, _, _, _, rfl, hbw, Lib.hid (.inr ⟨h1, rfl, rfl, s, base, v', D, rfl, h3, h4, h6, hrow⟩)⟩
theorem reached_u (t : TC w w3 f R ro C C') {p : Nat} {v : Value} {ao : Option Addr} {cap : Nat} (W : World) (hb : Below w3.heap.size w3 W) (hH : Hp W p p v C) (hr : WRow W ao (R.map Wd.w)) :
    Calls Tryd.prog 11 #[.pointer (some ⟨p, 0, none⟩), .slice ao R.length cap] W fun e W' => ∃ a n c ee, e = .returned (.tuple #[.slice a n c, .int .i64 ee]) ∧ Below W.heap.size W W' ∧ Hid (ReF C (R.map Wd.w) a n c ee W') := by
  have hlm : (R.map Wd.w).length = R.length := by simp
  rw [← hlm]
  refine (reached_any W f p p v C ao cap (R.map Wd.w) hH (keep_letters t.hL hb) hr (fun x hx => (t.hwd x hx).1.keep hb) (by have := t.hn; omega)).mono ?_
  rintro e W' ⟨hbw, (⟨h1, rfl⟩ | ⟨h1, s, v', h3, rfl, h7⟩)⟩
  · exact ⟨none, 0, 0, 2, rfl, hbw, Lib.hid (.inl ⟨h1, rfl, rfl, rfl, rfl⟩)⟩
  · obtain ⟨a, c, rfl⟩ := own_slice h7
    exact ⟨_, _, _, _, rfl, hbw, Lib.hid (.inr ⟨h1, rfl, s, _, h3, rfl, h7⟩)⟩
theorem rreached_u (t : TC w w3 f R ro C C') {p : Nat} {v : Value} {ao : Option Addr} {cap : Nat} (W : World) (hb : Below w3.heap.size w3 W) (hH : RHp W p p v C') (hr : WRow W ao (R.map Wd.w)) :
    Calls Tryd.prog 17 #[.pointer (some ⟨p, 0, none⟩), .slice ao R.length cap] W fun e W' => ∃ a n c ee, e = .returned (.tuple #[.slice a n c, .int .i64 ee]) ∧ Below W.heap.size W W' ∧ Hid (ReF C' (R.map Wd.w) a n c ee W') := by
  have hlm : (R.map Wd.w).length = R.length := by simp
  rw [← hlm]
  refine (rreached_any W f p p v C' ao cap (R.map Wd.w) hH hr (fun x hx => (t.hwd x hx).1.keep hb) (fun x hx => (t.hwd x hx).2) (by have := t.hn; omega)).mono ?_
  rintro e W' ⟨hbw, (⟨h1, rfl⟩ | ⟨h1, s, v', h3, rfl, h7⟩)⟩
  · exact ⟨none, 0, 0, 2, rfl, hbw, Lib.hid (.inl ⟨h1, rfl, rfl, rfl, rfl⟩)⟩
  · obtain ⟨a, c, rfl⟩ := own_slice h7
    exact ⟨_, _, _, _, rfl, hbw, Lib.hid (.inr ⟨h1, rfl, s, _, h3, rfl, h7⟩)⟩
theorem ran_ok2 {C C' : List HC} {S : List Int} {w : World} {f : Nat} (hr : Ran C S C') (hS : S.length ≤ 1048576) (h : ∀ c ∈ C, ∀ x ∈ c.l, WOk f w x ∧ Pure x) : ∀ c ∈ C', ∀ x ∈ c.l, WOk f w x := by
  intro c hc x hx
  obtain ⟨j, hj⟩ := List.getElem?_of_mem hc
  have hjl := (List.getElem?_eq_some_iff.1 hj).1
  rw [hr.len] at hjl
  obtain ⟨d, lo, lc, h1, h2⟩ := hr.cell j S[j] (List.getElem?_eq_getElem hjl)
  rw [hj] at h2
  injection h2 with h2
  subst h2
  obtain ⟨y, hy, rfl⟩ := List.mem_map.1 hx
  exact wok_mv (h d (List.mem_of_getElem? h1) y hy).1 (by rw [List.length_take]; omega)
/-- both went well -/
structure TG (f : Nat) (w3 : World) (n : Nat) (C : List HC) (b b2 : Nat) (v1 v2 : Value) (D D' : List HC) (S : List Int) (T : List Wd) (a1 a2 a3 a4 : Option Addr) (c3 c4 : Nat) (W : World) : Prop where
  hp : Hp W b b v1 D
  hr : RHp W b2 b2 v2 D'
  sim : Sim D D'
  hT : T.length = n
  hS : S.length ≤ C.length
  hw1 : WRow W a1 T
  hw2 : WRow W a2 T
  hok : ∀ x ∈ T, WOk f w3 x
  hcok : ∀ c ∈ D, ∀ x ∈ c.l, WOk f w3 x
  hi1 : ∃ B, W.ownsRow B 3 1 (.slice a3 S.length c3) S.length (intsV S)
  hi2 : ∃ B, W.ownsRow B 3 1 (.slice a4 S.length c4) S.length (intsV S)
theorem TG.keep {f : Nat} {w3 : World} {n : Nat} {C : List HC} {b b2 : Nat} {v1 v2 : Value} {D D' : List HC} {S : List Int} {T : List Wd} {a1 a2 a3 a4 : Option Addr} {c3 c4 : Nat} {W W' : World} (h : TG f w3 n C b b2 v1 v2 D D' S T a1 a2 a3 a4 c3 c4 W) (hb : Below W.heap.size W W') : TG f w3 n C b b2 v1 v2 D D' S T a1 a2 a3 a4 c3 c4 W' :=
  ⟨h.hp.keep hb, h.hr.keep hb, h.sim, h.hT, h.hS, h.hw1.keep hb, h.hw2.keep hb, h.hok, h.hcok, let ⟨B, h⟩ := h.hi1; ⟨B, own_keep h hb⟩, let ⟨B, h⟩ := h.hi2; ⟨B, own_keep h hb⟩⟩
theorem runs_agree (t : TC w w3 f R ro C C') (hG : Good C) {W : World} {p1 a1 p2 a2 a3 a4 : Option Addr} {n1 c1 n2 c2 n3 c3 n4 c4 : Nat} {e1 e2 e3 e4 : Int} (h1 : RunF C (R.map Wd.w) p1 a1 n1 c1 e1 W) (h2 : RRunF C' (R.map Wd.w) p2 a2 n2 c2 e2 W) (h3 : ReF C (R.map Wd.w) a3 n3 c3 e3 W) (h4 : ReF C' (R.map Wd.w) a4 n4 c4 e4 W) :
    (p1 = none ∧ p2 = none ∧ a1 = none ∧ a2 = none ∧ a3 = none ∧ a4 = none ∧ n1 = 0 ∧ n2 = 0 ∧ n3 = 0 ∧ n4 = 0 ∧ c1 = 0 ∧ c2 = 0 ∧ c3 = 0 ∧ c4 = 0 ∧ e1 = 2 ∧ e2 = 2 ∧ e3 = 2 ∧ e4 = 2) ∨
    (n1 = R.length ∧ n2 = R.length ∧ n3 = n4 ∧ e1 = 0 ∧ e2 = 0 ∧ e3 = 0 ∧ e4 = 0 ∧ ∃ b b2 v1 v2 D D' S T, p1 = some ⟨b, 0, none⟩ ∧ p2 = some ⟨b2, 0, none⟩ ∧ n3 = S.length ∧ TG f w3 R.length C b b2 v1 v2 D D' S T a1 a2 a3 a4 c3 c4 W) := by
  have hbb : bad C' (R.map Wd.w) = bad C (R.map Wd.w) := by unfold bad; rw [t.sim.len]
  have hrc : ∀ x, Rch C' (R.map Wd.w) x ↔ Rch C (R.map Wd.w) x := fun x => ⟨fun h => t.sim.symm.rch h, fun h => t.sim.rch h⟩
  obtain ⟨b1, rfl, rfl, rfl, rfl, rfl⟩ | ⟨b1, rfl, rfl, s, b, v1, D, rfl, hs, hran, hH, hw1⟩ := h1
  · obtain ⟨-, rfl, rfl, rfl, rfl, rfl⟩ | ⟨b2, -⟩ := h2
    · obtain ⟨-, rfl, rfl, rfl, rfl⟩ | ⟨b3, -⟩ := h3
      · obtain ⟨-, rfl, rfl, rfl, rfl⟩ | ⟨b4, -⟩ := h4
        · exact .inl ⟨rfl, rfl, rfl, rfl, rfl, rfl, rfl, rfl, rfl, rfl, rfl, rfl, rfl, rfl, rfl, rfl, rfl, rfl⟩
        · rw [hbb, b1] at b4; cases b4
      · rw [b1] at b3; cases b3
    · rw [hbb, b1] at b2; cases b2
  · obtain ⟨b2, -⟩ | ⟨-, rfl, rfl, s2, bb, v2, D', rfl, hs2, hran2, hH2, hw2⟩ := h2
    · rw [hbb, b1] at b2; cases b2
    obtain ⟨b3, -⟩ | ⟨-, rfl, s3, B3, hs3, rfl, ho3⟩ := h3
    · rw [b1] at b3; cases b3
    obtain ⟨b4, -⟩ | ⟨-, rfl, s4, B4, hs4, rfl, ho4⟩ := h4
    · rw [hbb, b1] at b4; cases b4
    have e2 : outL C'.length s2 = outL C.length s := by rw [t.sim.len]; exact outL_same fun x => (hs2 x).trans ((hrc x).trans (hs x).symm)
    have e3 : outL C.length s3 = outL C.length s := outL_same fun x => (hs3 x).trans (hs x).symm
    have e4 : outL C'.length s4 = outL C.length s := by rw [t.sim.len]; exact outL_same fun x => (hs4 x).trans ((hrc x).trans (hs x).symm)
    rw [e2] at hran2 hw2
    rw [e3] at ho3
    rw [e4] at ho4
    rw [e3, e4]
    have hSl := outL_len C.length s
    have hC := t.hC
    refine .inr ⟨by simp, by simp, rfl, rfl, rfl, rfl, rfl, b, bb, v1, v2, D, D', outL C.length s, _, rfl, rfl, rfl, hH, hH2, ran_sim t.sim hran hran2, by simp, hSl, hw1, hw2, fun x hx => ?_, ran_ok2 hran (by omega) t.ok, ⟨_, ho3⟩, ⟨_, ho4⟩⟩
    obtain ⟨y, hy, rfl⟩ := List.mem_map.1 hx
    exact wok_mv (t.hwd y hy).1 (by omega)
end
end Go.Proofs.YtfbohajojaaiaaaDoor
namespace Go.Proofs.YtfbohajojaaiaaaDoor
open Go.ChangeShapes Go.WideShapes Go.ChangeAt Go.RowKit Go.Shelf
set_option linter.unusedVariables false
set_option maxRecDepth 100000
attribute [local go_sem] Oper.semAt_some
/-- in a round -/
structure LI (w0 : World) (n : Nat) (W : World) : Prop where
  hb : Below w0.heap.size w0 W
  hn : W.heap[w0.heap.size]? = some (.cells #[.int .i64 n] 3 (0, 0))
theorem LI.firm {w0 : World} {n : Nat} {W : World} {l : Nat} {o o' : Obj} (hl : w0.heap.size + 1 ≤ l) (h : LI w0 n W) : LI w0 n (W.putObj l o') := by
  have c := chg_put W l o'
  exact ⟨h.hb.trans (c.below h.hb.size (fun k e => by omega)), c.heap h.hn (by omega)⟩
theorem LI.keep {w0 : World} {n : Nat} {W W' : World} (h : LI w0 n W) (hb : Below W.heap.size W W') : LI w0 n W' := ⟨h.hb.trans (hb.mono h.hb.size), keep_heap h.hn hb⟩
theorem wrow_put {W : World} {l : Nat} {o o' : Obj} {lo : Option Addr} {L : List Wd} (h : WRow W lo L) (hl : W.heap[l]? = some o) (ho : o.isCells = false) : WRow (W.putObj l o') lo L := by
  intro i x hi
  obtain ⟨b, off, e, hlt, hc⟩ := h i x hi
  refine ⟨b, off, e, by have := (chg_put W l o').size; omega, fun j u hj => ?_⟩
  have h1 := hc j u hj
  refine (chg_put W l o').cell h1 (fun e => ?_)
  simp only at e
  subst e
  unfold World.cell? at h1
  simp only [hl] at h1
  cases o with
  | cells c t r => cases ho
  | _ => cases h1
/-- what a round is handed -/
def LA (w0 : World) (D : List HC) (T : Array Value) (pre : List (YC D)) (x : YC D) (a : Act) (W : World) : Prop :=
  ∃ X c lo lc, a = { tmps := (((T.setIfInBounds 140 (.int .i64 (pre.length : Nat))).setIfInBounds 141 (.agg #[.int .i8 c.k, .int .i64 c.sz, .slice lo c.l.length lc])).setIfInBounds 26 (.int .i64 (pre.length : Nat))).setIfInBounds 27 (.pointer (some ⟨X, 0, none⟩)), defers := [] } ∧
    w0.heap.size + 1 ≤ X ∧ D[pre.length]? = some c ∧ W.heap[X]? = some (.cells #[.int .i8 c.k, .int .i64 c.sz, .slice lo c.l.length lc] 65 (0, 0)) ∧ WRow W lo c.l ∧ LI w0 pre.length W
theorem LA.firm {w0 : World} {D : List HC} {T : Array Value} (pre : List (YC D)) (x : YC D) : Firm (w0.heap.size + 1) (LA w0 D T pre x) := by
  rintro a W l o o' hl ho hc ⟨X, c, lo, lc, h1, h2, h3, h4, h5, h6⟩
  refine ⟨X, c, lo, lc, h1, h2, h3, (chg_put W l o').heap h4 (fun e => ?_), wrow_put h5 ho hc, h6.firm (o := o) hl⟩
  subst e
  rw [ho] at h4
  cases h4
  cases hc
theorem tells_loop {ex : Nat} {g : Operand} {assign body : Code} {Q : Exit → Act → World → Prop} {T : Array Value} {w0 W0 : World} {D : List HC} {base b : Nat} {v : Value} {bn bh : Nat} {leave : Int}
    (hg : ({ tmps := T, defers := [] } : Act).eval g = .func (.func 34) #[] #[.pointer (some ⟨bn, 0, none⟩), .pointer (some ⟨bh, 0, none⟩)])
    (hsz : W0.heap.size = w0.heap.size + 1) (h0 : LI w0 0 W0) (hit : ItC base b v D bn bh w0)
    (hassign : ∀ (l i X : Nat) (k s : Int) (lo : Option Addr) (ll lc : Nat) (W : World) (K : Act → World → Prop), K { tmps := (((T.setIfInBounds 140 (.int .i64 (i : Nat))).setIfInBounds 141 (.agg #[.int .i8 k, .int .i64 s, .slice lo ll lc])).setIfInBounds 26 (.int .i64 (i : Nat))).setIfInBounds 27 (.pointer (some ⟨W.heap.size, 0, none⟩)), defers := [] } (W.alloc (.cells #[.int .i8 k, .int .i64 s, .slice lo ll lc] 65)) →
      assign.wpIn (Fence.wide.inRound l) 7 Tryd.prog (Exit.then K (fun _ _ _ => False)) { tmps := ((T.setIfInBounds 140 (.int .i64 (i : Nat))).setIfInBounds 141 (.agg #[.int .i8 k, .int .i64 s, .slice lo ll lc])), defers := [] } W)
    (hbody : ∀ (l : Nat) (i X : Nat) (c : HC) (lo : Option Addr) (lc : Nat) (W : World), i < D.length → D[i]? = some c → w0.heap.size + 1 ≤ X → W.heap[X]? = some (.cells #[.int .i8 c.k, .int .i64 c.sz, .slice lo c.l.length lc] 65 (0, 0)) → WRow W lo c.l → LI w0 i W →
      body.wpIn (Fence.wide.inRound l) 7 Tryd.prog (RfPost (α := Unit) (w0.heap.size + 1) (fun _ => LI w0 (i + 1)) (fun c _ W => c = .exit ex ∧ ((i + 1 : Nat) : Int) = leave ∧ LI w0 (i + 1) W) [] W) { tmps := (((T.setIfInBounds 140 (.int .i64 (i : Nat))).setIfInBounds 141 (.agg #[.int .i8 c.k, .int .i64 c.sz, .slice lo c.l.length lc])).setIfInBounds 26 (.int .i64 (i : Nat))).setIfInBounds 27 (.pointer (some ⟨X, 0, none⟩)), defers := [] } W)
    (hdone : ∀ (B : Nat) (W : World), w0.heap.size + 1 ≤ B → LI w0 D.length W → W.heap[B]? = some (.deferred (some [])) → Q .normal { tmps := T, defers := [{ target := .collected B, args := #[] }] } W)
    (hstop : ∀ (B n : Nat) (W : World), w0.heap.size + 1 ≤ B → (n : Int) = leave → LI w0 n W → W.heap[B]? = some (.deferred (some [])) → (Code.exit ex).wpIn Fence.wide 9 Tryd.prog Q { tmps := T, defers := [{ target := .collected B, args := #[] }] } W) :
    (Code.rangeFunc g #[140, 141] assign body).wpIn Fence.wide 9 Tryd.prog Q { tmps := T, defers := [] } W0 := by
  refine rf_lawG (α := YC D) (encs := encC) rfl (by omega) (gf := 34) hg trivial (enters_of Tryd.func34 (by kernel_rfl) rfl) (fun _ => rfl)
    (fun pre => LI w0 pre.length) (fun c pre W => c = .exit ex ∧ (pre.length : Int) = leave ∧ LI w0 pre.length W) (fun xs W => LI w0 D.length W) (fun _ => True) D.length (LA w0 D T) (YG D)
    (by rw [hsz]; exact fun s W l o o' hl _ _ h => h.firm (o := o) hl) (fun W o h => h.keep ((Below.refl _ _).alloc (Nat.le_refl _) _)) (by rw [hsz]; exact fun c s W l o o' hl _ _ h => ⟨h.1, h.2.1, h.2.2.firm (o := o) hl⟩) (by rw [hsz]; exact fun s W l o o' hl _ _ h => h.firm (o := o) hl) (by rw [hsz]; exact LA.firm) h0 ?_ ?_ ?_ ?_ ?_
  · rintro l pre ⟨x1, x2⟩ W K hI ⟨hx1, c, lo, lc, hc, rfl, hrow⟩ hlen hK
    simp only at hx1 hc
    rw [hx1] at hc
    have := hassign l pre.length 0 c.k c.sz lo c.l.length lc W K (hK _ _ ⟨W.heap.size, c, lo, lc, rfl, by have := hI.hb.size; have := heap_lt hI.hn; omega, hc, heap_new _ _, hrow.keep ((Below.refl _ _).alloc (Nat.le_refl _) _), hI.keep ((Below.refl _ _).alloc (Nat.le_refl _) _)⟩ (keeps_chg (chg_alloc (fun _ => False) _ _) (fun _ h => h.elim)))
    simp only [encC, hx1]
    simpa using this
  · rintro l pre x a1 W ⟨X, c, lo, lc, rfl, h2, h3, h4, h5, h6⟩ hlen
    refine wpIn_mono (hbody l pre.length X c lo lc W hlen h3 h2 h4 h5 h6) ?_
    intro e a3 W3 hp
    have hpl : (pre ++ [x]).length = pre.length + 1 := by simp
    rw [← hsz] at hp
    cases e <;> simp only [RfPost] at hp ⊢ <;> (try exact hp) <;> rw [hpl] <;> exact hp
  · intro l J Jx T' h1 h2 h3 h4 W hW hJ
    refine (cells1G_in l base b v D bn bh J Jx T' (fun pre W h => ?_) (fun pre A B hj hb => h2 pre A B hj (keeps_chg (chg_of_below hb (fun _ => False)) (fun _ h => h.elim)) ((h1 _ _ hj).keep hb)) (fun pre A hj => h3 pre A A hj (keeps_chg (chg_of_below (Below.refl _ _) (fun _ => False)) (fun _ h => h.elim))) (fun pre x W1 hj hg hl => h4 pre x W1 hj hg hl) W hJ).mono ?_
    · have hb := (h1 _ _ h).hb
      exact ⟨hit.hp.keep hb, keep_cell hit.hn hb, keep_cell hit.hh hb⟩
    · rintro e W' ⟨hv, (⟨xs, ⟨hx1, hx2⟩, hT⟩ | ⟨pre, hp, hx⟩)⟩
      · refine ⟨hv, .inl ⟨xs, ?_, hT⟩⟩
        have hl : xs.length = D.length := by
          have := congrArg List.length hx1
          simpa using this
        have := h1 _ _ hx2
        rw [hl] at this
        exact this
      · exact ⟨hv, .inr ⟨pre, hp, hx⟩⟩
  · intro B xs W hB hI hK
    exact hdone B W (by omega) hI hK
  · rintro B c pre W hB - ⟨rfl, hl, hI⟩ hK
    exact hstop B pre.length W (by omega) hl hI hK
end Go.Proofs.YtfbohajojaaiaaaDoor
