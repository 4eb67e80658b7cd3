/- what a unit comes to; its worlds. No conditions. -/
/- while Step goes on: its worlds. No conditions. -/
import Derived.Test.YtepfmanbllegiaaDoorMt14
namespace Go.Proofs.YtepfmanbllegiaaDoor
open Go.ChangeShapes Go.WideShapes Go.ChangeAt Go.RowKit
set_option linter.unusedVariables false
set_option linter.unusedSimpArgs false
set_option maxRecDepth 100000
theorem wpList_build_eff {ops : Array Oper} {rest : List Oper} {o : Oper} {a : Act} {w : World} {Q : Exit → Act → World → Prop} (hgd : o.guard = none) (x : Operand) (ho : o.op = .buildSlice 47 1 #[(0, x)]) (cs : Array Value) (hx : a.eval x = .agg cs) (hs : cs.size = 61)
    (h : wpList Tryd.prog ops Q rest (a.put o.dst (.slice (some ⟨w.heap.size, 0, none⟩) 1 1)) (w.alloc (.cells cs 51))) : wpList Tryd.prog ops Q (o :: rest) a w :=
  wpList_plain hgd fun _ hK => op_build_eff x ho cs hx hs (hK _ _ h)
theorem infoIN {cs : Array Value} (h : cs.size = 11) : (Tryd.prog.info? 39).map (·.size) = some cs.size := by
  have : (Tryd.prog.info? 39).map (·.size) = some 11 := by kernel_rfl
  rw [this, h]
theorem infoPH {cs : Array Value} (h : cs.size = 5) : (Tryd.prog.info? 67).map (·.size) = some cs.size := by
  have : (Tryd.prog.info? 67).map (·.size) = some 5 := by kernel_rfl
  rw [this, h]
/-- append of records onto nothing -/
theorem wpList_append_rc {ops : Array Oper} {rest : List Oper} {o : Oper} {a : Act} {w : World} {Q : Exit → Act → World → Prop} (hgd : o.guard = none) (s x : Operand)
    (ho : o.op = .call { callee := .builtin .append, args := #[s, x], argTypes := #[28, 28] }) {M : Nat → Prop} (sl : Sl) (L : List Rc) (hs : a.eval s = .slice none 0 0) (hx : a.eval x = .slice sl.o sl.n sl.c) (h : RcAt M w sl L) (hn : L.length ≤ 100000)
    (hk : ∀ v' w', w'.ownsRow w.heap.size 46 13 v' L.length (rcs L) → Below w.heap.size w w' → wpList Tryd.prog ops Q rest (a.put o.dst v') w') : wpList Tryd.prog ops Q (o :: rest) a w := by
  obtain ⟨i0, z0, i1, i2, i3, i4, i5⟩ := Stp.infoRC2
  obtain ⟨so, sn, sc⟩ := sl
  obtain ⟨h1, h2, h3, h4⟩ := h
  have h1 : sn = L.length := h1
  subst h1
  cases so with
  | none =>
    have hL : L = [] := by
      rcases h4 with h4 | ⟨b, off, e, -⟩
      · exact h4
      · cases e
    subst hL
    refine wpList_plain hgd fun _ hK => ?_
    have hr : (Builtin.append_ #[28, 28] o.type #[.slice none 0 0, .slice none 0 sc]).run Tryd.prog w = .ok (.slice none 0 0) w := by
      simp [Builtin.append_, run_underlying Tryd.underlying28, sizeOf, typeInfo, i1, Builtin.lenOf, Builtin.firstCells, storeCells]
    unfold Oper.wp execOp
    simp only [ho, resolve, invoke, builtin, Sem.run_bind, Sem.run_pure, Result.andThen_ok, List.map_toArray, List.map_cons, List.map_nil, hs, hx, List.length_nil, hr]
    exact hK _ _ (hk _ _ ⟨by simp [rcs], .inl ⟨rfl, rfl⟩⟩ (Below.refl _ _))
  | some ad =>
    have hnews : ∀ (j : Nat) (u : Value), (rcs L)[j]? = some u → w.cell? (ad.add j) = some u := by
      intro j u hj
      rcases h4 with h4 | ⟨b, off, e, -, hc⟩
      · subst h4
        simp [rcs] at hj
      · injection e with e
        subst e
        rw [Addr.add_lit]
        exact hc j u hj
    have hone : ∀ u ∈ rcs L, u.oneCell' = true := by
      intro u hu
      obtain ⟨r, hr, hu⟩ := List.mem_flatMap.1 hu
      exact r.cells_one u hu
    have hby : (0 + L.length) * 176 ≤ 140737488355328 := by omega
    refine wpList_append_own2 hgd s x 28 ho w.heap.size 46 i0 z0 13 176 Tryd.underlying28 i1 i2 i3 i4 i5 (by decide) (.slice none 0 0) 0 [] hs (World.ownsRow_nil _ _ _ _) ad L.length sc (rcs L) hx (rcs_len L) hnews hone (by unfold maxLen; omega) hby (Nat.le_refl _) ?_
    intro v' w' ho' hg hw
    rw [List.nil_append, Nat.zero_add] at ho'
    exact hk v' w' ho' (grown_below hg)
def idleE : Ef := ⟨17, 0, numT 0 0, chZ, faZ, mmZ⟩
def EfAt (w : World) (B : Nat) (v : Value) (E : List Ef) : Prop := ∃ eo ec, v = .slice eo E.length ec ∧ E.length ≤ ec ∧ ec ≤ 9223372036854775807 ∧ ∀ j u, (efs E)[j]? = some u → ∃ b, eo = some ⟨b, 0, none⟩ ∧ B ≤ b ∧ w.cell? ⟨b, j, none⟩ = some u
theorem EfAt.chg {w w' : World} {B : Nat} {v : Value} {E : List Ef} (h : EfAt w B v E) {S : Nat → Prop} (hc : Chg S w w') (hS : ∀ k, S k → k < B) : EfAt w' B v E := by
  obtain ⟨eo, ec, h1, h2, h3, h4⟩ := h
  refine ⟨eo, ec, h1, h2, h3, fun j u hj => ?_⟩
  obtain ⟨b, e, hb, hcl⟩ := h4 j u hj
  exact ⟨b, e, hb, hc.cell hcl (fun hs => by have hs : S b := hs; have := hS _ hs; omega)⟩
theorem EfAt.keep {w w' : World} {B : Nat} {v : Value} {E : List Ef} (h : EfAt w B v E) (hb : Below w.heap.size w w') : EfAt w' B v E := h.chg (chg_of_below hb (fun _ => False)) (fun _ h => h.elim)
theorem EfAt.low {w : World} {B B' : Nat} {v : Value} {E : List Ef} (h : EfAt w B v E) (hB : B' ≤ B) : EfAt w B' v E := by
  obtain ⟨eo, ec, h1, h2, h3, h4⟩ := h
  refine ⟨eo, ec, h1, h2, h3, fun j u hj => ?_⟩
  obtain ⟨b, e, hb, hcl⟩ := h4 j u hj
  exact ⟨b, e, Nat.le_trans hB hb, hcl⟩
theorem UnOk.efat {w : World} {ub B : Nat} {cs : List Value} {ev : Value} {bi : Bool} {E : List Ef} (h : UnOk w ub cs ev bi E) (hB : B ≤ ub) : EfAt w B ev E := by
  have hF := World.ownsRowF_of h.hown
  obtain ⟨hl, ⟨e0, e⟩ | ⟨g, cap, cur, e0, hb, hh, h3, h4, r⟩⟩ := id h.hown
  · have e1 := List.eq_nil_of_length_eq_zero e
    subst e0 e1
    exact ⟨none, 0, rfl, Nat.le_refl _, by omega, fun j u hj => by simp [efs] at hj⟩
  · subst e0
    refine ⟨some ⟨g, 0, none⟩, cap, rfl, ?_, ?_, fun j u hj => ⟨g, rfl, by omega, ?_⟩⟩
    · first | omega | assumption | exact h3 | exact h4
    · first | omega | assumption | (unfold maxLen at *; omega)
    · have := hF.cells (g := g) rfl j u hj
      rw [Addr.add_lit, Nat.zero_add] at this
      exact this
theorem EfAt.idle {w : World} {B g : Nat} (h : w.heap[g]? = some (.cells (efL idleE).toArray 51 (0, 0))) (hB : B ≤ g) : EfAt w B (.slice (some ⟨g, 0, none⟩) 1 1) [idleE] :=
  ⟨some ⟨g, 0, none⟩, 1, rfl, Nat.le_refl _, by omega, fun j u hj => ⟨g, rfl, hB, (cells_at h j u (by rw [List.getElem?_toArray]; exact hj)).1⟩⟩
/-- what a unit comes to, if it is not idle; m has its own records -/
def ScQ (RL : List Rc) (i : Im) (ML : List It) (m : Mm) (N : Nat → Prop) (w' : World) (m' : Mm) (E1 : List Ef) (RL' : List Rc) : Prop :=
  (m.ph = 0 ∧ NeQ RL m N w' m' E1 ∧ RL' = RL) ∨ (m.ph = 1 ∧ SpQ RL i m N w' m' E1 RL') ∨ (m.ph = 2 ∧ WaQ RL m ML N w' m' E1 RL') ∨ (m.ph = 3 ∧ UoQ m N w' m' E1 ∧ RL' = RL) ∨
  (m.ph = 4 ∧ i.some = true ∧ UdQ i m N w' m' E1 ∧ RL' = RL)
def SrQ (a : Fa) (RL : List Rc) (i : Im) (ML : List It) (m : Mm) (N : Nat → Prop) (w' : World) (m' : Mm) (E1 : List Ef) (RL' : List Rc) : Prop :=
  ((finB a m = false ∨ (m.ph = 2 ∧ ∀ x ∈ ML, hitB m.pid x = false) ∨ (m.ph = 4 ∧ i.some = false)) ∧ m' = m ∧ E1 = [idleE] ∧ RL' = RL) ∨
  (finB a m = true ∧ ∃ rs1, ScQ RL i ML { m with rs := rs1 } N w' m' E1 RL')
/-- a start machine's records and reason -/
structure McOk (M : Nat → Prop) (w : World) (m : Mm) (RL : List Rc) : Prop where
  U : TeOk M w m.U
  rs : RcAt M w m.rs RL
theorem McOk.chg {M M' T : Nat → Prop} {w w' : World} {m : Mm} {RL : List Rc} (h : McOk M w m RL) (hc : Chg T w w') (hT : ∀ k, T k → k < w.heap.size → M k) (hM : ∀ k, M' k → k < w.heap.size → M k) : McOk M' w' m RL := ⟨h.U.chg hc hT hM, h.rs.chg hc hT hM⟩
theorem McOk.keep {M : Nat → Prop} {w w' : World} {m : Mm} {RL : List Rc} (h : McOk M w m RL) (hb : Below w.heap.size w w') : McOk M w' m RL := ⟨h.U.keep hb, h.rs.keep hb⟩
/-- the reason that a step keeps -/
theorem FaQ.U {RL : List Rc} {m m' : Mm} {x : TE} {N : Nat → Prop} {w' : World} {E1 : List Ef} (h : FaQ RL m x N w' m' E1) (hx : TeOk N w' x) : TeOk N w' m'.U := by
  rcases h with ⟨-, rfl, -⟩ | ⟨-, rfl, -⟩ <;> exact hx
theorem SaQ.U {RL RL' : List Rc} {m m' : Mm} {p : Int} {N : Nat → Prop} {w' : World} {E1 : List Ef} (h : SaQ RL p m m' E1 RL') (hx : TeOk N w' m.U) : TeOk N w' m'.U := by
  obtain ⟨rfl, -⟩ := h
  exact hx
theorem ScQ.U {RL RL' : List Rc} {i : Im} {ML : List It} {m m' : Mm} {N : Nat → Prop} {w' : World} {E1 : List Ef} (h : ScQ RL i ML m N w' m' E1 RL') (hx : TeOk N w' m.U) : TeOk N w' m'.U := by
  rcases h with ⟨-, h, -⟩ | ⟨-, h⟩ | ⟨-, h⟩ | ⟨-, h, -⟩ | ⟨-, -, h, -⟩
  · rcases h with ⟨-, rfl, -⟩ | ⟨-, rfl, -⟩ <;> exact hx
  · rcases h with ⟨-, ⟨-, h⟩ | ⟨-, rfl, -⟩⟩ | ⟨-, h, -⟩
    · exact h.U hx
    · exact hx
    · refine h.U (atomT_ok _ _ _ ?_)
      split
      · show (12 : Nat) ≤ _
        decide
      · show (5 : Nat) ≤ _
        decide
  · obtain ⟨j, it, E2, -, -, -, -, h⟩ := h
    rcases h with ⟨-, -, h⟩ | ⟨-, -, E3, -, ⟨-, h⟩ | ⟨-, x, h, -, hx2, -⟩⟩ | ⟨-, -, -, E3, -, x, h, -, hx2, -⟩
    · exact h.U hx
    · exact h.U hx
    · exact h.U hx2
    · exact h.U hx2
  · obtain ⟨rfl, -⟩ := h
    exact hx
  · obtain ⟨rfl, -⟩ := h
    exact hx
end Go.Proofs.YtepfmanbllegiaaDoor
namespace Go.Proofs.YtepfmanbllegiaaDoor
open Go.ChangeShapes Go.WideShapes Go.ChangeAt Go.RowKit
set_option linter.unusedVariables false
set_option linter.unusedSimpArgs false
set_option maxRecDepth 100000
theorem FaQ.conv {RL : List Rc} {m m' : Mm} {x : TE} {N N' : Nat → Prop} {w w' : World} {E1 : List Ef} (h : FaQ RL m x N w m' E1) (hT : ∀ x, TeOk N w x → TeOk N' w' x) : FaQ RL m x N' w' m' E1 := by
  rcases h with ⟨h1, h2, y, h3, h4, h5⟩ | h
  · exact .inl ⟨h1, h2, y, h3, h4, hT _ h5⟩
  · exact .inr h
theorem ScQ.conv {RL RL' : List Rc} {i : Im} {ML : List It} {m m' : Mm} {N N' : Nat → Prop} {w w' : World} {E1 : List Ef} (h : ScQ RL i ML m N w m' E1 RL') (hT : ∀ x, TeOk N w x → TeOk N' w' x) : ScQ RL i ML m N' w' m' E1 RL' := by
  rcases h with ⟨h0, h, hR⟩ | ⟨h0, h⟩ | ⟨h0, h⟩ | ⟨h0, h, hR⟩ | ⟨h0, h1, h, hR⟩
  · refine .inl ⟨h0, ?_, hR⟩
    rcases h with ⟨h1, h2, y, h3, h4, h5⟩ | h
    · exact .inl ⟨h1, h2, y, h3, h4, hT _ h5⟩
    · exact .inr h
  · refine .inr (.inl ⟨h0, ?_⟩)
    rcases h with h | ⟨h1, h2, h3⟩
    · exact .inl h
    · exact .inr ⟨h1, h2.conv hT, h3⟩
  · refine .inr (.inr (.inl ⟨h0, ?_⟩))
    obtain ⟨j, it, E2, g1, g2, g3, g4, h⟩ := h
    refine ⟨j, it, E2, g1, g2, g3, g4, ?_⟩
    rcases h with h | ⟨f1, f2, E3, f3, h | ⟨f4, x, h, f5, f6, f7⟩⟩ | ⟨f1, f2, f3, E3, f4, x, h, f5, f6, f7⟩
    · exact .inl h
    · exact .inr (.inl ⟨f1, f2, E3, f3, .inl h⟩)
    · exact .inr (.inl ⟨f1, f2, E3, f3, .inr ⟨f4, x, h.conv hT, f5, hT _ f6, f7⟩⟩)
    · exact .inr (.inr ⟨f1, f2, f3, E3, f4, x, h.conv hT, f5, hT _ f6, f7⟩)
  · exact .inr (.inr (.inr (.inl ⟨h0, h, hR⟩)))
  · refine .inr (.inr (.inr (.inr ⟨h0, h1, ?_, hR⟩)))
    obtain ⟨h2, ⟨h3, y, h4, h5, h6⟩ | h⟩ := h
    · exact ⟨h2, .inl ⟨h3, y, h4, h5, hT _ h6⟩⟩
    · exact ⟨h2, .inr h⟩
/-- what stands while Step goes on -/
structure StW (w W : World) (a : Fa) (m : Mm) (i : Im) : Prop where
  hb : Below w.heap.size w W
  hF : W.heap[w.heap.size]? = some (.cells (flL a m).toArray 36 (0, 0))
  hI : W.heap[w.heap.size + 1]? = some (.cells (imL i).toArray 39 (0, 0))
  hZ : W.heap[w.heap.size + 2]? = some (.cells (flL faZ mmZ).toArray 36 (0, 0))
  hE : W.heap[w.heap.size + 3]? = some (.cells (efL idleE).toArray 51 (0, 0))
theorem StW.keep {w W W' : World} {a : Fa} {m : Mm} {i : Im} (h : StW w W a m i) (hb : Below W.heap.size W W') : StW w W' a m i := ⟨h.hb.trans (hb.mono h.hb.size), keep_heap h.hF hb, keep_heap h.hI hb, keep_heap h.hZ hb, keep_heap h.hE hb⟩
theorem StW.chg {T : Nat → Prop} {w W W' : World} {a : Fa} {m : Mm} {i : Im} (h : StW w W a m i) (hc : Chg T W W') (hT : ∀ k, T k → w.heap.size + 4 ≤ k) : StW w W' a m i :=
  ⟨h.hb.trans (hc.below h.hb.size fun k hk => by have := hT k hk; omega), hc.heap h.hF (fun e => by have := hT _ e; omega), hc.heap h.hI (fun e => by have := hT _ e; omega), hc.heap h.hZ (fun e => by have := hT _ e; omega), hc.heap h.hE (fun e => by have := hT _ e; omega)⟩
/-- M, and the first boxes -/
abbrev M4 (M : Nat → Prop) (w : World) : Nat → Prop := fun k => M k ∨ (w.heap.size ≤ k ∧ k < w.heap.size + 4)
abbrev nilV : Value := .slice none 0 0
/-- the unit is laid -/
structure StU (w W : World) (a : Fa) (m : Mm) (i : Im) (ub : Nat) (rs1 : Sl) (RL : List Rc) : Prop where
  st : StW w W a m i
  hu : UnOk W ub (unL { m with rs := rs1 } i) nilV false []
  rs : RcOwn W ub rs1 RL
  hub : w.heap.size + 4 ≤ ub
section
variable {w W W' : World} {M : Nat → Prop} {a : Fa} {m : Mm} {i : Im} {ub : Nat} {rs1 : Sl} {RL : List Rc}
theorem StU.lt4 (h : StU w W a m i ub rs1 RL) (hM : ∀ k, M k → k < w.heap.size) : ∀ k, M4 M w k → k < W.heap.size := fun k hk => by
  have h1 := heap_lt h.hu.hU
  have h2 := h.hub
  rcases hk with hk | hk
  · have := hM k hk
    omega
  · omega
theorem StU.old (h : StU w W a m i ub rs1 RL) {k : Nat} (hk : MU (M4 M w) ub nilV k) (hl : k < w.heap.size) : M k := by
  have := h.hub
  rcases hk with (hk | hk) | hk | hk
  · exact hk
  · omega
  · omega
  · cases hk
theorem StU.te (h : StU w W a m i ub rs1 RL) {x : TE} (hx : TeOk M w x) : TeOk (MU (M4 M w) ub nilV) W x :=
  (hx.more (M' := MU (M4 M w) ub nilV) fun k hk hl => h.old hk hl).keep h.st.hb
theorem StU.its (h : StU w W a m i ub rs1 RL) {v : Value} {ML : List It} (hx : ItsOk M w v ML) : ItsOk (MU (M4 M w) ub nilV) W v ML :=
  hx.chg (chg_of_below h.st.hb (fun _ => False)) (fun _ h => h.elim) fun k hk hl => h.old hk hl
theorem StU.lv (h : StU w W a m i ub rs1 RL) (hc : Cells w 0 letL) : ¬ UnB ub nilV 0 := fun e => by
  have hl : 0 < w.heap.size := World.block_lt_of_cell? w _ (hc 0 _ rfl).1
  have := h.hub
  rcases e with e | e
  · omega
  · cases e
theorem StU.lvs (h : StU w W a m i ub rs1 RL) (hc : Cells w 0 letL) : 0 < W.heap.size := by
  have hl : 0 < w.heap.size := World.block_lt_of_cell? w _ (hc 0 _ rfl).1
  exact Nat.lt_of_lt_of_le hl h.st.hb.size
theorem StU.hr (h : StU w W a m i ub rs1 RL) (hM : ∀ k, M k → k < w.heap.size) : ∀ k, (Value.slice rs1.o rs1.n rs1.c).ownBlock = some k → ¬ MU (M4 M w) ub nilV k := fun k hk e => by
  have h1 := own_base h.rs k hk
  have h2 := h.hub
  rcases e with (e | e) | e | e
  · have := hM k e
    omega
  · omega
  · omega
  · cases e
end
/-- what stands behind the unit's step -/
structure StG (M : Nat → Prop) (w W : World) (a : Fa) (mf m' : Mm) (i : Im) (ub : Nat) (ev' : Value) (bi : Bool) (E1 : List Ef) (RL' : List Rc) (Q : (Nat → Prop) → World → Prop) : Prop where
  st : StW w W a mf i
  hu : UnOk W ub (unL m' i) ev' bi E1
  rs : RcOwn W ub m'.rs RL'
  hub : w.heap.size + 4 ≤ ub
  U : TeOk (M4 M w) W m'.U
  hQ : ∃ W0, Q (M4 M w) W0 ∧ ∀ x, TeOk (M4 M w) W0 x → TeOk (M4 M w) W x
section
variable {w W W' : World} {M : Nat → Prop} {a : Fa} {m mf mf' m' : Mm} {i : Im} {ub : Nat} {rs1 : Sl} {RL RL' : List Rc} {ev' : Value} {bi : Bool} {E1 : List Ef} {Q : (Nat → Prop) → World → Prop}
/-- a step of the unit is done -/
theorem StU.fin (h : StU w W a m i ub rs1 RL) {Q2 : (Nat → Prop) → World → Mm → List Ef → List Rc → Prop} {e : Ending} (hr : UnR (M4 M w) W ub { m with rs := rs1 } i nilV bi [] Q2 e W')
    (hU : ∀ N m' E1 RL', Q2 N W' m' E1 RL' → TeOk N W' m.U → TeOk N W' m'.U) (hu : TeOk M w m.U) (hcv : ∀ N N' m' E1 RL', Q2 N W' m' E1 RL' → (∀ x, TeOk N W' x → TeOk N' W' x) → Q2 N' W' m' E1 RL') :
    ∃ m' E1 ev' RL', StG M w W' a m m' i ub ev' bi E1 RL' (fun N w' => Q2 N w' m' E1 RL') := by
  obtain ⟨-, m', E1, ev', RL', h1, h2, h3, h4, h5, h6⟩ := hr
  have hT : ∀ k, (UnB ub nilV k ∨ (Value.slice rs1.o rs1.n rs1.c).ownBlock = some k) → w.heap.size + 4 ≤ k := fun k hk => by
    have := h.hub
    rcases hk with (hk | hk) | hk
    · omega
    · cases hk
    · have := own_base h.rs k hk
      omega
  have hw : ∀ x, TeOk (MU (M4 M w) ub ev') W' x → TeOk (M4 M w) W' x := fun x hx => hx.more fun k hk _ => .inl hk
  have hum : TeOk (MU (M4 M w) ub ev') W' m.U := by
    have h0 := h.te (M := M) hu
    have hb := h.st.hb
    have := hb.size
    refine hu.chg (M' := MU (M4 M w) ub ev') ((chg_of_below h.st.hb _).trans h4) (fun k hk hl => ?_) (fun k hk hl => ?_)
    · have := hT k hk
      omega
    · have := h.hub
      rcases hk with (hk | hk) | hk | hk
      · exact hk
      · omega
      · omega
      · have := h5 k (by omega) hk
        cases this
  exact ⟨m', E1, ev', RL', ⟨h.st.chg h4 hT, h1, h3, h.hub, hw _ (hU _ _ _ _ h6 hum), W', hcv _ _ _ _ _ h6 hw, fun _ h => h⟩⟩
theorem StG.keep (h : StG M w W a mf m' i ub ev' bi E1 RL' Q) (hb : Below W.heap.size W W') : StG M w W' a mf m' i ub ev' bi E1 RL' Q := by
  obtain ⟨W0, h1, h2⟩ := h.hQ
  exact ⟨h.st.keep hb, h.hu.keep hb, own_keep h.rs hb, h.hub, h.U.keep hb, W0, h1, fun x hx => (h2 x hx).keep hb⟩
/-- a store into one of the first boxes -/
theorem StG.box (h : StG M w W a mf m' i ub ev' bi E1 RL' Q) {q : Nat} (hc : Chg (fun k => k = q) W W') (hq : w.heap.size ≤ q ∧ q < w.heap.size + 4) : UnOk W' ub (unL m' i) ev' bi E1 ∧ RcOwn W' ub m'.rs RL' ∧ TeOk (M4 M w) W' m'.U ∧ (∃ W0, Q (M4 M w) W0 ∧ ∀ x, TeOk (M4 M w) W0 x → TeOk (M4 M w) W' x) ∧ Below w.heap.size w W' := by
  have h1 := h.hub
  obtain ⟨W0, h2, h3⟩ := h.hQ
  refine ⟨h.hu.chg hc (by omega) (fun k hk e => ?_), own_chg h.rs hc (fun k hk e => ?_), h.U.chg hc (fun k hk _ => .inr (by have hk : k = q := hk; omega)) (fun _ h _ => h), ⟨W0, h2, fun x hx => (h3 x hx).chg hc (fun k hk _ => .inr (by have hk : k = q := hk; omega)) (fun _ h _ => h)⟩, h.st.hb.trans (hc.below h.st.hb.size fun k hk => by have hk : k = q := hk; omega)⟩
  · have := own_base h.hu.hown k hk
    have e : k = q := e
    omega
  · have := own_base h.rs k hk
    have e : k = q := e
    omega
theorem StG.put (h : StG M w W a mf m' i ub ev' bi E1 RL' Q) (hc : Chg (fun k => k = w.heap.size) W W') (hF : W'.heap[w.heap.size]? = some (.cells (flL a mf').toArray 36 (0, 0))) : StG M w W' a mf' m' i ub ev' bi E1 RL' Q := by
  obtain ⟨g1, g2, g3, g4, g5⟩ := h.box hc ⟨Nat.le_refl _, by omega⟩
  exact ⟨⟨g5, hF, hc.heap h.st.hI (by omega), hc.heap h.st.hZ (by omega), hc.heap h.st.hE (by omega)⟩, g1, g2, h.hub, g3, g4⟩
end
theorem NeQ.rs {RL : List Rc} {m m' : Mm} {N : Nat → Prop} {w' : World} {E1 : List Ef} (h : NeQ RL m N w' m' E1) : m'.rs = m.rs := by
  rcases h with ⟨-, rfl, -⟩ | ⟨-, rfl, -⟩ <;> rfl
theorem UoQ.rs {m m' : Mm} {N : Nat → Prop} {w' : World} {E1 : List Ef} (h : UoQ m N w' m' E1) : m'.rs = m.rs := by
  obtain ⟨rfl, -⟩ := h
  rfl
theorem UdQ.rs {i : Im} {m m' : Mm} {N : Nat → Prop} {w' : World} {E1 : List Ef} (h : UdQ i m N w' m' E1) : m'.rs = m.rs := by
  obtain ⟨rfl, -⟩ := h
  rfl
/-- what Step tells -/
def StpP (M : Nat → Prop) (w : World) (a : Fa) (m : Mm) (RL : List Rc) (i : Im) (ML : List It) (e : Ending) (w' : World) : Prop :=
  ∃ m' v E1 RL', e = .returned (.tuple #[.agg (flL a m').toArray, v]) ∧ Below w.heap.size w w' ∧ EfAt w' w.heap.size v E1 ∧ McOk M w' m' RL' ∧ SrQ a RL i ML m M w' m' E1 RL'
section
variable {w W W' : World} {M : Nat → Prop} {a : Fa} {m m' : Mm} {i : Im} {ML : List It} {ub : Nat} {rs1 : Sl} {RL RL' : List Rc} {ev' : Value} {bi : Bool} {E1 : List Ef}
theorem StG.done (h : StG M w W a m' m' i ub ev' bi E1 RL' (fun N w' => ScQ RL i ML { m with rs := rs1 } N w' m' E1 RL')) (hM : ∀ k, M k → k < w.heap.size) (hf : finB a m = true) (hc : Chg (fun k => k = w.heap.size + 2) W W') : StpP M w a m RL i ML (.returned (.tuple #[.agg (flL a m').toArray, ev'])) W' := by
  obtain ⟨g1, g2, g3, ⟨W0, g4, g6⟩, g5⟩ := h.box hc ⟨by omega, by omega⟩
  have hw : ∀ x, TeOk (M4 M w) W' x → TeOk M W' x := fun x hx => hx.more fun k hk _ => .inl hk
  exact ⟨m', ev', E1, RL', rfl, g5, g1.efat (by have := h.hub; omega), ⟨hw _ g3, g2.at fun k hk e => by
    have := own_base g2 k hk
    have := hM k e
    have := h.hub
    omega⟩, .inr ⟨hf, rs1, g4.conv fun x hx => hw _ (g6 x hx)⟩⟩
end
end Go.Proofs.YtepfmanbllegiaaDoor
