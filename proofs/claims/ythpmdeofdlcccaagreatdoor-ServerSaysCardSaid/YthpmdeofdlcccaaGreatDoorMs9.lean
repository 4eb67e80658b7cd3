/- server.Step. Conditions: what is handed over reads; the letters stand. -/
/- server.New, server.State. Conditions: what is handed over reads; the letters stand. -/
import Derived.Test.YthpmdeofdlcccaaGreatDoorMs8
namespace Go.Proofs.YthpmdeofdlcccaaGreatDoor
open Go.ChangeShapes Go.WideShapes Go.ChangeAt Go.RowKit
set_option linter.unusedVariables false
set_option linter.unusedSimpArgs false
set_option maxRecDepth 100000
theorem wpList_build_eff {ops : Array Oper} {rest : List Oper} {o : Oper} {a : Act} {w : World} {Q : Exit → Act → World → Prop} (hgd : o.guard = none) (x : Operand) (ho : o.op = .buildSlice 67 1 #[(0, x)]) (cs : Array Value) (hx : a.eval x = .agg cs) (hs : cs.size = 61)
    (h : wpList Tryz.prog ops Q rest (a.put o.dst (.slice (some ⟨w.heap.size, 0, none⟩) 1 1)) (w.alloc (.cells cs 72))) : wpList Tryz.prog ops Q (o :: rest) a w :=
  wpList_plain hgd fun _ hK => op_build_eff x ho cs hx hs (hK _ _ h)
theorem infoFR {cs : Array Value} (h : cs.size = 35) : (Tryz.prog.info? 39).map (·.size) = some cs.size := by
  have : (Tryz.prog.info? 39).map (·.size) = some 35 := by kernel_rfl
  rw [this, h]
theorem infoMA {n : Nat} (h : n = 27) : (Tryz.prog.info? 37).map (·.size) = some n := by
  have : (Tryz.prog.info? 37).map (·.size) = some 27 := by kernel_rfl
  rw [this, h]
theorem infoIN {cs : Array Value} (h : cs.size = 11) : (Tryz.prog.info? 43).map (·.size) = some cs.size := by
  have : (Tryz.prog.info? 43).map (·.size) = some 11 := by kernel_rfl
  rw [this, h]
theorem infoPH {cs : Array Value} (h : cs.size = 7) : (Tryz.prog.info? 89).map (·.size) = some cs.size := by
  have : (Tryz.prog.info? 89).map (·.size) = some 7 := by kernel_rfl
  rw [this, h]
theorem frL_one (m : Mc) : ∀ v ∈ frL m, v.oneCell' = true := by
  intro v hv
  simp only [frL, List.mem_cons, List.not_mem_nil, or_false] at hv
  rcases hv with rfl | rfl | rfl | rfl | rfl | rfl | rfl | rfl | rfl | rfl | rfl | rfl | rfl | rfl | rfl | rfl | rfl | rfl | rfl | rfl | rfl | rfl | rfl | rfl | rfl | rfl | rfl | rfl | rfl | rfl | rfl | rfl | rfl | rfl | rfl <;> rfl
theorem mcL_one (m : Mc) : ∀ v ∈ mcL m, v.oneCell' = true := by
  intro v hv
  simp only [mcL, List.mem_cons, List.not_mem_nil, or_false] at hv
  rcases hv with rfl | rfl | rfl | rfl | rfl | rfl | rfl | rfl | rfl | rfl | rfl | rfl | rfl | rfl | rfl | rfl | rfl | rfl | rfl | rfl | rfl | rfl | rfl | rfl | rfl | rfl | rfl <;> rfl
theorem mid_range {w : World} {q o : Nat} {pre cs post : List Value} {t : TypeId} (h : w.heap[q]? = some (.cells (pre ++ (cs ++ post)).toArray t (0, 0))) (ho : pre.length = o) : w.rangeAt q o cs := fun j v hj => by
  have hl : j < cs.length := (List.getElem?_eq_some_iff.1 hj).1
  refine (cells_at h (o + j) v ?_).1
  rw [List.getElem?_toArray, List.getElem?_append_right (by omega), ho, Nat.add_sub_cancel_left, List.getElem?_append_left hl]
  exact hj
theorem fr_range {w : World} {q : Nat} {m : Mc} (h : w.heap[q]? = some (.cells (frL m).toArray 39 (0, 0))) : w.rangeAt q 8 (mcL m) :=
  mid_range (pre := [.int .i8 2, .int .i64 0, .int .i64 0, .slice none 0 0, .slice none 0 0, .slice none 0 0, .slice none 0 0, .int .i64 0]) (post := []) (by rw [List.append_nil]; exact h) rfl
theorem setRow_cells {t : TypeId} {g : Nat} : ∀ (vs : List Value) (o : Nat) {w : World} {cs : List Value}, w.heap[g]? = some (.cells cs.toArray t (0, 0)) → (w.setCells g o vs).heap[g]? = some (.cells (setL cs o vs).toArray t (0, 0))
  | [], _, _, _, h => h
  | v :: r, o, w, cs, h => by
    refine setRow_cells r (o + 1) ?_
    rw [set_at h]
    congr 2
    apply Array.ext'
    rw [Array.toList_setIfInBounds]
theorem setL_mid : ∀ (vs cs pre post : List Value), cs.length = vs.length → setL (pre ++ (cs ++ post)) pre.length vs = pre ++ (vs ++ post)
  | [], [], pre, post, _ => rfl
  | v :: vs, a :: cs, pre, post, h => by
    show setL ((pre ++ (a :: (cs ++ post))).set pre.length v) (pre.length + 1) vs = _
    rw [List.set_append_right _ _ (Nat.le_refl _), Nat.sub_self]
    show setL (pre ++ (v :: (cs ++ post))) (pre.length + 1) vs = _
    have := setL_mid vs cs (pre ++ [v]) post (by simpa using h)
    simpa using this
theorem setL_fr (m m' : Mc) : setL (frL m) 8 (mcL m') = frL m' := setL_mid (mcL m') (mcL m) [.int .i8 2, .int .i64 0, .int .i64 0, .slice none 0 0, .slice none 0 0, .slice none 0 0, .slice none 0 0, .int .i64 0] [] rfl
theorem fr_set {w : World} {q : Nat} {m : Mc} (m' : Mc) (h : w.heap[q]? = some (.cells (frL m).toArray 39 (0, 0))) : (w.setCells q 8 (mcL m')).heap[q]? = some (.cells (frL m').toArray 39 (0, 0)) := by
  have := setRow_cells (t := 39) (g := q) (mcL m') 8 h
  rw [setL_fr] at this
  exact this
theorem fr_there {w : World} {q : Nat} {m : Mc} (h : w.heap[q]? = some (.cells (frL m).toArray 39 (0, 0))) : w.there q 8 27 := fun j hj => by
  have hi : 8 + j < (frL m).length := by show 8 + j < 35; omega
  have := cells_at h (8 + j) _ (by rw [List.getElem?_toArray]; exact List.getElem?_eq_getElem hi)
  exact ⟨by rw [this.1]; rfl, this.2⟩
/-- effects that were handed back -/
def EfAt (w : World) (B : Nat) (v : Value) (E : List Ef) : Prop := ∃ eo ec, v = .slice eo E.length ec ∧ E.length ≤ ec ∧ ec ≤ 9223372036854775807 ∧ ∀ j u, (efs E)[j]? = some u → ∃ b, eo = some ⟨b, 0, none⟩ ∧ B ≤ b ∧ w.cell? ⟨b, j, none⟩ = some u
theorem EfAt.chg {w w' : World} {B : Nat} {v : Value} {E : List Ef} (h : EfAt w B v E) {S : Nat → Prop} (hc : Chg S w w') (hS : ∀ k, S k → k < B) : EfAt w' B v E := by
  obtain ⟨eo, ec, h1, h2, h3, h4⟩ := h
  refine ⟨eo, ec, h1, h2, h3, fun j u hj => ?_⟩
  obtain ⟨b, e, hb, hcl⟩ := h4 j u hj
  exact ⟨b, e, hb, hc.cell hcl (fun hs => by have hs : S b := hs; have := hS _ hs; omega)⟩
theorem EfAt.keep {w w' : World} {B : Nat} {v : Value} {E : List Ef} (h : EfAt w B v E) (hb : Below w.heap.size w w') : EfAt w' B v E := h.chg (chg_of_below hb (fun _ => False)) (fun _ h => h.elim)
theorem UnOk.efat {w : World} {ub B : Nat} {cs : List Value} {ev : Value} {E : List Ef} (h : UnOk w ub cs ev E) (hB : B ≤ ub) : EfAt w B ev E := by
  have hF := World.ownsRowF_of h.hown
  obtain ⟨hl, ⟨e0, e⟩ | ⟨g, cap, cur, e0, hb, hh, h3, h4, r⟩⟩ := id h.hown
  · have e1 := List.eq_nil_of_length_eq_zero e
    subst e0 e1
    exact ⟨none, 0, rfl, Nat.le_refl _, by omega, fun j u hj => by simp [efs] at hj⟩
  · subst e0
    refine ⟨some ⟨g, 0, none⟩, cap, rfl, ?_, ?_, fun j u hj => ⟨g, rfl, by omega, ?_⟩⟩
    · first | omega | assumption | exact h3 | exact h4
    · first | omega | assumption | (unfold maxLen at *; omega)
    · have := hF.cells (g := g) rfl j u hj
      rw [Addr.add_lit, Nat.zero_add] at this
      exact this
theorem EfAt.idle {w : World} {B g : Nat} (h : w.heap[g]? = some (.cells (efL idleE).toArray 72 (0, 0))) (hB : B ≤ g) : EfAt w B (.slice (some ⟨g, 0, none⟩) 1 1) [idleE] :=
  ⟨some ⟨g, 0, none⟩, 1, rfl, Nat.le_refl _, by omega, fun j u hj => ⟨g, rfl, hB, (cells_at h j u (by rw [List.getElem?_toArray]; exact hj)).1⟩⟩
/-- what a server's unit comes to -/
def StR (M : Nat → Prop) (B : Nat) (w' : World) (m : Mc) (c : Ch) (EA : List TE) (i : Inn) (L : List It) (m' : Mc) (E1 : List Ef) : Prop :=
  ((fineB m c EA = false ∨ ((m.ph = 1 ∨ m.ph = 3 ∨ m.ph = 4) ∧ i.some = false)) ∧ m' = m ∧ E1 = [idleE]) ∨
  (m.ph = 0 ∧ m' = { m with ph := 1 } ∧ E1 = [callE c iniS c.ao c.an c.ac]) ∨
  (m.ph = 1 ∧ BgR M w' m i m' E1) ∨
  (m.ph = 2 ∧ LoR M B w' m i c L m' E1) ∨
  ((m.ph = 3 ∨ m.ph = 4) ∧ ToR M w' m m' E1) ∨
  (m.ph = 5 ∧ m' = { m with ph := 6 } ∧ ∃ x, E1 = [x] ∧ CbE w' B c m.V terS 1 x) ∨
  (m.ph = 6 ∧ m' = m ∧ E1 = [endE m.U])
def StP (M : Nat → Prop) (w : World) (m : Mc) (c : Ch) (EA : List TE) (i : Inn) (L : List It) (e : Ending) (w' : World) : Prop :=
  ∃ m' v E1, e = .returned (.tuple #[.agg (frL m').toArray, v]) ∧ Below w.heap.size w w' ∧ EfAt w' w.heap.size v E1 ∧ McOk M w' m' c EA ∧ StR M w.heap.size w' m c EA i L m' E1
/-- what stands while Step goes on -/
structure StW (w W : World) (m : Mc) (i : Inn) : Prop where
  hb : Below w.heap.size w W
  hF : W.heap[w.heap.size]? = some (.cells (frL m).toArray 39 (0, 0))
  hI : W.heap[w.heap.size + 1]? = some (.cells (innL i).toArray 43 (0, 0))
  hZ : W.heap[w.heap.size + 2]? = some (.cells frZ.toArray 39 (0, 0))
  hE : W.heap[w.heap.size + 3]? = some (.cells (efL idleE).toArray 72 (0, 0))
theorem StW.keep {w W W' : World} {m : Mc} {i : Inn} (h : StW w W m i) (hb : Below W.heap.size W W') : StW w W' m i := ⟨h.hb.trans (hb.mono h.hb.size), keep_heap h.hF hb, keep_heap h.hI hb, keep_heap h.hZ hb, keep_heap h.hE hb⟩
/-- the unit is laid -/
structure StU (w W : World) (m : Mc) (i : Inn) (ub : Nat) : Prop where
  st : StW w W m i
  hu : UnOk W ub (unL m i) (.slice none 0 0) []
  hub : w.heap.size + 4 ≤ ub
/-- M, and the first boxes -/
abbrev M4 (M : Nat → Prop) (w : World) : Nat → Prop := fun k => M k ∨ (w.heap.size ≤ k ∧ k < w.heap.size + 4)
theorem StU.lt4 {w W : World} {M : Nat → Prop} {m : Mc} {i : Inn} {ub : Nat} (h : StU w W m i ub) (hM : ∀ k, M k → k < w.heap.size) : ∀ k, M4 M w k → k < W.heap.size := fun k hk => by
  have h1 := heap_lt h.hu.hU
  have h2 := h.hub
  rcases hk with hk | hk
  · have := hM k hk
    omega
  · omega
theorem StU.te {w W : World} {M : Nat → Prop} {m : Mc} {i : Inn} {ub : Nat} (h : StU w W m i ub) {x : TE} (hx : TeOk M w x) : TeOk (MU (M4 M w) ub (.slice none 0 0)) W x :=
  (hx.more (M' := MU (M4 M w) ub (.slice none 0 0)) fun k hk hl => by
    rcases hk with (hk | hk) | hk | hk
    · exact hk
    · omega
    · have := h.hub
      omega
    · cases hk).keep h.st.hb
theorem StU.ml {w W : World} {M : Nat → Prop} {m : Mc} {i : Inn} {ub : Nat} (h : StU w W m i ub) {v : Value} {L : List It} (hx : MlOk M w v L) : MlOk (MU (M4 M w) ub (.slice none 0 0)) W v L := by
  obtain ⟨ao, cap, e1, e2, e3, e4⟩ := hx
  refine ⟨ao, cap, e1, e2, e3, fun it hit => ?_⟩
  obtain ⟨g1, b, off, g2, g3⟩ := e4 it hit
  exact ⟨h.te g1, b, off, g2, g3.keep h.st.hb⟩
theorem StU.old {w W W' : World} {M : Nat → Prop} {m : Mc} {i : Inn} {ub : Nat} (h : StU w W m i ub) {x : TE} (hx : TeOk M w x) (hc : Chg (UnB ub (.slice none 0 0)) W W') : TeOk (M4 M w) W' x :=
  (h.te hx).chg hc (fun k hk _ => .inr hk) (fun k hk _ => .inl hk)
theorem StU.rcd {w W : World} {M : Nat → Prop} {m : Mc} {i : Inn} {ub : Nat} (h : StU w W m i ub) {c : Ch} {EA : List TE} (hm : McOk M w m c EA) : W.heap[m.rb]? = some (.cells (rcL c).toArray 64 (0, 0)) ∧ ¬ UnB ub (.slice none 0 0) m.rb := by
  refine ⟨keep_heap hm.hr h.st.hb, fun e => ?_⟩
  have := heap_lt hm.hr
  rcases e with e | e
  · have := h.hub
    omega
  · cases e
theorem StU.lv {w W : World} {m : Mc} {i : Inn} {ub : Nat} (h : StU w W m i ub) (hc : Cells w 0 letL) : ¬ UnB ub (.slice none 0 0) 0 := fun e => by
  have h0 := (hc 0 _ rfl).1
  have := World.block_lt_of_cell? w _ h0
  have h1 : 0 < w.heap.size := this
  rcases e with e | e
  · have := h.hub
    omega
  · cases e
theorem StR.conv {M M' : Nat → Prop} {B B' : Nat} {w w' : World} {m : Mc} {c : Ch} {EA : List TE} {i : Inn} {L : List It} {m' : Mc} {E1 : List Ef} (h : StR M B w m c EA i L m' E1) (hT : ∀ x, TeOk M w x → TeOk M' w' x) (hC : ∀ f n x, CbE w B c m.V f n x → CbE w' B' c m.V f n x) : StR M' B' w' m c EA i L m' E1 := by
  rcases h with h | h | ⟨h1, h2⟩ | ⟨h1, h2⟩ | ⟨h1, h2⟩ | ⟨h1, h2, x, h3, h4⟩ | h
  · exact .inl h
  · exact .inr (.inl h)
  · refine .inr (.inr (.inl ⟨h1, ?_⟩))
    rcases h2 with ⟨V, a, dl, e1, e2, e3, e4, e5⟩ | ⟨a, x, u, e1, e2, e3, e4, e5, e6⟩
    · exact .inl ⟨V, a, dl, e1, e2, e3, hT _ e4, hT _ e5⟩
    · exact .inr ⟨a, x, u, e1, e2, e3, e4, hT _ e5, hT _ e6⟩
  · refine .inr (.inr (.inr (.inl ⟨h1, ?_⟩)))
    rcases h2 with h2 | ⟨e1, e2, x, e3, e4⟩ | ⟨it, r, e0, e1, t, e2, e3, e4⟩ | ⟨it, r, f, x, e1, e2, e3, e4, e5, e6⟩ | ⟨it, r, nm, x, e0, e1, e2, e3, e4⟩
    · exact .inl h2
    · exact .inr (.inl ⟨e1, e2, x, e3, hC _ _ _ e4⟩)
    · exact .inr (.inr (.inl ⟨it, r, e0, e1, t, e2, e3, hT _ e4⟩))
    · exact .inr (.inr (.inr (.inl ⟨it, r, f, x, e1, e2, e3, e4, hC _ _ _ e5, hT _ e6⟩)))
    · exact .inr (.inr (.inr (.inr ⟨it, r, nm, x, e0, e1, e2, e3, hC _ _ _ e4⟩)))
  · obtain ⟨h2, U, V, dl, ph, e1, e2, e3, e4⟩ := h2
    exact .inr (.inr (.inr (.inr (.inl ⟨h1, h2, U, V, dl, ph, e1, e2, hT _ e3, hT _ e4⟩))))
  · exact .inr (.inr (.inr (.inr (.inr (.inl ⟨h1, h2, x, h3, hC _ _ _ h4⟩)))))
  · exact .inr (.inr (.inr (.inr (.inr (.inr h)))))
/-- the unit is done -/
structure StG (M : Nat → Prop) (w W : World) (m : Mc) (c : Ch) (EA : List TE) (i : Inn) (L : List It) (ub : Nat) (mf m' : Mc) (ev' : Value) (E1 : List Ef) : Prop where
  hb : Below w.heap.size w W
  hF : W.heap[w.heap.size]? = some (.cells (frL mf).toArray 39 (0, 0))
  hZ : W.heap[w.heap.size + 2]? = some (.cells frZ.toArray 39 (0, 0))
  hu : UnOk W ub (unL m' i) ev' E1
  hub : w.heap.size + 4 ≤ ub
  hM : McOk (M4 M w) W m' c EA
  hR : StR (M4 M w) (w.heap.size + 4) W m c EA i L m' E1
/-- the unit's own step is over -/
theorem StU.done {M : Nat → Prop} {w W W' : World} {m : Mc} {c : Ch} {EA : List TE} {i : Inn} {L : List It} {ub : Nat} {m' : Mc} {ev' : Value} {E1 : List Ef} (h : StU w W m i ub) (hm : McOk M w m c EA) (hu : UnOk W' ub (unL m' i) ev' ([] ++ E1)) (hc : Chg (UnB ub (.slice none 0 0)) W W')
    (hR : StR (M4 M w) (w.heap.size + 4) W' m c EA i L m' E1) (hph : 0 ≤ m'.ph ∧ m'.ph ≤ 6) (hrb : m'.rb = m.rb) (hT : TeOk (M4 M w) W' m'.T) (hU : TeOk (M4 M w) W' m'.U) (hV : TeOk (M4 M w) W' m'.V) : StG M w W' m c EA i L ub m m' ev' E1 := by
  have hub := h.hub
  have hnk : ∀ k, UnB ub (.slice none 0 0) k → w.heap.size + 4 ≤ k := fun k hk => by
    rcases hk with hk | hk
    · omega
    · cases hk
  have hb : Below w.heap.size w W' := h.st.hb.trans (hc.below h.st.hb.size fun k hk => by have := hnk k hk; omega)
  refine ⟨hb, hc.heap h.st.hF fun e => by have := hnk _ e; omega, hc.heap h.st.hZ fun e => by have := hnk _ e; omega, by simpa using hu, hub, ?_, hR⟩
  have hk : McOk (M4 M w) W' m c EA := hm.chg (chg_of_below hb (fun _ => False)) (fun _ h => h.elim) (fun k hk hl => hk.elim id fun e => by omega)
  exact ⟨hph, hT, hU, hV, hrb ▸ hk.hr, hrb ▸ hk.hrM, hk.hE, hk.hm⟩
theorem CbE.chg {w w' : World} {c : Ch} {S : Nat → Prop} {B : Nat} {V : TE} {f : ByteArray} {n : Nat} {x : Ef} (h : CbE w B c V f n x) (hc : Chg S w w') (hS : ∀ k, S k → k < B) : CbE w' B c V f n x := by
  obtain ⟨g, L, h1, h2, h3, h4⟩ := h
  exact ⟨g, L, h1, h2, hc.heap h3 (fun e => by have := hS _ e; omega), h4⟩
theorem CbE.le {w : World} {c : Ch} {B B' : Nat} {V : TE} {f : ByteArray} {n : Nat} {x : Ef} (h : CbE w B c V f n x) (hB : B' ≤ B) : CbE w B' c V f n x := by
  obtain ⟨g, L, h1, h2, h3, h4⟩ := h
  exact ⟨g, L, h1, Nat.le_trans hB h2, h3, h4⟩
section
variable {M : Nat → Prop} {w W W' : World} {m mf mf' : Mc} {c : Ch} {EA : List TE} {i : Inn} {L : List It} {ub : Nat} {m' : Mc} {ev' : Value} {E1 : List Ef}
theorem StR.parts {B : Nat} {N : Nat → Prop} (h : StR N B W m c EA i L m' E1) (hph : 0 ≤ m.ph ∧ m.ph ≤ 6) (hT : TeOk N W m.T) (hU : TeOk N W m.U) (hV : TeOk N W m.V) : (0 ≤ m'.ph ∧ m'.ph ≤ 6) ∧ m'.rb = m.rb ∧ TeOk N W m'.T ∧ TeOk N W m'.U ∧ TeOk N W m'.V := by
  rcases h with ⟨-, rfl, -⟩ | ⟨-, rfl, -⟩ | ⟨-, h2⟩ | ⟨-, h2⟩ | ⟨-, h2⟩ | ⟨-, rfl, -⟩ | ⟨-, rfl, -⟩
  · exact ⟨hph, rfl, hT, hU, hV⟩
  · exact ⟨by simp, rfl, hT, hU, hV⟩
  · rcases h2 with ⟨V, a, dl, rfl, -, -, e4, -⟩ | ⟨a, x, u, rfl, -⟩
    · exact ⟨by simp, rfl, hT, hU, e4⟩
    · exact ⟨hph, rfl, hT, hU, hV⟩
  · rcases h2 with ⟨-, rfl, -⟩ | ⟨-, rfl, -⟩ | ⟨it, r, -, -, t, rfl, -, e4⟩ | ⟨it, r, f, x, -, -, rfl, -, -, e6⟩ | ⟨it, r, nm, x, -, -, rfl, -⟩
    · exact ⟨hph, rfl, hT, hU, hV⟩
    · exact ⟨by simp, rfl, hT, hU, hV⟩
    · exact ⟨by simp, rfl, hT, e4, hV⟩
    · exact ⟨by simp, rfl, e6, hU, hV⟩
    · exact ⟨by simp, rfl, hT, hU, hV⟩
  · obtain ⟨-, U, V, dl, ph, rfl, e2, e3, e4⟩ := h2
    exact ⟨by show 0 ≤ ph ∧ ph ≤ 6; omega, rfl, hT, e3, e4⟩
  · exact ⟨by simp, rfl, hT, hU, hV⟩
  · exact ⟨hph, rfl, hT, hU, hV⟩
theorem StU.fin (h : StU w W m i ub) (hm : McOk M w m c EA) (hu : UnOk W' ub (unL m' i) ev' ([] ++ E1)) (hc : Chg (UnB ub (.slice none 0 0)) W W') (hR : StR (M4 M w) (w.heap.size + 4) W' m c EA i L m' E1) : StG M w W' m c EA i L ub m m' ev' E1 := by
  obtain ⟨h1, h2, h3, h4, h5⟩ := hR.parts hm.hph (h.old hm.hT hc) (h.old hm.hU hc) (h.old hm.hV hc)
  exact h.done hm hu hc hR h1 h2 h3 h4 h5
theorem StU.size (h : StU w W m i ub) : w.heap.size + 4 ≤ W.heap.size := by
  have := heap_lt h.hu.hU
  have := h.hub
  omega
theorem StU.weak (h : StU w W m i ub) (hR : StR (MU (M4 M w) ub ev') W.heap.size W' m c EA i L m' E1) : StR (M4 M w) (w.heap.size + 4) W' m c EA i L m' E1 := hR.conv (fun x hx => hx.more fun k hk _ => .inl hk) fun f n x hx => hx.le h.size
/-- one of the first boxes is written -/
theorem StG.step (h : StG M w W m c EA i L ub mf m' ev' E1) {q : Nat} (hc : Chg (fun k => k = q) W W') (hq : w.heap.size ≤ q ∧ q < w.heap.size + 4) : Below w.heap.size w W' ∧ UnOk W' ub (unL m' i) ev' E1 ∧ McOk (M4 M w) W' m' c EA ∧ StR (M4 M w) (w.heap.size + 4) W' m c EA i L m' E1 := by
  have hub := h.hub
  have hT : ∀ x, TeOk (M4 M w) W x → TeOk (M4 M w) W' x := fun x hx => hx.chg hc (fun k hk _ => .inr ((show k = q from hk) ▸ hq)) (fun k hk _ => hk)
  refine ⟨h.hb.trans (hc.below h.hb.size fun k hk => by have hk : k = q := hk; omega), ⟨hc.heap h.hu.hU (by omega), h.hu.hcs, own_chg h.hu.hown hc fun k hk e => ?_⟩, h.hM.chg hc (fun k hk _ => .inr ((show k = q from hk) ▸ hq)) (fun k hk _ => hk), h.hR.conv hT fun f n x hx => hx.chg hc fun k hk => by have hk : k = q := hk; omega⟩
  have := own_base h.hu.hown k hk
  have e : k = q := e
  omega
theorem StG.put (h : StG M w W m c EA i L ub mf m' ev' E1) (hc : Chg (fun k => k = w.heap.size) W W') (hF : W'.heap[w.heap.size]? = some (.cells (frL mf').toArray 39 (0, 0))) : StG M w W' m c EA i L ub mf' m' ev' E1 := by
  obtain ⟨h1, h2, h3, h4⟩ := h.step hc (by omega)
  exact ⟨h1, hF, hc.heap h.hZ (by omega), h2, h.hub, h3, h4⟩
theorem StG.keep (h : StG M w W m c EA i L ub mf m' ev' E1) (hb : Below W.heap.size W W') : StG M w W' m c EA i L ub mf m' ev' E1 := by
  have hc := chg_of_below hb (fun _ => False)
  refine ⟨h.hb.trans (hb.mono h.hb.size), keep_heap h.hF hb, keep_heap h.hZ hb, h.hu.keep hb, h.hub, h.hM.keep hb, h.hR.conv (fun x hx => hx.keep hb) fun f n x hx => hx.chg hc fun _ h => h.elim⟩
theorem StG.done (h : StG M w W m c EA i L ub mf m' ev' E1) (hc : Chg (fun k => k = w.heap.size + 2) W W') : StP M w m c EA i L (.returned (.tuple #[.agg (frL m').toArray, ev'])) W' := by
  obtain ⟨h1, h2, h3, h4⟩ := h.step hc (by omega)
  have hM : ∀ x, TeOk (M4 M w) W' x → TeOk M W' x := fun x hx => hx.more fun k hk _ => .inl hk
  refine ⟨m', ev', E1, rfl, h1, h2.efat (Nat.le_trans (by omega) h.hub), ⟨h3.hph, hM _ h3.hT, hM _ h3.hU, hM _ h3.hV, h3.hr, fun e => h3.hrM (.inl e), h3.hE.more fun k hk _ => .inl hk, h3.hm⟩, h4.conv hM fun f n x hx => hx.le (by omega)⟩
end
def StS (n ub : Nat) (m' : Mc) (ev' : Value) (W : World) : Prop := W.heap[n]? = some (.cells (frL m').toArray 39 (0, 0)) ∧ W.cell? ⟨ub, 38, none⟩ = some ev'
set_option maxHeartbeats 16000000 in
theorem step_any (M : Nat → Prop) (w : World) (hM : ∀ k, M k → k < w.heap.size) (hc : Cells w 0 letL) (m : Mc) (c : Ch) (EA : List TE) (i : Inn) (L : List It) (h : McOk M w m c EA) (hp : -9223372036854775808 ≤ m.pid ∧ m.pid ≤ 9223372036854775807)
    (hg : TeOk M w i.got) (hml : MlOk M w (.slice i.mo i.mn i.mc) L) :
    Calls Tryz.prog 24 #[.agg (frL m).toArray, .agg (innL i).toArray] w (StP M w m c EA i L) := by
  have HM := Lib.hid h
  have HX := Lib.hid (And.intro hM (And.intro hc (And.intro hp (And.intro hg hml))))
  have hb1 := (Below.refl w.heap.size w).alloc (Nat.le_refl _) (.cells (frL m).toArray 39)
  have hb2 := hb1.alloc (by simp) (.cells (innL i).toArray 43)
  have hb3 := hb2.alloc (by simp; omega) (.cells #[.int .i8 0, .int .i64 0, .int .i64 0, .slice none 0 0, .slice none 0 0, .slice none 0 0, .slice none 0 0, .int .i64 0, .int .i8 0, .int .i64 0, .int .i64 0, .int .i64 0, .int .i64 0, .int .i8 0, .int .i64 0, .string ⟨#[]⟩, .string ⟨#[]⟩, .slice none 0 0, .int .i8 0, .int .i64 0, .string ⟨#[]⟩, .string ⟨#[]⟩, .slice none 0 0, .int .i8 0, .int .i64 0, .string ⟨#[]⟩, .string ⟨#[]⟩, .slice none 0 0, .slice none 0 0, .int .i8 0, .int .i64 0, .int .i64 0, .slice none 0 0, .slice none 0 0, .slice none 0 0] 39)
  have z0 := heap_old (heap_old (heap_new w (.cells (frL m).toArray 39)) (.cells (innL i).toArray 43)) (.cells #[.int .i8 0, .int .i64 0, .int .i64 0, .slice none 0 0, .slice none 0 0, .slice none 0 0, .slice none 0 0, .int .i64 0, .int .i8 0, .int .i64 0, .int .i64 0, .int .i64 0, .int .i64 0, .int .i8 0, .int .i64 0, .string ⟨#[]⟩, .string ⟨#[]⟩, .slice none 0 0, .int .i8 0, .int .i64 0, .string ⟨#[]⟩, .string ⟨#[]⟩, .slice none 0 0, .int .i8 0, .int .i64 0, .string ⟨#[]⟩, .string ⟨#[]⟩, .slice none 0 0, .slice none 0 0, .int .i8 0, .int .i64 0, .int .i64 0, .slice none 0 0, .slice none 0 0, .slice none 0 0] 39)
  have z1 := heap_old (heap_new (w.alloc (.cells (frL m).toArray 39)) (.cells (innL i).toArray 43)) (.cells #[.int .i8 0, .int .i64 0, .int .i64 0, .slice none 0 0, .slice none 0 0, .slice none 0 0, .slice none 0 0, .int .i64 0, .int .i8 0, .int .i64 0, .int .i64 0, .int .i64 0, .int .i64 0, .int .i8 0, .int .i64 0, .string ⟨#[]⟩, .string ⟨#[]⟩, .slice none 0 0, .int .i8 0, .int .i64 0, .string ⟨#[]⟩, .string ⟨#[]⟩, .slice none 0 0, .int .i8 0, .int .i64 0, .string ⟨#[]⟩, .string ⟨#[]⟩, .slice none 0 0, .slice none 0 0, .int .i8 0, .int .i64 0, .int .i64 0, .slice none 0 0, .slice none 0 0, .slice none 0 0] 39)
  have z2 := heap_new ((w.alloc (.cells (frL m).toArray 39)).alloc (.cells (innL i).toArray 43)) (.cells #[.int .i8 0, .int .i64 0, .int .i64 0, .slice none 0 0, .slice none 0 0, .slice none 0 0, .slice none 0 0, .int .i64 0, .int .i8 0, .int .i64 0, .int .i64 0, .int .i64 0, .int .i64 0, .int .i8 0, .int .i64 0, .string ⟨#[]⟩, .string ⟨#[]⟩, .slice none 0 0, .int .i8 0, .int .i64 0, .string ⟨#[]⟩, .string ⟨#[]⟩, .slice none 0 0, .int .i8 0, .int .i64 0, .string ⟨#[]⟩, .string ⟨#[]⟩, .slice none 0 0, .slice none 0 0, .int .i8 0, .int .i64 0, .int .i64 0, .slice none 0 0, .slice none 0 0, .slice none 0 0] 39)
  simp only [World.size_alloc] at z1 z2
  have hs : (((w.alloc (.cells (frL m).toArray 39)).alloc (.cells (innL i).toArray 43)).alloc (.cells #[.int .i8 0, .int .i64 0, .int .i64 0, .slice none 0 0, .slice none 0 0, .slice none 0 0, .slice none 0 0, .int .i64 0, .int .i8 0, .int .i64 0, .int .i64 0, .int .i64 0, .int .i64 0, .int .i8 0, .int .i64 0, .string ⟨#[]⟩, .string ⟨#[]⟩, .slice none 0 0, .int .i8 0, .int .i64 0, .string ⟨#[]⟩, .string ⟨#[]⟩, .slice none 0 0, .int .i8 0, .int .i64 0, .string ⟨#[]⟩, .string ⟨#[]⟩, .slice none 0 0, .slice none 0 0, .int .i8 0, .int .i64 0, .int .i64 0, .slice none 0 0, .slice none 0 0, .slice none 0 0] 39)).heap.size = w.heap.size + 3 := by simp
  have HB := Lib.hid (And.intro hb3 (And.intro z0 (And.intro z1 (And.intro z2 hs))))
  clear h hM hc hp hg hml hb1 hb2 hb3 z0 z1 z2 hs
  go_enter Tryz.func24, Tryz.ntmps24
  go_wp2_with (with_reducible refine stop_op (o := ⟨_, .buildSlice 67 1 #[(0, .tmp 9)], _, _, _, _⟩) ?_)
  refine Lib.hid ?_
  refine wpList_build_eff (o := ⟨_, _, _, _, _, _⟩) rfl (.tmp 9) rfl (efL idleE).toArray rfl (by simp [efL_len]) ?_
  generalize ((w.alloc (.cells (frL m).toArray 39)).alloc (.cells (innL i).toArray 43)).alloc (.cells #[.int .i8 0, .int .i64 0, .int .i64 0, .slice none 0 0, .slice none 0 0, .slice none 0 0, .slice none 0 0, .int .i64 0, .int .i8 0, .int .i64 0, .int .i64 0, .int .i64 0, .int .i64 0, .int .i8 0, .int .i64 0, .string ⟨#[]⟩, .string ⟨#[]⟩, .slice none 0 0, .int .i8 0, .int .i64 0, .string ⟨#[]⟩, .string ⟨#[]⟩, .slice none 0 0, .int .i8 0, .int .i64 0, .string ⟨#[]⟩, .string ⟨#[]⟩, .slice none 0 0, .slice none 0 0, .int .i8 0, .int .i64 0, .int .i64 0, .slice none 0 0, .slice none 0 0, .slice none 0 0] 39) = W3 at *
  have hn3 := heap_new W3 (.cells (efL idleE).toArray 72)
  have hb4 := (Below.refl W3.heap.size W3).alloc (Nat.le_refl _) (.cells (efL idleE).toArray 72)
  rw [HB.out.2.2.2.2] at hn3
  have H4 : Hid (StW w (W3.alloc (.cells (efL idleE).toArray 72)) m i) := Lib.hid ⟨HB.out.1.trans (hb4.mono HB.out.1.size), keep_heap HB.out.2.1 hb4, keep_heap HB.out.2.2.1 hb4, keep_heap HB.out.2.2.2.1 hb4, hn3⟩
  have hs3 := HB.out.2.2.2.2
  clear hn3 hb4 HB
  generalize W3.alloc (.cells (efL idleE).toArray 72) = W4 at *
  try simp only [hs3]
  clear hs3
  go_wp2_with (with_reducible refine stop_op (o := ⟨_, .load 39 (.tmp 2), _, _, _, _⟩) ?_)
  refine Lib.hid ?_
  refine wpList_load_row (o := ⟨_, _, _, _, _, _⟩) rfl 39 (.tmp 2) rfl w.heap.size rfl 39 (frL m).toArray (0, 0) _ H4.out.hF Tryz.underlying39 rfl (infoFR rfl) ?_
  go_wp2_with fail
  refine (fine_any M W4 (keepCells HX.out.2.1 H4.out.hb) m c EA (HM.out.keep H4.out.hb)).mono ?_
  rintro e W5 ⟨rfl, hb5⟩
  have H5 := Lib.hid (H4.out.keep hb5)
  clear hb5 H4
  cases hfi : fineB m c EA
  · have HFI := Lib.hid hfi
    clear hfi
    go_wp2_with (with_reducible refine stop_op (o := ⟨_, .load 39 (.tmp 2), _, _, _, _⟩) ?_)
    refine Lib.hid ?_
    refine wpList_load_row (o := ⟨_, _, _, _, _, _⟩) rfl 39 (.tmp 2) rfl w.heap.size rfl 39 (frL m).toArray (0, 0) _ H5.out.hF Tryz.underlying39 rfl (infoFR rfl) ?_
    go_wp2_with (with_reducible refine stop_op (o := ⟨_, .store 39 (.tmp 4) (.tmp 14), _, _, _, _⟩) ?_)
    refine Lib.hid ?_
    refine wpList_store_row (o := ⟨none, _, _, _, _, _⟩) rfl 39 (.tmp 4) (.tmp 14) rfl (w.heap.size + 2) (frL m).toArray rfl rfl 39 frZ.toArray H5.out.hZ (infoFR rfl) rfl (all_oneCell_toArray (frL_one m)) ?_
    have hc := chg_setRow W5 (w.heap.size + 2) (frL m).toArray
    have hbf := H5.out.hb.trans (hc.below H5.out.hb.size (fun k e => by have e : k = w.heap.size + 2 := e; omega))
    have HQ := Lib.hid (setRow_heap W5 (w.heap.size + 2) _ (frL m).toArray 39 (0, 0) H5.out.hZ)
    have HP : Hid (StP M w m c EA i L (.returned (.tuple #[.agg (frL m).toArray, .slice (some ⟨w.heap.size + 3, 0, none⟩) 1 1])) (W5.setRow (w.heap.size + 2) (frL m).toArray)) := Lib.hid ⟨m, _, [idleE], rfl, hbf, EfAt.idle (hc.heap H5.out.hE (by omega)) (by omega), HM.out.keep hbf, .inl ⟨.inl HFI.out, rfl, rfl⟩⟩
    clear hc hbf H5
    generalize W5.setRow (w.heap.size + 2) (frL m).toArray = W9 at *
    go_wp2_with fail
    exact ret_row HQ.out rfl Tryz.underlying39 rfl (infoFR rfl) rfl rfl HP.out
  · have c8 : W5.cell? ⟨w.heap.size, 8, none⟩ = some (.int .i8 m.ph) := (cells_at H5.out.hF 8 _ rfl).1
    have i4 : W5.cell? ⟨w.heap.size + 1, 4, none⟩ = some (.bool i.some) := (cells_at H5.out.hI 4 _ rfl).1
    have hph : m.ph = 0 ∨ m.ph = 1 ∨ m.ph = 2 ∨ m.ph = 3 ∨ m.ph = 4 ∨ m.ph = 5 ∨ m.ph = 6 := by
      have := HM.out.hph
      omega
    rcases hph with hk | hk | hk | hk | hk | hk | hk
    · have HK := Lib.hid hk
      rw [hk] at c8
      clear hk
      go_wp2_with (with_reducible refine stop_op (o := ⟨_, .load 37 (.tmp 28), _, _, _, _⟩) ?_)
      refine Lib.hid ?_
      refine wpList_load_mid (op := ⟨_, _, _, _, _, _⟩) rfl 37 (.tmp 28) rfl w.heap.size 8 rfl [.int .i8 m.ph, .int .i64 m.pid, .int .i64 0, .int .i64 m.dl, .int .i64 0, .int .i8 m.T.k, .int .i64 m.T.n, .string m.T.s, .string m.T.u, .slice m.T.ao m.T.l.length m.T.cap, .int .i8 m.U.k, .int .i64 m.U.n, .string m.U.s, .string m.U.u, .slice m.U.ao m.U.l.length m.U.cap, .int .i8 m.V.k, .int .i64 m.V.n, .string m.V.s, .string m.V.u, .slice m.V.ao m.V.l.length m.V.cap, .slice (some ⟨m.rb, 0, none⟩) 1 1, .int .i8 0, .int .i64 0, .int .i64 0, .slice none 0 0, .slice none 0 0, .slice none 0 0] _ (fr_range H5.out.hF) Tryz.underlying37 rfl (infoMA rfl) ?_
      go_wp2_with (with_reducible refine stop_op (o := ⟨_, .load 43 (.tmp 3), _, _, _, _⟩) ?_)
      refine Lib.hid ?_
      refine wpList_load_row (o := ⟨_, _, _, _, _, _⟩) rfl 43 (.tmp 3) rfl (w.heap.size + 1) rfl 43 #[.int .i64 i.now, .int .i64 i.self, .slice i.mo i.mn i.mc, .int .i8 i.cls, .bool i.some, .int .i8 i.got.k, .int .i64 i.got.n, .string i.got.s, .string i.got.u, .slice i.got.ao i.got.l.length i.got.cap, .int .i64 0] (0, 0) _ H5.out.hI Tryz.underlying43 rfl (infoIN rfl) ?_
      go_wp2_with (with_reducible refine stop_op (o := ⟨_, .store 89 (.tmp 8) (.tmp 47), _, _, _, _⟩) ?_)
      refine Lib.hid ?_
      generalize hub : W5.heap.size = ub at *
      refine wpList_store_row (o := ⟨none, _, _, _, _, _⟩) rfl 89 (.tmp 8) (.tmp 47) rfl (ub + 1) #[.func (.func 46) #[.pointer (some ⟨ub, 0, none⟩)] #[], .func (.func 47) #[.pointer (some ⟨ub, 0, none⟩)] #[], .func (.func 48) #[.pointer (some ⟨ub, 0, none⟩)] #[], .func (.func 49) #[.pointer (some ⟨ub, 0, none⟩)] #[], .func (.func 49) #[.pointer (some ⟨ub, 0, none⟩)] #[], .func (.func 50) #[.pointer (some ⟨ub, 0, none⟩)] #[], .func (.func 51) #[.pointer (some ⟨ub, 0, none⟩)] #[]] rfl rfl 89 #[.nilFunc, .nilFunc, .nilFunc, .nilFunc, .nilFunc, .nilFunc, .nilFunc] (by have := heap_new (W5.alloc (.cells #[.int .i8 m.ph, .int .i64 m.pid, .int .i64 0, .int .i64 m.dl, .int .i64 0, .int .i8 m.T.k, .int .i64 m.T.n, .string m.T.s, .string m.T.u, .slice m.T.ao m.T.l.length m.T.cap, .int .i8 m.U.k, .int .i64 m.U.n, .string m.U.s, .string m.U.u, .slice m.U.ao m.U.l.length m.U.cap, .int .i8 m.V.k, .int .i64 m.V.n, .string m.V.s, .string m.V.u, .slice m.V.ao m.V.l.length m.V.cap, .slice (some ⟨m.rb, 0, none⟩) 1 1, .int .i8 0, .int .i64 0, .int .i64 0, .slice none 0 0, .slice none 0 0, .slice none 0 0, .int .i64 i.now, .int .i64 i.self, .slice i.mo i.mn i.mc, .int .i8 i.cls, .bool i.some, .int .i8 i.got.k, .int .i64 i.got.n, .string i.got.s, .string i.got.u, .slice i.got.ao i.got.l.length i.got.cap, .int .i64 0, .slice none 0 0] 88)) (.cells #[.nilFunc, .nilFunc, .nilFunc, .nilFunc, .nilFunc, .nilFunc, .nilFunc] 89); simp only [World.size_alloc, hub] at this; exact this) (infoPH rfl) rfl (by simp [Value.oneCell']) ?_
      have hq1 := heap_old (heap_new W5 (.cells #[.int .i8 m.ph, .int .i64 m.pid, .int .i64 0, .int .i64 m.dl, .int .i64 0, .int .i8 m.T.k, .int .i64 m.T.n, .string m.T.s, .string m.T.u, .slice m.T.ao m.T.l.length m.T.cap, .int .i8 m.U.k, .int .i64 m.U.n, .string m.U.s, .string m.U.u, .slice m.U.ao m.U.l.length m.U.cap, .int .i8 m.V.k, .int .i64 m.V.n, .string m.V.s, .string m.V.u, .slice m.V.ao m.V.l.length m.V.cap, .slice (some ⟨m.rb, 0, none⟩) 1 1, .int .i8 0, .int .i64 0, .int .i64 0, .slice none 0 0, .slice none 0 0, .slice none 0 0, .int .i64 i.now, .int .i64 i.self, .slice i.mo i.mn i.mc, .int .i8 i.cls, .bool i.some, .int .i8 i.got.k, .int .i64 i.got.n, .string i.got.s, .string i.got.u, .slice i.got.ao i.got.l.length i.got.cap, .int .i64 0, .slice none 0 0] 88)) (.cells #[.nilFunc, .nilFunc, .nilFunc, .nilFunc, .nilFunc, .nilFunc, .nilFunc] 89)
      have hq2 := heap_new (W5.alloc (.cells #[.int .i8 m.ph, .int .i64 m.pid, .int .i64 0, .int .i64 m.dl, .int .i64 0, .int .i8 m.T.k, .int .i64 m.T.n, .string m.T.s, .string m.T.u, .slice m.T.ao m.T.l.length m.T.cap, .int .i8 m.U.k, .int .i64 m.U.n, .string m.U.s, .string m.U.u, .slice m.U.ao m.U.l.length m.U.cap, .int .i8 m.V.k, .int .i64 m.V.n, .string m.V.s, .string m.V.u, .slice m.V.ao m.V.l.length m.V.cap, .slice (some ⟨m.rb, 0, none⟩) 1 1, .int .i8 0, .int .i64 0, .int .i64 0, .slice none 0 0, .slice none 0 0, .slice none 0 0, .int .i64 i.now, .int .i64 i.self, .slice i.mo i.mn i.mc, .int .i8 i.cls, .bool i.some, .int .i8 i.got.k, .int .i64 i.got.n, .string i.got.s, .string i.got.u, .slice i.got.ao i.got.l.length i.got.cap, .int .i64 0, .slice none 0 0] 88)) (.cells #[.nilFunc, .nilFunc, .nilFunc, .nilFunc, .nilFunc, .nilFunc, .nilFunc] 89)
      have hbB := ((Below.refl W5.heap.size W5).alloc (Nat.le_refl _) (.cells #[.int .i8 m.ph, .int .i64 m.pid, .int .i64 0, .int .i64 m.dl, .int .i64 0, .int .i8 m.T.k, .int .i64 m.T.n, .string m.T.s, .string m.T.u, .slice m.T.ao m.T.l.length m.T.cap, .int .i8 m.U.k, .int .i64 m.U.n, .string m.U.s, .string m.U.u, .slice m.U.ao m.U.l.length m.U.cap, .int .i8 m.V.k, .int .i64 m.V.n, .string m.V.s, .string m.V.u, .slice m.V.ao m.V.l.length m.V.cap, .slice (some ⟨m.rb, 0, none⟩) 1 1, .int .i8 0, .int .i64 0, .int .i64 0, .slice none 0 0, .slice none 0 0, .slice none 0 0, .int .i64 i.now, .int .i64 i.self, .slice i.mo i.mn i.mc, .int .i8 i.cls, .bool i.some, .int .i8 i.got.k, .int .i64 i.got.n, .string i.got.s, .string i.got.u, .slice i.got.ao i.got.l.length i.got.cap, .int .i64 0, .slice none 0 0] 88)).alloc (by simp) (.cells #[.nilFunc, .nilFunc, .nilFunc, .nilFunc, .nilFunc, .nilFunc, .nilFunc] 89)
      simp only [World.size_alloc, hub] at hq1 hq2 hbB
      have hcS := chg_setRow ((W5.alloc (.cells #[.int .i8 m.ph, .int .i64 m.pid, .int .i64 0, .int .i64 m.dl, .int .i64 0, .int .i8 m.T.k, .int .i64 m.T.n, .string m.T.s, .string m.T.u, .slice m.T.ao m.T.l.length m.T.cap, .int .i8 m.U.k, .int .i64 m.U.n, .string m.U.s, .string m.U.u, .slice m.U.ao m.U.l.length m.U.cap, .int .i8 m.V.k, .int .i64 m.V.n, .string m.V.s, .string m.V.u, .slice m.V.ao m.V.l.length m.V.cap, .slice (some ⟨m.rb, 0, none⟩) 1 1, .int .i8 0, .int .i64 0, .int .i64 0, .slice none 0 0, .slice none 0 0, .slice none 0 0, .int .i64 i.now, .int .i64 i.self, .slice i.mo i.mn i.mc, .int .i8 i.cls, .bool i.some, .int .i8 i.got.k, .int .i64 i.got.n, .string i.got.s, .string i.got.u, .slice i.got.ao i.got.l.length i.got.cap, .int .i64 0, .slice none 0 0] 88)).alloc (.cells #[.nilFunc, .nilFunc, .nilFunc, .nilFunc, .nilFunc, .nilFunc, .nilFunc] 89)) (ub + 1) #[.func (.func 46) #[.pointer (some ⟨ub, 0, none⟩)] #[], .func (.func 47) #[.pointer (some ⟨ub, 0, none⟩)] #[], .func (.func 48) #[.pointer (some ⟨ub, 0, none⟩)] #[], .func (.func 49) #[.pointer (some ⟨ub, 0, none⟩)] #[], .func (.func 49) #[.pointer (some ⟨ub, 0, none⟩)] #[], .func (.func 50) #[.pointer (some ⟨ub, 0, none⟩)] #[], .func (.func 51) #[.pointer (some ⟨ub, 0, none⟩)] #[]]
      have hbS := bel_setRow hbB (by simp [hub]; omega) (Nat.le_succ ub) #[.func (.func 46) #[.pointer (some ⟨ub, 0, none⟩)] #[], .func (.func 47) #[.pointer (some ⟨ub, 0, none⟩)] #[], .func (.func 48) #[.pointer (some ⟨ub, 0, none⟩)] #[], .func (.func 49) #[.pointer (some ⟨ub, 0, none⟩)] #[], .func (.func 49) #[.pointer (some ⟨ub, 0, none⟩)] #[], .func (.func 50) #[.pointer (some ⟨ub, 0, none⟩)] #[], .func (.func 51) #[.pointer (some ⟨ub, 0, none⟩)] #[]]
      have hlow : w.heap.size + 4 ≤ ub := by
        have := heap_lt H5.out.hE
        omega
      have H7 : Hid (StU w (((W5.alloc (.cells #[.int .i8 m.ph, .int .i64 m.pid, .int .i64 0, .int .i64 m.dl, .int .i64 0, .int .i8 m.T.k, .int .i64 m.T.n, .string m.T.s, .string m.T.u, .slice m.T.ao m.T.l.length m.T.cap, .int .i8 m.U.k, .int .i64 m.U.n, .string m.U.s, .string m.U.u, .slice m.U.ao m.U.l.length m.U.cap, .int .i8 m.V.k, .int .i64 m.V.n, .string m.V.s, .string m.V.u, .slice m.V.ao m.V.l.length m.V.cap, .slice (some ⟨m.rb, 0, none⟩) 1 1, .int .i8 0, .int .i64 0, .int .i64 0, .slice none 0 0, .slice none 0 0, .slice none 0 0, .int .i64 i.now, .int .i64 i.self, .slice i.mo i.mn i.mc, .int .i8 i.cls, .bool i.some, .int .i8 i.got.k, .int .i64 i.got.n, .string i.got.s, .string i.got.u, .slice i.got.ao i.got.l.length i.got.cap, .int .i64 0, .slice none 0 0] 88)).alloc (.cells #[.nilFunc, .nilFunc, .nilFunc, .nilFunc, .nilFunc, .nilFunc, .nilFunc] 89)).setRow (ub + 1) #[.func (.func 46) #[.pointer (some ⟨ub, 0, none⟩)] #[], .func (.func 47) #[.pointer (some ⟨ub, 0, none⟩)] #[], .func (.func 48) #[.pointer (some ⟨ub, 0, none⟩)] #[], .func (.func 49) #[.pointer (some ⟨ub, 0, none⟩)] #[], .func (.func 49) #[.pointer (some ⟨ub, 0, none⟩)] #[], .func (.func 50) #[.pointer (some ⟨ub, 0, none⟩)] #[], .func (.func 51) #[.pointer (some ⟨ub, 0, none⟩)] #[]]) m i ub) := Lib.hid ⟨H5.out.keep (hub.symm ▸ hbS), ⟨hcS.heap hq1 (by omega), rfl, World.ownsRow_nil _ _ _ _⟩, hlow⟩
      have HT7 := Lib.hid (setRow_heap _ (ub + 1) _ #[.func (.func 46) #[.pointer (some ⟨ub, 0, none⟩)] #[], .func (.func 47) #[.pointer (some ⟨ub, 0, none⟩)] #[], .func (.func 48) #[.pointer (some ⟨ub, 0, none⟩)] #[], .func (.func 49) #[.pointer (some ⟨ub, 0, none⟩)] #[], .func (.func 49) #[.pointer (some ⟨ub, 0, none⟩)] #[], .func (.func 50) #[.pointer (some ⟨ub, 0, none⟩)] #[], .func (.func 51) #[.pointer (some ⟨ub, 0, none⟩)] #[]] 89 (0, 0) hq2)
      clear hq1 hq2 hbB hcS hbS hlow hub H5
      generalize ((W5.alloc (.cells #[.int .i8 m.ph, .int .i64 m.pid, .int .i64 0, .int .i64 m.dl, .int .i64 0, .int .i8 m.T.k, .int .i64 m.T.n, .string m.T.s, .string m.T.u, .slice m.T.ao m.T.l.length m.T.cap, .int .i8 m.U.k, .int .i64 m.U.n, .string m.U.s, .string m.U.u, .slice m.U.ao m.U.l.length m.U.cap, .int .i8 m.V.k, .int .i64 m.V.n, .string m.V.s, .string m.V.u, .slice m.V.ao m.V.l.length m.V.cap, .slice (some ⟨m.rb, 0, none⟩) 1 1, .int .i8 0, .int .i64 0, .int .i64 0, .slice none 0 0, .slice none 0 0, .slice none 0 0, .int .i64 i.now, .int .i64 i.self, .slice i.mo i.mn i.mc, .int .i8 i.cls, .bool i.some, .int .i8 i.got.k, .int .i64 i.got.n, .string i.got.s, .string i.got.u, .slice i.got.ao i.got.l.length i.got.cap, .int .i64 0, .slice none 0 0] 88)).alloc (.cells #[.nilFunc, .nilFunc, .nilFunc, .nilFunc, .nilFunc, .nilFunc, .nilFunc] 89)).setRow (ub + 1) #[.func (.func 46) #[.pointer (some ⟨ub, 0, none⟩)] #[], .func (.func 47) #[.pointer (some ⟨ub, 0, none⟩)] #[], .func (.func 48) #[.pointer (some ⟨ub, 0, none⟩)] #[], .func (.func 49) #[.pointer (some ⟨ub, 0, none⟩)] #[], .func (.func 49) #[.pointer (some ⟨ub, 0, none⟩)] #[], .func (.func 50) #[.pointer (some ⟨ub, 0, none⟩)] #[], .func (.func 51) #[.pointer (some ⟨ub, 0, none⟩)] #[]] = W7 at *
      have c8 : W7.cell? ⟨w.heap.size, 8, none⟩ = some (.int .i8 m.ph) := (cells_at H7.out.st.hF 8 _ rfl).1
      have t0 := (cells_at HT7.out 0 _ rfl).1
      rw [HK.out] at c8
      go_wp2_with fail
      refine (begin_any W7 ub m i c _ [] H7.out.hu (H7.out.rcd HM.out).1 (fun e => (H7.out.rcd HM.out).2 (.inl e)) (by simp)).mono ?_
      rintro e W8 ⟨⟨v, rfl⟩, ev8, hu8, hc8, hb8⟩
      have H8 := Lib.hid (H7.out.fin (L := L) (EA := EA) HM.out hu8 hc8 (.inr (.inl ⟨HK.out, rfl, rfl⟩)))
      clear hu8 hc8 hb8 H7 HT7 c8 t0
      go_wp2_with (with_reducible refine stop_op (o := ⟨_, .load 37 (.tmp 56), _, _, _, _⟩) ?_)
      refine Lib.hid ?_
      refine wpList_load_mid (op := ⟨_, _, _, _, _, _⟩) rfl 37 (.tmp 56) rfl ub 0 rfl (mcL { m with ph := 1 }) _ (mid_range (pre := []) (post := innL i ++ [ev8]) (by have := H8.out.hu.hU; unfold unL at this; rw [List.append_assoc] at this; exact this) rfl) Tryz.underlying37 rfl (infoMA rfl) ?_
      go_wp2_with (with_reducible refine stop_op (o := ⟨_, .store 37 (.tmp 58) (.tmp 57), _, _, _, _⟩) ?_)
      refine Lib.hid ?_
      refine wpList_store_mid (op := ⟨none, _, _, _, _, _⟩) rfl 37 (.tmp 58) (.tmp 57) rfl w.heap.size 8 (mcL { m with ph := 1 }).toArray rfl rfl (fr_there H8.out.hF) (infoMA rfl) (all_oneCell_toArray (mcL_one { m with ph := 1 })) ?_
      have hc9 := chg_cells (mcL { m with ph := 1 }) w.heap.size 8 W8
      have H9 := Lib.hid (H8.out.put hc9 (fr_set { m with ph := 1 } H8.out.hF))
      clear hc9 H8
      change Hid (StG M w (W8.setCells w.heap.size 8 (mcL { m with ph := 1 }).toArray.toList) m c EA i L ub { m with ph := 1 } { m with ph := 1 } ev8 [callE c iniS c.ao c.an c.ac]) at H9
      generalize W8.setCells w.heap.size 8 (mcL { m with ph := 1 }).toArray.toList = W9 at *
      go_upto_region 14 with fail
      have hS : StS w.heap.size ub { m with ph := 1 } ev8 W9.drew := ⟨H9.out.hF, H9.out.hu.ev⟩
      have H9 := Lib.hid (H9.out.keep (Below.refl _ _).drew)
      refine region_plan (StS w.heap.size ub { m with ph := 1 } ev8) [(0, 0), (1, 0), (2, 0), (3, 0), (4, 0), (5, 1), (6, 0)] (by kernel_rfl) (by kernel_rfl) (by kernel_rfl) hS ?_
      generalize W9.drew = WD at *
      refine plan_take rfl ?_ (fun wS hSw => exec_row 39 (.tmp 2) rfl w.heap.size rfl (frL { m with ph := 1 }).toArray 39 (0, 0) _ hSw.1 Tryz.underlying39 rfl (infoFR rfl)) ?_
      focus (rfl)
      (try simp only [Act.put, List.setIfInBounds_toArray, List.set_cons_zero, List.set_cons_succ])
      iterate 4 (first | (refine plan_skip rfl ?_ ?_; (focus (rfl)); (try simp only [Act.put, List.setIfInBounds_toArray, List.set_cons_zero, List.set_cons_succ])) | (refine plan_take (v := ?_) rfl ?_ (fun w hSw => ?_) ?_; rotate_left; (focus (rfl)); (focus (unfold StS at hSw; (go_simp <;> with_reducible rfl))); (try simp only [Act.put, List.setIfInBounds_toArray, List.set_cons_zero, List.set_cons_succ])))
      have hcF := chg_setRow WD (w.heap.size + 2) (frL { m with ph := 1 }).toArray
      have hSF : StS w.heap.size ub { m with ph := 1 } ev8 (WD.setRow (w.heap.size + 2) (frL { m with ph := 1 }).toArray) := ⟨hcF.heap hS.1 (by omega), hcF.cell hS.2 (by have := H9.out.hub; show ¬ ub = w.heap.size + 2; omega)⟩
      have HQ := Lib.hid (setRow_heap WD (w.heap.size + 2) _ (frL { m with ph := 1 }).toArray 39 (0, 0) H9.out.hZ)
      have HP : Hid (StP M w m c EA i L (.returned (.tuple #[.agg (frL { m with ph := 1 }).toArray, ev8])) (WD.setRow (w.heap.size + 2) (frL { m with ph := 1 }).toArray)) := Lib.hid (H9.out.done hcF)
      refine plan_run rfl ?_ (fun K hK => ?_)
      focus (rfl)
      refine wp_store_row 39 (.tmp 4) (.tmp 59) rfl (w.heap.size + 2) (frL { m with ph := 1 }).toArray rfl rfl 39 frZ.toArray H9.out.hZ (infoFR rfl) rfl (all_oneCell_toArray (frL_one { m with ph := 1 })) ?_
      refine hK.out _ _ (hSF) ?_
      clear hK K
      (try simp only [Act.put, List.setIfInBounds_toArray, List.set_cons_zero, List.set_cons_succ])
      iterate 1 (first | (refine plan_skip rfl ?_ ?_; (focus (rfl)); (try simp only [Act.put, List.setIfInBounds_toArray, List.set_cons_zero, List.set_cons_succ])) | (refine plan_take (v := ?_) rfl ?_ (fun w hSw => ?_) ?_; rotate_left; (focus (rfl)); (focus (unfold StS at hSw; (go_simp <;> with_reducible rfl))); (try simp only [Act.put, List.setIfInBounds_toArray, List.set_cons_zero, List.set_cons_succ])))
      refine plan_done ?_
      clear hS hcF hSF H9
      generalize WD.setRow (w.heap.size + 2) (frL { m with ph := 1 }).toArray = W10 at *
      go_wp2_with fail
      exact ret_row HQ.out rfl Tryz.underlying39 rfl (infoFR rfl) rfl rfl HP.out
    · have HK := Lib.hid hk
      rw [hk] at c8
      clear hk
      cases hs : i.some
      · have HSO := Lib.hid hs
        rw [hs] at i4
        clear hs
        go_wp2_with (with_reducible refine stop_op (o := ⟨_, .load 39 (.tmp 2), _, _, _, _⟩) ?_)
        refine Lib.hid ?_
        refine wpList_load_row (o := ⟨_, _, _, _, _, _⟩) rfl 39 (.tmp 2) rfl w.heap.size rfl 39 (frL m).toArray (0, 0) _ H5.out.hF Tryz.underlying39 rfl (infoFR rfl) ?_
        go_wp2_with (with_reducible refine stop_op (o := ⟨_, .store 39 (.tmp 4) (.tmp 26), _, _, _, _⟩) ?_)
        refine Lib.hid ?_
        refine wpList_store_row (o := ⟨none, _, _, _, _, _⟩) rfl 39 (.tmp 4) (.tmp 26) rfl (w.heap.size + 2) (frL m).toArray rfl rfl 39 frZ.toArray H5.out.hZ (infoFR rfl) rfl (all_oneCell_toArray (frL_one m)) ?_
        have hc := chg_setRow W5 (w.heap.size + 2) (frL m).toArray
        have hbf := H5.out.hb.trans (hc.below H5.out.hb.size (fun k e => by have e : k = w.heap.size + 2 := e; omega))
        have HQ := Lib.hid (setRow_heap W5 (w.heap.size + 2) _ (frL m).toArray 39 (0, 0) H5.out.hZ)
        have HP : Hid (StP M w m c EA i L (.returned (.tuple #[.agg (frL m).toArray, .slice (some ⟨w.heap.size + 3, 0, none⟩) 1 1])) (W5.setRow (w.heap.size + 2) (frL m).toArray)) := Lib.hid ⟨m, _, [idleE], rfl, hbf, EfAt.idle (hc.heap H5.out.hE (by omega)) (by omega), HM.out.keep hbf, .inl ⟨.inr ⟨by have := HK.out; omega, HSO.out⟩, rfl, rfl⟩⟩
        clear hc hbf H5
        generalize W5.setRow (w.heap.size + 2) (frL m).toArray = W9 at *
        go_wp2_with fail
        exact ret_row HQ.out rfl Tryz.underlying39 rfl (infoFR rfl) rfl rfl HP.out
      · rw [hs] at i4
        clear hs
        go_wp2_with (with_reducible refine stop_op (o := ⟨_, .load 37 (.tmp 28), _, _, _, _⟩) ?_)
        refine Lib.hid ?_
        refine wpList_load_mid (op := ⟨_, _, _, _, _, _⟩) rfl 37 (.tmp 28) rfl w.heap.size 8 rfl [.int .i8 m.ph, .int .i64 m.pid, .int .i64 0, .int .i64 m.dl, .int .i64 0, .int .i8 m.T.k, .int .i64 m.T.n, .string m.T.s, .string m.T.u, .slice m.T.ao m.T.l.length m.T.cap, .int .i8 m.U.k, .int .i64 m.U.n, .string m.U.s, .string m.U.u, .slice m.U.ao m.U.l.length m.U.cap, .int .i8 m.V.k, .int .i64 m.V.n, .string m.V.s, .string m.V.u, .slice m.V.ao m.V.l.length m.V.cap, .slice (some ⟨m.rb, 0, none⟩) 1 1, .int .i8 0, .int .i64 0, .int .i64 0, .slice none 0 0, .slice none 0 0, .slice none 0 0] _ (fr_range H5.out.hF) Tryz.underlying37 rfl (infoMA rfl) ?_
        go_wp2_with (with_reducible refine stop_op (o := ⟨_, .load 43 (.tmp 3), _, _, _, _⟩) ?_)
        refine Lib.hid ?_
        refine wpList_load_row (o := ⟨_, _, _, _, _, _⟩) rfl 43 (.tmp 3) rfl (w.heap.size + 1) rfl 43 #[.int .i64 i.now, .int .i64 i.self, .slice i.mo i.mn i.mc, .int .i8 i.cls, .bool i.some, .int .i8 i.got.k, .int .i64 i.got.n, .string i.got.s, .string i.got.u, .slice i.got.ao i.got.l.length i.got.cap, .int .i64 0] (0, 0) _ H5.out.hI Tryz.underlying43 rfl (infoIN rfl) ?_
        go_wp2_with (with_reducible refine stop_op (o := ⟨_, .store 89 (.tmp 8) (.tmp 47), _, _, _, _⟩) ?_)
        refine Lib.hid ?_
        generalize hub : W5.heap.size = ub at *
        refine wpList_store_row (o := ⟨none, _, _, _, _, _⟩) rfl 89 (.tmp 8) (.tmp 47) rfl (ub + 1) #[.func (.func 46) #[.pointer (some ⟨ub, 0, none⟩)] #[], .func (.func 47) #[.pointer (some ⟨ub, 0, none⟩)] #[], .func (.func 48) #[.pointer (some ⟨ub, 0, none⟩)] #[], .func (.func 49) #[.pointer (some ⟨ub, 0, none⟩)] #[], .func (.func 49) #[.pointer (some ⟨ub, 0, none⟩)] #[], .func (.func 50) #[.pointer (some ⟨ub, 0, none⟩)] #[], .func (.func 51) #[.pointer (some ⟨ub, 0, none⟩)] #[]] rfl rfl 89 #[.nilFunc, .nilFunc, .nilFunc, .nilFunc, .nilFunc, .nilFunc, .nilFunc] (by have := heap_new (W5.alloc (.cells #[.int .i8 m.ph, .int .i64 m.pid, .int .i64 0, .int .i64 m.dl, .int .i64 0, .int .i8 m.T.k, .int .i64 m.T.n, .string m.T.s, .string m.T.u, .slice m.T.ao m.T.l.length m.T.cap, .int .i8 m.U.k, .int .i64 m.U.n, .string m.U.s, .string m.U.u, .slice m.U.ao m.U.l.length m.U.cap, .int .i8 m.V.k, .int .i64 m.V.n, .string m.V.s, .string m.V.u, .slice m.V.ao m.V.l.length m.V.cap, .slice (some ⟨m.rb, 0, none⟩) 1 1, .int .i8 0, .int .i64 0, .int .i64 0, .slice none 0 0, .slice none 0 0, .slice none 0 0, .int .i64 i.now, .int .i64 i.self, .slice i.mo i.mn i.mc, .int .i8 i.cls, .bool i.some, .int .i8 i.got.k, .int .i64 i.got.n, .string i.got.s, .string i.got.u, .slice i.got.ao i.got.l.length i.got.cap, .int .i64 0, .slice none 0 0] 88)) (.cells #[.nilFunc, .nilFunc, .nilFunc, .nilFunc, .nilFunc, .nilFunc, .nilFunc] 89); simp only [World.size_alloc, hub] at this; exact this) (infoPH rfl) rfl (by simp [Value.oneCell']) ?_
        have hq1 := heap_old (heap_new W5 (.cells #[.int .i8 m.ph, .int .i64 m.pid, .int .i64 0, .int .i64 m.dl, .int .i64 0, .int .i8 m.T.k, .int .i64 m.T.n, .string m.T.s, .string m.T.u, .slice m.T.ao m.T.l.length m.T.cap, .int .i8 m.U.k, .int .i64 m.U.n, .string m.U.s, .string m.U.u, .slice m.U.ao m.U.l.length m.U.cap, .int .i8 m.V.k, .int .i64 m.V.n, .string m.V.s, .string m.V.u, .slice m.V.ao m.V.l.length m.V.cap, .slice (some ⟨m.rb, 0, none⟩) 1 1, .int .i8 0, .int .i64 0, .int .i64 0, .slice none 0 0, .slice none 0 0, .slice none 0 0, .int .i64 i.now, .int .i64 i.self, .slice i.mo i.mn i.mc, .int .i8 i.cls, .bool i.some, .int .i8 i.got.k, .int .i64 i.got.n, .string i.got.s, .string i.got.u, .slice i.got.ao i.got.l.length i.got.cap, .int .i64 0, .slice none 0 0] 88)) (.cells #[.nilFunc, .nilFunc, .nilFunc, .nilFunc, .nilFunc, .nilFunc, .nilFunc] 89)
        have hq2 := heap_new (W5.alloc (.cells #[.int .i8 m.ph, .int .i64 m.pid, .int .i64 0, .int .i64 m.dl, .int .i64 0, .int .i8 m.T.k, .int .i64 m.T.n, .string m.T.s, .string m.T.u, .slice m.T.ao m.T.l.length m.T.cap, .int .i8 m.U.k, .int .i64 m.U.n, .string m.U.s, .string m.U.u, .slice m.U.ao m.U.l.length m.U.cap, .int .i8 m.V.k, .int .i64 m.V.n, .string m.V.s, .string m.V.u, .slice m.V.ao m.V.l.length m.V.cap, .slice (some ⟨m.rb, 0, none⟩) 1 1, .int .i8 0, .int .i64 0, .int .i64 0, .slice none 0 0, .slice none 0 0, .slice none 0 0, .int .i64 i.now, .int .i64 i.self, .slice i.mo i.mn i.mc, .int .i8 i.cls, .bool i.some, .int .i8 i.got.k, .int .i64 i.got.n, .string i.got.s, .string i.got.u, .slice i.got.ao i.got.l.length i.got.cap, .int .i64 0, .slice none 0 0] 88)) (.cells #[.nilFunc, .nilFunc, .nilFunc, .nilFunc, .nilFunc, .nilFunc, .nilFunc] 89)
        have hbB := ((Below.refl W5.heap.size W5).alloc (Nat.le_refl _) (.cells #[.int .i8 m.ph, .int .i64 m.pid, .int .i64 0, .int .i64 m.dl, .int .i64 0, .int .i8 m.T.k, .int .i64 m.T.n, .string m.T.s, .string m.T.u, .slice m.T.ao m.T.l.length m.T.cap, .int .i8 m.U.k, .int .i64 m.U.n, .string m.U.s, .string m.U.u, .slice m.U.ao m.U.l.length m.U.cap, .int .i8 m.V.k, .int .i64 m.V.n, .string m.V.s, .string m.V.u, .slice m.V.ao m.V.l.length m.V.cap, .slice (some ⟨m.rb, 0, none⟩) 1 1, .int .i8 0, .int .i64 0, .int .i64 0, .slice none 0 0, .slice none 0 0, .slice none 0 0, .int .i64 i.now, .int .i64 i.self, .slice i.mo i.mn i.mc, .int .i8 i.cls, .bool i.some, .int .i8 i.got.k, .int .i64 i.got.n, .string i.got.s, .string i.got.u, .slice i.got.ao i.got.l.length i.got.cap, .int .i64 0, .slice none 0 0] 88)).alloc (by simp) (.cells #[.nilFunc, .nilFunc, .nilFunc, .nilFunc, .nilFunc, .nilFunc, .nilFunc] 89)
        simp only [World.size_alloc, hub] at hq1 hq2 hbB
        have hcS := chg_setRow ((W5.alloc (.cells #[.int .i8 m.ph, .int .i64 m.pid, .int .i64 0, .int .i64 m.dl, .int .i64 0, .int .i8 m.T.k, .int .i64 m.T.n, .string m.T.s, .string m.T.u, .slice m.T.ao m.T.l.length m.T.cap, .int .i8 m.U.k, .int .i64 m.U.n, .string m.U.s, .string m.U.u, .slice m.U.ao m.U.l.length m.U.cap, .int .i8 m.V.k, .int .i64 m.V.n, .string m.V.s, .string m.V.u, .slice m.V.ao m.V.l.length m.V.cap, .slice (some ⟨m.rb, 0, none⟩) 1 1, .int .i8 0, .int .i64 0, .int .i64 0, .slice none 0 0, .slice none 0 0, .slice none 0 0, .int .i64 i.now, .int .i64 i.self, .slice i.mo i.mn i.mc, .int .i8 i.cls, .bool i.some, .int .i8 i.got.k, .int .i64 i.got.n, .string i.got.s, .string i.got.u, .slice i.got.ao i.got.l.length i.got.cap, .int .i64 0, .slice none 0 0] 88)).alloc (.cells #[.nilFunc, .nilFunc, .nilFunc, .nilFunc, .nilFunc, .nilFunc, .nilFunc] 89)) (ub + 1) #[.func (.func 46) #[.pointer (some ⟨ub, 0, none⟩)] #[], .func (.func 47) #[.pointer (some ⟨ub, 0, none⟩)] #[], .func (.func 48) #[.pointer (some ⟨ub, 0, none⟩)] #[], .func (.func 49) #[.pointer (some ⟨ub, 0, none⟩)] #[], .func (.func 49) #[.pointer (some ⟨ub, 0, none⟩)] #[], .func (.func 50) #[.pointer (some ⟨ub, 0, none⟩)] #[], .func (.func 51) #[.pointer (some ⟨ub, 0, none⟩)] #[]]
        have hbS := bel_setRow hbB (by simp [hub]; omega) (Nat.le_succ ub) #[.func (.func 46) #[.pointer (some ⟨ub, 0, none⟩)] #[], .func (.func 47) #[.pointer (some ⟨ub, 0, none⟩)] #[], .func (.func 48) #[.pointer (some ⟨ub, 0, none⟩)] #[], .func (.func 49) #[.pointer (some ⟨ub, 0, none⟩)] #[], .func (.func 49) #[.pointer (some ⟨ub, 0, none⟩)] #[], .func (.func 50) #[.pointer (some ⟨ub, 0, none⟩)] #[], .func (.func 51) #[.pointer (some ⟨ub, 0, none⟩)] #[]]
        have hlow : w.heap.size + 4 ≤ ub := by
          have := heap_lt H5.out.hE
          omega
        have H7 : Hid (StU w (((W5.alloc (.cells #[.int .i8 m.ph, .int .i64 m.pid, .int .i64 0, .int .i64 m.dl, .int .i64 0, .int .i8 m.T.k, .int .i64 m.T.n, .string m.T.s, .string m.T.u, .slice m.T.ao m.T.l.length m.T.cap, .int .i8 m.U.k, .int .i64 m.U.n, .string m.U.s, .string m.U.u, .slice m.U.ao m.U.l.length m.U.cap, .int .i8 m.V.k, .int .i64 m.V.n, .string m.V.s, .string m.V.u, .slice m.V.ao m.V.l.length m.V.cap, .slice (some ⟨m.rb, 0, none⟩) 1 1, .int .i8 0, .int .i64 0, .int .i64 0, .slice none 0 0, .slice none 0 0, .slice none 0 0, .int .i64 i.now, .int .i64 i.self, .slice i.mo i.mn i.mc, .int .i8 i.cls, .bool i.some, .int .i8 i.got.k, .int .i64 i.got.n, .string i.got.s, .string i.got.u, .slice i.got.ao i.got.l.length i.got.cap, .int .i64 0, .slice none 0 0] 88)).alloc (.cells #[.nilFunc, .nilFunc, .nilFunc, .nilFunc, .nilFunc, .nilFunc, .nilFunc] 89)).setRow (ub + 1) #[.func (.func 46) #[.pointer (some ⟨ub, 0, none⟩)] #[], .func (.func 47) #[.pointer (some ⟨ub, 0, none⟩)] #[], .func (.func 48) #[.pointer (some ⟨ub, 0, none⟩)] #[], .func (.func 49) #[.pointer (some ⟨ub, 0, none⟩)] #[], .func (.func 49) #[.pointer (some ⟨ub, 0, none⟩)] #[], .func (.func 50) #[.pointer (some ⟨ub, 0, none⟩)] #[], .func (.func 51) #[.pointer (some ⟨ub, 0, none⟩)] #[]]) m i ub) := Lib.hid ⟨H5.out.keep (hub.symm ▸ hbS), ⟨hcS.heap hq1 (by omega), rfl, World.ownsRow_nil _ _ _ _⟩, hlow⟩
        have HT7 := Lib.hid (setRow_heap _ (ub + 1) _ #[.func (.func 46) #[.pointer (some ⟨ub, 0, none⟩)] #[], .func (.func 47) #[.pointer (some ⟨ub, 0, none⟩)] #[], .func (.func 48) #[.pointer (some ⟨ub, 0, none⟩)] #[], .func (.func 49) #[.pointer (some ⟨ub, 0, none⟩)] #[], .func (.func 49) #[.pointer (some ⟨ub, 0, none⟩)] #[], .func (.func 50) #[.pointer (some ⟨ub, 0, none⟩)] #[], .func (.func 51) #[.pointer (some ⟨ub, 0, none⟩)] #[]] 89 (0, 0) hq2)
        clear hq1 hq2 hbB hcS hbS hlow hub H5
        generalize ((W5.alloc (.cells #[.int .i8 m.ph, .int .i64 m.pid, .int .i64 0, .int .i64 m.dl, .int .i64 0, .int .i8 m.T.k, .int .i64 m.T.n, .string m.T.s, .string m.T.u, .slice m.T.ao m.T.l.length m.T.cap, .int .i8 m.U.k, .int .i64 m.U.n, .string m.U.s, .string m.U.u, .slice m.U.ao m.U.l.length m.U.cap, .int .i8 m.V.k, .int .i64 m.V.n, .string m.V.s, .string m.V.u, .slice m.V.ao m.V.l.length m.V.cap, .slice (some ⟨m.rb, 0, none⟩) 1 1, .int .i8 0, .int .i64 0, .int .i64 0, .slice none 0 0, .slice none 0 0, .slice none 0 0, .int .i64 i.now, .int .i64 i.self, .slice i.mo i.mn i.mc, .int .i8 i.cls, .bool i.some, .int .i8 i.got.k, .int .i64 i.got.n, .string i.got.s, .string i.got.u, .slice i.got.ao i.got.l.length i.got.cap, .int .i64 0, .slice none 0 0] 88)).alloc (.cells #[.nilFunc, .nilFunc, .nilFunc, .nilFunc, .nilFunc, .nilFunc, .nilFunc] 89)).setRow (ub + 1) #[.func (.func 46) #[.pointer (some ⟨ub, 0, none⟩)] #[], .func (.func 47) #[.pointer (some ⟨ub, 0, none⟩)] #[], .func (.func 48) #[.pointer (some ⟨ub, 0, none⟩)] #[], .func (.func 49) #[.pointer (some ⟨ub, 0, none⟩)] #[], .func (.func 49) #[.pointer (some ⟨ub, 0, none⟩)] #[], .func (.func 50) #[.pointer (some ⟨ub, 0, none⟩)] #[], .func (.func 51) #[.pointer (some ⟨ub, 0, none⟩)] #[]] = W7 at *
        have c8 : W7.cell? ⟨w.heap.size, 8, none⟩ = some (.int .i8 m.ph) := (cells_at H7.out.st.hF 8 _ rfl).1
        have t0 := (cells_at HT7.out 1 _ rfl).1
        rw [HK.out] at c8
        go_wp2_with fail
        refine (begun_any (M4 M w) W7 (H7.out.lt4 HX.out.1) (keepCells HX.out.2.1 H7.out.st.hb) ub m i _ [] H7.out.hu (by simp) (H7.out.lv HX.out.2.1) (H7.out.te HX.out.2.2.2.1)).mono ?_
        rintro e W8 ⟨⟨v, rfl⟩, ev8, m8, E8, hu8, hc8, hb8, hR8⟩
        have H8 := Lib.hid (H7.out.fin (L := L) (EA := EA) HM.out hu8 hc8 (H7.out.weak (.inr (.inr (.inl ⟨HK.out, hR8⟩)))))
        clear hu8 hc8 hb8 hR8 H7 HT7 c8 t0
        go_wp2_with (with_reducible refine stop_op (o := ⟨_, .load 37 (.tmp 56), _, _, _, _⟩) ?_)
        refine Lib.hid ?_
        refine wpList_load_mid (op := ⟨_, _, _, _, _, _⟩) rfl 37 (.tmp 56) rfl ub 0 rfl (mcL m8) _ (mid_range (pre := []) (post := innL i ++ [ev8]) (by have := H8.out.hu.hU; unfold unL at this; rw [List.append_assoc] at this; exact this) rfl) Tryz.underlying37 rfl (infoMA rfl) ?_
        go_wp2_with (with_reducible refine stop_op (o := ⟨_, .store 37 (.tmp 58) (.tmp 57), _, _, _, _⟩) ?_)
        refine Lib.hid ?_
        refine wpList_store_mid (op := ⟨none, _, _, _, _, _⟩) rfl 37 (.tmp 58) (.tmp 57) rfl w.heap.size 8 (mcL m8).toArray rfl rfl (fr_there H8.out.hF) (infoMA rfl) (all_oneCell_toArray (mcL_one m8)) ?_
        have hc9 := chg_cells (mcL m8) w.heap.size 8 W8
        have H9 := Lib.hid (H8.out.put hc9 (fr_set m8 H8.out.hF))
        clear hc9 H8
        change Hid (StG M w (W8.setCells w.heap.size 8 (mcL m8).toArray.toList) m c EA i L ub m8 m8 ev8 E8) at H9
        generalize W8.setCells w.heap.size 8 (mcL m8).toArray.toList = W9 at *
        go_upto_region 14 with fail
        have hS : StS w.heap.size ub m8 ev8 W9.drew := ⟨H9.out.hF, H9.out.hu.ev⟩
        have H9 := Lib.hid (H9.out.keep (Below.refl _ _).drew)
        refine region_plan (StS w.heap.size ub m8 ev8) [(0, 0), (1, 0), (2, 0), (3, 0), (4, 0), (5, 1), (6, 0)] (by kernel_rfl) (by kernel_rfl) (by kernel_rfl) hS ?_
        generalize W9.drew = WD at *
        refine plan_take rfl ?_ (fun wS hSw => exec_row 39 (.tmp 2) rfl w.heap.size rfl (frL m8).toArray 39 (0, 0) _ hSw.1 Tryz.underlying39 rfl (infoFR rfl)) ?_
        focus (rfl)
        (try simp only [Act.put, List.setIfInBounds_toArray, List.set_cons_zero, List.set_cons_succ])
        iterate 4 (first | (refine plan_skip rfl ?_ ?_; (focus (rfl)); (try simp only [Act.put, List.setIfInBounds_toArray, List.set_cons_zero, List.set_cons_succ])) | (refine plan_take (v := ?_) rfl ?_ (fun w hSw => ?_) ?_; rotate_left; (focus (rfl)); (focus (unfold StS at hSw; (go_simp <;> with_reducible rfl))); (try simp only [Act.put, List.setIfInBounds_toArray, List.set_cons_zero, List.set_cons_succ])))
        have hcF := chg_setRow WD (w.heap.size + 2) (frL m8).toArray
        have hSF : StS w.heap.size ub m8 ev8 (WD.setRow (w.heap.size + 2) (frL m8).toArray) := ⟨hcF.heap hS.1 (by omega), hcF.cell hS.2 (by have := H9.out.hub; show ¬ ub = w.heap.size + 2; omega)⟩
        have HQ := Lib.hid (setRow_heap WD (w.heap.size + 2) _ (frL m8).toArray 39 (0, 0) H9.out.hZ)
        have HP : Hid (StP M w m c EA i L (.returned (.tuple #[.agg (frL m8).toArray, ev8])) (WD.setRow (w.heap.size + 2) (frL m8).toArray)) := Lib.hid (H9.out.done hcF)
        refine plan_run rfl ?_ (fun K hK => ?_)
        focus (rfl)
        refine wp_store_row 39 (.tmp 4) (.tmp 59) rfl (w.heap.size + 2) (frL m8).toArray rfl rfl 39 frZ.toArray H9.out.hZ (infoFR rfl) rfl (all_oneCell_toArray (frL_one m8)) ?_
        refine hK.out _ _ (hSF) ?_
        clear hK K
        (try simp only [Act.put, List.setIfInBounds_toArray, List.set_cons_zero, List.set_cons_succ])
        iterate 1 (first | (refine plan_skip rfl ?_ ?_; (focus (rfl)); (try simp only [Act.put, List.setIfInBounds_toArray, List.set_cons_zero, List.set_cons_succ])) | (refine plan_take (v := ?_) rfl ?_ (fun w hSw => ?_) ?_; rotate_left; (focus (rfl)); (focus (unfold StS at hSw; (go_simp <;> with_reducible rfl))); (try simp only [Act.put, List.setIfInBounds_toArray, List.set_cons_zero, List.set_cons_succ])))
        refine plan_done ?_
        clear hS hcF hSF H9
        generalize WD.setRow (w.heap.size + 2) (frL m8).toArray = W10 at *
        go_wp2_with fail
        exact ret_row HQ.out rfl Tryz.underlying39 rfl (infoFR rfl) rfl rfl HP.out
    · have HK := Lib.hid hk
      rw [hk] at c8
      clear hk
      go_wp2_with (with_reducible refine stop_op (o := ⟨_, .load 37 (.tmp 28), _, _, _, _⟩) ?_)
      refine Lib.hid ?_
      refine wpList_load_mid (op := ⟨_, _, _, _, _, _⟩) rfl 37 (.tmp 28) rfl w.heap.size 8 rfl [.int .i8 m.ph, .int .i64 m.pid, .int .i64 0, .int .i64 m.dl, .int .i64 0, .int .i8 m.T.k, .int .i64 m.T.n, .string m.T.s, .string m.T.u, .slice m.T.ao m.T.l.length m.T.cap, .int .i8 m.U.k, .int .i64 m.U.n, .string m.U.s, .string m.U.u, .slice m.U.ao m.U.l.length m.U.cap, .int .i8 m.V.k, .int .i64 m.V.n, .string m.V.s, .string m.V.u, .slice m.V.ao m.V.l.length m.V.cap, .slice (some ⟨m.rb, 0, none⟩) 1 1, .int .i8 0, .int .i64 0, .int .i64 0, .slice none 0 0, .slice none 0 0, .slice none 0 0] _ (fr_range H5.out.hF) Tryz.underlying37 rfl (infoMA rfl) ?_
      go_wp2_with (with_reducible refine stop_op (o := ⟨_, .load 43 (.tmp 3), _, _, _, _⟩) ?_)
      refine Lib.hid ?_
      refine wpList_load_row (o := ⟨_, _, _, _, _, _⟩) rfl 43 (.tmp 3) rfl (w.heap.size + 1) rfl 43 #[.int .i64 i.now, .int .i64 i.self, .slice i.mo i.mn i.mc, .int .i8 i.cls, .bool i.some, .int .i8 i.got.k, .int .i64 i.got.n, .string i.got.s, .string i.got.u, .slice i.got.ao i.got.l.length i.got.cap, .int .i64 0] (0, 0) _ H5.out.hI Tryz.underlying43 rfl (infoIN rfl) ?_
      go_wp2_with (with_reducible refine stop_op (o := ⟨_, .store 89 (.tmp 8) (.tmp 47), _, _, _, _⟩) ?_)
      refine Lib.hid ?_
      generalize hub : W5.heap.size = ub at *
      refine wpList_store_row (o := ⟨none, _, _, _, _, _⟩) rfl 89 (.tmp 8) (.tmp 47) rfl (ub + 1) #[.func (.func 46) #[.pointer (some ⟨ub, 0, none⟩)] #[], .func (.func 47) #[.pointer (some ⟨ub, 0, none⟩)] #[], .func (.func 48) #[.pointer (some ⟨ub, 0, none⟩)] #[], .func (.func 49) #[.pointer (some ⟨ub, 0, none⟩)] #[], .func (.func 49) #[.pointer (some ⟨ub, 0, none⟩)] #[], .func (.func 50) #[.pointer (some ⟨ub, 0, none⟩)] #[], .func (.func 51) #[.pointer (some ⟨ub, 0, none⟩)] #[]] rfl rfl 89 #[.nilFunc, .nilFunc, .nilFunc, .nilFunc, .nilFunc, .nilFunc, .nilFunc] (by have := heap_new (W5.alloc (.cells #[.int .i8 m.ph, .int .i64 m.pid, .int .i64 0, .int .i64 m.dl, .int .i64 0, .int .i8 m.T.k, .int .i64 m.T.n, .string m.T.s, .string m.T.u, .slice m.T.ao m.T.l.length m.T.cap, .int .i8 m.U.k, .int .i64 m.U.n, .string m.U.s, .string m.U.u, .slice m.U.ao m.U.l.length m.U.cap, .int .i8 m.V.k, .int .i64 m.V.n, .string m.V.s, .string m.V.u, .slice m.V.ao m.V.l.length m.V.cap, .slice (some ⟨m.rb, 0, none⟩) 1 1, .int .i8 0, .int .i64 0, .int .i64 0, .slice none 0 0, .slice none 0 0, .slice none 0 0, .int .i64 i.now, .int .i64 i.self, .slice i.mo i.mn i.mc, .int .i8 i.cls, .bool i.some, .int .i8 i.got.k, .int .i64 i.got.n, .string i.got.s, .string i.got.u, .slice i.got.ao i.got.l.length i.got.cap, .int .i64 0, .slice none 0 0] 88)) (.cells #[.nilFunc, .nilFunc, .nilFunc, .nilFunc, .nilFunc, .nilFunc, .nilFunc] 89); simp only [World.size_alloc, hub] at this; exact this) (infoPH rfl) rfl (by simp [Value.oneCell']) ?_
      have hq1 := heap_old (heap_new W5 (.cells #[.int .i8 m.ph, .int .i64 m.pid, .int .i64 0, .int .i64 m.dl, .int .i64 0, .int .i8 m.T.k, .int .i64 m.T.n, .string m.T.s, .string m.T.u, .slice m.T.ao m.T.l.length m.T.cap, .int .i8 m.U.k, .int .i64 m.U.n, .string m.U.s, .string m.U.u, .slice m.U.ao m.U.l.length m.U.cap, .int .i8 m.V.k, .int .i64 m.V.n, .string m.V.s, .string m.V.u, .slice m.V.ao m.V.l.length m.V.cap, .slice (some ⟨m.rb, 0, none⟩) 1 1, .int .i8 0, .int .i64 0, .int .i64 0, .slice none 0 0, .slice none 0 0, .slice none 0 0, .int .i64 i.now, .int .i64 i.self, .slice i.mo i.mn i.mc, .int .i8 i.cls, .bool i.some, .int .i8 i.got.k, .int .i64 i.got.n, .string i.got.s, .string i.got.u, .slice i.got.ao i.got.l.length i.got.cap, .int .i64 0, .slice none 0 0] 88)) (.cells #[.nilFunc, .nilFunc, .nilFunc, .nilFunc, .nilFunc, .nilFunc, .nilFunc] 89)
      have hq2 := heap_new (W5.alloc (.cells #[.int .i8 m.ph, .int .i64 m.pid, .int .i64 0, .int .i64 m.dl, .int .i64 0, .int .i8 m.T.k, .int .i64 m.T.n, .string m.T.s, .string m.T.u, .slice m.T.ao m.T.l.length m.T.cap, .int .i8 m.U.k, .int .i64 m.U.n, .string m.U.s, .string m.U.u, .slice m.U.ao m.U.l.length m.U.cap, .int .i8 m.V.k, .int .i64 m.V.n, .string m.V.s, .string m.V.u, .slice m.V.ao m.V.l.length m.V.cap, .slice (some ⟨m.rb, 0, none⟩) 1 1, .int .i8 0, .int .i64 0, .int .i64 0, .slice none 0 0, .slice none 0 0, .slice none 0 0, .int .i64 i.now, .int .i64 i.self, .slice i.mo i.mn i.mc, .int .i8 i.cls, .bool i.some, .int .i8 i.got.k, .int .i64 i.got.n, .string i.got.s, .string i.got.u, .slice i.got.ao i.got.l.length i.got.cap, .int .i64 0, .slice none 0 0] 88)) (.cells #[.nilFunc, .nilFunc, .nilFunc, .nilFunc, .nilFunc, .nilFunc, .nilFunc] 89)
      have hbB := ((Below.refl W5.heap.size W5).alloc (Nat.le_refl _) (.cells #[.int .i8 m.ph, .int .i64 m.pid, .int .i64 0, .int .i64 m.dl, .int .i64 0, .int .i8 m.T.k, .int .i64 m.T.n, .string m.T.s, .string m.T.u, .slice m.T.ao m.T.l.length m.T.cap, .int .i8 m.U.k, .int .i64 m.U.n, .string m.U.s, .string m.U.u, .slice m.U.ao m.U.l.length m.U.cap, .int .i8 m.V.k, .int .i64 m.V.n, .string m.V.s, .string m.V.u, .slice m.V.ao m.V.l.length m.V.cap, .slice (some ⟨m.rb, 0, none⟩) 1 1, .int .i8 0, .int .i64 0, .int .i64 0, .slice none 0 0, .slice none 0 0, .slice none 0 0, .int .i64 i.now, .int .i64 i.self, .slice i.mo i.mn i.mc, .int .i8 i.cls, .bool i.some, .int .i8 i.got.k, .int .i64 i.got.n, .string i.got.s, .string i.got.u, .slice i.got.ao i.got.l.length i.got.cap, .int .i64 0, .slice none 0 0] 88)).alloc (by simp) (.cells #[.nilFunc, .nilFunc, .nilFunc, .nilFunc, .nilFunc, .nilFunc, .nilFunc] 89)
      simp only [World.size_alloc, hub] at hq1 hq2 hbB
      have hcS := chg_setRow ((W5.alloc (.cells #[.int .i8 m.ph, .int .i64 m.pid, .int .i64 0, .int .i64 m.dl, .int .i64 0, .int .i8 m.T.k, .int .i64 m.T.n, .string m.T.s, .string m.T.u, .slice m.T.ao m.T.l.length m.T.cap, .int .i8 m.U.k, .int .i64 m.U.n, .string m.U.s, .string m.U.u, .slice m.U.ao m.U.l.length m.U.cap, .int .i8 m.V.k, .int .i64 m.V.n, .string m.V.s, .string m.V.u, .slice m.V.ao m.V.l.length m.V.cap, .slice (some ⟨m.rb, 0, none⟩) 1 1, .int .i8 0, .int .i64 0, .int .i64 0, .slice none 0 0, .slice none 0 0, .slice none 0 0, .int .i64 i.now, .int .i64 i.self, .slice i.mo i.mn i.mc, .int .i8 i.cls, .bool i.some, .int .i8 i.got.k, .int .i64 i.got.n, .string i.got.s, .string i.got.u, .slice i.got.ao i.got.l.length i.got.cap, .int .i64 0, .slice none 0 0] 88)).alloc (.cells #[.nilFunc, .nilFunc, .nilFunc, .nilFunc, .nilFunc, .nilFunc, .nilFunc] 89)) (ub + 1) #[.func (.func 46) #[.pointer (some ⟨ub, 0, none⟩)] #[], .func (.func 47) #[.pointer (some ⟨ub, 0, none⟩)] #[], .func (.func 48) #[.pointer (some ⟨ub, 0, none⟩)] #[], .func (.func 49) #[.pointer (some ⟨ub, 0, none⟩)] #[], .func (.func 49) #[.pointer (some ⟨ub, 0, none⟩)] #[], .func (.func 50) #[.pointer (some ⟨ub, 0, none⟩)] #[], .func (.func 51) #[.pointer (some ⟨ub, 0, none⟩)] #[]]
      have hbS := bel_setRow hbB (by simp [hub]; omega) (Nat.le_succ ub) #[.func (.func 46) #[.pointer (some ⟨ub, 0, none⟩)] #[], .func (.func 47) #[.pointer (some ⟨ub, 0, none⟩)] #[], .func (.func 48) #[.pointer (some ⟨ub, 0, none⟩)] #[], .func (.func 49) #[.pointer (some ⟨ub, 0, none⟩)] #[], .func (.func 49) #[.pointer (some ⟨ub, 0, none⟩)] #[], .func (.func 50) #[.pointer (some ⟨ub, 0, none⟩)] #[], .func (.func 51) #[.pointer (some ⟨ub, 0, none⟩)] #[]]
      have hlow : w.heap.size + 4 ≤ ub := by
        have := heap_lt H5.out.hE
        omega
      have H7 : Hid (StU w (((W5.alloc (.cells #[.int .i8 m.ph, .int .i64 m.pid, .int .i64 0, .int .i64 m.dl, .int .i64 0, .int .i8 m.T.k, .int .i64 m.T.n, .string m.T.s, .string m.T.u, .slice m.T.ao m.T.l.length m.T.cap, .int .i8 m.U.k, .int .i64 m.U.n, .string m.U.s, .string m.U.u, .slice m.U.ao m.U.l.length m.U.cap, .int .i8 m.V.k, .int .i64 m.V.n, .string m.V.s, .string m.V.u, .slice m.V.ao m.V.l.length m.V.cap, .slice (some ⟨m.rb, 0, none⟩) 1 1, .int .i8 0, .int .i64 0, .int .i64 0, .slice none 0 0, .slice none 0 0, .slice none 0 0, .int .i64 i.now, .int .i64 i.self, .slice i.mo i.mn i.mc, .int .i8 i.cls, .bool i.some, .int .i8 i.got.k, .int .i64 i.got.n, .string i.got.s, .string i.got.u, .slice i.got.ao i.got.l.length i.got.cap, .int .i64 0, .slice none 0 0] 88)).alloc (.cells #[.nilFunc, .nilFunc, .nilFunc, .nilFunc, .nilFunc, .nilFunc, .nilFunc] 89)).setRow (ub + 1) #[.func (.func 46) #[.pointer (some ⟨ub, 0, none⟩)] #[], .func (.func 47) #[.pointer (some ⟨ub, 0, none⟩)] #[], .func (.func 48) #[.pointer (some ⟨ub, 0, none⟩)] #[], .func (.func 49) #[.pointer (some ⟨ub, 0, none⟩)] #[], .func (.func 49) #[.pointer (some ⟨ub, 0, none⟩)] #[], .func (.func 50) #[.pointer (some ⟨ub, 0, none⟩)] #[], .func (.func 51) #[.pointer (some ⟨ub, 0, none⟩)] #[]]) m i ub) := Lib.hid ⟨H5.out.keep (hub.symm ▸ hbS), ⟨hcS.heap hq1 (by omega), rfl, World.ownsRow_nil _ _ _ _⟩, hlow⟩
      have HT7 := Lib.hid (setRow_heap _ (ub + 1) _ #[.func (.func 46) #[.pointer (some ⟨ub, 0, none⟩)] #[], .func (.func 47) #[.pointer (some ⟨ub, 0, none⟩)] #[], .func (.func 48) #[.pointer (some ⟨ub, 0, none⟩)] #[], .func (.func 49) #[.pointer (some ⟨ub, 0, none⟩)] #[], .func (.func 49) #[.pointer (some ⟨ub, 0, none⟩)] #[], .func (.func 50) #[.pointer (some ⟨ub, 0, none⟩)] #[], .func (.func 51) #[.pointer (some ⟨ub, 0, none⟩)] #[]] 89 (0, 0) hq2)
      clear hq1 hq2 hbB hcS hbS hlow hub H5
      generalize ((W5.alloc (.cells #[.int .i8 m.ph, .int .i64 m.pid, .int .i64 0, .int .i64 m.dl, .int .i64 0, .int .i8 m.T.k, .int .i64 m.T.n, .string m.T.s, .string m.T.u, .slice m.T.ao m.T.l.length m.T.cap, .int .i8 m.U.k, .int .i64 m.U.n, .string m.U.s, .string m.U.u, .slice m.U.ao m.U.l.length m.U.cap, .int .i8 m.V.k, .int .i64 m.V.n, .string m.V.s, .string m.V.u, .slice m.V.ao m.V.l.length m.V.cap, .slice (some ⟨m.rb, 0, none⟩) 1 1, .int .i8 0, .int .i64 0, .int .i64 0, .slice none 0 0, .slice none 0 0, .slice none 0 0, .int .i64 i.now, .int .i64 i.self, .slice i.mo i.mn i.mc, .int .i8 i.cls, .bool i.some, .int .i8 i.got.k, .int .i64 i.got.n, .string i.got.s, .string i.got.u, .slice i.got.ao i.got.l.length i.got.cap, .int .i64 0, .slice none 0 0] 88)).alloc (.cells #[.nilFunc, .nilFunc, .nilFunc, .nilFunc, .nilFunc, .nilFunc, .nilFunc] 89)).setRow (ub + 1) #[.func (.func 46) #[.pointer (some ⟨ub, 0, none⟩)] #[], .func (.func 47) #[.pointer (some ⟨ub, 0, none⟩)] #[], .func (.func 48) #[.pointer (some ⟨ub, 0, none⟩)] #[], .func (.func 49) #[.pointer (some ⟨ub, 0, none⟩)] #[], .func (.func 49) #[.pointer (some ⟨ub, 0, none⟩)] #[], .func (.func 50) #[.pointer (some ⟨ub, 0, none⟩)] #[], .func (.func 51) #[.pointer (some ⟨ub, 0, none⟩)] #[]] = W7 at *
      have c8 : W7.cell? ⟨w.heap.size, 8, none⟩ = some (.int .i8 m.ph) := (cells_at H7.out.st.hF 8 _ rfl).1
      have t0 := (cells_at HT7.out 2 _ rfl).1
      rw [HK.out] at c8
      go_wp2_with fail
      refine (loop_any (M4 M w) W7 (H7.out.lt4 HX.out.1) (keepCells HX.out.2.1 H7.out.st.hb) ub m i c L _ [] H7.out.hu (by simp) (H7.out.rcd HM.out).1 (H7.out.rcd HM.out).2 (H7.out.ml HX.out.2.2.2.2) HX.out.2.2.1).mono ?_
      rintro e W8 ⟨⟨v, rfl⟩, ev8, m8, E8, hu8, hc8, hb8, hR8⟩
      have H8 := Lib.hid (H7.out.fin (L := L) (EA := EA) HM.out hu8 hc8 (H7.out.weak (.inr (.inr (.inr (.inl ⟨HK.out, hR8⟩))))))
      clear hu8 hc8 hb8 hR8 H7 HT7 c8 t0
      go_wp2_with (with_reducible refine stop_op (o := ⟨_, .load 37 (.tmp 56), _, _, _, _⟩) ?_)
      refine Lib.hid ?_
      refine wpList_load_mid (op := ⟨_, _, _, _, _, _⟩) rfl 37 (.tmp 56) rfl ub 0 rfl (mcL m8) _ (mid_range (pre := []) (post := innL i ++ [ev8]) (by have := H8.out.hu.hU; unfold unL at this; rw [List.append_assoc] at this; exact this) rfl) Tryz.underlying37 rfl (infoMA rfl) ?_
      go_wp2_with (with_reducible refine stop_op (o := ⟨_, .store 37 (.tmp 58) (.tmp 57), _, _, _, _⟩) ?_)
      refine Lib.hid ?_
      refine wpList_store_mid (op := ⟨none, _, _, _, _, _⟩) rfl 37 (.tmp 58) (.tmp 57) rfl w.heap.size 8 (mcL m8).toArray rfl rfl (fr_there H8.out.hF) (infoMA rfl) (all_oneCell_toArray (mcL_one m8)) ?_
      have hc9 := chg_cells (mcL m8) w.heap.size 8 W8
      have H9 := Lib.hid (H8.out.put hc9 (fr_set m8 H8.out.hF))
      clear hc9 H8
      change Hid (StG M w (W8.setCells w.heap.size 8 (mcL m8).toArray.toList) m c EA i L ub m8 m8 ev8 E8) at H9
      generalize W8.setCells w.heap.size 8 (mcL m8).toArray.toList = W9 at *
      go_upto_region 14 with fail
      have hS : StS w.heap.size ub m8 ev8 W9.drew := ⟨H9.out.hF, H9.out.hu.ev⟩
      have H9 := Lib.hid (H9.out.keep (Below.refl _ _).drew)
      refine region_plan (StS w.heap.size ub m8 ev8) [(0, 0), (1, 0), (2, 0), (3, 0), (4, 0), (5, 1), (6, 0)] (by kernel_rfl) (by kernel_rfl) (by kernel_rfl) hS ?_
      generalize W9.drew = WD at *
      refine plan_take rfl ?_ (fun wS hSw => exec_row 39 (.tmp 2) rfl w.heap.size rfl (frL m8).toArray 39 (0, 0) _ hSw.1 Tryz.underlying39 rfl (infoFR rfl)) ?_
      focus (rfl)
      (try simp only [Act.put, List.setIfInBounds_toArray, List.set_cons_zero, List.set_cons_succ])
      iterate 4 (first | (refine plan_skip rfl ?_ ?_; (focus (rfl)); (try simp only [Act.put, List.setIfInBounds_toArray, List.set_cons_zero, List.set_cons_succ])) | (refine plan_take (v := ?_) rfl ?_ (fun w hSw => ?_) ?_; rotate_left; (focus (rfl)); (focus (unfold StS at hSw; (go_simp <;> with_reducible rfl))); (try simp only [Act.put, List.setIfInBounds_toArray, List.set_cons_zero, List.set_cons_succ])))
      have hcF := chg_setRow WD (w.heap.size + 2) (frL m8).toArray
      have hSF : StS w.heap.size ub m8 ev8 (WD.setRow (w.heap.size + 2) (frL m8).toArray) := ⟨hcF.heap hS.1 (by omega), hcF.cell hS.2 (by have := H9.out.hub; show ¬ ub = w.heap.size + 2; omega)⟩
      have HQ := Lib.hid (setRow_heap WD (w.heap.size + 2) _ (frL m8).toArray 39 (0, 0) H9.out.hZ)
      have HP : Hid (StP M w m c EA i L (.returned (.tuple #[.agg (frL m8).toArray, ev8])) (WD.setRow (w.heap.size + 2) (frL m8).toArray)) := Lib.hid (H9.out.done hcF)
      refine plan_run rfl ?_ (fun K hK => ?_)
      focus (rfl)
      refine wp_store_row 39 (.tmp 4) (.tmp 59) rfl (w.heap.size + 2) (frL m8).toArray rfl rfl 39 frZ.toArray H9.out.hZ (infoFR rfl) rfl (all_oneCell_toArray (frL_one m8)) ?_
      refine hK.out _ _ (hSF) ?_
      clear hK K
      (try simp only [Act.put, List.setIfInBounds_toArray, List.set_cons_zero, List.set_cons_succ])
      iterate 1 (first | (refine plan_skip rfl ?_ ?_; (focus (rfl)); (try simp only [Act.put, List.setIfInBounds_toArray, List.set_cons_zero, List.set_cons_succ])) | (refine plan_take (v := ?_) rfl ?_ (fun w hSw => ?_) ?_; rotate_left; (focus (rfl)); (focus (unfold StS at hSw; (go_simp <;> with_reducible rfl))); (try simp only [Act.put, List.setIfInBounds_toArray, List.set_cons_zero, List.set_cons_succ])))
      refine plan_done ?_
      clear hS hcF hSF H9
      generalize WD.setRow (w.heap.size + 2) (frL m8).toArray = W10 at *
      go_wp2_with fail
      exact ret_row HQ.out rfl Tryz.underlying39 rfl (infoFR rfl) rfl rfl HP.out
    · have HK := Lib.hid hk
      rw [hk] at c8
      clear hk
      cases hs : i.some
      · have HSO := Lib.hid hs
        rw [hs] at i4
        clear hs
        go_wp2_with (with_reducible refine stop_op (o := ⟨_, .load 39 (.tmp 2), _, _, _, _⟩) ?_)
        refine Lib.hid ?_
        refine wpList_load_row (o := ⟨_, _, _, _, _, _⟩) rfl 39 (.tmp 2) rfl w.heap.size rfl 39 (frL m).toArray (0, 0) _ H5.out.hF Tryz.underlying39 rfl (infoFR rfl) ?_
        go_wp2_with (with_reducible refine stop_op (o := ⟨_, .store 39 (.tmp 4) (.tmp 26), _, _, _, _⟩) ?_)
        refine Lib.hid ?_
        refine wpList_store_row (o := ⟨none, _, _, _, _, _⟩) rfl 39 (.tmp 4) (.tmp 26) rfl (w.heap.size + 2) (frL m).toArray rfl rfl 39 frZ.toArray H5.out.hZ (infoFR rfl) rfl (all_oneCell_toArray (frL_one m)) ?_
        have hc := chg_setRow W5 (w.heap.size + 2) (frL m).toArray
        have hbf := H5.out.hb.trans (hc.below H5.out.hb.size (fun k e => by have e : k = w.heap.size + 2 := e; omega))
        have HQ := Lib.hid (setRow_heap W5 (w.heap.size + 2) _ (frL m).toArray 39 (0, 0) H5.out.hZ)
        have HP : Hid (StP M w m c EA i L (.returned (.tuple #[.agg (frL m).toArray, .slice (some ⟨w.heap.size + 3, 0, none⟩) 1 1])) (W5.setRow (w.heap.size + 2) (frL m).toArray)) := Lib.hid ⟨m, _, [idleE], rfl, hbf, EfAt.idle (hc.heap H5.out.hE (by omega)) (by omega), HM.out.keep hbf, .inl ⟨.inr ⟨by have := HK.out; omega, HSO.out⟩, rfl, rfl⟩⟩
        clear hc hbf H5
        generalize W5.setRow (w.heap.size + 2) (frL m).toArray = W9 at *
        go_wp2_with fail
        exact ret_row HQ.out rfl Tryz.underlying39 rfl (infoFR rfl) rfl rfl HP.out
      · rw [hs] at i4
        clear hs
        go_wp2_with (with_reducible refine stop_op (o := ⟨_, .load 37 (.tmp 28), _, _, _, _⟩) ?_)
        refine Lib.hid ?_
        refine wpList_load_mid (op := ⟨_, _, _, _, _, _⟩) rfl 37 (.tmp 28) rfl w.heap.size 8 rfl [.int .i8 m.ph, .int .i64 m.pid, .int .i64 0, .int .i64 m.dl, .int .i64 0, .int .i8 m.T.k, .int .i64 m.T.n, .string m.T.s, .string m.T.u, .slice m.T.ao m.T.l.length m.T.cap, .int .i8 m.U.k, .int .i64 m.U.n, .string m.U.s, .string m.U.u, .slice m.U.ao m.U.l.length m.U.cap, .int .i8 m.V.k, .int .i64 m.V.n, .string m.V.s, .string m.V.u, .slice m.V.ao m.V.l.length m.V.cap, .slice (some ⟨m.rb, 0, none⟩) 1 1, .int .i8 0, .int .i64 0, .int .i64 0, .slice none 0 0, .slice none 0 0, .slice none 0 0] _ (fr_range H5.out.hF) Tryz.underlying37 rfl (infoMA rfl) ?_
        go_wp2_with (with_reducible refine stop_op (o := ⟨_, .load 43 (.tmp 3), _, _, _, _⟩) ?_)
        refine Lib.hid ?_
        refine wpList_load_row (o := ⟨_, _, _, _, _, _⟩) rfl 43 (.tmp 3) rfl (w.heap.size + 1) rfl 43 #[.int .i64 i.now, .int .i64 i.self, .slice i.mo i.mn i.mc, .int .i8 i.cls, .bool i.some, .int .i8 i.got.k, .int .i64 i.got.n, .string i.got.s, .string i.got.u, .slice i.got.ao i.got.l.length i.got.cap, .int .i64 0] (0, 0) _ H5.out.hI Tryz.underlying43 rfl (infoIN rfl) ?_
        go_wp2_with (with_reducible refine stop_op (o := ⟨_, .store 89 (.tmp 8) (.tmp 47), _, _, _, _⟩) ?_)
        refine Lib.hid ?_
        generalize hub : W5.heap.size = ub at *
        refine wpList_store_row (o := ⟨none, _, _, _, _, _⟩) rfl 89 (.tmp 8) (.tmp 47) rfl (ub + 1) #[.func (.func 46) #[.pointer (some ⟨ub, 0, none⟩)] #[], .func (.func 47) #[.pointer (some ⟨ub, 0, none⟩)] #[], .func (.func 48) #[.pointer (some ⟨ub, 0, none⟩)] #[], .func (.func 49) #[.pointer (some ⟨ub, 0, none⟩)] #[], .func (.func 49) #[.pointer (some ⟨ub, 0, none⟩)] #[], .func (.func 50) #[.pointer (some ⟨ub, 0, none⟩)] #[], .func (.func 51) #[.pointer (some ⟨ub, 0, none⟩)] #[]] rfl rfl 89 #[.nilFunc, .nilFunc, .nilFunc, .nilFunc, .nilFunc, .nilFunc, .nilFunc] (by have := heap_new (W5.alloc (.cells #[.int .i8 m.ph, .int .i64 m.pid, .int .i64 0, .int .i64 m.dl, .int .i64 0, .int .i8 m.T.k, .int .i64 m.T.n, .string m.T.s, .string m.T.u, .slice m.T.ao m.T.l.length m.T.cap, .int .i8 m.U.k, .int .i64 m.U.n, .string m.U.s, .string m.U.u, .slice m.U.ao m.U.l.length m.U.cap, .int .i8 m.V.k, .int .i64 m.V.n, .string m.V.s, .string m.V.u, .slice m.V.ao m.V.l.length m.V.cap, .slice (some ⟨m.rb, 0, none⟩) 1 1, .int .i8 0, .int .i64 0, .int .i64 0, .slice none 0 0, .slice none 0 0, .slice none 0 0, .int .i64 i.now, .int .i64 i.self, .slice i.mo i.mn i.mc, .int .i8 i.cls, .bool i.some, .int .i8 i.got.k, .int .i64 i.got.n, .string i.got.s, .string i.got.u, .slice i.got.ao i.got.l.length i.got.cap, .int .i64 0, .slice none 0 0] 88)) (.cells #[.nilFunc, .nilFunc, .nilFunc, .nilFunc, .nilFunc, .nilFunc, .nilFunc] 89); simp only [World.size_alloc, hub] at this; exact this) (infoPH rfl) rfl (by simp [Value.oneCell']) ?_
        have hq1 := heap_old (heap_new W5 (.cells #[.int .i8 m.ph, .int .i64 m.pid, .int .i64 0, .int .i64 m.dl, .int .i64 0, .int .i8 m.T.k, .int .i64 m.T.n, .string m.T.s, .string m.T.u, .slice m.T.ao m.T.l.length m.T.cap, .int .i8 m.U.k, .int .i64 m.U.n, .string m.U.s, .string m.U.u, .slice m.U.ao m.U.l.length m.U.cap, .int .i8 m.V.k, .int .i64 m.V.n, .string m.V.s, .string m.V.u, .slice m.V.ao m.V.l.length m.V.cap, .slice (some ⟨m.rb, 0, none⟩) 1 1, .int .i8 0, .int .i64 0, .int .i64 0, .slice none 0 0, .slice none 0 0, .slice none 0 0, .int .i64 i.now, .int .i64 i.self, .slice i.mo i.mn i.mc, .int .i8 i.cls, .bool i.some, .int .i8 i.got.k, .int .i64 i.got.n, .string i.got.s, .string i.got.u, .slice i.got.ao i.got.l.length i.got.cap, .int .i64 0, .slice none 0 0] 88)) (.cells #[.nilFunc, .nilFunc, .nilFunc, .nilFunc, .nilFunc, .nilFunc, .nilFunc] 89)
        have hq2 := heap_new (W5.alloc (.cells #[.int .i8 m.ph, .int .i64 m.pid, .int .i64 0, .int .i64 m.dl, .int .i64 0, .int .i8 m.T.k, .int .i64 m.T.n, .string m.T.s, .string m.T.u, .slice m.T.ao m.T.l.length m.T.cap, .int .i8 m.U.k, .int .i64 m.U.n, .string m.U.s, .string m.U.u, .slice m.U.ao m.U.l.length m.U.cap, .int .i8 m.V.k, .int .i64 m.V.n, .string m.V.s, .string m.V.u, .slice m.V.ao m.V.l.length m.V.cap, .slice (some ⟨m.rb, 0, none⟩) 1 1, .int .i8 0, .int .i64 0, .int .i64 0, .slice none 0 0, .slice none 0 0, .slice none 0 0, .int .i64 i.now, .int .i64 i.self, .slice i.mo i.mn i.mc, .int .i8 i.cls, .bool i.some, .int .i8 i.got.k, .int .i64 i.got.n, .string i.got.s, .string i.got.u, .slice i.got.ao i.got.l.length i.got.cap, .int .i64 0, .slice none 0 0] 88)) (.cells #[.nilFunc, .nilFunc, .nilFunc, .nilFunc, .nilFunc, .nilFunc, .nilFunc] 89)
        have hbB := ((Below.refl W5.heap.size W5).alloc (Nat.le_refl _) (.cells #[.int .i8 m.ph, .int .i64 m.pid, .int .i64 0, .int .i64 m.dl, .int .i64 0, .int .i8 m.T.k, .int .i64 m.T.n, .string m.T.s, .string m.T.u, .slice m.T.ao m.T.l.length m.T.cap, .int .i8 m.U.k, .int .i64 m.U.n, .string m.U.s, .string m.U.u, .slice m.U.ao m.U.l.length m.U.cap, .int .i8 m.V.k, .int .i64 m.V.n, .string m.V.s, .string m.V.u, .slice m.V.ao m.V.l.length m.V.cap, .slice (some ⟨m.rb, 0, none⟩) 1 1, .int .i8 0, .int .i64 0, .int .i64 0, .slice none 0 0, .slice none 0 0, .slice none 0 0, .int .i64 i.now, .int .i64 i.self, .slice i.mo i.mn i.mc, .int .i8 i.cls, .bool i.some, .int .i8 i.got.k, .int .i64 i.got.n, .string i.got.s, .string i.got.u, .slice i.got.ao i.got.l.length i.got.cap, .int .i64 0, .slice none 0 0] 88)).alloc (by simp) (.cells #[.nilFunc, .nilFunc, .nilFunc, .nilFunc, .nilFunc, .nilFunc, .nilFunc] 89)
        simp only [World.size_alloc, hub] at hq1 hq2 hbB
        have hcS := chg_setRow ((W5.alloc (.cells #[.int .i8 m.ph, .int .i64 m.pid, .int .i64 0, .int .i64 m.dl, .int .i64 0, .int .i8 m.T.k, .int .i64 m.T.n, .string m.T.s, .string m.T.u, .slice m.T.ao m.T.l.length m.T.cap, .int .i8 m.U.k, .int .i64 m.U.n, .string m.U.s, .string m.U.u, .slice m.U.ao m.U.l.length m.U.cap, .int .i8 m.V.k, .int .i64 m.V.n, .string m.V.s, .string m.V.u, .slice m.V.ao m.V.l.length m.V.cap, .slice (some ⟨m.rb, 0, none⟩) 1 1, .int .i8 0, .int .i64 0, .int .i64 0, .slice none 0 0, .slice none 0 0, .slice none 0 0, .int .i64 i.now, .int .i64 i.self, .slice i.mo i.mn i.mc, .int .i8 i.cls, .bool i.some, .int .i8 i.got.k, .int .i64 i.got.n, .string i.got.s, .string i.got.u, .slice i.got.ao i.got.l.length i.got.cap, .int .i64 0, .slice none 0 0] 88)).alloc (.cells #[.nilFunc, .nilFunc, .nilFunc, .nilFunc, .nilFunc, .nilFunc, .nilFunc] 89)) (ub + 1) #[.func (.func 46) #[.pointer (some ⟨ub, 0, none⟩)] #[], .func (.func 47) #[.pointer (some ⟨ub, 0, none⟩)] #[], .func (.func 48) #[.pointer (some ⟨ub, 0, none⟩)] #[], .func (.func 49) #[.pointer (some ⟨ub, 0, none⟩)] #[], .func (.func 49) #[.pointer (some ⟨ub, 0, none⟩)] #[], .func (.func 50) #[.pointer (some ⟨ub, 0, none⟩)] #[], .func (.func 51) #[.pointer (some ⟨ub, 0, none⟩)] #[]]
        have hbS := bel_setRow hbB (by simp [hub]; omega) (Nat.le_succ ub) #[.func (.func 46) #[.pointer (some ⟨ub, 0, none⟩)] #[], .func (.func 47) #[.pointer (some ⟨ub, 0, none⟩)] #[], .func (.func 48) #[.pointer (some ⟨ub, 0, none⟩)] #[], .func (.func 49) #[.pointer (some ⟨ub, 0, none⟩)] #[], .func (.func 49) #[.pointer (some ⟨ub, 0, none⟩)] #[], .func (.func 50) #[.pointer (some ⟨ub, 0, none⟩)] #[], .func (.func 51) #[.pointer (some ⟨ub, 0, none⟩)] #[]]
        have hlow : w.heap.size + 4 ≤ ub := by
          have := heap_lt H5.out.hE
          omega
        have H7 : Hid (StU w (((W5.alloc (.cells #[.int .i8 m.ph, .int .i64 m.pid, .int .i64 0, .int .i64 m.dl, .int .i64 0, .int .i8 m.T.k, .int .i64 m.T.n, .string m.T.s, .string m.T.u, .slice m.T.ao m.T.l.length m.T.cap, .int .i8 m.U.k, .int .i64 m.U.n, .string m.U.s, .string m.U.u, .slice m.U.ao m.U.l.length m.U.cap, .int .i8 m.V.k, .int .i64 m.V.n, .string m.V.s, .string m.V.u, .slice m.V.ao m.V.l.length m.V.cap, .slice (some ⟨m.rb, 0, none⟩) 1 1, .int .i8 0, .int .i64 0, .int .i64 0, .slice none 0 0, .slice none 0 0, .slice none 0 0, .int .i64 i.now, .int .i64 i.self, .slice i.mo i.mn i.mc, .int .i8 i.cls, .bool i.some, .int .i8 i.got.k, .int .i64 i.got.n, .string i.got.s, .string i.got.u, .slice i.got.ao i.got.l.length i.got.cap, .int .i64 0, .slice none 0 0] 88)).alloc (.cells #[.nilFunc, .nilFunc, .nilFunc, .nilFunc, .nilFunc, .nilFunc, .nilFunc] 89)).setRow (ub + 1) #[.func (.func 46) #[.pointer (some ⟨ub, 0, none⟩)] #[], .func (.func 47) #[.pointer (some ⟨ub, 0, none⟩)] #[], .func (.func 48) #[.pointer (some ⟨ub, 0, none⟩)] #[], .func (.func 49) #[.pointer (some ⟨ub, 0, none⟩)] #[], .func (.func 49) #[.pointer (some ⟨ub, 0, none⟩)] #[], .func (.func 50) #[.pointer (some ⟨ub, 0, none⟩)] #[], .func (.func 51) #[.pointer (some ⟨ub, 0, none⟩)] #[]]) m i ub) := Lib.hid ⟨H5.out.keep (hub.symm ▸ hbS), ⟨hcS.heap hq1 (by omega), rfl, World.ownsRow_nil _ _ _ _⟩, hlow⟩
        have HT7 := Lib.hid (setRow_heap _ (ub + 1) _ #[.func (.func 46) #[.pointer (some ⟨ub, 0, none⟩)] #[], .func (.func 47) #[.pointer (some ⟨ub, 0, none⟩)] #[], .func (.func 48) #[.pointer (some ⟨ub, 0, none⟩)] #[], .func (.func 49) #[.pointer (some ⟨ub, 0, none⟩)] #[], .func (.func 49) #[.pointer (some ⟨ub, 0, none⟩)] #[], .func (.func 50) #[.pointer (some ⟨ub, 0, none⟩)] #[], .func (.func 51) #[.pointer (some ⟨ub, 0, none⟩)] #[]] 89 (0, 0) hq2)
        clear hq1 hq2 hbB hcS hbS hlow hub H5
        generalize ((W5.alloc (.cells #[.int .i8 m.ph, .int .i64 m.pid, .int .i64 0, .int .i64 m.dl, .int .i64 0, .int .i8 m.T.k, .int .i64 m.T.n, .string m.T.s, .string m.T.u, .slice m.T.ao m.T.l.length m.T.cap, .int .i8 m.U.k, .int .i64 m.U.n, .string m.U.s, .string m.U.u, .slice m.U.ao m.U.l.length m.U.cap, .int .i8 m.V.k, .int .i64 m.V.n, .string m.V.s, .string m.V.u, .slice m.V.ao m.V.l.length m.V.cap, .slice (some ⟨m.rb, 0, none⟩) 1 1, .int .i8 0, .int .i64 0, .int .i64 0, .slice none 0 0, .slice none 0 0, .slice none 0 0, .int .i64 i.now, .int .i64 i.self, .slice i.mo i.mn i.mc, .int .i8 i.cls, .bool i.some, .int .i8 i.got.k, .int .i64 i.got.n, .string i.got.s, .string i.got.u, .slice i.got.ao i.got.l.length i.got.cap, .int .i64 0, .slice none 0 0] 88)).alloc (.cells #[.nilFunc, .nilFunc, .nilFunc, .nilFunc, .nilFunc, .nilFunc, .nilFunc] 89)).setRow (ub + 1) #[.func (.func 46) #[.pointer (some ⟨ub, 0, none⟩)] #[], .func (.func 47) #[.pointer (some ⟨ub, 0, none⟩)] #[], .func (.func 48) #[.pointer (some ⟨ub, 0, none⟩)] #[], .func (.func 49) #[.pointer (some ⟨ub, 0, none⟩)] #[], .func (.func 49) #[.pointer (some ⟨ub, 0, none⟩)] #[], .func (.func 50) #[.pointer (some ⟨ub, 0, none⟩)] #[], .func (.func 51) #[.pointer (some ⟨ub, 0, none⟩)] #[]] = W7 at *
        have c8 : W7.cell? ⟨w.heap.size, 8, none⟩ = some (.int .i8 m.ph) := (cells_at H7.out.st.hF 8 _ rfl).1
        have t0 := (cells_at HT7.out 3 _ rfl).1
        rw [HK.out] at c8
        go_wp2_with fail
        refine (told_any (M4 M w) W7 (H7.out.lt4 HX.out.1) (keepCells HX.out.2.1 H7.out.st.hb) ub m i _ [] H7.out.hu (by simp) (H7.out.lv HX.out.2.1) (H7.out.te HX.out.2.2.2.1) (H7.out.te HM.out.hT) (H7.out.te HM.out.hU) (H7.out.te HM.out.hV)).mono ?_
        rintro e W8 ⟨⟨v, rfl⟩, ev8, m8, E8, hu8, hc8, hb8, hR8⟩
        have H8 := Lib.hid (H7.out.fin (L := L) (EA := EA) HM.out hu8 hc8 (H7.out.weak (.inr (.inr (.inr (.inr (.inl ⟨.inl HK.out, hR8⟩)))))))
        clear hu8 hc8 hb8 hR8 H7 HT7 c8 t0
        go_wp2_with (with_reducible refine stop_op (o := ⟨_, .load 37 (.tmp 56), _, _, _, _⟩) ?_)
        refine Lib.hid ?_
        refine wpList_load_mid (op := ⟨_, _, _, _, _, _⟩) rfl 37 (.tmp 56) rfl ub 0 rfl (mcL m8) _ (mid_range (pre := []) (post := innL i ++ [ev8]) (by have := H8.out.hu.hU; unfold unL at this; rw [List.append_assoc] at this; exact this) rfl) Tryz.underlying37 rfl (infoMA rfl) ?_
        go_wp2_with (with_reducible refine stop_op (o := ⟨_, .store 37 (.tmp 58) (.tmp 57), _, _, _, _⟩) ?_)
        refine Lib.hid ?_
        refine wpList_store_mid (op := ⟨none, _, _, _, _, _⟩) rfl 37 (.tmp 58) (.tmp 57) rfl w.heap.size 8 (mcL m8).toArray rfl rfl (fr_there H8.out.hF) (infoMA rfl) (all_oneCell_toArray (mcL_one m8)) ?_
        have hc9 := chg_cells (mcL m8) w.heap.size 8 W8
        have H9 := Lib.hid (H8.out.put hc9 (fr_set m8 H8.out.hF))
        clear hc9 H8
        change Hid (StG M w (W8.setCells w.heap.size 8 (mcL m8).toArray.toList) m c EA i L ub m8 m8 ev8 E8) at H9
        generalize W8.setCells w.heap.size 8 (mcL m8).toArray.toList = W9 at *
        go_upto_region 14 with fail
        have hS : StS w.heap.size ub m8 ev8 W9.drew := ⟨H9.out.hF, H9.out.hu.ev⟩
        have H9 := Lib.hid (H9.out.keep (Below.refl _ _).drew)
        refine region_plan (StS w.heap.size ub m8 ev8) [(0, 0), (1, 0), (2, 0), (3, 0), (4, 0), (5, 1), (6, 0)] (by kernel_rfl) (by kernel_rfl) (by kernel_rfl) hS ?_
        generalize W9.drew = WD at *
        refine plan_take rfl ?_ (fun wS hSw => exec_row 39 (.tmp 2) rfl w.heap.size rfl (frL m8).toArray 39 (0, 0) _ hSw.1 Tryz.underlying39 rfl (infoFR rfl)) ?_
        focus (rfl)
        (try simp only [Act.put, List.setIfInBounds_toArray, List.set_cons_zero, List.set_cons_succ])
        iterate 4 (first | (refine plan_skip rfl ?_ ?_; (focus (rfl)); (try simp only [Act.put, List.setIfInBounds_toArray, List.set_cons_zero, List.set_cons_succ])) | (refine plan_take (v := ?_) rfl ?_ (fun w hSw => ?_) ?_; rotate_left; (focus (rfl)); (focus (unfold StS at hSw; (go_simp <;> with_reducible rfl))); (try simp only [Act.put, List.setIfInBounds_toArray, List.set_cons_zero, List.set_cons_succ])))
        have hcF := chg_setRow WD (w.heap.size + 2) (frL m8).toArray
        have hSF : StS w.heap.size ub m8 ev8 (WD.setRow (w.heap.size + 2) (frL m8).toArray) := ⟨hcF.heap hS.1 (by omega), hcF.cell hS.2 (by have := H9.out.hub; show ¬ ub = w.heap.size + 2; omega)⟩
        have HQ := Lib.hid (setRow_heap WD (w.heap.size + 2) _ (frL m8).toArray 39 (0, 0) H9.out.hZ)
        have HP : Hid (StP M w m c EA i L (.returned (.tuple #[.agg (frL m8).toArray, ev8])) (WD.setRow (w.heap.size + 2) (frL m8).toArray)) := Lib.hid (H9.out.done hcF)
        refine plan_run rfl ?_ (fun K hK => ?_)
        focus (rfl)
        refine wp_store_row 39 (.tmp 4) (.tmp 59) rfl (w.heap.size + 2) (frL m8).toArray rfl rfl 39 frZ.toArray H9.out.hZ (infoFR rfl) rfl (all_oneCell_toArray (frL_one m8)) ?_
        refine hK.out _ _ (hSF) ?_
        clear hK K
        (try simp only [Act.put, List.setIfInBounds_toArray, List.set_cons_zero, List.set_cons_succ])
        iterate 1 (first | (refine plan_skip rfl ?_ ?_; (focus (rfl)); (try simp only [Act.put, List.setIfInBounds_toArray, List.set_cons_zero, List.set_cons_succ])) | (refine plan_take (v := ?_) rfl ?_ (fun w hSw => ?_) ?_; rotate_left; (focus (rfl)); (focus (unfold StS at hSw; (go_simp <;> with_reducible rfl))); (try simp only [Act.put, List.setIfInBounds_toArray, List.set_cons_zero, List.set_cons_succ])))
        refine plan_done ?_
        clear hS hcF hSF H9
        generalize WD.setRow (w.heap.size + 2) (frL m8).toArray = W10 at *
        go_wp2_with fail
        exact ret_row HQ.out rfl Tryz.underlying39 rfl (infoFR rfl) rfl rfl HP.out
    · have HK := Lib.hid hk
      rw [hk] at c8
      clear hk
      cases hs : i.some
      · have HSO := Lib.hid hs
        rw [hs] at i4
        clear hs
        go_wp2_with (with_reducible refine stop_op (o := ⟨_, .load 39 (.tmp 2), _, _, _, _⟩) ?_)
        refine Lib.hid ?_
        refine wpList_load_row (o := ⟨_, _, _, _, _, _⟩) rfl 39 (.tmp 2) rfl w.heap.size rfl 39 (frL m).toArray (0, 0) _ H5.out.hF Tryz.underlying39 rfl (infoFR rfl) ?_
        go_wp2_with (with_reducible refine stop_op (o := ⟨_, .store 39 (.tmp 4) (.tmp 26), _, _, _, _⟩) ?_)
        refine Lib.hid ?_
        refine wpList_store_row (o := ⟨none, _, _, _, _, _⟩) rfl 39 (.tmp 4) (.tmp 26) rfl (w.heap.size + 2) (frL m).toArray rfl rfl 39 frZ.toArray H5.out.hZ (infoFR rfl) rfl (all_oneCell_toArray (frL_one m)) ?_
        have hc := chg_setRow W5 (w.heap.size + 2) (frL m).toArray
        have hbf := H5.out.hb.trans (hc.below H5.out.hb.size (fun k e => by have e : k = w.heap.size + 2 := e; omega))
        have HQ := Lib.hid (setRow_heap W5 (w.heap.size + 2) _ (frL m).toArray 39 (0, 0) H5.out.hZ)
        have HP : Hid (StP M w m c EA i L (.returned (.tuple #[.agg (frL m).toArray, .slice (some ⟨w.heap.size + 3, 0, none⟩) 1 1])) (W5.setRow (w.heap.size + 2) (frL m).toArray)) := Lib.hid ⟨m, _, [idleE], rfl, hbf, EfAt.idle (hc.heap H5.out.hE (by omega)) (by omega), HM.out.keep hbf, .inl ⟨.inr ⟨by have := HK.out; omega, HSO.out⟩, rfl, rfl⟩⟩
        clear hc hbf H5
        generalize W5.setRow (w.heap.size + 2) (frL m).toArray = W9 at *
        go_wp2_with fail
        exact ret_row HQ.out rfl Tryz.underlying39 rfl (infoFR rfl) rfl rfl HP.out
      · rw [hs] at i4
        clear hs
        go_wp2_with (with_reducible refine stop_op (o := ⟨_, .load 37 (.tmp 28), _, _, _, _⟩) ?_)
        refine Lib.hid ?_
        refine wpList_load_mid (op := ⟨_, _, _, _, _, _⟩) rfl 37 (.tmp 28) rfl w.heap.size 8 rfl [.int .i8 m.ph, .int .i64 m.pid, .int .i64 0, .int .i64 m.dl, .int .i64 0, .int .i8 m.T.k, .int .i64 m.T.n, .string m.T.s, .string m.T.u, .slice m.T.ao m.T.l.length m.T.cap, .int .i8 m.U.k, .int .i64 m.U.n, .string m.U.s, .string m.U.u, .slice m.U.ao m.U.l.length m.U.cap, .int .i8 m.V.k, .int .i64 m.V.n, .string m.V.s, .string m.V.u, .slice m.V.ao m.V.l.length m.V.cap, .slice (some ⟨m.rb, 0, none⟩) 1 1, .int .i8 0, .int .i64 0, .int .i64 0, .slice none 0 0, .slice none 0 0, .slice none 0 0] _ (fr_range H5.out.hF) Tryz.underlying37 rfl (infoMA rfl) ?_
        go_wp2_with (with_reducible refine stop_op (o := ⟨_, .load 43 (.tmp 3), _, _, _, _⟩) ?_)
        refine Lib.hid ?_
        refine wpList_load_row (o := ⟨_, _, _, _, _, _⟩) rfl 43 (.tmp 3) rfl (w.heap.size + 1) rfl 43 #[.int .i64 i.now, .int .i64 i.self, .slice i.mo i.mn i.mc, .int .i8 i.cls, .bool i.some, .int .i8 i.got.k, .int .i64 i.got.n, .string i.got.s, .string i.got.u, .slice i.got.ao i.got.l.length i.got.cap, .int .i64 0] (0, 0) _ H5.out.hI Tryz.underlying43 rfl (infoIN rfl) ?_
        go_wp2_with (with_reducible refine stop_op (o := ⟨_, .store 89 (.tmp 8) (.tmp 47), _, _, _, _⟩) ?_)
        refine Lib.hid ?_
        generalize hub : W5.heap.size = ub at *
        refine wpList_store_row (o := ⟨none, _, _, _, _, _⟩) rfl 89 (.tmp 8) (.tmp 47) rfl (ub + 1) #[.func (.func 46) #[.pointer (some ⟨ub, 0, none⟩)] #[], .func (.func 47) #[.pointer (some ⟨ub, 0, none⟩)] #[], .func (.func 48) #[.pointer (some ⟨ub, 0, none⟩)] #[], .func (.func 49) #[.pointer (some ⟨ub, 0, none⟩)] #[], .func (.func 49) #[.pointer (some ⟨ub, 0, none⟩)] #[], .func (.func 50) #[.pointer (some ⟨ub, 0, none⟩)] #[], .func (.func 51) #[.pointer (some ⟨ub, 0, none⟩)] #[]] rfl rfl 89 #[.nilFunc, .nilFunc, .nilFunc, .nilFunc, .nilFunc, .nilFunc, .nilFunc] (by have := heap_new (W5.alloc (.cells #[.int .i8 m.ph, .int .i64 m.pid, .int .i64 0, .int .i64 m.dl, .int .i64 0, .int .i8 m.T.k, .int .i64 m.T.n, .string m.T.s, .string m.T.u, .slice m.T.ao m.T.l.length m.T.cap, .int .i8 m.U.k, .int .i64 m.U.n, .string m.U.s, .string m.U.u, .slice m.U.ao m.U.l.length m.U.cap, .int .i8 m.V.k, .int .i64 m.V.n, .string m.V.s, .string m.V.u, .slice m.V.ao m.V.l.length m.V.cap, .slice (some ⟨m.rb, 0, none⟩) 1 1, .int .i8 0, .int .i64 0, .int .i64 0, .slice none 0 0, .slice none 0 0, .slice none 0 0, .int .i64 i.now, .int .i64 i.self, .slice i.mo i.mn i.mc, .int .i8 i.cls, .bool i.some, .int .i8 i.got.k, .int .i64 i.got.n, .string i.got.s, .string i.got.u, .slice i.got.ao i.got.l.length i.got.cap, .int .i64 0, .slice none 0 0] 88)) (.cells #[.nilFunc, .nilFunc, .nilFunc, .nilFunc, .nilFunc, .nilFunc, .nilFunc] 89); simp only [World.size_alloc, hub] at this; exact this) (infoPH rfl) rfl (by simp [Value.oneCell']) ?_
        have hq1 := heap_old (heap_new W5 (.cells #[.int .i8 m.ph, .int .i64 m.pid, .int .i64 0, .int .i64 m.dl, .int .i64 0, .int .i8 m.T.k, .int .i64 m.T.n, .string m.T.s, .string m.T.u, .slice m.T.ao m.T.l.length m.T.cap, .int .i8 m.U.k, .int .i64 m.U.n, .string m.U.s, .string m.U.u, .slice m.U.ao m.U.l.length m.U.cap, .int .i8 m.V.k, .int .i64 m.V.n, .string m.V.s, .string m.V.u, .slice m.V.ao m.V.l.length m.V.cap, .slice (some ⟨m.rb, 0, none⟩) 1 1, .int .i8 0, .int .i64 0, .int .i64 0, .slice none 0 0, .slice none 0 0, .slice none 0 0, .int .i64 i.now, .int .i64 i.self, .slice i.mo i.mn i.mc, .int .i8 i.cls, .bool i.some, .int .i8 i.got.k, .int .i64 i.got.n, .string i.got.s, .string i.got.u, .slice i.got.ao i.got.l.length i.got.cap, .int .i64 0, .slice none 0 0] 88)) (.cells #[.nilFunc, .nilFunc, .nilFunc, .nilFunc, .nilFunc, .nilFunc, .nilFunc] 89)
        have hq2 := heap_new (W5.alloc (.cells #[.int .i8 m.ph, .int .i64 m.pid, .int .i64 0, .int .i64 m.dl, .int .i64 0, .int .i8 m.T.k, .int .i64 m.T.n, .string m.T.s, .string m.T.u, .slice m.T.ao m.T.l.length m.T.cap, .int .i8 m.U.k, .int .i64 m.U.n, .string m.U.s, .string m.U.u, .slice m.U.ao m.U.l.length m.U.cap, .int .i8 m.V.k, .int .i64 m.V.n, .string m.V.s, .string m.V.u, .slice m.V.ao m.V.l.length m.V.cap, .slice (some ⟨m.rb, 0, none⟩) 1 1, .int .i8 0, .int .i64 0, .int .i64 0, .slice none 0 0, .slice none 0 0, .slice none 0 0, .int .i64 i.now, .int .i64 i.self, .slice i.mo i.mn i.mc, .int .i8 i.cls, .bool i.some, .int .i8 i.got.k, .int .i64 i.got.n, .string i.got.s, .string i.got.u, .slice i.got.ao i.got.l.length i.got.cap, .int .i64 0, .slice none 0 0] 88)) (.cells #[.nilFunc, .nilFunc, .nilFunc, .nilFunc, .nilFunc, .nilFunc, .nilFunc] 89)
        have hbB := ((Below.refl W5.heap.size W5).alloc (Nat.le_refl _) (.cells #[.int .i8 m.ph, .int .i64 m.pid, .int .i64 0, .int .i64 m.dl, .int .i64 0, .int .i8 m.T.k, .int .i64 m.T.n, .string m.T.s, .string m.T.u, .slice m.T.ao m.T.l.length m.T.cap, .int .i8 m.U.k, .int .i64 m.U.n, .string m.U.s, .string m.U.u, .slice m.U.ao m.U.l.length m.U.cap, .int .i8 m.V.k, .int .i64 m.V.n, .string m.V.s, .string m.V.u, .slice m.V.ao m.V.l.length m.V.cap, .slice (some ⟨m.rb, 0, none⟩) 1 1, .int .i8 0, .int .i64 0, .int .i64 0, .slice none 0 0, .slice none 0 0, .slice none 0 0, .int .i64 i.now, .int .i64 i.self, .slice i.mo i.mn i.mc, .int .i8 i.cls, .bool i.some, .int .i8 i.got.k, .int .i64 i.got.n, .string i.got.s, .string i.got.u, .slice i.got.ao i.got.l.length i.got.cap, .int .i64 0, .slice none 0 0] 88)).alloc (by simp) (.cells #[.nilFunc, .nilFunc, .nilFunc, .nilFunc, .nilFunc, .nilFunc, .nilFunc] 89)
        simp only [World.size_alloc, hub] at hq1 hq2 hbB
        have hcS := chg_setRow ((W5.alloc (.cells #[.int .i8 m.ph, .int .i64 m.pid, .int .i64 0, .int .i64 m.dl, .int .i64 0, .int .i8 m.T.k, .int .i64 m.T.n, .string m.T.s, .string m.T.u, .slice m.T.ao m.T.l.length m.T.cap, .int .i8 m.U.k, .int .i64 m.U.n, .string m.U.s, .string m.U.u, .slice m.U.ao m.U.l.length m.U.cap, .int .i8 m.V.k, .int .i64 m.V.n, .string m.V.s, .string m.V.u, .slice m.V.ao m.V.l.length m.V.cap, .slice (some ⟨m.rb, 0, none⟩) 1 1, .int .i8 0, .int .i64 0, .int .i64 0, .slice none 0 0, .slice none 0 0, .slice none 0 0, .int .i64 i.now, .int .i64 i.self, .slice i.mo i.mn i.mc, .int .i8 i.cls, .bool i.some, .int .i8 i.got.k, .int .i64 i.got.n, .string i.got.s, .string i.got.u, .slice i.got.ao i.got.l.length i.got.cap, .int .i64 0, .slice none 0 0] 88)).alloc (.cells #[.nilFunc, .nilFunc, .nilFunc, .nilFunc, .nilFunc, .nilFunc, .nilFunc] 89)) (ub + 1) #[.func (.func 46) #[.pointer (some ⟨ub, 0, none⟩)] #[], .func (.func 47) #[.pointer (some ⟨ub, 0, none⟩)] #[], .func (.func 48) #[.pointer (some ⟨ub, 0, none⟩)] #[], .func (.func 49) #[.pointer (some ⟨ub, 0, none⟩)] #[], .func (.func 49) #[.pointer (some ⟨ub, 0, none⟩)] #[], .func (.func 50) #[.pointer (some ⟨ub, 0, none⟩)] #[], .func (.func 51) #[.pointer (some ⟨ub, 0, none⟩)] #[]]
        have hbS := bel_setRow hbB (by simp [hub]; omega) (Nat.le_succ ub) #[.func (.func 46) #[.pointer (some ⟨ub, 0, none⟩)] #[], .func (.func 47) #[.pointer (some ⟨ub, 0, none⟩)] #[], .func (.func 48) #[.pointer (some ⟨ub, 0, none⟩)] #[], .func (.func 49) #[.pointer (some ⟨ub, 0, none⟩)] #[], .func (.func 49) #[.pointer (some ⟨ub, 0, none⟩)] #[], .func (.func 50) #[.pointer (some ⟨ub, 0, none⟩)] #[], .func (.func 51) #[.pointer (some ⟨ub, 0, none⟩)] #[]]
        have hlow : w.heap.size + 4 ≤ ub := by
          have := heap_lt H5.out.hE
          omega
        have H7 : Hid (StU w (((W5.alloc (.cells #[.int .i8 m.ph, .int .i64 m.pid, .int .i64 0, .int .i64 m.dl, .int .i64 0, .int .i8 m.T.k, .int .i64 m.T.n, .string m.T.s, .string m.T.u, .slice m.T.ao m.T.l.length m.T.cap, .int .i8 m.U.k, .int .i64 m.U.n, .string m.U.s, .string m.U.u, .slice m.U.ao m.U.l.length m.U.cap, .int .i8 m.V.k, .int .i64 m.V.n, .string m.V.s, .string m.V.u, .slice m.V.ao m.V.l.length m.V.cap, .slice (some ⟨m.rb, 0, none⟩) 1 1, .int .i8 0, .int .i64 0, .int .i64 0, .slice none 0 0, .slice none 0 0, .slice none 0 0, .int .i64 i.now, .int .i64 i.self, .slice i.mo i.mn i.mc, .int .i8 i.cls, .bool i.some, .int .i8 i.got.k, .int .i64 i.got.n, .string i.got.s, .string i.got.u, .slice i.got.ao i.got.l.length i.got.cap, .int .i64 0, .slice none 0 0] 88)).alloc (.cells #[.nilFunc, .nilFunc, .nilFunc, .nilFunc, .nilFunc, .nilFunc, .nilFunc] 89)).setRow (ub + 1) #[.func (.func 46) #[.pointer (some ⟨ub, 0, none⟩)] #[], .func (.func 47) #[.pointer (some ⟨ub, 0, none⟩)] #[], .func (.func 48) #[.pointer (some ⟨ub, 0, none⟩)] #[], .func (.func 49) #[.pointer (some ⟨ub, 0, none⟩)] #[], .func (.func 49) #[.pointer (some ⟨ub, 0, none⟩)] #[], .func (.func 50) #[.pointer (some ⟨ub, 0, none⟩)] #[], .func (.func 51) #[.pointer (some ⟨ub, 0, none⟩)] #[]]) m i ub) := Lib.hid ⟨H5.out.keep (hub.symm ▸ hbS), ⟨hcS.heap hq1 (by omega), rfl, World.ownsRow_nil _ _ _ _⟩, hlow⟩
        have HT7 := Lib.hid (setRow_heap _ (ub + 1) _ #[.func (.func 46) #[.pointer (some ⟨ub, 0, none⟩)] #[], .func (.func 47) #[.pointer (some ⟨ub, 0, none⟩)] #[], .func (.func 48) #[.pointer (some ⟨ub, 0, none⟩)] #[], .func (.func 49) #[.pointer (some ⟨ub, 0, none⟩)] #[], .func (.func 49) #[.pointer (some ⟨ub, 0, none⟩)] #[], .func (.func 50) #[.pointer (some ⟨ub, 0, none⟩)] #[], .func (.func 51) #[.pointer (some ⟨ub, 0, none⟩)] #[]] 89 (0, 0) hq2)
        clear hq1 hq2 hbB hcS hbS hlow hub H5
        generalize ((W5.alloc (.cells #[.int .i8 m.ph, .int .i64 m.pid, .int .i64 0, .int .i64 m.dl, .int .i64 0, .int .i8 m.T.k, .int .i64 m.T.n, .string m.T.s, .string m.T.u, .slice m.T.ao m.T.l.length m.T.cap, .int .i8 m.U.k, .int .i64 m.U.n, .string m.U.s, .string m.U.u, .slice m.U.ao m.U.l.length m.U.cap, .int .i8 m.V.k, .int .i64 m.V.n, .string m.V.s, .string m.V.u, .slice m.V.ao m.V.l.length m.V.cap, .slice (some ⟨m.rb, 0, none⟩) 1 1, .int .i8 0, .int .i64 0, .int .i64 0, .slice none 0 0, .slice none 0 0, .slice none 0 0, .int .i64 i.now, .int .i64 i.self, .slice i.mo i.mn i.mc, .int .i8 i.cls, .bool i.some, .int .i8 i.got.k, .int .i64 i.got.n, .string i.got.s, .string i.got.u, .slice i.got.ao i.got.l.length i.got.cap, .int .i64 0, .slice none 0 0] 88)).alloc (.cells #[.nilFunc, .nilFunc, .nilFunc, .nilFunc, .nilFunc, .nilFunc, .nilFunc] 89)).setRow (ub + 1) #[.func (.func 46) #[.pointer (some ⟨ub, 0, none⟩)] #[], .func (.func 47) #[.pointer (some ⟨ub, 0, none⟩)] #[], .func (.func 48) #[.pointer (some ⟨ub, 0, none⟩)] #[], .func (.func 49) #[.pointer (some ⟨ub, 0, none⟩)] #[], .func (.func 49) #[.pointer (some ⟨ub, 0, none⟩)] #[], .func (.func 50) #[.pointer (some ⟨ub, 0, none⟩)] #[], .func (.func 51) #[.pointer (some ⟨ub, 0, none⟩)] #[]] = W7 at *
        have c8 : W7.cell? ⟨w.heap.size, 8, none⟩ = some (.int .i8 m.ph) := (cells_at H7.out.st.hF 8 _ rfl).1
        have t0 := (cells_at HT7.out 4 _ rfl).1
        rw [HK.out] at c8
        go_wp2_with fail
        refine (told_any (M4 M w) W7 (H7.out.lt4 HX.out.1) (keepCells HX.out.2.1 H7.out.st.hb) ub m i _ [] H7.out.hu (by simp) (H7.out.lv HX.out.2.1) (H7.out.te HX.out.2.2.2.1) (H7.out.te HM.out.hT) (H7.out.te HM.out.hU) (H7.out.te HM.out.hV)).mono ?_
        rintro e W8 ⟨⟨v, rfl⟩, ev8, m8, E8, hu8, hc8, hb8, hR8⟩
        have H8 := Lib.hid (H7.out.fin (L := L) (EA := EA) HM.out hu8 hc8 (H7.out.weak (.inr (.inr (.inr (.inr (.inl ⟨.inr HK.out, hR8⟩)))))))
        clear hu8 hc8 hb8 hR8 H7 HT7 c8 t0
        go_wp2_with (with_reducible refine stop_op (o := ⟨_, .load 37 (.tmp 56), _, _, _, _⟩) ?_)
        refine Lib.hid ?_
        refine wpList_load_mid (op := ⟨_, _, _, _, _, _⟩) rfl 37 (.tmp 56) rfl ub 0 rfl (mcL m8) _ (mid_range (pre := []) (post := innL i ++ [ev8]) (by have := H8.out.hu.hU; unfold unL at this; rw [List.append_assoc] at this; exact this) rfl) Tryz.underlying37 rfl (infoMA rfl) ?_
        go_wp2_with (with_reducible refine stop_op (o := ⟨_, .store 37 (.tmp 58) (.tmp 57), _, _, _, _⟩) ?_)
        refine Lib.hid ?_
        refine wpList_store_mid (op := ⟨none, _, _, _, _, _⟩) rfl 37 (.tmp 58) (.tmp 57) rfl w.heap.size 8 (mcL m8).toArray rfl rfl (fr_there H8.out.hF) (infoMA rfl) (all_oneCell_toArray (mcL_one m8)) ?_
        have hc9 := chg_cells (mcL m8) w.heap.size 8 W8
        have H9 := Lib.hid (H8.out.put hc9 (fr_set m8 H8.out.hF))
        clear hc9 H8
        change Hid (StG M w (W8.setCells w.heap.size 8 (mcL m8).toArray.toList) m c EA i L ub m8 m8 ev8 E8) at H9
        generalize W8.setCells w.heap.size 8 (mcL m8).toArray.toList = W9 at *
        go_upto_region 14 with fail
        have hS : StS w.heap.size ub m8 ev8 W9.drew := ⟨H9.out.hF, H9.out.hu.ev⟩
        have H9 := Lib.hid (H9.out.keep (Below.refl _ _).drew)
        refine region_plan (StS w.heap.size ub m8 ev8) [(0, 0), (1, 0), (2, 0), (3, 0), (4, 0), (5, 1), (6, 0)] (by kernel_rfl) (by kernel_rfl) (by kernel_rfl) hS ?_
        generalize W9.drew = WD at *
        refine plan_take rfl ?_ (fun wS hSw => exec_row 39 (.tmp 2) rfl w.heap.size rfl (frL m8).toArray 39 (0, 0) _ hSw.1 Tryz.underlying39 rfl (infoFR rfl)) ?_
        focus (rfl)
        (try simp only [Act.put, List.setIfInBounds_toArray, List.set_cons_zero, List.set_cons_succ])
        iterate 4 (first | (refine plan_skip rfl ?_ ?_; (focus (rfl)); (try simp only [Act.put, List.setIfInBounds_toArray, List.set_cons_zero, List.set_cons_succ])) | (refine plan_take (v := ?_) rfl ?_ (fun w hSw => ?_) ?_; rotate_left; (focus (rfl)); (focus (unfold StS at hSw; (go_simp <;> with_reducible rfl))); (try simp only [Act.put, List.setIfInBounds_toArray, List.set_cons_zero, List.set_cons_succ])))
        have hcF := chg_setRow WD (w.heap.size + 2) (frL m8).toArray
        have hSF : StS w.heap.size ub m8 ev8 (WD.setRow (w.heap.size + 2) (frL m8).toArray) := ⟨hcF.heap hS.1 (by omega), hcF.cell hS.2 (by have := H9.out.hub; show ¬ ub = w.heap.size + 2; omega)⟩
        have HQ := Lib.hid (setRow_heap WD (w.heap.size + 2) _ (frL m8).toArray 39 (0, 0) H9.out.hZ)
        have HP : Hid (StP M w m c EA i L (.returned (.tuple #[.agg (frL m8).toArray, ev8])) (WD.setRow (w.heap.size + 2) (frL m8).toArray)) := Lib.hid (H9.out.done hcF)
        refine plan_run rfl ?_ (fun K hK => ?_)
        focus (rfl)
        refine wp_store_row 39 (.tmp 4) (.tmp 59) rfl (w.heap.size + 2) (frL m8).toArray rfl rfl 39 frZ.toArray H9.out.hZ (infoFR rfl) rfl (all_oneCell_toArray (frL_one m8)) ?_
        refine hK.out _ _ (hSF) ?_
        clear hK K
        (try simp only [Act.put, List.setIfInBounds_toArray, List.set_cons_zero, List.set_cons_succ])
        iterate 1 (first | (refine plan_skip rfl ?_ ?_; (focus (rfl)); (try simp only [Act.put, List.setIfInBounds_toArray, List.set_cons_zero, List.set_cons_succ])) | (refine plan_take (v := ?_) rfl ?_ (fun w hSw => ?_) ?_; rotate_left; (focus (rfl)); (focus (unfold StS at hSw; (go_simp <;> with_reducible rfl))); (try simp only [Act.put, List.setIfInBounds_toArray, List.set_cons_zero, List.set_cons_succ])))
        refine plan_done ?_
        clear hS hcF hSF H9
        generalize WD.setRow (w.heap.size + 2) (frL m8).toArray = W10 at *
        go_wp2_with fail
        exact ret_row HQ.out rfl Tryz.underlying39 rfl (infoFR rfl) rfl rfl HP.out
    · have HK := Lib.hid hk
      rw [hk] at c8
      clear hk
      go_wp2_with (with_reducible refine stop_op (o := ⟨_, .load 37 (.tmp 28), _, _, _, _⟩) ?_)
      refine Lib.hid ?_
      refine wpList_load_mid (op := ⟨_, _, _, _, _, _⟩) rfl 37 (.tmp 28) rfl w.heap.size 8 rfl [.int .i8 m.ph, .int .i64 m.pid, .int .i64 0, .int .i64 m.dl, .int .i64 0, .int .i8 m.T.k, .int .i64 m.T.n, .string m.T.s, .string m.T.u, .slice m.T.ao m.T.l.length m.T.cap, .int .i8 m.U.k, .int .i64 m.U.n, .string m.U.s, .string m.U.u, .slice m.U.ao m.U.l.length m.U.cap, .int .i8 m.V.k, .int .i64 m.V.n, .string m.V.s, .string m.V.u, .slice m.V.ao m.V.l.length m.V.cap, .slice (some ⟨m.rb, 0, none⟩) 1 1, .int .i8 0, .int .i64 0, .int .i64 0, .slice none 0 0, .slice none 0 0, .slice none 0 0] _ (fr_range H5.out.hF) Tryz.underlying37 rfl (infoMA rfl) ?_
      go_wp2_with (with_reducible refine stop_op (o := ⟨_, .load 43 (.tmp 3), _, _, _, _⟩) ?_)
      refine Lib.hid ?_
      refine wpList_load_row (o := ⟨_, _, _, _, _, _⟩) rfl 43 (.tmp 3) rfl (w.heap.size + 1) rfl 43 #[.int .i64 i.now, .int .i64 i.self, .slice i.mo i.mn i.mc, .int .i8 i.cls, .bool i.some, .int .i8 i.got.k, .int .i64 i.got.n, .string i.got.s, .string i.got.u, .slice i.got.ao i.got.l.length i.got.cap, .int .i64 0] (0, 0) _ H5.out.hI Tryz.underlying43 rfl (infoIN rfl) ?_
      go_wp2_with (with_reducible refine stop_op (o := ⟨_, .store 89 (.tmp 8) (.tmp 47), _, _, _, _⟩) ?_)
      refine Lib.hid ?_
      generalize hub : W5.heap.size = ub at *
      refine wpList_store_row (o := ⟨none, _, _, _, _, _⟩) rfl 89 (.tmp 8) (.tmp 47) rfl (ub + 1) #[.func (.func 46) #[.pointer (some ⟨ub, 0, none⟩)] #[], .func (.func 47) #[.pointer (some ⟨ub, 0, none⟩)] #[], .func (.func 48) #[.pointer (some ⟨ub, 0, none⟩)] #[], .func (.func 49) #[.pointer (some ⟨ub, 0, none⟩)] #[], .func (.func 49) #[.pointer (some ⟨ub, 0, none⟩)] #[], .func (.func 50) #[.pointer (some ⟨ub, 0, none⟩)] #[], .func (.func 51) #[.pointer (some ⟨ub, 0, none⟩)] #[]] rfl rfl 89 #[.nilFunc, .nilFunc, .nilFunc, .nilFunc, .nilFunc, .nilFunc, .nilFunc] (by have := heap_new (W5.alloc (.cells #[.int .i8 m.ph, .int .i64 m.pid, .int .i64 0, .int .i64 m.dl, .int .i64 0, .int .i8 m.T.k, .int .i64 m.T.n, .string m.T.s, .string m.T.u, .slice m.T.ao m.T.l.length m.T.cap, .int .i8 m.U.k, .int .i64 m.U.n, .string m.U.s, .string m.U.u, .slice m.U.ao m.U.l.length m.U.cap, .int .i8 m.V.k, .int .i64 m.V.n, .string m.V.s, .string m.V.u, .slice m.V.ao m.V.l.length m.V.cap, .slice (some ⟨m.rb, 0, none⟩) 1 1, .int .i8 0, .int .i64 0, .int .i64 0, .slice none 0 0, .slice none 0 0, .slice none 0 0, .int .i64 i.now, .int .i64 i.self, .slice i.mo i.mn i.mc, .int .i8 i.cls, .bool i.some, .int .i8 i.got.k, .int .i64 i.got.n, .string i.got.s, .string i.got.u, .slice i.got.ao i.got.l.length i.got.cap, .int .i64 0, .slice none 0 0] 88)) (.cells #[.nilFunc, .nilFunc, .nilFunc, .nilFunc, .nilFunc, .nilFunc, .nilFunc] 89); simp only [World.size_alloc, hub] at this; exact this) (infoPH rfl) rfl (by simp [Value.oneCell']) ?_
      have hq1 := heap_old (heap_new W5 (.cells #[.int .i8 m.ph, .int .i64 m.pid, .int .i64 0, .int .i64 m.dl, .int .i64 0, .int .i8 m.T.k, .int .i64 m.T.n, .string m.T.s, .string m.T.u, .slice m.T.ao m.T.l.length m.T.cap, .int .i8 m.U.k, .int .i64 m.U.n, .string m.U.s, .string m.U.u, .slice m.U.ao m.U.l.length m.U.cap, .int .i8 m.V.k, .int .i64 m.V.n, .string m.V.s, .string m.V.u, .slice m.V.ao m.V.l.length m.V.cap, .slice (some ⟨m.rb, 0, none⟩) 1 1, .int .i8 0, .int .i64 0, .int .i64 0, .slice none 0 0, .slice none 0 0, .slice none 0 0, .int .i64 i.now, .int .i64 i.self, .slice i.mo i.mn i.mc, .int .i8 i.cls, .bool i.some, .int .i8 i.got.k, .int .i64 i.got.n, .string i.got.s, .string i.got.u, .slice i.got.ao i.got.l.length i.got.cap, .int .i64 0, .slice none 0 0] 88)) (.cells #[.nilFunc, .nilFunc, .nilFunc, .nilFunc, .nilFunc, .nilFunc, .nilFunc] 89)
      have hq2 := heap_new (W5.alloc (.cells #[.int .i8 m.ph, .int .i64 m.pid, .int .i64 0, .int .i64 m.dl, .int .i64 0, .int .i8 m.T.k, .int .i64 m.T.n, .string m.T.s, .string m.T.u, .slice m.T.ao m.T.l.length m.T.cap, .int .i8 m.U.k, .int .i64 m.U.n, .string m.U.s, .string m.U.u, .slice m.U.ao m.U.l.length m.U.cap, .int .i8 m.V.k, .int .i64 m.V.n, .string m.V.s, .string m.V.u, .slice m.V.ao m.V.l.length m.V.cap, .slice (some ⟨m.rb, 0, none⟩) 1 1, .int .i8 0, .int .i64 0, .int .i64 0, .slice none 0 0, .slice none 0 0, .slice none 0 0, .int .i64 i.now, .int .i64 i.self, .slice i.mo i.mn i.mc, .int .i8 i.cls, .bool i.some, .int .i8 i.got.k, .int .i64 i.got.n, .string i.got.s, .string i.got.u, .slice i.got.ao i.got.l.length i.got.cap, .int .i64 0, .slice none 0 0] 88)) (.cells #[.nilFunc, .nilFunc, .nilFunc, .nilFunc, .nilFunc, .nilFunc, .nilFunc] 89)
      have hbB := ((Below.refl W5.heap.size W5).alloc (Nat.le_refl _) (.cells #[.int .i8 m.ph, .int .i64 m.pid, .int .i64 0, .int .i64 m.dl, .int .i64 0, .int .i8 m.T.k, .int .i64 m.T.n, .string m.T.s, .string m.T.u, .slice m.T.ao m.T.l.length m.T.cap, .int .i8 m.U.k, .int .i64 m.U.n, .string m.U.s, .string m.U.u, .slice m.U.ao m.U.l.length m.U.cap, .int .i8 m.V.k, .int .i64 m.V.n, .string m.V.s, .string m.V.u, .slice m.V.ao m.V.l.length m.V.cap, .slice (some ⟨m.rb, 0, none⟩) 1 1, .int .i8 0, .int .i64 0, .int .i64 0, .slice none 0 0, .slice none 0 0, .slice none 0 0, .int .i64 i.now, .int .i64 i.self, .slice i.mo i.mn i.mc, .int .i8 i.cls, .bool i.some, .int .i8 i.got.k, .int .i64 i.got.n, .string i.got.s, .string i.got.u, .slice i.got.ao i.got.l.length i.got.cap, .int .i64 0, .slice none 0 0] 88)).alloc (by simp) (.cells #[.nilFunc, .nilFunc, .nilFunc, .nilFunc, .nilFunc, .nilFunc, .nilFunc] 89)
      simp only [World.size_alloc, hub] at hq1 hq2 hbB
      have hcS := chg_setRow ((W5.alloc (.cells #[.int .i8 m.ph, .int .i64 m.pid, .int .i64 0, .int .i64 m.dl, .int .i64 0, .int .i8 m.T.k, .int .i64 m.T.n, .string m.T.s, .string m.T.u, .slice m.T.ao m.T.l.length m.T.cap, .int .i8 m.U.k, .int .i64 m.U.n, .string m.U.s, .string m.U.u, .slice m.U.ao m.U.l.length m.U.cap, .int .i8 m.V.k, .int .i64 m.V.n, .string m.V.s, .string m.V.u, .slice m.V.ao m.V.l.length m.V.cap, .slice (some ⟨m.rb, 0, none⟩) 1 1, .int .i8 0, .int .i64 0, .int .i64 0, .slice none 0 0, .slice none 0 0, .slice none 0 0, .int .i64 i.now, .int .i64 i.self, .slice i.mo i.mn i.mc, .int .i8 i.cls, .bool i.some, .int .i8 i.got.k, .int .i64 i.got.n, .string i.got.s, .string i.got.u, .slice i.got.ao i.got.l.length i.got.cap, .int .i64 0, .slice none 0 0] 88)).alloc (.cells #[.nilFunc, .nilFunc, .nilFunc, .nilFunc, .nilFunc, .nilFunc, .nilFunc] 89)) (ub + 1) #[.func (.func 46) #[.pointer (some ⟨ub, 0, none⟩)] #[], .func (.func 47) #[.pointer (some ⟨ub, 0, none⟩)] #[], .func (.func 48) #[.pointer (some ⟨ub, 0, none⟩)] #[], .func (.func 49) #[.pointer (some ⟨ub, 0, none⟩)] #[], .func (.func 49) #[.pointer (some ⟨ub, 0, none⟩)] #[], .func (.func 50) #[.pointer (some ⟨ub, 0, none⟩)] #[], .func (.func 51) #[.pointer (some ⟨ub, 0, none⟩)] #[]]
      have hbS := bel_setRow hbB (by simp [hub]; omega) (Nat.le_succ ub) #[.func (.func 46) #[.pointer (some ⟨ub, 0, none⟩)] #[], .func (.func 47) #[.pointer (some ⟨ub, 0, none⟩)] #[], .func (.func 48) #[.pointer (some ⟨ub, 0, none⟩)] #[], .func (.func 49) #[.pointer (some ⟨ub, 0, none⟩)] #[], .func (.func 49) #[.pointer (some ⟨ub, 0, none⟩)] #[], .func (.func 50) #[.pointer (some ⟨ub, 0, none⟩)] #[], .func (.func 51) #[.pointer (some ⟨ub, 0, none⟩)] #[]]
      have hlow : w.heap.size + 4 ≤ ub := by
        have := heap_lt H5.out.hE
        omega
      have H7 : Hid (StU w (((W5.alloc (.cells #[.int .i8 m.ph, .int .i64 m.pid, .int .i64 0, .int .i64 m.dl, .int .i64 0, .int .i8 m.T.k, .int .i64 m.T.n, .string m.T.s, .string m.T.u, .slice m.T.ao m.T.l.length m.T.cap, .int .i8 m.U.k, .int .i64 m.U.n, .string m.U.s, .string m.U.u, .slice m.U.ao m.U.l.length m.U.cap, .int .i8 m.V.k, .int .i64 m.V.n, .string m.V.s, .string m.V.u, .slice m.V.ao m.V.l.length m.V.cap, .slice (some ⟨m.rb, 0, none⟩) 1 1, .int .i8 0, .int .i64 0, .int .i64 0, .slice none 0 0, .slice none 0 0, .slice none 0 0, .int .i64 i.now, .int .i64 i.self, .slice i.mo i.mn i.mc, .int .i8 i.cls, .bool i.some, .int .i8 i.got.k, .int .i64 i.got.n, .string i.got.s, .string i.got.u, .slice i.got.ao i.got.l.length i.got.cap, .int .i64 0, .slice none 0 0] 88)).alloc (.cells #[.nilFunc, .nilFunc, .nilFunc, .nilFunc, .nilFunc, .nilFunc, .nilFunc] 89)).setRow (ub + 1) #[.func (.func 46) #[.pointer (some ⟨ub, 0, none⟩)] #[], .func (.func 47) #[.pointer (some ⟨ub, 0, none⟩)] #[], .func (.func 48) #[.pointer (some ⟨ub, 0, none⟩)] #[], .func (.func 49) #[.pointer (some ⟨ub, 0, none⟩)] #[], .func (.func 49) #[.pointer (some ⟨ub, 0, none⟩)] #[], .func (.func 50) #[.pointer (some ⟨ub, 0, none⟩)] #[], .func (.func 51) #[.pointer (some ⟨ub, 0, none⟩)] #[]]) m i ub) := Lib.hid ⟨H5.out.keep (hub.symm ▸ hbS), ⟨hcS.heap hq1 (by omega), rfl, World.ownsRow_nil _ _ _ _⟩, hlow⟩
      have HT7 := Lib.hid (setRow_heap _ (ub + 1) _ #[.func (.func 46) #[.pointer (some ⟨ub, 0, none⟩)] #[], .func (.func 47) #[.pointer (some ⟨ub, 0, none⟩)] #[], .func (.func 48) #[.pointer (some ⟨ub, 0, none⟩)] #[], .func (.func 49) #[.pointer (some ⟨ub, 0, none⟩)] #[], .func (.func 49) #[.pointer (some ⟨ub, 0, none⟩)] #[], .func (.func 50) #[.pointer (some ⟨ub, 0, none⟩)] #[], .func (.func 51) #[.pointer (some ⟨ub, 0, none⟩)] #[]] 89 (0, 0) hq2)
      clear hq1 hq2 hbB hcS hbS hlow hub H5
      generalize ((W5.alloc (.cells #[.int .i8 m.ph, .int .i64 m.pid, .int .i64 0, .int .i64 m.dl, .int .i64 0, .int .i8 m.T.k, .int .i64 m.T.n, .string m.T.s, .string m.T.u, .slice m.T.ao m.T.l.length m.T.cap, .int .i8 m.U.k, .int .i64 m.U.n, .string m.U.s, .string m.U.u, .slice m.U.ao m.U.l.length m.U.cap, .int .i8 m.V.k, .int .i64 m.V.n, .string m.V.s, .string m.V.u, .slice m.V.ao m.V.l.length m.V.cap, .slice (some ⟨m.rb, 0, none⟩) 1 1, .int .i8 0, .int .i64 0, .int .i64 0, .slice none 0 0, .slice none 0 0, .slice none 0 0, .int .i64 i.now, .int .i64 i.self, .slice i.mo i.mn i.mc, .int .i8 i.cls, .bool i.some, .int .i8 i.got.k, .int .i64 i.got.n, .string i.got.s, .string i.got.u, .slice i.got.ao i.got.l.length i.got.cap, .int .i64 0, .slice none 0 0] 88)).alloc (.cells #[.nilFunc, .nilFunc, .nilFunc, .nilFunc, .nilFunc, .nilFunc, .nilFunc] 89)).setRow (ub + 1) #[.func (.func 46) #[.pointer (some ⟨ub, 0, none⟩)] #[], .func (.func 47) #[.pointer (some ⟨ub, 0, none⟩)] #[], .func (.func 48) #[.pointer (some ⟨ub, 0, none⟩)] #[], .func (.func 49) #[.pointer (some ⟨ub, 0, none⟩)] #[], .func (.func 49) #[.pointer (some ⟨ub, 0, none⟩)] #[], .func (.func 50) #[.pointer (some ⟨ub, 0, none⟩)] #[], .func (.func 51) #[.pointer (some ⟨ub, 0, none⟩)] #[]] = W7 at *
      have c8 : W7.cell? ⟨w.heap.size, 8, none⟩ = some (.int .i8 m.ph) := (cells_at H7.out.st.hF 8 _ rfl).1
      have t0 := (cells_at HT7.out 5 _ rfl).1
      rw [HK.out] at c8
      go_wp2_with fail
      refine (terminate_any W7 ub m i c _ [] H7.out.hu (H7.out.rcd HM.out).1 (fun e => (H7.out.rcd HM.out).2 (.inl e)) (by simp)).mono ?_
      rintro e W8 ⟨g, hg, hrow, ⟨v, rfl⟩, ev8, hu8, hc8, hb8⟩
      have H8 := Lib.hid (H7.out.fin (L := L) (EA := EA) HM.out hu8 hc8 (.inr (.inr (.inr (.inr (.inr (.inl ⟨HK.out, rfl, _, rfl, g, [m.U], rfl, Nat.le_trans H7.out.size hg, hrow, rfl⟩)))))))
      clear hu8 hc8 hb8 hrow hg H7 HT7 c8 t0
      go_wp2_with (with_reducible refine stop_op (o := ⟨_, .load 37 (.tmp 56), _, _, _, _⟩) ?_)
      refine Lib.hid ?_
      refine wpList_load_mid (op := ⟨_, _, _, _, _, _⟩) rfl 37 (.tmp 56) rfl ub 0 rfl (mcL { m with ph := 6 }) _ (mid_range (pre := []) (post := innL i ++ [ev8]) (by have := H8.out.hu.hU; unfold unL at this; rw [List.append_assoc] at this; exact this) rfl) Tryz.underlying37 rfl (infoMA rfl) ?_
      go_wp2_with (with_reducible refine stop_op (o := ⟨_, .store 37 (.tmp 58) (.tmp 57), _, _, _, _⟩) ?_)
      refine Lib.hid ?_
      refine wpList_store_mid (op := ⟨none, _, _, _, _, _⟩) rfl 37 (.tmp 58) (.tmp 57) rfl w.heap.size 8 (mcL { m with ph := 6 }).toArray rfl rfl (fr_there H8.out.hF) (infoMA rfl) (all_oneCell_toArray (mcL_one { m with ph := 6 })) ?_
      have hc9 := chg_cells (mcL { m with ph := 6 }) w.heap.size 8 W8
      have H9 := Lib.hid (H8.out.put hc9 (fr_set { m with ph := 6 } H8.out.hF))
      clear hc9 H8
      change Hid (StG M w (W8.setCells w.heap.size 8 (mcL { m with ph := 6 }).toArray.toList) m c EA i L ub { m with ph := 6 } { m with ph := 6 } ev8 [callE c terS (some ⟨g, 0, none⟩) 2 2]) at H9
      generalize W8.setCells w.heap.size 8 (mcL { m with ph := 6 }).toArray.toList = W9 at *
      go_upto_region 14 with fail
      have hS : StS w.heap.size ub { m with ph := 6 } ev8 W9.drew := ⟨H9.out.hF, H9.out.hu.ev⟩
      have H9 := Lib.hid (H9.out.keep (Below.refl _ _).drew)
      refine region_plan (StS w.heap.size ub { m with ph := 6 } ev8) [(0, 0), (1, 0), (2, 0), (3, 0), (4, 0), (5, 1), (6, 0)] (by kernel_rfl) (by kernel_rfl) (by kernel_rfl) hS ?_
      generalize W9.drew = WD at *
      refine plan_take rfl ?_ (fun wS hSw => exec_row 39 (.tmp 2) rfl w.heap.size rfl (frL { m with ph := 6 }).toArray 39 (0, 0) _ hSw.1 Tryz.underlying39 rfl (infoFR rfl)) ?_
      focus (rfl)
      (try simp only [Act.put, List.setIfInBounds_toArray, List.set_cons_zero, List.set_cons_succ])
      iterate 4 (first | (refine plan_skip rfl ?_ ?_; (focus (rfl)); (try simp only [Act.put, List.setIfInBounds_toArray, List.set_cons_zero, List.set_cons_succ])) | (refine plan_take (v := ?_) rfl ?_ (fun w hSw => ?_) ?_; rotate_left; (focus (rfl)); (focus (unfold StS at hSw; (go_simp <;> with_reducible rfl))); (try simp only [Act.put, List.setIfInBounds_toArray, List.set_cons_zero, List.set_cons_succ])))
      have hcF := chg_setRow WD (w.heap.size + 2) (frL { m with ph := 6 }).toArray
      have hSF : StS w.heap.size ub { m with ph := 6 } ev8 (WD.setRow (w.heap.size + 2) (frL { m with ph := 6 }).toArray) := ⟨hcF.heap hS.1 (by omega), hcF.cell hS.2 (by have := H9.out.hub; show ¬ ub = w.heap.size + 2; omega)⟩
      have HQ := Lib.hid (setRow_heap WD (w.heap.size + 2) _ (frL { m with ph := 6 }).toArray 39 (0, 0) H9.out.hZ)
      have HP : Hid (StP M w m c EA i L (.returned (.tuple #[.agg (frL { m with ph := 6 }).toArray, ev8])) (WD.setRow (w.heap.size + 2) (frL { m with ph := 6 }).toArray)) := Lib.hid (H9.out.done hcF)
      refine plan_run rfl ?_ (fun K hK => ?_)
      focus (rfl)
      refine wp_store_row 39 (.tmp 4) (.tmp 59) rfl (w.heap.size + 2) (frL { m with ph := 6 }).toArray rfl rfl 39 frZ.toArray H9.out.hZ (infoFR rfl) rfl (all_oneCell_toArray (frL_one { m with ph := 6 })) ?_
      refine hK.out _ _ (hSF) ?_
      clear hK K
      (try simp only [Act.put, List.setIfInBounds_toArray, List.set_cons_zero, List.set_cons_succ])
      iterate 1 (first | (refine plan_skip rfl ?_ ?_; (focus (rfl)); (try simp only [Act.put, List.setIfInBounds_toArray, List.set_cons_zero, List.set_cons_succ])) | (refine plan_take (v := ?_) rfl ?_ (fun w hSw => ?_) ?_; rotate_left; (focus (rfl)); (focus (unfold StS at hSw; (go_simp <;> with_reducible rfl))); (try simp only [Act.put, List.setIfInBounds_toArray, List.set_cons_zero, List.set_cons_succ])))
      refine plan_done ?_
      clear hS hcF hSF H9
      generalize WD.setRow (w.heap.size + 2) (frL { m with ph := 6 }).toArray = W10 at *
      go_wp2_with fail
      exact ret_row HQ.out rfl Tryz.underlying39 rfl (infoFR rfl) rfl rfl HP.out
    · have HK := Lib.hid hk
      rw [hk] at c8
      clear hk
      go_wp2_with (with_reducible refine stop_op (o := ⟨_, .load 37 (.tmp 28), _, _, _, _⟩) ?_)
      refine Lib.hid ?_
      refine wpList_load_mid (op := ⟨_, _, _, _, _, _⟩) rfl 37 (.tmp 28) rfl w.heap.size 8 rfl [.int .i8 m.ph, .int .i64 m.pid, .int .i64 0, .int .i64 m.dl, .int .i64 0, .int .i8 m.T.k, .int .i64 m.T.n, .string m.T.s, .string m.T.u, .slice m.T.ao m.T.l.length m.T.cap, .int .i8 m.U.k, .int .i64 m.U.n, .string m.U.s, .string m.U.u, .slice m.U.ao m.U.l.length m.U.cap, .int .i8 m.V.k, .int .i64 m.V.n, .string m.V.s, .string m.V.u, .slice m.V.ao m.V.l.length m.V.cap, .slice (some ⟨m.rb, 0, none⟩) 1 1, .int .i8 0, .int .i64 0, .int .i64 0, .slice none 0 0, .slice none 0 0, .slice none 0 0] _ (fr_range H5.out.hF) Tryz.underlying37 rfl (infoMA rfl) ?_
      go_wp2_with (with_reducible refine stop_op (o := ⟨_, .load 43 (.tmp 3), _, _, _, _⟩) ?_)
      refine Lib.hid ?_
      refine wpList_load_row (o := ⟨_, _, _, _, _, _⟩) rfl 43 (.tmp 3) rfl (w.heap.size + 1) rfl 43 #[.int .i64 i.now, .int .i64 i.self, .slice i.mo i.mn i.mc, .int .i8 i.cls, .bool i.some, .int .i8 i.got.k, .int .i64 i.got.n, .string i.got.s, .string i.got.u, .slice i.got.ao i.got.l.length i.got.cap, .int .i64 0] (0, 0) _ H5.out.hI Tryz.underlying43 rfl (infoIN rfl) ?_
      go_wp2_with (with_reducible refine stop_op (o := ⟨_, .store 89 (.tmp 8) (.tmp 47), _, _, _, _⟩) ?_)
      refine Lib.hid ?_
      generalize hub : W5.heap.size = ub at *
      refine wpList_store_row (o := ⟨none, _, _, _, _, _⟩) rfl 89 (.tmp 8) (.tmp 47) rfl (ub + 1) #[.func (.func 46) #[.pointer (some ⟨ub, 0, none⟩)] #[], .func (.func 47) #[.pointer (some ⟨ub, 0, none⟩)] #[], .func (.func 48) #[.pointer (some ⟨ub, 0, none⟩)] #[], .func (.func 49) #[.pointer (some ⟨ub, 0, none⟩)] #[], .func (.func 49) #[.pointer (some ⟨ub, 0, none⟩)] #[], .func (.func 50) #[.pointer (some ⟨ub, 0, none⟩)] #[], .func (.func 51) #[.pointer (some ⟨ub, 0, none⟩)] #[]] rfl rfl 89 #[.nilFunc, .nilFunc, .nilFunc, .nilFunc, .nilFunc, .nilFunc, .nilFunc] (by have := heap_new (W5.alloc (.cells #[.int .i8 m.ph, .int .i64 m.pid, .int .i64 0, .int .i64 m.dl, .int .i64 0, .int .i8 m.T.k, .int .i64 m.T.n, .string m.T.s, .string m.T.u, .slice m.T.ao m.T.l.length m.T.cap, .int .i8 m.U.k, .int .i64 m.U.n, .string m.U.s, .string m.U.u, .slice m.U.ao m.U.l.length m.U.cap, .int .i8 m.V.k, .int .i64 m.V.n, .string m.V.s, .string m.V.u, .slice m.V.ao m.V.l.length m.V.cap, .slice (some ⟨m.rb, 0, none⟩) 1 1, .int .i8 0, .int .i64 0, .int .i64 0, .slice none 0 0, .slice none 0 0, .slice none 0 0, .int .i64 i.now, .int .i64 i.self, .slice i.mo i.mn i.mc, .int .i8 i.cls, .bool i.some, .int .i8 i.got.k, .int .i64 i.got.n, .string i.got.s, .string i.got.u, .slice i.got.ao i.got.l.length i.got.cap, .int .i64 0, .slice none 0 0] 88)) (.cells #[.nilFunc, .nilFunc, .nilFunc, .nilFunc, .nilFunc, .nilFunc, .nilFunc] 89); simp only [World.size_alloc, hub] at this; exact this) (infoPH rfl) rfl (by simp [Value.oneCell']) ?_
      have hq1 := heap_old (heap_new W5 (.cells #[.int .i8 m.ph, .int .i64 m.pid, .int .i64 0, .int .i64 m.dl, .int .i64 0, .int .i8 m.T.k, .int .i64 m.T.n, .string m.T.s, .string m.T.u, .slice m.T.ao m.T.l.length m.T.cap, .int .i8 m.U.k, .int .i64 m.U.n, .string m.U.s, .string m.U.u, .slice m.U.ao m.U.l.length m.U.cap, .int .i8 m.V.k, .int .i64 m.V.n, .string m.V.s, .string m.V.u, .slice m.V.ao m.V.l.length m.V.cap, .slice (some ⟨m.rb, 0, none⟩) 1 1, .int .i8 0, .int .i64 0, .int .i64 0, .slice none 0 0, .slice none 0 0, .slice none 0 0, .int .i64 i.now, .int .i64 i.self, .slice i.mo i.mn i.mc, .int .i8 i.cls, .bool i.some, .int .i8 i.got.k, .int .i64 i.got.n, .string i.got.s, .string i.got.u, .slice i.got.ao i.got.l.length i.got.cap, .int .i64 0, .slice none 0 0] 88)) (.cells #[.nilFunc, .nilFunc, .nilFunc, .nilFunc, .nilFunc, .nilFunc, .nilFunc] 89)
      have hq2 := heap_new (W5.alloc (.cells #[.int .i8 m.ph, .int .i64 m.pid, .int .i64 0, .int .i64 m.dl, .int .i64 0, .int .i8 m.T.k, .int .i64 m.T.n, .string m.T.s, .string m.T.u, .slice m.T.ao m.T.l.length m.T.cap, .int .i8 m.U.k, .int .i64 m.U.n, .string m.U.s, .string m.U.u, .slice m.U.ao m.U.l.length m.U.cap, .int .i8 m.V.k, .int .i64 m.V.n, .string m.V.s, .string m.V.u, .slice m.V.ao m.V.l.length m.V.cap, .slice (some ⟨m.rb, 0, none⟩) 1 1, .int .i8 0, .int .i64 0, .int .i64 0, .slice none 0 0, .slice none 0 0, .slice none 0 0, .int .i64 i.now, .int .i64 i.self, .slice i.mo i.mn i.mc, .int .i8 i.cls, .bool i.some, .int .i8 i.got.k, .int .i64 i.got.n, .string i.got.s, .string i.got.u, .slice i.got.ao i.got.l.length i.got.cap, .int .i64 0, .slice none 0 0] 88)) (.cells #[.nilFunc, .nilFunc, .nilFunc, .nilFunc, .nilFunc, .nilFunc, .nilFunc] 89)
      have hbB := ((Below.refl W5.heap.size W5).alloc (Nat.le_refl _) (.cells #[.int .i8 m.ph, .int .i64 m.pid, .int .i64 0, .int .i64 m.dl, .int .i64 0, .int .i8 m.T.k, .int .i64 m.T.n, .string m.T.s, .string m.T.u, .slice m.T.ao m.T.l.length m.T.cap, .int .i8 m.U.k, .int .i64 m.U.n, .string m.U.s, .string m.U.u, .slice m.U.ao m.U.l.length m.U.cap, .int .i8 m.V.k, .int .i64 m.V.n, .string m.V.s, .string m.V.u, .slice m.V.ao m.V.l.length m.V.cap, .slice (some ⟨m.rb, 0, none⟩) 1 1, .int .i8 0, .int .i64 0, .int .i64 0, .slice none 0 0, .slice none 0 0, .slice none 0 0, .int .i64 i.now, .int .i64 i.self, .slice i.mo i.mn i.mc, .int .i8 i.cls, .bool i.some, .int .i8 i.got.k, .int .i64 i.got.n, .string i.got.s, .string i.got.u, .slice i.got.ao i.got.l.length i.got.cap, .int .i64 0, .slice none 0 0] 88)).alloc (by simp) (.cells #[.nilFunc, .nilFunc, .nilFunc, .nilFunc, .nilFunc, .nilFunc, .nilFunc] 89)
      simp only [World.size_alloc, hub] at hq1 hq2 hbB
      have hcS := chg_setRow ((W5.alloc (.cells #[.int .i8 m.ph, .int .i64 m.pid, .int .i64 0, .int .i64 m.dl, .int .i64 0, .int .i8 m.T.k, .int .i64 m.T.n, .string m.T.s, .string m.T.u, .slice m.T.ao m.T.l.length m.T.cap, .int .i8 m.U.k, .int .i64 m.U.n, .string m.U.s, .string m.U.u, .slice m.U.ao m.U.l.length m.U.cap, .int .i8 m.V.k, .int .i64 m.V.n, .string m.V.s, .string m.V.u, .slice m.V.ao m.V.l.length m.V.cap, .slice (some ⟨m.rb, 0, none⟩) 1 1, .int .i8 0, .int .i64 0, .int .i64 0, .slice none 0 0, .slice none 0 0, .slice none 0 0, .int .i64 i.now, .int .i64 i.self, .slice i.mo i.mn i.mc, .int .i8 i.cls, .bool i.some, .int .i8 i.got.k, .int .i64 i.got.n, .string i.got.s, .string i.got.u, .slice i.got.ao i.got.l.length i.got.cap, .int .i64 0, .slice none 0 0] 88)).alloc (.cells #[.nilFunc, .nilFunc, .nilFunc, .nilFunc, .nilFunc, .nilFunc, .nilFunc] 89)) (ub + 1) #[.func (.func 46) #[.pointer (some ⟨ub, 0, none⟩)] #[], .func (.func 47) #[.pointer (some ⟨ub, 0, none⟩)] #[], .func (.func 48) #[.pointer (some ⟨ub, 0, none⟩)] #[], .func (.func 49) #[.pointer (some ⟨ub, 0, none⟩)] #[], .func (.func 49) #[.pointer (some ⟨ub, 0, none⟩)] #[], .func (.func 50) #[.pointer (some ⟨ub, 0, none⟩)] #[], .func (.func 51) #[.pointer (some ⟨ub, 0, none⟩)] #[]]
      have hbS := bel_setRow hbB (by simp [hub]; omega) (Nat.le_succ ub) #[.func (.func 46) #[.pointer (some ⟨ub, 0, none⟩)] #[], .func (.func 47) #[.pointer (some ⟨ub, 0, none⟩)] #[], .func (.func 48) #[.pointer (some ⟨ub, 0, none⟩)] #[], .func (.func 49) #[.pointer (some ⟨ub, 0, none⟩)] #[], .func (.func 49) #[.pointer (some ⟨ub, 0, none⟩)] #[], .func (.func 50) #[.pointer (some ⟨ub, 0, none⟩)] #[], .func (.func 51) #[.pointer (some ⟨ub, 0, none⟩)] #[]]
      have hlow : w.heap.size + 4 ≤ ub := by
        have := heap_lt H5.out.hE
        omega
      have H7 : Hid (StU w (((W5.alloc (.cells #[.int .i8 m.ph, .int .i64 m.pid, .int .i64 0, .int .i64 m.dl, .int .i64 0, .int .i8 m.T.k, .int .i64 m.T.n, .string m.T.s, .string m.T.u, .slice m.T.ao m.T.l.length m.T.cap, .int .i8 m.U.k, .int .i64 m.U.n, .string m.U.s, .string m.U.u, .slice m.U.ao m.U.l.length m.U.cap, .int .i8 m.V.k, .int .i64 m.V.n, .string m.V.s, .string m.V.u, .slice m.V.ao m.V.l.length m.V.cap, .slice (some ⟨m.rb, 0, none⟩) 1 1, .int .i8 0, .int .i64 0, .int .i64 0, .slice none 0 0, .slice none 0 0, .slice none 0 0, .int .i64 i.now, .int .i64 i.self, .slice i.mo i.mn i.mc, .int .i8 i.cls, .bool i.some, .int .i8 i.got.k, .int .i64 i.got.n, .string i.got.s, .string i.got.u, .slice i.got.ao i.got.l.length i.got.cap, .int .i64 0, .slice none 0 0] 88)).alloc (.cells #[.nilFunc, .nilFunc, .nilFunc, .nilFunc, .nilFunc, .nilFunc, .nilFunc] 89)).setRow (ub + 1) #[.func (.func 46) #[.pointer (some ⟨ub, 0, none⟩)] #[], .func (.func 47) #[.pointer (some ⟨ub, 0, none⟩)] #[], .func (.func 48) #[.pointer (some ⟨ub, 0, none⟩)] #[], .func (.func 49) #[.pointer (some ⟨ub, 0, none⟩)] #[], .func (.func 49) #[.pointer (some ⟨ub, 0, none⟩)] #[], .func (.func 50) #[.pointer (some ⟨ub, 0, none⟩)] #[], .func (.func 51) #[.pointer (some ⟨ub, 0, none⟩)] #[]]) m i ub) := Lib.hid ⟨H5.out.keep (hub.symm ▸ hbS), ⟨hcS.heap hq1 (by omega), rfl, World.ownsRow_nil _ _ _ _⟩, hlow⟩
      have HT7 := Lib.hid (setRow_heap _ (ub + 1) _ #[.func (.func 46) #[.pointer (some ⟨ub, 0, none⟩)] #[], .func (.func 47) #[.pointer (some ⟨ub, 0, none⟩)] #[], .func (.func 48) #[.pointer (some ⟨ub, 0, none⟩)] #[], .func (.func 49) #[.pointer (some ⟨ub, 0, none⟩)] #[], .func (.func 49) #[.pointer (some ⟨ub, 0, none⟩)] #[], .func (.func 50) #[.pointer (some ⟨ub, 0, none⟩)] #[], .func (.func 51) #[.pointer (some ⟨ub, 0, none⟩)] #[]] 89 (0, 0) hq2)
      clear hq1 hq2 hbB hcS hbS hlow hub H5
      generalize ((W5.alloc (.cells #[.int .i8 m.ph, .int .i64 m.pid, .int .i64 0, .int .i64 m.dl, .int .i64 0, .int .i8 m.T.k, .int .i64 m.T.n, .string m.T.s, .string m.T.u, .slice m.T.ao m.T.l.length m.T.cap, .int .i8 m.U.k, .int .i64 m.U.n, .string m.U.s, .string m.U.u, .slice m.U.ao m.U.l.length m.U.cap, .int .i8 m.V.k, .int .i64 m.V.n, .string m.V.s, .string m.V.u, .slice m.V.ao m.V.l.length m.V.cap, .slice (some ⟨m.rb, 0, none⟩) 1 1, .int .i8 0, .int .i64 0, .int .i64 0, .slice none 0 0, .slice none 0 0, .slice none 0 0, .int .i64 i.now, .int .i64 i.self, .slice i.mo i.mn i.mc, .int .i8 i.cls, .bool i.some, .int .i8 i.got.k, .int .i64 i.got.n, .string i.got.s, .string i.got.u, .slice i.got.ao i.got.l.length i.got.cap, .int .i64 0, .slice none 0 0] 88)).alloc (.cells #[.nilFunc, .nilFunc, .nilFunc, .nilFunc, .nilFunc, .nilFunc, .nilFunc] 89)).setRow (ub + 1) #[.func (.func 46) #[.pointer (some ⟨ub, 0, none⟩)] #[], .func (.func 47) #[.pointer (some ⟨ub, 0, none⟩)] #[], .func (.func 48) #[.pointer (some ⟨ub, 0, none⟩)] #[], .func (.func 49) #[.pointer (some ⟨ub, 0, none⟩)] #[], .func (.func 49) #[.pointer (some ⟨ub, 0, none⟩)] #[], .func (.func 50) #[.pointer (some ⟨ub, 0, none⟩)] #[], .func (.func 51) #[.pointer (some ⟨ub, 0, none⟩)] #[]] = W7 at *
      have c8 : W7.cell? ⟨w.heap.size, 8, none⟩ = some (.int .i8 m.ph) := (cells_at H7.out.st.hF 8 _ rfl).1
      have t0 := (cells_at HT7.out 6 _ rfl).1
      rw [HK.out] at c8
      go_wp2_with fail
      refine (uend_any W7 ub m i _ [] H7.out.hu (by simp)).mono ?_
      rintro e W8 ⟨⟨v, rfl⟩, ev8, hu8, hc8, hb8⟩
      have H8 := Lib.hid (H7.out.fin (L := L) (EA := EA) HM.out hu8 hc8 (.inr (.inr (.inr (.inr (.inr (.inr ⟨HK.out, rfl, rfl⟩)))))))
      clear hu8 hc8 hb8 H7 HT7 c8 t0
      go_wp2_with (with_reducible refine stop_op (o := ⟨_, .load 37 (.tmp 56), _, _, _, _⟩) ?_)
      refine Lib.hid ?_
      refine wpList_load_mid (op := ⟨_, _, _, _, _, _⟩) rfl 37 (.tmp 56) rfl ub 0 rfl (mcL m) _ (mid_range (pre := []) (post := innL i ++ [ev8]) (by have := H8.out.hu.hU; unfold unL at this; rw [List.append_assoc] at this; exact this) rfl) Tryz.underlying37 rfl (infoMA rfl) ?_
      go_wp2_with (with_reducible refine stop_op (o := ⟨_, .store 37 (.tmp 58) (.tmp 57), _, _, _, _⟩) ?_)
      refine Lib.hid ?_
      refine wpList_store_mid (op := ⟨none, _, _, _, _, _⟩) rfl 37 (.tmp 58) (.tmp 57) rfl w.heap.size 8 (mcL m).toArray rfl rfl (fr_there H8.out.hF) (infoMA rfl) (all_oneCell_toArray (mcL_one m)) ?_
      have hc9 := chg_cells (mcL m) w.heap.size 8 W8
      have H9 := Lib.hid (H8.out.put hc9 (fr_set m H8.out.hF))
      clear hc9 H8
      change Hid (StG M w (W8.setCells w.heap.size 8 (mcL m).toArray.toList) m c EA i L ub m m ev8 [endE m.U]) at H9
      generalize W8.setCells w.heap.size 8 (mcL m).toArray.toList = W9 at *
      go_upto_region 14 with fail
      have hS : StS w.heap.size ub m ev8 W9.drew := ⟨H9.out.hF, H9.out.hu.ev⟩
      have H9 := Lib.hid (H9.out.keep (Below.refl _ _).drew)
      refine region_plan (StS w.heap.size ub m ev8) [(0, 0), (1, 0), (2, 0), (3, 0), (4, 0), (5, 1), (6, 0)] (by kernel_rfl) (by kernel_rfl) (by kernel_rfl) hS ?_
      generalize W9.drew = WD at *
      refine plan_take rfl ?_ (fun wS hSw => exec_row 39 (.tmp 2) rfl w.heap.size rfl (frL m).toArray 39 (0, 0) _ hSw.1 Tryz.underlying39 rfl (infoFR rfl)) ?_
      focus (rfl)
      (try simp only [Act.put, List.setIfInBounds_toArray, List.set_cons_zero, List.set_cons_succ])
      iterate 4 (first | (refine plan_skip rfl ?_ ?_; (focus (rfl)); (try simp only [Act.put, List.setIfInBounds_toArray, List.set_cons_zero, List.set_cons_succ])) | (refine plan_take (v := ?_) rfl ?_ (fun w hSw => ?_) ?_; rotate_left; (focus (rfl)); (focus (unfold StS at hSw; (go_simp <;> with_reducible rfl))); (try simp only [Act.put, List.setIfInBounds_toArray, List.set_cons_zero, List.set_cons_succ])))
      have hcF := chg_setRow WD (w.heap.size + 2) (frL m).toArray
      have hSF : StS w.heap.size ub m ev8 (WD.setRow (w.heap.size + 2) (frL m).toArray) := ⟨hcF.heap hS.1 (by omega), hcF.cell hS.2 (by have := H9.out.hub; show ¬ ub = w.heap.size + 2; omega)⟩
      have HQ := Lib.hid (setRow_heap WD (w.heap.size + 2) _ (frL m).toArray 39 (0, 0) H9.out.hZ)
      have HP : Hid (StP M w m c EA i L (.returned (.tuple #[.agg (frL m).toArray, ev8])) (WD.setRow (w.heap.size + 2) (frL m).toArray)) := Lib.hid (H9.out.done hcF)
      refine plan_run rfl ?_ (fun K hK => ?_)
      focus (rfl)
      refine wp_store_row 39 (.tmp 4) (.tmp 59) rfl (w.heap.size + 2) (frL m).toArray rfl rfl 39 frZ.toArray H9.out.hZ (infoFR rfl) rfl (all_oneCell_toArray (frL_one m)) ?_
      refine hK.out _ _ (hSF) ?_
      clear hK K
      (try simp only [Act.put, List.setIfInBounds_toArray, List.set_cons_zero, List.set_cons_succ])
      iterate 1 (first | (refine plan_skip rfl ?_ ?_; (focus (rfl)); (try simp only [Act.put, List.setIfInBounds_toArray, List.set_cons_zero, List.set_cons_succ])) | (refine plan_take (v := ?_) rfl ?_ (fun w hSw => ?_) ?_; rotate_left; (focus (rfl)); (focus (unfold StS at hSw; (go_simp <;> with_reducible rfl))); (try simp only [Act.put, List.setIfInBounds_toArray, List.set_cons_zero, List.set_cons_succ])))
      refine plan_done ?_
      clear hS hcF hSF H9
      generalize WD.setRow (w.heap.size + 2) (frL m).toArray = W10 at *
      go_wp2_with fail
      exact ret_row HQ.out rfl Tryz.underlying39 rfl (infoFR rfl) rfl rfl HP.out
end Go.Proofs.YthpmdeofdlcccaaGreatDoor
namespace Go.Proofs.YthpmdeofdlcccaaGreatDoor
open Go.ChangeShapes Go.WideShapes Go.ChangeAt Go.RowKit
set_option linter.unusedVariables false
set_option linter.unusedSimpArgs false
set_option maxRecDepth 100000
theorem infoCH {cs : Array Value} (h : cs.size = 12) : (Tryz.prog.info? 28).map (·.size) = some cs.size := by
  have : (Tryz.prog.info? 28).map (·.size) = some 12 := by kernel_rfl
  rw [this, h]
def mc0 (pid : Int) (rb : Nat) : Mc := ⟨0, pid, -2, numT 0 0, numT 0 0, numT 0 0, rb⟩
def NwP (M : Nat → Prop) (w : World) (c : Ch) (EA : List TE) (pid : Int) (e : Ending) (w' : World) : Prop :=
  Below w.heap.size w w' ∧ ((mayC c EA = true ∧ 0 ≤ pid ∧ ∃ rb, e = .returned (.tuple #[.agg (frL (mc0 pid rb)).toArray, .int .i64 0]) ∧ w.heap.size ≤ rb ∧ McOk M w' (mc0 pid rb) c EA) ∨
    ((mayC c EA = false ∨ pid < 0) ∧ e = .returned (.tuple #[.agg frZ.toArray, .int .i64 2])))
theorem frZ_one : ∀ v ∈ frZ, v.oneCell' = true := by
  intro v hv
  simp only [frZ, List.mem_cons, List.not_mem_nil, or_false] at hv
  rcases hv with rfl | rfl | rfl | rfl | rfl | rfl | rfl | rfl | rfl | rfl | rfl | rfl | rfl | rfl | rfl | rfl | rfl | rfl | rfl | rfl | rfl | rfl | rfl | rfl | rfl | rfl | rfl | rfl | rfl | rfl | rfl | rfl | rfl | rfl | rfl <;> rfl
set_option maxHeartbeats 8000000 in
theorem new_any (M : Nat → Prop) (w : World) (hM : ∀ k, M k → k < w.heap.size) (hc : Cells w 0 letL) (c : Ch) (EA : List TE) (hE : TesOk M w c.ar EA) (hm : c.m.size ≤ 9223372036854775807) (pid : Int) :
    Calls Tryz.prog 8 #[.agg #[.int .i8 c.id.k, .int .i64 c.id.n, .string c.id.s, .string c.id.u, .slice c.id.ao c.id.l.length c.id.cap, .int .i8 c.ki, .int .i8 c.re, .int .i64 c.sh, .string c.m, .string c.f, .slice c.ao c.an c.ac, .slice c.so c.sn c.sc], .int .i64 pid] w (NwP M w c EA pid) := by
  have hb1 := ((Below.refl w.heap.size w).alloc (Nat.le_refl _) (.cells #[.int .i8 c.id.k, .int .i64 c.id.n, .string c.id.s, .string c.id.u, .slice c.id.ao c.id.l.length c.id.cap, .int .i8 c.ki, .int .i8 c.re, .int .i64 c.sh, .string c.m, .string c.f, .slice c.ao c.an c.ac, .slice c.so c.sn c.sc] 28)).alloc (by simp) (.cells #[.int .i8 0, .int .i64 0, .int .i64 0, .slice none 0 0, .slice none 0 0, .slice none 0 0, .slice none 0 0, .int .i64 0, .int .i8 0, .int .i64 0, .int .i64 0, .int .i64 0, .int .i64 0, .int .i8 0, .int .i64 0, .string ⟨#[]⟩, .string ⟨#[]⟩, .slice none 0 0, .int .i8 0, .int .i64 0, .string ⟨#[]⟩, .string ⟨#[]⟩, .slice none 0 0, .int .i8 0, .int .i64 0, .string ⟨#[]⟩, .string ⟨#[]⟩, .slice none 0 0, .slice none 0 0, .int .i8 0, .int .i64 0, .int .i64 0, .slice none 0 0, .slice none 0 0, .slice none 0 0] 39)
  have z1 := heap_old (heap_new w (.cells #[.int .i8 c.id.k, .int .i64 c.id.n, .string c.id.s, .string c.id.u, .slice c.id.ao c.id.l.length c.id.cap, .int .i8 c.ki, .int .i8 c.re, .int .i64 c.sh, .string c.m, .string c.f, .slice c.ao c.an c.ac, .slice c.so c.sn c.sc] 28)) (.cells #[.int .i8 0, .int .i64 0, .int .i64 0, .slice none 0 0, .slice none 0 0, .slice none 0 0, .slice none 0 0, .int .i64 0, .int .i8 0, .int .i64 0, .int .i64 0, .int .i64 0, .int .i64 0, .int .i8 0, .int .i64 0, .string ⟨#[]⟩, .string ⟨#[]⟩, .slice none 0 0, .int .i8 0, .int .i64 0, .string ⟨#[]⟩, .string ⟨#[]⟩, .slice none 0 0, .int .i8 0, .int .i64 0, .string ⟨#[]⟩, .string ⟨#[]⟩, .slice none 0 0, .slice none 0 0, .int .i8 0, .int .i64 0, .int .i64 0, .slice none 0 0, .slice none 0 0, .slice none 0 0] 39)
  have z2 := heap_new (w.alloc (.cells #[.int .i8 c.id.k, .int .i64 c.id.n, .string c.id.s, .string c.id.u, .slice c.id.ao c.id.l.length c.id.cap, .int .i8 c.ki, .int .i8 c.re, .int .i64 c.sh, .string c.m, .string c.f, .slice c.ao c.an c.ac, .slice c.so c.sn c.sc] 28)) (.cells #[.int .i8 0, .int .i64 0, .int .i64 0, .slice none 0 0, .slice none 0 0, .slice none 0 0, .slice none 0 0, .int .i64 0, .int .i8 0, .int .i64 0, .int .i64 0, .int .i64 0, .int .i64 0, .int .i8 0, .int .i64 0, .string ⟨#[]⟩, .string ⟨#[]⟩, .slice none 0 0, .int .i8 0, .int .i64 0, .string ⟨#[]⟩, .string ⟨#[]⟩, .slice none 0 0, .int .i8 0, .int .i64 0, .string ⟨#[]⟩, .string ⟨#[]⟩, .slice none 0 0, .slice none 0 0, .int .i8 0, .int .i64 0, .int .i64 0, .slice none 0 0, .slice none 0 0, .slice none 0 0] 39)
  rw [World.size_alloc] at z2
  have HB := Lib.hid (And.intro hb1 (And.intro z2 z1))
  have HX := Lib.hid (And.intro hM (And.intro hc (And.intro hE hm)))
  clear hb1 z1 z2 hM hc hE hm
  go_enter Tryz.func8, Tryz.ntmps8
  go_wp2_with (with_reducible refine stop_op (o := ⟨_, .load 28 (.tmp 2), _, _, _, _⟩) ?_)
  refine Lib.hid ?_
  generalize (w.alloc (.cells #[.int .i8 c.id.k, .int .i64 c.id.n, .string c.id.s, .string c.id.u, .slice c.id.ao c.id.l.length c.id.cap, .int .i8 c.ki, .int .i8 c.re, .int .i64 c.sh, .string c.m, .string c.f, .slice c.ao c.an c.ac, .slice c.so c.sn c.sc] 28)).alloc (.cells #[.int .i8 0, .int .i64 0, .int .i64 0, .slice none 0 0, .slice none 0 0, .slice none 0 0, .slice none 0 0, .int .i64 0, .int .i8 0, .int .i64 0, .int .i64 0, .int .i64 0, .int .i64 0, .int .i8 0, .int .i64 0, .string ⟨#[]⟩, .string ⟨#[]⟩, .slice none 0 0, .int .i8 0, .int .i64 0, .string ⟨#[]⟩, .string ⟨#[]⟩, .slice none 0 0, .int .i8 0, .int .i64 0, .string ⟨#[]⟩, .string ⟨#[]⟩, .slice none 0 0, .slice none 0 0, .int .i8 0, .int .i64 0, .int .i64 0, .slice none 0 0, .slice none 0 0, .slice none 0 0] 39) = W1 at *
  refine wpList_load_row (o := ⟨_, _, _, _, _, _⟩) rfl 28 (.tmp 2) rfl w.heap.size rfl 28 #[.int .i8 c.id.k, .int .i64 c.id.n, .string c.id.s, .string c.id.u, .slice c.id.ao c.id.l.length c.id.cap, .int .i8 c.ki, .int .i8 c.re, .int .i64 c.sh, .string c.m, .string c.f, .slice c.ao c.an c.ac, .slice c.so c.sn c.sc] (0, 0) _ HB.out.2.2 Tryz.underlying28 rfl (infoCH rfl) ?_
  have HC := Lib.hid (may_any M W1 (keepCells HX.out.2.1 HB.out.1) c EA (HX.out.2.2.1.keep HB.out.1) HX.out.2.2.2)
  change Hid (Calls Tryz.prog 26 #[.agg #[.int .i8 c.id.k, .int .i64 c.id.n, .string c.id.s, .string c.id.u, .slice c.id.ao c.id.l.length c.id.cap, .int .i8 c.ki, .int .i8 c.re, .int .i64 c.sh, .string c.m, .string c.f, .slice c.ao c.an c.ac, .slice c.so c.sn c.sc]] W1 (IsPost W1 (mayC c EA))) at HC
  go_wp2_with fail
  refine HC.out.mono ?_
  clear HC
  rintro e W2 ⟨rfl, hb2⟩
  have H2 := Lib.hid (And.intro (HB.out.1.trans (hb2.mono HB.out.1.size)) (And.intro (keep_heap HB.out.2.1 hb2) (keep_heap HB.out.2.2 hb2)))
  clear hb2 HB
  cases hmay : mayC c EA
  · have HW := Lib.hid (Or.inl (b := pid < 0) hmay)
    clear hmay
    go_wp2_with (with_reducible refine stop_op (o := ⟨_, .load 39 (.tmp 4), _, _, _, _⟩) ?_)
    refine Lib.hid ?_
    refine wpList_load_row (o := ⟨_, _, _, _, _, _⟩) rfl 39 (.tmp 4) rfl (w.heap.size + 1) rfl 39 frZ.toArray (0, 0) _ H2.out.2.1 Tryz.underlying39 rfl (infoFR rfl) ?_
    go_wp2_with (with_reducible refine stop_op (o := ⟨_, .store 39 (.tmp 4) (.tmp 13), _, _, _, _⟩) ?_)
    refine Lib.hid ?_
    refine wpList_store_row (o := ⟨none, _, _, _, _, _⟩) rfl 39 (.tmp 4) (.tmp 13) rfl (w.heap.size + 1) frZ.toArray rfl rfl 39 frZ.toArray H2.out.2.1 (infoFR rfl) rfl (all_oneCell_toArray frZ_one) ?_
    have hcF := chg_setRow W2 (w.heap.size + 1) frZ.toArray
    have HQ := Lib.hid (And.intro (setRow_heap W2 (w.heap.size + 1) _ frZ.toArray 39 (0, 0) H2.out.2.1) (H2.out.1.trans (hcF.below H2.out.1.size fun k hk => by have hk : k = w.heap.size + 1 := hk; omega)))
    clear hcF H2
    generalize W2.setRow (w.heap.size + 1) frZ.toArray = W3 at *
    go_wp2_with fail
    exact ret_row HQ.out.1 rfl Tryz.underlying39 rfl (infoFR rfl) rfl rfl ⟨HQ.out.2, .inr ⟨HW.out, rfl⟩⟩
  · by_cases hp : pid < 0
    · have HW := Lib.hid (Or.inr (a := mayC c EA = false) hp)
      have q1 : decide (pid < 0) = true := by simp [hp]
      clear hmay
      go_wp2_with (with_reducible refine stop_op (o := ⟨_, .load 39 (.tmp 4), _, _, _, _⟩) ?_)
      refine Lib.hid ?_
      refine wpList_load_row (o := ⟨_, _, _, _, _, _⟩) rfl 39 (.tmp 4) rfl (w.heap.size + 1) rfl 39 frZ.toArray (0, 0) _ H2.out.2.1 Tryz.underlying39 rfl (infoFR rfl) ?_
      go_wp2_with (with_reducible refine stop_op (o := ⟨_, .store 39 (.tmp 4) (.tmp 13), _, _, _, _⟩) ?_)
      refine Lib.hid ?_
      refine wpList_store_row (o := ⟨none, _, _, _, _, _⟩) rfl 39 (.tmp 4) (.tmp 13) rfl (w.heap.size + 1) frZ.toArray rfl rfl 39 frZ.toArray H2.out.2.1 (infoFR rfl) rfl (all_oneCell_toArray frZ_one) ?_
      have hcF := chg_setRow W2 (w.heap.size + 1) frZ.toArray
      have HQ := Lib.hid (And.intro (setRow_heap W2 (w.heap.size + 1) _ frZ.toArray 39 (0, 0) H2.out.2.1) (H2.out.1.trans (hcF.below H2.out.1.size fun k hk => by have hk : k = w.heap.size + 1 := hk; omega)))
      clear hcF H2
      generalize W2.setRow (w.heap.size + 1) frZ.toArray = W3 at *
      go_wp2_with fail
      exact ret_row HQ.out.1 rfl Tryz.underlying39 rfl (infoFR rfl) rfl rfl ⟨HQ.out.2, .inr ⟨HW.out, rfl⟩⟩
    · have HW := Lib.hid (And.intro hmay (Int.not_lt.1 hp))
      have q1 : decide (pid < 0) = false := by simp [hp]
      clear hmay hp
      have c0 : W2.cell? ⟨w.heap.size + 1, 0, none⟩ = some (.int .i8 0) := (cells_at H2.out.2.1 0 _ rfl).1
      have f0 : W2.frozen? ⟨w.heap.size + 1, 0, none⟩ = false := (cells_at H2.out.2.1 0 _ rfl).2
      have hc3 := chg_set (w := W2) (p := ⟨w.heap.size + 1, 0, none⟩) (.int .i8 2)
      have hq3 := set_at (i := 0) H2.out.2.1 (.int .i8 2)
      have H3 : Hid (Below w.heap.size w (W2.setCell ⟨w.heap.size + 1, 0, none⟩ (.int .i8 2)) ∧ (W2.setCell ⟨w.heap.size + 1, 0, none⟩ (.int .i8 2)).heap[w.heap.size + 1]? = some (.cells #[.int .i8 2, .int .i64 0, .int .i64 0, .slice none 0 0, .slice none 0 0, .slice none 0 0, .slice none 0 0, .int .i64 0, .int .i8 0, .int .i64 0, .int .i64 0, .int .i64 0, .int .i64 0, .int .i8 0, .int .i64 0, .string ⟨#[]⟩, .string ⟨#[]⟩, .slice none 0 0, .int .i8 0, .int .i64 0, .string ⟨#[]⟩, .string ⟨#[]⟩, .slice none 0 0, .int .i8 0, .int .i64 0, .string ⟨#[]⟩, .string ⟨#[]⟩, .slice none 0 0, .slice none 0 0, .int .i8 0, .int .i64 0, .int .i64 0, .slice none 0 0, .slice none 0 0, .slice none 0 0] 39 (0, 0)) ∧ (W2.setCell ⟨w.heap.size + 1, 0, none⟩ (.int .i8 2)).heap[w.heap.size]? = some (.cells #[.int .i8 c.id.k, .int .i64 c.id.n, .string c.id.s, .string c.id.u, .slice c.id.ao c.id.l.length c.id.cap, .int .i8 c.ki, .int .i8 c.re, .int .i64 c.sh, .string c.m, .string c.f, .slice c.ao c.an c.ac, .slice c.so c.sn c.sc] 28 (0, 0))) :=
        Lib.hid ⟨H2.out.1.trans (hc3.below H2.out.1.size fun k hk => by have hk : k = w.heap.size + 1 := hk; omega), hq3, hc3.heap H2.out.2.2 (by show ¬ w.heap.size = w.heap.size + 1; omega)⟩
      clear hc3 hq3
      go_wp2_with (with_reducible refine stop_op (o := ⟨_, .load 28 (.tmp 2), _, _, _, _⟩) ?_)
      refine Lib.hid ?_
      generalize W2.setCell ⟨w.heap.size + 1, 0, none⟩ (.int .i8 2) = W3 at *
      clear c0 f0 H2
      refine wpList_load_row (o := ⟨_, _, _, _, _, _⟩) rfl 28 (.tmp 2) rfl w.heap.size rfl 28 #[.int .i8 c.id.k, .int .i64 c.id.n, .string c.id.s, .string c.id.u, .slice c.id.ao c.id.l.length c.id.cap, .int .i8 c.ki, .int .i8 c.re, .int .i64 c.sh, .string c.m, .string c.f, .slice c.ao c.an c.ac, .slice c.so c.sn c.sc] (0, 0) _ H3.out.2.2 Tryz.underlying28 rfl (infoCH rfl) ?_
      go_wp2_with (with_reducible refine stop_op (o := ⟨_, .store 37 (.tmp 20) (.tmp 19), _, _, _, _⟩) ?_)
      refine Lib.hid ?_
      have hr := heap_new W3 (.cells #[.int .i8 c.id.k, .int .i64 c.id.n, .string c.id.s, .string c.id.u, .slice c.id.ao c.id.l.length c.id.cap, .int .i8 c.ki, .int .i8 c.re, .int .i64 c.sh, .string c.m, .string c.f, .slice c.ao c.an c.ac, .slice c.so c.sn c.sc, .int .i64 0] 64)
      have hb4 := (Below.refl W3.heap.size W3).alloc (Nat.le_refl _) (.cells #[.int .i8 c.id.k, .int .i64 c.id.n, .string c.id.s, .string c.id.u, .slice c.id.ao c.id.l.length c.id.cap, .int .i8 c.ki, .int .i8 c.re, .int .i64 c.sh, .string c.m, .string c.f, .slice c.ao c.an c.ac, .slice c.so c.sn c.sc, .int .i64 0] 64)
      generalize hrb : W3.heap.size = rb at *
      have hf4 := keep_heap H3.out.2.1 (hrb ▸ hb4)
      have hb5 := H3.out.1.trans (hb4.mono (by have := H3.out.1.size; omega))
      have hrl : w.heap.size + 2 ≤ rb := by
        have := heap_lt H3.out.2.1
        omega
      generalize W3.alloc (.cells #[.int .i8 c.id.k, .int .i64 c.id.n, .string c.id.s, .string c.id.u, .slice c.id.ao c.id.l.length c.id.cap, .int .i8 c.ki, .int .i8 c.re, .int .i64 c.sh, .string c.m, .string c.f, .slice c.ao c.an c.ac, .slice c.so c.sn c.sc, .int .i64 0] 64) = W4 at *
      have hth : W4.there (w.heap.size + 1) 8 27 := fun j hj => by
        have hi : 8 + j < (#[.int .i8 2, .int .i64 0, .int .i64 0, .slice none 0 0, .slice none 0 0, .slice none 0 0, .slice none 0 0, .int .i64 0, .int .i8 0, .int .i64 0, .int .i64 0, .int .i64 0, .int .i64 0, .int .i8 0, .int .i64 0, .string ⟨#[]⟩, .string ⟨#[]⟩, .slice none 0 0, .int .i8 0, .int .i64 0, .string ⟨#[]⟩, .string ⟨#[]⟩, .slice none 0 0, .int .i8 0, .int .i64 0, .string ⟨#[]⟩, .string ⟨#[]⟩, .slice none 0 0, .slice none 0 0, .int .i8 0, .int .i64 0, .int .i64 0, .slice none 0 0, .slice none 0 0, .slice none 0 0] : Array Value).size := by show 8 + j < 35; omega
        have := cells_at hf4 (8 + j) _ (Array.getElem?_eq_getElem hi)
        exact ⟨by rw [this.1]; rfl, this.2⟩
      refine wpList_store_mid (op := ⟨none, _, _, _, _, _⟩) rfl 37 (.tmp 20) (.tmp 19) rfl (w.heap.size + 1) 8 #[.int .i8 0, .int .i64 pid, .int .i64 0, .int .i64 (-2), .int .i64 0, .int .i8 0, .int .i64 0, .string ⟨#[]⟩, .string ⟨#[]⟩, .slice none 0 0, .int .i8 0, .int .i64 0, .string ⟨#[]⟩, .string ⟨#[]⟩, .slice none 0 0, .int .i8 0, .int .i64 0, .string ⟨#[]⟩, .string ⟨#[]⟩, .slice none 0 0, .slice (some ⟨rb, 0, none⟩) 1 1, .int .i8 0, .int .i64 0, .int .i64 0, .slice none 0 0, .slice none 0 0, .slice none 0 0] rfl rfl hth (infoMA rfl) (by simp [Value.oneCell']) ?_
      have hc6 := chg_cells (#[.int .i8 0, .int .i64 pid, .int .i64 0, .int .i64 (-2), .int .i64 0, .int .i8 0, .int .i64 0, .string ⟨#[]⟩, .string ⟨#[]⟩, .slice none 0 0, .int .i8 0, .int .i64 0, .string ⟨#[]⟩, .string ⟨#[]⟩, .slice none 0 0, .int .i8 0, .int .i64 0, .string ⟨#[]⟩, .string ⟨#[]⟩, .slice none 0 0, .slice (some ⟨rb, 0, none⟩) 1 1, .int .i8 0, .int .i64 0, .int .i64 0, .slice none 0 0, .slice none 0 0, .slice none 0 0] : Array Value).toList (w.heap.size + 1) 8 W4
      have hf6 := setRow_cells (#[.int .i8 0, .int .i64 pid, .int .i64 0, .int .i64 (-2), .int .i64 0, .int .i8 0, .int .i64 0, .string ⟨#[]⟩, .string ⟨#[]⟩, .slice none 0 0, .int .i8 0, .int .i64 0, .string ⟨#[]⟩, .string ⟨#[]⟩, .slice none 0 0, .int .i8 0, .int .i64 0, .string ⟨#[]⟩, .string ⟨#[]⟩, .slice none 0 0, .slice (some ⟨rb, 0, none⟩) 1 1, .int .i8 0, .int .i64 0, .int .i64 0, .slice none 0 0, .slice none 0 0, .slice none 0 0] : Array Value).toList 8 hf4
      have e6 : setL (#[.int .i8 2, .int .i64 0, .int .i64 0, .slice none 0 0, .slice none 0 0, .slice none 0 0, .slice none 0 0, .int .i64 0, .int .i8 0, .int .i64 0, .int .i64 0, .int .i64 0, .int .i64 0, .int .i8 0, .int .i64 0, .string ⟨#[]⟩, .string ⟨#[]⟩, .slice none 0 0, .int .i8 0, .int .i64 0, .string ⟨#[]⟩, .string ⟨#[]⟩, .slice none 0 0, .int .i8 0, .int .i64 0, .string ⟨#[]⟩, .string ⟨#[]⟩, .slice none 0 0, .slice none 0 0, .int .i8 0, .int .i64 0, .int .i64 0, .slice none 0 0, .slice none 0 0, .slice none 0 0] : Array Value).toList 8 (#[.int .i8 0, .int .i64 pid, .int .i64 0, .int .i64 (-2), .int .i64 0, .int .i8 0, .int .i64 0, .string ⟨#[]⟩, .string ⟨#[]⟩, .slice none 0 0, .int .i8 0, .int .i64 0, .string ⟨#[]⟩, .string ⟨#[]⟩, .slice none 0 0, .int .i8 0, .int .i64 0, .string ⟨#[]⟩, .string ⟨#[]⟩, .slice none 0 0, .slice (some ⟨rb, 0, none⟩) 1 1, .int .i8 0, .int .i64 0, .int .i64 0, .slice none 0 0, .slice none 0 0, .slice none 0 0] : Array Value).toList = frL (mc0 pid rb) := setL_mid (#[.int .i8 0, .int .i64 pid, .int .i64 0, .int .i64 (-2), .int .i64 0, .int .i8 0, .int .i64 0, .string ⟨#[]⟩, .string ⟨#[]⟩, .slice none 0 0, .int .i8 0, .int .i64 0, .string ⟨#[]⟩, .string ⟨#[]⟩, .slice none 0 0, .int .i8 0, .int .i64 0, .string ⟨#[]⟩, .string ⟨#[]⟩, .slice none 0 0, .slice (some ⟨rb, 0, none⟩) 1 1, .int .i8 0, .int .i64 0, .int .i64 0, .slice none 0 0, .slice none 0 0, .slice none 0 0] : Array Value).toList [.int .i8 0, .int .i64 0, .int .i64 0, .int .i64 0, .int .i64 0, .int .i8 0, .int .i64 0, .string ⟨#[]⟩, .string ⟨#[]⟩, .slice none 0 0, .int .i8 0, .int .i64 0, .string ⟨#[]⟩, .string ⟨#[]⟩, .slice none 0 0, .int .i8 0, .int .i64 0, .string ⟨#[]⟩, .string ⟨#[]⟩, .slice none 0 0, .slice none 0 0, .int .i8 0, .int .i64 0, .int .i64 0, .slice none 0 0, .slice none 0 0, .slice none 0 0] [.int .i8 2, .int .i64 0, .int .i64 0, .slice none 0 0, .slice none 0 0, .slice none 0 0, .slice none 0 0, .int .i64 0] [] rfl
      rw [e6] at hf6
      have hb6 := hb5.trans (hc6.below hb5.size fun k hk => by have hk : k = w.heap.size + 1 := hk; omega)
      have hr6 := hc6.heap hr (by show ¬ rb = w.heap.size + 1; omega)
      have H6 := Lib.hid (And.intro hb6 (And.intro hf6 hr6))
      have HRB := Lib.hid hrl
      clear e6 hb6 hr6 hf6 hc6 hth hf4 hb5 hr hb4 hrl hrb H3
      generalize W4.setCells (w.heap.size + 1) 8 (#[.int .i8 0, .int .i64 pid, .int .i64 0, .int .i64 (-2), .int .i64 0, .int .i8 0, .int .i64 0, .string ⟨#[]⟩, .string ⟨#[]⟩, .slice none 0 0, .int .i8 0, .int .i64 0, .string ⟨#[]⟩, .string ⟨#[]⟩, .slice none 0 0, .int .i8 0, .int .i64 0, .string ⟨#[]⟩, .string ⟨#[]⟩, .slice none 0 0, .slice (some ⟨rb, 0, none⟩) 1 1, .int .i8 0, .int .i64 0, .int .i64 0, .slice none 0 0, .slice none 0 0, .slice none 0 0] : Array Value).toList = W6 at *
      go_wp2_with (with_reducible refine stop_op (o := ⟨_, .load 39 (.tmp 4), _, _, _, _⟩) ?_)
      refine Lib.hid ?_
      refine wpList_load_row (o := ⟨_, _, _, _, _, _⟩) rfl 39 (.tmp 4) rfl (w.heap.size + 1) rfl 39 (frL (mc0 pid rb)).toArray (0, 0) _ H6.out.2.1 Tryz.underlying39 rfl (infoFR rfl) ?_
      go_wp2_with (with_reducible refine stop_op (o := ⟨_, .store 39 (.tmp 4) (.tmp 21), _, _, _, _⟩) ?_)
      refine Lib.hid ?_
      refine wpList_store_row (o := ⟨none, _, _, _, _, _⟩) rfl 39 (.tmp 4) (.tmp 21) rfl (w.heap.size + 1) (frL (mc0 pid rb)).toArray rfl rfl 39 (frL (mc0 pid rb)).toArray H6.out.2.1 (infoFR rfl) rfl (all_oneCell_toArray (frL_one _)) ?_
      have hcF := chg_setRow W6 (w.heap.size + 1) (frL (mc0 pid rb)).toArray
      have hbF := H6.out.1.trans (hcF.below H6.out.1.size fun k hk => by have hk : k = w.heap.size + 1 := hk; omega)
      have HQ := Lib.hid (setRow_heap W6 (w.heap.size + 1) _ (frL (mc0 pid rb)).toArray 39 (0, 0) H6.out.2.1)
      have hMK : McOk M (W6.setRow (w.heap.size + 1) (frL (mc0 pid rb)).toArray) (mc0 pid rb) c EA := ⟨by simp [mc0], numT_ok _ _ _ _ (by omega) (by omega), numT_ok _ _ _ _ (by omega) (by omega), numT_ok _ _ _ _ (by omega) (by omega), hcF.heap H6.out.2.2 (by have := HRB.out; show ¬ rb = w.heap.size + 1; omega), fun e => by have h1 : rb < w.heap.size := HX.out.1 _ e; have := HRB.out; omega, HX.out.2.2.1.keep hbF, HX.out.2.2.2⟩
      have HP : Hid (NwP M w c EA pid (.returned (.tuple #[.agg (frL (mc0 pid rb)).toArray, .int .i64 0])) (W6.setRow (w.heap.size + 1) (frL (mc0 pid rb)).toArray)) := Lib.hid ⟨hbF, .inl ⟨HW.out.1, HW.out.2, rb, rfl, by have := HRB.out; omega, hMK⟩⟩
      clear hcF hbF hMK H6
      generalize W6.setRow (w.heap.size + 1) (frL (mc0 pid rb)).toArray = W7 at *
      go_wp2_with fail
      exact ret_row HQ.out rfl Tryz.underlying39 rfl (infoFR rfl) rfl rfl HP.out
/-- does a server's frame tell a state? -/
def stB (m : Mc) : Bool := decide (2 ≤ m.ph) && decide (m.ph ≤ 6)
def stT (m : Mc) : TE := if stB m then m.V else numT 0 0
def SsP (w : World) (m : Mc) (e : Ending) (w' : World) : Prop := e = .returned (.tuple #[.agg (stT m).cells.toArray, .bool (stB m)]) ∧ Below w.heap.size w w'
set_option maxHeartbeats 8000000 in
theorem state_any (w : World) (m : Mc) : Calls Tryz.prog 10 #[.agg (frL m).toArray] w (SsP w m) := by
  have hb1 := ((Below.refl w.heap.size w).alloc (Nat.le_refl _) (.cells (frL m).toArray 39)).alloc (by simp) (.cells zT 25)
  have z1 := heap_old (heap_new w (.cells (frL m).toArray 39)) (.cells zT 25)
  have z2 := heap_new (w.alloc (.cells (frL m).toArray 39)) (.cells zT 25)
  rw [World.size_alloc] at z2
  have HB := Lib.hid (And.intro hb1 (And.intro z1 z2))
  have c0 : ((w.alloc (.cells (frL m).toArray 39)).alloc (.cells zT 25)).cell? ⟨w.heap.size, 0, none⟩ = some (.int .i8 2) := (cells_at z1 0 _ rfl).1
  have c8 : ((w.alloc (.cells (frL m).toArray 39)).alloc (.cells zT 25)).cell? ⟨w.heap.size, 8, none⟩ = some (.int .i8 m.ph) := (cells_at z1 8 _ rfl).1
  have v0 : ((w.alloc (.cells (frL m).toArray 39)).alloc (.cells zT 25)).cell? ⟨w.heap.size, 23, none⟩ = some (.int .i8 m.V.k) := (cells_at z1 23 _ rfl).1
  have v1 : ((w.alloc (.cells (frL m).toArray 39)).alloc (.cells zT 25)).cell? ⟨w.heap.size, 24, none⟩ = some (.int .i64 m.V.n) := (cells_at z1 24 _ rfl).1
  have v2 : ((w.alloc (.cells (frL m).toArray 39)).alloc (.cells zT 25)).cell? ⟨w.heap.size, 25, none⟩ = some (.string m.V.s) := (cells_at z1 25 _ rfl).1
  have v3 : ((w.alloc (.cells (frL m).toArray 39)).alloc (.cells zT 25)).cell? ⟨w.heap.size, 26, none⟩ = some (.string m.V.u) := (cells_at z1 26 _ rfl).1
  have v4 : ((w.alloc (.cells (frL m).toArray 39)).alloc (.cells zT 25)).cell? ⟨w.heap.size, 27, none⟩ = some (.slice m.V.ao m.V.l.length m.V.cap) := (cells_at z1 27 _ rfl).1
  obtain ⟨t0, t1, t2, t3, t4⟩ := BxS.of (x := numT 0 0) z2
  clear hb1 z1 z2
  go_enter Tryz.func10, Tryz.ntmps10
  by_cases h2 : m.ph < 2
  · have HE := Lib.hid (show stB m = false by simp [stB]; omega)
    have q1 : decide (m.ph < 2) = true := by simp [h2]
    clear h2
    go_wp2_with (with_reducible refine stop_op (o := ⟨_, .store 25 (.tmp 2) (.tmp 19), _, _, _, _⟩) ?_)
    refine Lib.hid ?_
    generalize (w.alloc (.cells (frL m).toArray 39)).alloc (.cells zT 25) = W1 at *
    refine wpList_store_row (o := ⟨none, _, _, _, _, _⟩) rfl 25 (.tmp 2) (.tmp 19) rfl (w.heap.size + 1) zT rfl rfl 25 zT HB.out.2.2 (infoTM' _ rfl) rfl (by simp [Value.oneCell', numT]) ?_
    have hcF := chg_setRow W1 (w.heap.size + 1) zT
    have HQ := Lib.hid (And.intro (setRow_heap W1 (w.heap.size + 1) _ zT 25 (0, 0) HB.out.2.2) (HB.out.1.trans (hcF.below HB.out.1.size fun k hk => by have hk : k = w.heap.size + 1 := hk; omega)))
    clear hcF HB
    generalize W1.setRow (w.heap.size + 1) zT = W2 at *
    go_wp2_with fail
    refine ret_row HQ.out.1 rfl Tryz.underlying25 rfl (infoTM' _ rfl) rfl rfl ⟨?_, HQ.out.2⟩
    unfold stT
    rw [HE.out]
    rfl
  · by_cases h6 : 6 < m.ph
    · have HE := Lib.hid (show stB m = false by simp [stB]; omega)
      have q1 : decide (m.ph < 2) = false := by simp [h2]
      have q2 : decide (6 < m.ph) = true := by simp [h6]
      clear h2 h6
      go_wp2_with (with_reducible refine stop_op (o := ⟨_, .store 25 (.tmp 2) (.tmp 19), _, _, _, _⟩) ?_)
      refine Lib.hid ?_
      generalize (w.alloc (.cells (frL m).toArray 39)).alloc (.cells zT 25) = W1 at *
      refine wpList_store_row (o := ⟨none, _, _, _, _, _⟩) rfl 25 (.tmp 2) (.tmp 19) rfl (w.heap.size + 1) zT rfl rfl 25 zT HB.out.2.2 (infoTM' _ rfl) rfl (by simp [Value.oneCell', numT]) ?_
      have hcF := chg_setRow W1 (w.heap.size + 1) zT
      have HQ := Lib.hid (And.intro (setRow_heap W1 (w.heap.size + 1) _ zT 25 (0, 0) HB.out.2.2) (HB.out.1.trans (hcF.below HB.out.1.size fun k hk => by have hk : k = w.heap.size + 1 := hk; omega)))
      clear hcF HB
      generalize W1.setRow (w.heap.size + 1) zT = W2 at *
      go_wp2_with fail
      refine ret_row HQ.out.1 rfl Tryz.underlying25 rfl (infoTM' _ rfl) rfl rfl ⟨?_, HQ.out.2⟩
      unfold stT
      rw [HE.out]
      rfl
    · have HE := Lib.hid (show stB m = true by simp [stB]; omega)
      have q1 : decide (m.ph < 2) = false := by simp [h2]
      have q2 : decide (6 < m.ph) = false := by simp [h6]
      clear h2 h6
      go_wp2_with (with_reducible refine stop_op (o := ⟨_, .store 25 (.tmp 2) (.tmp 22), _, _, _, _⟩) ?_)
      refine Lib.hid ?_
      generalize (w.alloc (.cells (frL m).toArray 39)).alloc (.cells zT 25) = W1 at *
      refine wpList_store_row (o := ⟨none, _, _, _, _, _⟩) rfl 25 (.tmp 2) (.tmp 22) rfl (w.heap.size + 1) #[.int .i8 m.V.k, .int .i64 m.V.n, .string m.V.s, .string m.V.u, .slice m.V.ao m.V.l.length m.V.cap] rfl rfl 25 zT HB.out.2.2 (infoTM' _ rfl) rfl (by simp [Value.oneCell', numT]) ?_
      have hcF := chg_setRow W1 (w.heap.size + 1) #[.int .i8 m.V.k, .int .i64 m.V.n, .string m.V.s, .string m.V.u, .slice m.V.ao m.V.l.length m.V.cap]
      have HQ := Lib.hid (And.intro (setRow_heap W1 (w.heap.size + 1) _ #[.int .i8 m.V.k, .int .i64 m.V.n, .string m.V.s, .string m.V.u, .slice m.V.ao m.V.l.length m.V.cap] 25 (0, 0) HB.out.2.2) (HB.out.1.trans (hcF.below HB.out.1.size fun k hk => by have hk : k = w.heap.size + 1 := hk; omega)))
      clear hcF HB
      generalize W1.setRow (w.heap.size + 1) #[.int .i8 m.V.k, .int .i64 m.V.n, .string m.V.s, .string m.V.u, .slice m.V.ao m.V.l.length m.V.cap] = W2 at *
      go_wp2_with fail
      refine ret_row HQ.out.1 rfl Tryz.underlying25 rfl (infoTM' _ rfl) rfl rfl ⟨?_, HQ.out.2⟩
      unfold stT
      rw [HE.out]
      rfl
end Go.Proofs.YthpmdeofdlcccaaGreatDoor
