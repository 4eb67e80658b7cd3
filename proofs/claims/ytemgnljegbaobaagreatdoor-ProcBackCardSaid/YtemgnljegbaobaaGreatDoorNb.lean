/- frame.own of any frame. Conditions: its rows read and are not too long. -/
import Derived.Test.YtemgnljegbaobaaGreatDoorNa
namespace Go.Proofs.YtemgnljegbaobaaGreatDoor
open Go.ChangeShapes Go.WideShapes Go.ChangeAt Go.RowKit
set_option linter.unusedVariables false
set_option linter.unusedSimpArgs false
set_option maxRecDepth 100000
abbrev nS : Value := .slice none 0 0
abbrev zI : Value := .int .i64 0
abbrev z8 : Value := .int .i8 0
abbrev zS : Value := .string ⟨#[]⟩
/-- the cells of a frame of nothing -/
abbrev fr0L : Array Value := #[z8, zI, zI, nS, nS, nS, nS, zI, z8, zI, zI, zI, zI, z8, zI, zS, zS, nS, z8, zI, zS, zS, nS, z8, zI, zS, zS, nS, nS, z8, zI, zI, nS, nS, nS]
def fr0 : Array Value := fr0L
theorem infoFR {cs : Array Value} (h : cs.size = 35) : (Tryz.prog.info? 65).map (·.size) = some cs.size := by
  have : (Tryz.prog.info? 65).map (·.size) = some 35 := by kernel_rfl
  rw [this, h]
/-- what a frame's rows hold -/
structure Fx where
  (n3 n4 n5 n6 n28 n33 n34 : Nat)
  (x3 x4 x5 x6 x28 x33 x34 : List Value)
structure Fx.ok (X : Fx) : Prop where
  h3 : X.n3 ≤ 100000
  h4 : X.n4 ≤ 100000
  h5 : X.n5 ≤ 100000
  h6 : X.n6 ≤ 100000
  h28 : X.n28 ≤ 100000
  h33 : X.n33 ≤ 100000
  h34 : X.n34 ≤ 100000
structure FrX (w : World) (cs : Array Value) (X : Fx) : Prop where
  size : cs.size = 35
  one : cs.all (·.oneCell') = true
  r3 : ∃ v, cs[3]? = some v ∧ Rw w v X.n3 5 X.x3
  r4 : ∃ v, cs[4]? = some v ∧ Rw w v X.n4 1 X.x4
  r5 : ∃ v, cs[5]? = some v ∧ Rw w v X.n5 5 X.x5
  r6 : ∃ v, cs[6]? = some v ∧ Rw w v X.n6 2 X.x6
  r28 : ∃ v, cs[28]? = some v ∧ Rw w v X.n28 13 X.x28
  r33 : ∃ v, cs[33]? = some v ∧ Rw w v X.n33 1 X.x33
  r34 : ∃ v, cs[34]? = some v ∧ Rw w v X.n34 1 X.x34
theorem rw_keep_ex {w w' : World} {o : Option Value} {n size : Nat} {xs : List Value} (hb : Below w.heap.size w w') : (∃ v, o = some v ∧ Rw w v n size xs) → ∃ v, o = some v ∧ Rw w' v n size xs :=
  fun ⟨v, e, h⟩ => ⟨v, e, h.keep hb⟩
theorem FrX.keep {w w' : World} {cs : Array Value} {X : Fx} (h : FrX w cs X) (hb : Below w.heap.size w w') : FrX w' cs X :=
  ⟨h.size, h.one, rw_keep_ex hb h.r3, rw_keep_ex hb h.r4, rw_keep_ex hb h.r5, rw_keep_ex hb h.r6, rw_keep_ex hb h.r28, rw_keep_ex hb h.r33, rw_keep_ex hb h.r34⟩
/-- the places of a frame's rows -/
def frRows : List Nat := [3, 4, 5, 6, 28, 33, 34]
/-- none of a frame's rows lies in block k, but empty ones -/
def FrN (k : Nat) (cs : Array Value) : Prop := ∀ i ∈ frRows, ∀ v : Value, cs[i]? = some v → v.ownBlock = some k → lenS v = 0
theorem rw_chg_ex {S : Nat → Prop} {w w' : World} {cs : Array Value} {i n size : Nat} {xs : List Value} (hc : Chg S w w') (hs : ∀ k, S k → FrN k cs) (hi : i ∈ frRows) : (∃ v, cs[i]? = some v ∧ Rw w v n size xs) → ∃ v, cs[i]? = some v ∧ Rw w' v n size xs :=
  fun ⟨v, e, h⟩ => ⟨v, e, h.chg hc fun k hk hS => hs k hS i hi v e hk⟩
theorem FrX.chg {S : Nat → Prop} {w w' : World} {cs : Array Value} {X : Fx} (h : FrX w cs X) (hc : Chg S w w') (hs : ∀ k, S k → FrN k cs) : FrX w' cs X :=
  ⟨h.size, h.one, rw_chg_ex hc hs (by decide) h.r3, rw_chg_ex hc hs (by decide) h.r4, rw_chg_ex hc hs (by decide) h.r5, rw_chg_ex hc hs (by decide) h.r6, rw_chg_ex hc hs (by decide) h.r28, rw_chg_ex hc hs (by decide) h.r33, rw_chg_ex hc hs (by decide) h.r34⟩
theorem FrX.old {w : World} {cs : Array Value} {X : Fx} (h : FrX w cs X) {k : Nat} (hk : w.heap.size ≤ k) : FrN k cs := by
  intro i hi v hv hb
  have go : ∀ {n size : Nat} {xs : List Value}, 0 < size → (∃ v, cs[i]? = some v ∧ Rw w v n size xs) → lenS v = 0 := fun hz ⟨v', e, h⟩ => by
    obtain rfl := Option.some.inj (e.symm.trans hv)
    exact h.old hz hb hk
  simp only [frRows, List.mem_cons, List.not_mem_nil, or_false] at hi
  rcases hi with rfl | rfl | rfl | rfl | rfl | rfl | rfl
  · exact go (by decide) h.r3
  · exact go (by decide) h.r4
  · exact go (by decide) h.r5
  · exact go (by decide) h.r6
  · exact go (by decide) h.r28
  · exact go (by decide) h.r33
  · exact go (by decide) h.r34
/-- two frames that differ in their rows alone -/
def SBR (cs cs' : Array Value) : Prop := ∀ i, i ≠ 3 → i ≠ 4 → i ≠ 5 → i ≠ 6 → i ≠ 28 → i ≠ 33 → i ≠ 34 → cs'[i]? = cs[i]?
theorem SBR.trans {a b c : Array Value} (h : SBR a b) (k : SBR b c) : SBR a c := fun i h1 h2 h3 h4 h5 h6 h7 => (k i h1 h2 h3 h4 h5 h6 h7).trans (h i h1 h2 h3 h4 h5 h6 h7)
theorem all_set {p : Value → Bool} {cs : Array Value} {i : Nat} {v : Value} (h : cs.all p = true) (hv : p v = true) : (cs.setIfInBounds i v).all p = true := by
  rw [Array.all_eq_true] at h ⊢
  intro j hj
  have hj' : j < cs.size := by simpa using hj
  rw [Array.getElem_setIfInBounds]
  split
  · exact hv
  · exact h j hj'
/-- a row of the call's own -/
structure Ow where
  (e size n : Nat)
  v : Value
  xs : List Value
/-- two boxes: a frame, a frame of nothing; and rows of the call's own behind them -/
structure Fr2 (w W : World) (cs : Array Value) (L : List Ow) : Prop where
  hb : Below w.heap.size w W
  hX : W.heap[w.heap.size]? = some (.cells cs 65 (0, 0))
  hY : W.heap[w.heap.size + 1]? = some (.cells fr0L 65 (0, 0))
  hs : w.heap.size + 2 ≤ W.heap.size
  hO : ∀ o ∈ L, W.ownsRow (w.heap.size + 2) o.e o.size o.v o.n o.xs
theorem Fr2.keep {w W W' : World} {cs : Array Value} {L : List Ow} (h : Fr2 w W cs L) (hb : Below W.heap.size W W') : Fr2 w W' cs L :=
  ⟨h.hb.trans (hb.mono h.hb.size), keep_heap h.hX hb, keep_heap h.hY hb, Nat.le_trans h.hs hb.size, fun o ho => own_keep (h.hO o ho) hb⟩
theorem Fr2.more {w W : World} {cs : Array Value} {L : List Ow} (h : Fr2 w W cs L) (o : Ow) (ho : W.ownsRow (w.heap.size + 2) o.e o.size o.v o.n o.xs) : Fr2 w W cs (o :: L) :=
  ⟨h.hb, h.hX, h.hY, h.hs, fun q hq => (List.mem_cons.1 hq).elim (fun e => e ▸ ho) (h.hO q)⟩
theorem Fr2.set {w W : World} {cs : Array Value} {L : List Ow} (h : Fr2 w W cs L) (i : Nat) (v : Value) : Fr2 w (W.setCell ⟨w.heap.size, i, none⟩ v) (cs.setIfInBounds i v) L := by
  have hc := chg_set (w := W) (p := ⟨w.heap.size, i, none⟩) v
  refine ⟨h.hb.trans (hc.below (B := w.heap.size) h.hb.size (fun k e => by have e : k = w.heap.size := e; omega)), set_at h.hX v, hc.heap h.hY (fun e => by have e : w.heap.size + 1 = w.heap.size := e; omega), Nat.le_trans h.hs hc.size, fun o ho => own_chg (h.hO o ho) hc fun k hk e => ?_⟩
  have := own_base (h.hO o ho) k hk
  have e : k = w.heap.size := e
  omega
theorem Fr2.shut {w W : World} {cs : Array Value} {L : List Ow} (h : Fr2 w W cs L) (cs' : Array Value) :
    (W.setRow (w.heap.size + 1) cs').heap[w.heap.size + 1]? = some (.cells cs' 65 (0, 0)) ∧ Below w.heap.size w (W.setRow (w.heap.size + 1) cs') ∧ ∀ o ∈ L, (W.setRow (w.heap.size + 1) cs').ownsRow (w.heap.size + 2) o.e o.size o.v o.n o.xs := by
  have hE := chg_setRow W (w.heap.size + 1) cs'
  refine ⟨setRow_heap W (w.heap.size + 1) fr0L cs' 65 (0, 0) h.hY, bel_setRow h.hb h.hb.size (by omega) cs', fun o ho => own_chg (h.hO o ho) hE fun k hk e => ?_⟩
  have := own_base (h.hO o ho) k hk
  have e : k = w.heap.size + 1 := e
  omega
def Any0 (W : World) : Prop := True
def FS4 (x i j k l : Nat) (a b c d : Value) (W : World) : Prop := W.cell? ⟨x, i, none⟩ = some a ∧ W.cell? ⟨x, j, none⟩ = some b ∧ W.cell? ⟨x, k, none⟩ = some c ∧ W.cell? ⟨x, l, none⟩ = some d
theorem FS4.keep {x i j k l : Nat} {a b c d : Value} {W W' : World} (h : FS4 x i j k l a b c d W) (hb : Below W.heap.size W W') : FS4 x i j k l a b c d W' :=
  ⟨keep_cell h.1 hb, keep_cell h.2.1 hb, keep_cell h.2.2.1 hb, keep_cell h.2.2.2 hb⟩
theorem ret_cell {P : Program} {fn : Func} {R : Ending → World → Prop} {tmps : Array Value} {w : World} {g p : Nat} {ty t : TypeId} {fr : Nat × Nat} {d : TypeDesc} {cs : Array Value} (hg : w.heap[g]? = some (.cells cs t fr)) (hfn : fn.results = #[.cell p ty])
    (hu : P.underlying ty = some d) (hd : (match d with | .struct _ | .array _ _ => true | _ => false) = true) (hi : (P.info? ty).map (·.size) = some cs.size)
    (hp : tmps.getD p undef = .pointer (some ⟨g, 0, none⟩)) (hpost : R (.returned (.agg cs)) w) : bodyPost P fn R .ret { tmps := tmps, defers := [] } w := by
  refine bodyPost_ret (v := .agg cs) ?_ rfl hpost
  have hl := run_loadVar_row (P := P) w g t ty cs fr d hg hu hd hi
  unfold results
  rw [hfn]
  simp only [Array.getD_eq_getD_getElem?] at hp
  simp [asAddr, hp, hl]
def OwnP (w : World) (cs : Array Value) (X : Fx) (e : Ending) (w' : World) : Prop := ∃ cs', e = .returned (.agg cs') ∧ FrX w' cs' X ∧ SBR cs cs' ∧ Below w.heap.size w w' ∧ ∀ k, k < w.heap.size → FrN k cs'
theorem rw_one {w : World} {base e size n : Nat} {v : Value} {xs : List Value} (h : w.ownsRow base e size v n xs) : v.oneCell' = true := by
  obtain ⟨ao, c, rfl⟩ := own_slice h
  rfl
set_option maxHeartbeats 16000000 in
theorem own_any (w : World) (cs : Array Value) (X : Fx) (h : FrX w cs X) (hX : X.ok) : Calls Tryz.prog 102 #[.agg cs] w (OwnP w cs X) := by
  obtain ⟨hsize, hone, ⟨v3, g3, r3⟩, ⟨v4, g4, r4⟩, ⟨v5, g5, r5⟩, ⟨v6, g6, r6⟩, ⟨v28, g28, r28⟩, ⟨v33, g33, r33⟩, ⟨v34, g34, r34⟩⟩ := h
  have HR := Lib.hid (And.intro r3 (And.intro r4 (And.intro r5 (And.intro r6 (And.intro r28 (And.intro r33 (And.intro r34 hone)))))))
  have o3 : ∀ W : World, W.ownsRow (w.heap.size + 2) 31 5 (.slice none 0 0) 0 [] := fun W => ⟨rfl, .inl ⟨rfl, rfl⟩⟩
  clear r3 r4 r5 r6 r28 r33 r34 hone o3
  have g4' : ∀ a, (cs.setIfInBounds 3 a)[4]? = some v4 := fun a => by rw [Array.getElem?_setIfInBounds_ne (by decide), g4]
  have g5' : ∀ a b, ((cs.setIfInBounds 3 a).setIfInBounds 4 b)[5]? = some v5 := fun a b => by rw [Array.getElem?_setIfInBounds_ne (by decide), Array.getElem?_setIfInBounds_ne (by decide), g5]
  have g6' : ∀ a b c, (((cs.setIfInBounds 3 a).setIfInBounds 4 b).setIfInBounds 5 c)[6]? = some v6 := fun a b c => by rw [Array.getElem?_setIfInBounds_ne (by decide), Array.getElem?_setIfInBounds_ne (by decide), Array.getElem?_setIfInBounds_ne (by decide), g6]
  have hb2 := ((Below.refl w.heap.size w).alloc (Nat.le_refl _) (.cells cs 65)).alloc (by simp) (.cells fr0L 65)
  have hX0 := heap_old (heap_new w (.cells cs 65)) (.cells fr0L 65)
  have hY := heap_new (w.alloc (.cells cs 65)) (.cells fr0L 65)
  have hs1 : (w.alloc (.cells cs 65)).heap.size = w.heap.size + 1 := by simp
  rw [hs1] at hY
  have hs2 : w.heap.size + 2 ≤ ((w.alloc (.cells cs 65)).alloc (.cells fr0L 65)).heap.size := by simp
  have H2 := Lib.hid (show Fr2 w ((w.alloc (.cells cs 65)).alloc (.cells fr0L 65)) cs [] from ⟨hb2, hX0, hY, hs2, fun o ho => by cases ho⟩)
  clear hb2 hX0 hY hs1 hs2
  go_enter Tryz.func102, Tryz.ntmps102
  go_wp2_with fail
  generalize (w.alloc (.cells cs 65)).alloc (.cells fr0L 65) = W2 at *
  have hd := (Below.refl W2.heap.size W2).drew
  have H3 := Lib.hid (H2.out.keep hd)
  have hS : FS4 w.heap.size 3 4 5 6 v3 v4 v5 v6 W2.drew := ⟨(cells_at H3.out.hX 3 _ g3).1, (cells_at H3.out.hX 4 _ g4).1, (cells_at H3.out.hX 5 _ g5).1, (cells_at H3.out.hX 6 _ g6).1⟩
  clear hd H2
  refine region_planD [13, 15, 17, 19] (FS4 w.heap.size 3 4 5 6 v3 v4 v5 v6) [(0, 0), (1, 0), (3, 0), (4, 0), (6, 0), (7, 0), (9, 0), (10, 0), (2, 1), (12, 0), (5, 1), (8, 1), (11, 1), (13, 1), (14, 0), (15, 1), (16, 0), (17, 1), (18, 0), (19, 1)] (by kernel_rfl) (by kernel_rfl) (by kernel_rfl) hS ?_
  generalize W2.drew = W3 at *
  iterate 8 (first | (refine planD_skip rfl ?_ ?_; (focus (rfl)); (try simp only [Act.put, List.setIfInBounds_toArray, List.set_cons_zero, List.set_cons_succ])) | (refine planD_take (v := ?_) rfl ?_ (fun w hSw => ?_) ?_; rotate_left; (focus (rfl)); (focus (unfold FS4 at hSw; (go_simp <;> with_reducible rfl))); (try simp only [Act.put, List.setIfInBounds_toArray, List.set_cons_zero, List.set_cons_succ])))
  refine planD_run rfl ?_ (fun K hK => ?_)
  focus (rfl)
  go_simp
  refine (cloneT_any _ _ _ _ (HR.out.1.keep H3.out.hb) hX.h3).mono ?_
  rintro e w21 ⟨v21, rfl, O21, hb21⟩
  obtain ⟨a21, c21, rfl⟩ := own_slice O21
  have hS21 := hS.keep hb21
  have H4 := Lib.hid ((H3.out.keep hb21).more ⟨_, _, _, _, _⟩ (own_lower O21 H3.out.hs))
  clear H3 hS O21
  refine hK.out _ _ hS21 ?_
  clear hK K 
  (try simp only [Act.put, List.setIfInBounds_toArray, List.set_cons_zero, List.set_cons_succ])
  iterate 1 (first | (refine planD_skip rfl ?_ ?_; (focus (rfl)); (try simp only [Act.put, List.setIfInBounds_toArray, List.set_cons_zero, List.set_cons_succ])) | (refine planD_take (v := ?_) rfl ?_ (fun w hSw => ?_) ?_; rotate_left; (focus (rfl)); (focus (unfold FS4 at hSw; (go_simp <;> with_reducible rfl))); (try simp only [Act.put, List.setIfInBounds_toArray, List.set_cons_zero, List.set_cons_succ])))
  refine planD_run rfl ?_ (fun K hK => ?_)
  focus (rfl)
  go_simp
  refine (cloneB_any _ _ _ _ (HR.out.2.1.keep H4.out.hb) hX.h4).mono ?_
  rintro e w22 ⟨v22, rfl, O22, hb22⟩
  obtain ⟨a22, c22, rfl⟩ := own_slice O22
  have hS22 := hS21.keep hb22
  have H5 := Lib.hid ((H4.out.keep hb22).more ⟨_, _, _, _, _⟩ (own_lower O22 H4.out.hs))
  clear H4 hS21 O22
  refine hK.out _ _ hS22 ?_
  clear hK K 
  (try simp only [Act.put, List.setIfInBounds_toArray, List.set_cons_zero, List.set_cons_succ])
  refine planD_run rfl ?_ (fun K hK => ?_)
  focus (rfl)
  go_simp
  refine (cloneT_any _ _ _ _ (HR.out.2.2.1.keep H5.out.hb) hX.h5).mono ?_
  rintro e w23 ⟨v23, rfl, O23, hb23⟩
  obtain ⟨a23, c23, rfl⟩ := own_slice O23
  have hS23 := hS22.keep hb23
  have H6 := Lib.hid ((H5.out.keep hb23).more ⟨_, _, _, _, _⟩ (own_lower O23 H5.out.hs))
  clear H5 hS22 O23
  refine hK.out _ _ hS23 ?_
  clear hK K 
  (try simp only [Act.put, List.setIfInBounds_toArray, List.set_cons_zero, List.set_cons_succ])
  refine planD_run rfl ?_ (fun K hK => ?_)
  focus (rfl)
  go_simp
  refine (cloneY_any _ _ _ _ (HR.out.2.2.2.1.keep H6.out.hb) hX.h6).mono ?_
  rintro e w24 ⟨v24, rfl, O24, hb24⟩
  obtain ⟨a24, c24, rfl⟩ := own_slice O24
  have hS24 := hS23.keep hb24
  have H7 := Lib.hid ((H6.out.keep hb24).more ⟨_, _, _, _, _⟩ (own_lower O24 H6.out.hs))
  clear H6 hS23 O24
  refine hK.out _ _ hS24 ?_
  clear hK K 
  (try simp only [Act.put, List.setIfInBounds_toArray, List.set_cons_zero, List.set_cons_succ])
  obtain ⟨c0, c0f⟩ := cells_at H7.out.hX 3 _ g3
  have hxl := heap_lt H7.out.hX
  refine planD_turn rfl rfl ?_ (fun K hK => ?_)
  focus (rfl)
  go_simp
  refine hK.out (Any0) _ _ (trivial) ?_
  clear hK K
  (try simp only [Act.put, List.setIfInBounds_toArray, List.set_cons_zero, List.set_cons_succ])
  have H8 := Lib.hid (H7.out.set 3 (.slice a21 X.n3 c21))
  generalize w24.setCell ⟨w.heap.size, 3, none⟩ (.slice a21 X.n3 c21) = W4 at *
  clear c0 c0f hxl H7
  iterate 1 (first | (refine planD_skip rfl ?_ ?_; (focus (rfl)); (try simp only [Act.put, List.setIfInBounds_toArray, List.set_cons_zero, List.set_cons_succ])) | (refine planD_take (v := ?_) rfl ?_ (fun w hSw => ?_) ?_; rotate_left; (focus (rfl)); (focus (unfold Any0 at hSw; (go_simp <;> with_reducible rfl))); (try simp only [Act.put, List.setIfInBounds_toArray, List.set_cons_zero, List.set_cons_succ])))
  obtain ⟨c0, c0f⟩ := cells_at H8.out.hX 4 _ (g4' _)
  have hxl := heap_lt H8.out.hX
  refine planD_turn rfl rfl ?_ (fun K hK => ?_)
  focus (rfl)
  go_simp
  refine hK.out (Any0) _ _ (trivial) ?_
  clear hK K
  (try simp only [Act.put, List.setIfInBounds_toArray, List.set_cons_zero, List.set_cons_succ])
  have H9 := Lib.hid (H8.out.set 4 (.slice a22 X.n4 c22))
  generalize W4.setCell ⟨w.heap.size, 4, none⟩ (.slice a22 X.n4 c22) = W5 at *
  clear c0 c0f hxl H8
  iterate 1 (first | (refine planD_skip rfl ?_ ?_; (focus (rfl)); (try simp only [Act.put, List.setIfInBounds_toArray, List.set_cons_zero, List.set_cons_succ])) | (refine planD_take (v := ?_) rfl ?_ (fun w hSw => ?_) ?_; rotate_left; (focus (rfl)); (focus (unfold Any0 at hSw; (go_simp <;> with_reducible rfl))); (try simp only [Act.put, List.setIfInBounds_toArray, List.set_cons_zero, List.set_cons_succ])))
  obtain ⟨c0, c0f⟩ := cells_at H9.out.hX 5 _ (g5' _ _)
  have hxl := heap_lt H9.out.hX
  refine planD_turn rfl rfl ?_ (fun K hK => ?_)
  focus (rfl)
  go_simp
  refine hK.out (Any0) _ _ (trivial) ?_
  clear hK K
  (try simp only [Act.put, List.setIfInBounds_toArray, List.set_cons_zero, List.set_cons_succ])
  have H10 := Lib.hid (H9.out.set 5 (.slice a23 X.n5 c23))
  generalize W5.setCell ⟨w.heap.size, 5, none⟩ (.slice a23 X.n5 c23) = W6 at *
  clear c0 c0f hxl H9
  iterate 1 (first | (refine planD_skip rfl ?_ ?_; (focus (rfl)); (try simp only [Act.put, List.setIfInBounds_toArray, List.set_cons_zero, List.set_cons_succ])) | (refine planD_take (v := ?_) rfl ?_ (fun w hSw => ?_) ?_; rotate_left; (focus (rfl)); (focus (unfold Any0 at hSw; (go_simp <;> with_reducible rfl))); (try simp only [Act.put, List.setIfInBounds_toArray, List.set_cons_zero, List.set_cons_succ])))
  obtain ⟨c0, c0f⟩ := cells_at H10.out.hX 6 _ (g6' _ _ _)
  have hxl := heap_lt H10.out.hX
  refine planD_turn rfl rfl ?_ (fun K hK => ?_)
  focus (rfl)
  go_simp
  refine hK.out (Any0) _ _ (trivial) ?_
  clear hK K
  (try simp only [Act.put, List.setIfInBounds_toArray, List.set_cons_zero, List.set_cons_succ])
  have H11 := Lib.hid (H10.out.set 6 (.slice a24 X.n6 c24))
  generalize W6.setCell ⟨w.heap.size, 6, none⟩ (.slice a24 X.n6 c24) = W7 at *
  clear c0 c0f hxl H10
  refine planD_done ?_
  generalize hc7 : (((cs.setIfInBounds 3 (.slice a21 X.n3 c21)).setIfInBounds 4 (.slice a22 X.n4 c22)).setIfInBounds 5 (.slice a23 X.n5 c23)).setIfInBounds 6 (.slice a24 X.n6 c24) = cs7 at *
  have k28 : cs7[28]? = some v28 := by rw [← hc7]; simp only [Array.getElem?_setIfInBounds_ne (show (6 : Nat) ≠ 28 by decide), Array.getElem?_setIfInBounds_ne (show (5 : Nat) ≠ 28 by decide), Array.getElem?_setIfInBounds_ne (show (4 : Nat) ≠ 28 by decide), Array.getElem?_setIfInBounds_ne (show (3 : Nat) ≠ 28 by decide)]; exact g28
  have k33 : cs7[33]? = some v33 := by rw [← hc7]; simp only [Array.getElem?_setIfInBounds_ne (show (6 : Nat) ≠ 33 by decide), Array.getElem?_setIfInBounds_ne (show (5 : Nat) ≠ 33 by decide), Array.getElem?_setIfInBounds_ne (show (4 : Nat) ≠ 33 by decide), Array.getElem?_setIfInBounds_ne (show (3 : Nat) ≠ 33 by decide)]; exact g33
  have k34 : cs7[34]? = some v34 := by rw [← hc7]; simp only [Array.getElem?_setIfInBounds_ne (show (6 : Nat) ≠ 34 by decide), Array.getElem?_setIfInBounds_ne (show (5 : Nat) ≠ 34 by decide), Array.getElem?_setIfInBounds_ne (show (4 : Nat) ≠ 34 by decide), Array.getElem?_setIfInBounds_ne (show (3 : Nat) ≠ 34 by decide)]; exact g34
  have k33' : ∀ a, (cs7.setIfInBounds 28 a)[33]? = some v33 := fun a => by rw [Array.getElem?_setIfInBounds_ne (by decide), k33]
  have k34' : ∀ a b, ((cs7.setIfInBounds 28 a).setIfInBounds 33 b)[34]? = some v34 := fun a b => by rw [Array.getElem?_setIfInBounds_ne (by decide), Array.getElem?_setIfInBounds_ne (by decide), k34]
  go_wp2_with fail
  have hd := (Below.refl W7.heap.size W7).drew
  have H12 := Lib.hid (H11.out.keep hd)
  have hS : FS4 w.heap.size 28 33 34 34 v28 v33 v34 v34 W7.drew := ⟨(cells_at H12.out.hX 28 _ k28).1, (cells_at H12.out.hX 33 _ k33).1, (cells_at H12.out.hX 34 _ k34).1, (cells_at H12.out.hX 34 _ k34).1⟩
  clear hd H11
  refine region_planD [14, 17, 20] (FS4 w.heap.size 28 33 34 34 v28 v33 v34 v34) [(0, 0), (1, 0), (2, 0), (4, 0), (5, 0), (6, 0), (8, 0), (9, 0), (10, 0), (3, 1), (12, 0), (13, 0), (7, 1), (11, 1), (14, 1), (15, 0), (16, 0), (17, 1), (18, 0), (19, 0), (20, 1)] (by kernel_rfl) (by kernel_rfl) (by kernel_rfl) hS ?_
  generalize W7.drew = W8 at *
  iterate 9 (first | (refine planD_skip rfl ?_ ?_; (focus (rfl)); (try simp only [Act.put, List.setIfInBounds_toArray, List.set_cons_zero, List.set_cons_succ])) | (refine planD_take (v := ?_) rfl ?_ (fun w hSw => ?_) ?_; rotate_left; (focus (rfl)); (focus (unfold FS4 at hSw; (go_simp <;> with_reducible rfl))); (try simp only [Act.put, List.setIfInBounds_toArray, List.set_cons_zero, List.set_cons_succ])))
  refine planD_run rfl ?_ (fun K hK => ?_)
  focus (rfl)
  go_simp
  refine (cloneR_any _ _ _ _ (HR.out.2.2.2.2.1.keep H12.out.hb) hX.h28).mono ?_
  rintro e w31 ⟨v31, rfl, O31, hb31⟩
  obtain ⟨a31, c31, rfl⟩ := own_slice O31
  have hS31 := hS.keep hb31
  have H13 := Lib.hid ((H12.out.keep hb31).more ⟨_, _, _, _, _⟩ (own_lower O31 H12.out.hs))
  clear H12 hS O31
  refine hK.out _ _ hS31 ?_
  clear hK K 
  (try simp only [Act.put, List.setIfInBounds_toArray, List.set_cons_zero, List.set_cons_succ])
  iterate 2 (first | (refine planD_skip rfl ?_ ?_; (focus (rfl)); (try simp only [Act.put, List.setIfInBounds_toArray, List.set_cons_zero, List.set_cons_succ])) | (refine planD_take (v := ?_) rfl ?_ (fun w hSw => ?_) ?_; rotate_left; (focus (rfl)); (focus (unfold FS4 at hSw; (go_simp <;> with_reducible rfl))); (try simp only [Act.put, List.setIfInBounds_toArray, List.set_cons_zero, List.set_cons_succ])))
  refine planD_run rfl ?_ (fun K hK => ?_)
  focus (rfl)
  go_simp
  refine (cloneI_any _ _ _ _ (HR.out.2.2.2.2.2.1.keep H13.out.hb) hX.h33).mono ?_
  rintro e w32 ⟨v32, rfl, O32, hb32⟩
  obtain ⟨a32, c32, rfl⟩ := own_slice O32
  have hS32 := hS31.keep hb32
  have H14 := Lib.hid ((H13.out.keep hb32).more ⟨_, _, _, _, _⟩ (own_lower O32 H13.out.hs))
  clear H13 hS31 O32
  refine hK.out _ _ hS32 ?_
  clear hK K 
  (try simp only [Act.put, List.setIfInBounds_toArray, List.set_cons_zero, List.set_cons_succ])
  refine planD_run rfl ?_ (fun K hK => ?_)
  focus (rfl)
  go_simp
  refine (cloneI_any _ _ _ _ (HR.out.2.2.2.2.2.2.1.keep H14.out.hb) hX.h34).mono ?_
  rintro e w33 ⟨v33, rfl, O33, hb33⟩
  obtain ⟨a33, c33, rfl⟩ := own_slice O33
  have hS33 := hS32.keep hb33
  have H15 := Lib.hid ((H14.out.keep hb33).more ⟨_, _, _, _, _⟩ (own_lower O33 H14.out.hs))
  clear H14 hS32 O33
  refine hK.out _ _ hS33 ?_
  clear hK K 
  (try simp only [Act.put, List.setIfInBounds_toArray, List.set_cons_zero, List.set_cons_succ])
  obtain ⟨c0, c0f⟩ := cells_at H15.out.hX 28 _ k28
  have hxl := heap_lt H15.out.hX
  refine planD_turn rfl rfl ?_ (fun K hK => ?_)
  focus (rfl)
  go_simp
  refine hK.out (Any0) _ _ (trivial) ?_
  clear hK K
  (try simp only [Act.put, List.setIfInBounds_toArray, List.set_cons_zero, List.set_cons_succ])
  have H16 := Lib.hid (H15.out.set 28 (.slice a31 X.n28 c31))
  generalize w33.setCell ⟨w.heap.size, 28, none⟩ (.slice a31 X.n28 c31) = W9 at *
  clear c0 c0f hxl H15
  iterate 2 (first | (refine planD_skip rfl ?_ ?_; (focus (rfl)); (try simp only [Act.put, List.setIfInBounds_toArray, List.set_cons_zero, List.set_cons_succ])) | (refine planD_take (v := ?_) rfl ?_ (fun w hSw => ?_) ?_; rotate_left; (focus (rfl)); (focus (unfold Any0 at hSw; (go_simp <;> with_reducible rfl))); (try simp only [Act.put, List.setIfInBounds_toArray, List.set_cons_zero, List.set_cons_succ])))
  obtain ⟨c0, c0f⟩ := cells_at H16.out.hX 33 _ (k33' _)
  have hxl := heap_lt H16.out.hX
  refine planD_turn rfl rfl ?_ (fun K hK => ?_)
  focus (rfl)
  go_simp
  refine hK.out (Any0) _ _ (trivial) ?_
  clear hK K
  (try simp only [Act.put, List.setIfInBounds_toArray, List.set_cons_zero, List.set_cons_succ])
  have H17 := Lib.hid (H16.out.set 33 (.slice a32 X.n33 c32))
  generalize W9.setCell ⟨w.heap.size, 33, none⟩ (.slice a32 X.n33 c32) = W10 at *
  clear c0 c0f hxl H16
  iterate 2 (first | (refine planD_skip rfl ?_ ?_; (focus (rfl)); (try simp only [Act.put, List.setIfInBounds_toArray, List.set_cons_zero, List.set_cons_succ])) | (refine planD_take (v := ?_) rfl ?_ (fun w hSw => ?_) ?_; rotate_left; (focus (rfl)); (focus (unfold Any0 at hSw; (go_simp <;> with_reducible rfl))); (try simp only [Act.put, List.setIfInBounds_toArray, List.set_cons_zero, List.set_cons_succ])))
  obtain ⟨c0, c0f⟩ := cells_at H17.out.hX 34 _ (k34' _ _)
  have hxl := heap_lt H17.out.hX
  refine planD_turn rfl rfl ?_ (fun K hK => ?_)
  focus (rfl)
  go_simp
  refine hK.out (Any0) _ _ (trivial) ?_
  clear hK K
  (try simp only [Act.put, List.setIfInBounds_toArray, List.set_cons_zero, List.set_cons_succ])
  have H18 := Lib.hid (H17.out.set 34 (.slice a33 X.n34 c33))
  generalize W10.setCell ⟨w.heap.size, 34, none⟩ (.slice a33 X.n34 c33) = W11 at *
  clear c0 c0f hxl H17
  refine planD_done ?_
  generalize hc8 : ((cs7.setIfInBounds 28 (.slice a31 X.n28 c31)).setIfInBounds 33 (.slice a32 X.n33 c32)).setIfInBounds 34 (.slice a33 X.n34 c33) = cs8 at *
  have hs8 : cs8.size = 35 := by rw [← hc8, ← hc7]; simp [hsize]
  have ha8 : cs8.all (·.oneCell') = true := by
    rw [← hc8, ← hc7]
    exact all_set (all_set (all_set (all_set (all_set (all_set (all_set HR.out.2.2.2.2.2.2.2 rfl) rfl) rfl) rfl) rfl) rfl) rfl
  have hb8 : SBR cs cs8 := by
    intro i n3 n4 n5 n6 n28 n33 n34
    rw [← hc8, ← hc7]
    simp only [Array.getElem?_setIfInBounds_ne (Ne.symm n3), Array.getElem?_setIfInBounds_ne (Ne.symm n4), Array.getElem?_setIfInBounds_ne (Ne.symm n5), Array.getElem?_setIfInBounds_ne (Ne.symm n6), Array.getElem?_setIfInBounds_ne (Ne.symm n28), Array.getElem?_setIfInBounds_ne (Ne.symm n33), Array.getElem?_setIfInBounds_ne (Ne.symm n34)]
  have hg8 : cs8[3]? = some (.slice a21 X.n3 c21) ∧ cs8[4]? = some (.slice a22 X.n4 c22) ∧ cs8[5]? = some (.slice a23 X.n5 c23) ∧ cs8[6]? = some (.slice a24 X.n6 c24) ∧ cs8[28]? = some (.slice a31 X.n28 c31) ∧ cs8[33]? = some (.slice a32 X.n33 c32) ∧ cs8[34]? = some (.slice a33 X.n34 c33) := by
    rw [← hc8, ← hc7]
    simp [Array.getElem?_setIfInBounds, hsize]
  have HE := Lib.hid (And.intro ha8 (And.intro hb8 hg8))
  clear ha8 hb8 hg8 hc8 hc7 k28 k33 k34 k33' k34' g4' g5' g6'
  go_wp2_with (with_reducible refine stop_op (o := ⟨_, .load 65 (.tmp 1), _, _, _, _⟩) ?_)
  refine Lib.hid ?_
  refine wpList_load_row (o := ⟨_, _, _, _, _, _⟩) rfl 65 (.tmp 1) rfl w.heap.size rfl 65 cs8 (0, 0) _ H18.out.hX Tryz.underlying65 rfl (infoFR hs8) ?_
  go_wp2_with (with_reducible refine stop_op (o := ⟨_, .store 65 (.tmp 2) (.tmp 37), _, _, _, _⟩) ?_)
  refine Lib.hid ?_
  refine wpList_store_row (o := ⟨none, _, _, _, _, _⟩) rfl 65 (.tmp 2) (.tmp 37) rfl (w.heap.size + 1) cs8 rfl rfl 65 fr0L H18.out.hY (infoFR hs8) hs8.symm HE.out.1 ?_
  have HF := Lib.hid (H18.out.shut cs8)
  generalize W11.setRow (w.heap.size + 1) cs8 = W12 at *
  clear H18
  go_wp2_with fail
  obtain ⟨hY, hB, hO⟩ := HF.out
  obtain ⟨ha8, hb8, e3, e4, e5, e6, e28, e33, e34⟩ := HE.out
  obtain ⟨q3, q4, q5, q6, q28, q33, q34, -⟩ := HR.out
  have get : ∀ (o : Ow), o ∈ _ → (∀ u ∈ o.xs, u.oneCell' = true) → Rw W12 o.v o.n o.size o.xs := fun o ho h1 => Rw_own (hO o ho) h1
  refine ret_cell hY rfl Tryz.underlying65 rfl (infoFR hs8) rfl ⟨cs8, rfl, ⟨hs8, ha8, ⟨_, e3, get ⟨31, _, _, _, _⟩ ?_ q3.2.1⟩, ⟨_, e4, get ⟨4, _, _, _, _⟩ ?_ q4.2.1⟩, ⟨_, e5, get ⟨31, _, _, _, _⟩ ?_ q5.2.1⟩, ⟨_, e6, get ⟨101, _, _, _, _⟩ ?_ q6.2.1⟩, ⟨_, e28, get ⟨176, _, _, _, _⟩ ?_ q28.2.1⟩, ⟨_, e33, get ⟨3, _, _, _, _⟩ ?_ q33.2.1⟩, ⟨_, e34, get ⟨3, _, _, _, _⟩ ?_ q34.2.1⟩⟩, hb8, hB, fun k hk i hi v hv hvk => absurd hvk ?_⟩
  · iterate 6 apply List.mem_cons_of_mem
    exact List.mem_cons_self
  · iterate 5 apply List.mem_cons_of_mem
    exact List.mem_cons_self
  · iterate 4 apply List.mem_cons_of_mem
    exact List.mem_cons_self
  · iterate 3 apply List.mem_cons_of_mem
    exact List.mem_cons_self
  · iterate 2 apply List.mem_cons_of_mem
    exact List.mem_cons_self
  · iterate 1 apply List.mem_cons_of_mem
    exact List.mem_cons_self
  · exact List.mem_cons_self
  · have nb : ∀ (o : Ow), o ∈ _ → ¬ o.v.ownBlock = some k := fun o ho e => by
      have := own_base (hO o ho) k e
      omega
    simp only [frRows, List.mem_cons, List.not_mem_nil, or_false] at hi
    rcases hi with rfl | rfl | rfl | rfl | rfl | rfl | rfl
    · obtain rfl := Option.some.inj (e3.symm.trans hv)
      refine nb ⟨31, 5, X.n3, _, X.x3⟩ ?_
      iterate 6 apply List.mem_cons_of_mem
      exact List.mem_cons_self
    · obtain rfl := Option.some.inj (e4.symm.trans hv)
      refine nb ⟨4, 1, X.n4, _, X.x4⟩ ?_
      iterate 5 apply List.mem_cons_of_mem
      exact List.mem_cons_self
    · obtain rfl := Option.some.inj (e5.symm.trans hv)
      refine nb ⟨31, 5, X.n5, _, X.x5⟩ ?_
      iterate 4 apply List.mem_cons_of_mem
      exact List.mem_cons_self
    · obtain rfl := Option.some.inj (e6.symm.trans hv)
      refine nb ⟨101, 2, X.n6, _, X.x6⟩ ?_
      iterate 3 apply List.mem_cons_of_mem
      exact List.mem_cons_self
    · obtain rfl := Option.some.inj (e28.symm.trans hv)
      refine nb ⟨176, 13, X.n28, _, X.x28⟩ ?_
      iterate 2 apply List.mem_cons_of_mem
      exact List.mem_cons_self
    · obtain rfl := Option.some.inj (e33.symm.trans hv)
      refine nb ⟨3, 1, X.n33, _, X.x33⟩ ?_
      iterate 1 apply List.mem_cons_of_mem
      exact List.mem_cons_self
    · obtain rfl := Option.some.inj (e34.symm.trans hv)
      refine nb ⟨3, 1, X.n34, _, X.x34⟩ ?_
      exact List.mem_cons_self
end Go.Proofs.YtemgnljegbaobaaGreatDoor
