/- ProcOwn's walk (printed by genrh.py). Conditions: the process and the item read and are no greater than memory. -/
import Derived.Test.YtemgnljegbaobaaDoorRg
namespace Go.Proofs.YtemgnljegbaobaaDoor
open Go.ChangeShapes Go.WideShapes Go.ChangeAt Go.RowKit
set_option linter.unusedVariables false
set_option linter.unusedSimpArgs false
set_option maxRecDepth 100000
def HS0 (x : Nat) (c : Array Value) (W : World) : Prop := W.heap[x]? = some (.cells c 29 (0, 0))
/-- a region, and what stands behind it, apart -/
theorem region_post {P : Program} {id : Nat} {ops : Array Oper} {a : Act} {w : World} {Q : Exit → Act → World → Prop} (R : Act → Act → World → Prop) (h1 : (Code.region id ops true).wp P (fun e a' w' => match e with
    | .normal => R a a' w'
    | _ => False) a w) (h2 : ∀ a' w', R a a' w' → Q .normal a' w') : (Code.region id ops true).wp P Q a w :=
  Code.wp_mono (fun e a' w' h => by
    cases e <;> first | exact h2 _ _ h | exact h.elim) h1
theorem own_cell {w : World} {B e size n g cap : Nat} {xs : List Value} (h : w.ownsRow B e size (.slice (some ⟨g, 0, none⟩) n cap) n xs) {j : Nat} {u : Value} (hj : xs[j]? = some u) : w.cell? ⟨g, j, none⟩ = some u ∧ w.frozen? ⟨g, j, none⟩ = false ∧ g < w.heap.size := by
  obtain ⟨hl, ⟨h0, -⟩ | ⟨g', cap', cur, hv, hg, hh, h3, h4, h5, h6⟩⟩ := h
  · cases h0
  · cases hv
    rw [← h6, List.getElem?_take] at hj
    split at hj
    · have := cells_at hh j u (by simpa using hj)
      exact ⟨this.1, this.2, heap_lt hh⟩
    · cases hj
theorem own_addr {w : World} {B e size n m c : Nat} {ao : Option Addr} {xs : List Value} (h : w.ownsRow B e size (.slice ao n c) m xs) (hm : 0 < m) : ∃ g, ao = some ⟨g, 0, none⟩ := by
  obtain ⟨hl, ⟨h0, h1⟩ | ⟨g', cap', cur, hv, -⟩⟩ := h
  · omega
  · cases hv
    exact ⟨g', rfl⟩
theorem iv_set {ps : List Int} {i : Nat} (z : Int) (hi : i < ps.length) : (iv ps).take i ++ [.int .i64 z] ++ (iv ps).drop (i + 1) = iv (ps.set i z) := by
  simp only [iv, List.map_set]
  rw [List.set_eq_take_append_cons_drop, if_pos (by simpa using hi)]
  simp
theorem wv_set (z : Int) : ∀ {ps : List (Int × Int)} {i : Nat} {x : Int × Int}, ps[i]? = some x → (wv ps).take (i * 2 + 1) ++ [.int .i64 z] ++ (wv ps).drop (i * 2 + 1 + 1) = wv (ps.set i (x.1, z))
  | [], _, _, h => by simp at h
  | y :: ps, 0, x, h => by
    simp at h
    subst h
    simp [wv]
  | y :: ps, i + 1, x, h => by
    have ih := wv_set z (ps := ps) (i := i) (x := x) (by simpa using h)
    have e : wv (y :: ps) = .int .i64 y.1 :: .int .i64 y.2 :: wv ps := by simp [wv]
    rw [e, show (i + 1) * 2 + 1 = (i * 2 + 1) + 1 + 1 by omega, List.set_cons_succ]
    have e2 : wv (y :: ps.set i (x.1, z)) = .int .i64 y.1 :: .int .i64 y.2 :: wv (ps.set i (x.1, z)) := by simp [wv]
    rw [e2, ← ih]
    simp
theorem LinkP.some {w w' : World} {p : Pv} {D : Pd} {k : Int} {e : Ending} (h : LinkP w p D k e w') : ∃ v, e = .returned v ∧ Below w.heap.size w w' := by
  unfold LinkP at h
  split at h
  · exact ⟨_, h.1, h.2⟩
  · split at h
    · obtain ⟨q, D', rfl, -, hp, -⟩ := h
      exact ⟨_, rfl, hp.hb⟩
    · split at h
      · exact ⟨_, h.1, h.2⟩
      · obtain ⟨q, D', rfl, -, hp, -⟩ := h
        exact ⟨_, rfl, hp.hb⟩
theorem PutP.some {w w' : World} {p : Pv} {D : Pd} {ml : List Im} {x : Im} {e : Ending} (h : PutP w p D ml x e w') : ∃ v, e = .returned v ∧ Below w.heap.size w w' := by
  unfold PutP at h
  split at h
  · obtain ⟨q, D', rfl, -, hp, -⟩ := h
    exact ⟨_, rfl, hp.hb⟩
  · obtain ⟨q, D', rfl, -, hp, -⟩ := h
    exact ⟨_, rfl, hp.hb⟩
/-- a copy's stack beside the one that was copied -/
theorem Cp.bes {w : World} {L L' : List Fm} (h : Cp L L') (hL : ∀ f ∈ L, FrOk w True f.cs f.X) (hL' : ∀ f ∈ L', f.cs.size = 35) : Bes w L' L := by
  refine ⟨h.1.symm, fun i f f' hf hf' => ?_⟩
  obtain ⟨h1, h2⟩ := h.2 i f' f hf' hf
  obtain ⟨-, ⟨s, h3, h4⟩, -⟩ := hL f' (List.mem_of_getElem? hf')
  exact ⟨s, h3.sbr h2 (hL' f (List.mem_of_getElem? hf)), h3, h1.symm, h1 ▸ h4⟩
theorem SamePv.symm {p q : Pv} (h : SamePv p q) : SamePv q p := ⟨h.1.symm, h.2.1.symm, h.2.2.1.symm, h.2.2.2.1.symm, h.2.2.2.2.symm⟩
def puts (a0 : Act) (pc : Array Value) (a b : Pv) (x y : Nat) : Act := (((((a0.put (some 20) (.agg pc)).put (some 22) (.agg pc)).put (some 21) (.agg a.cells)).put (some 23) (.agg b.cells)).put (some 7) (.pointer (some ⟨x, 0, none⟩))).put (some 8) (.pointer (some ⟨y, 0, none⟩))
def R3 (W0 : World) (p : Pv) (D : Pd) (a0 a' : Act) (w' : World) : Prop :=
  ∃ pc a La b x y, a' = puts a0 pc a b x y ∧ P3 W0 w' p D (some (a, La)) (some b) (some (x, a.cells)) (some (y, b.cells))
theorem r3_intro {W0 : World} {p : Pv} {D : Pd} {a0 a' : Act} {w' : World} (pc : Array Value) (a : Pv) (La : List Fm) (b : Pv) (x y : Nat) (ha : a' = puts a0 pc a b x y) (h : P3 W0 w' p D (some (a, La)) (some b) (some (x, a.cells)) (some (y, b.cells))) : R3 W0 p D a0 a' w' := ⟨pc, a, La, b, x, y, ha, h⟩
set_option maxHeartbeats 32000000 in
theorem own_law (W : World) (p : Pv) (D : Pd) (ml : List Im) (k : Int) (x : Im) (h : PrX W p D.X) (hk : PdOk W D ml) (hx : ImOk W x) : Calls Tryd.prog 4 #[.agg p.cells, .int .i64 k, .agg #[.int .i8 x.k, .int .i64 x.n, .string x.s, .string x.u, .slice x.ao x.ln x.lc, .bool x.ours]] W (IsPost W true) := by
  have hb1 := ((Below.refl W.heap.size W).alloc (Nat.le_refl _) (.cells p.cells 29)).alloc (by simp) (.cells #[.int .i8 x.k, .int .i64 x.n, .string x.s, .string x.u, .slice x.ao x.ln x.lc, .bool x.ours] 47)
  have n1 := heap_old (heap_new W (.cells p.cells 29)) (.cells #[.int .i8 x.k, .int .i64 x.n, .string x.s, .string x.u, .slice x.ao x.ln x.lc, .bool x.ours] 47)
  have n2 := heap_new (W.alloc (.cells p.cells 29)) (.cells #[.int .i8 x.k, .int .i64 x.n, .string x.s, .string x.u, .slice x.ao x.ln x.lc, .bool x.ours] 47)
  rw [World.size_alloc] at n2
  have HB1 := Lib.hid hb1
  have HX := Lib.hid n1
  have HY := Lib.hid n2
  have HP := Lib.hid (show ∀ w, Below W.heap.size W w → PrX w p D.X from fun w hw => h.keep hw)
  have HK := Lib.hid (show ∀ w, Below W.heap.size W w → PdOk w D ml from fun w hw => hk.keep hw)
  have HI := Lib.hid (show ∀ w, Below W.heap.size W w → ImOk w x from fun w hw => hx.keep hw)
  obtain ⟨y0, -⟩ := cells_at n2 0 _ rfl
  obtain ⟨y1, -⟩ := cells_at n2 1 _ rfl
  obtain ⟨y2, -⟩ := cells_at n2 2 _ rfl
  obtain ⟨y3, -⟩ := cells_at n2 3 _ rfl
  obtain ⟨y4, -⟩ := cells_at n2 4 _ rfl
  clear hb1 n1 n2 h hk hx
  go_enter Tryd.func4, Tryd.ntmps4
  go_wp2_with (with_reducible refine stop_op (o := ⟨_, .load 29 (.tmp 3), _, _, _, _⟩) ?_)
  generalize (W.alloc (.cells p.cells 29)).alloc (.cells #[.int .i8 x.k, .int .i64 x.n, .string x.s, .string x.u, .slice x.ao x.ln x.lc, .bool x.ours] 47) = w1 at *
  refine Lib.hid ?_
  refine wpList_load_row (o := ⟨_, _, _, _, _, _⟩) rfl 29 (.tmp 3) rfl W.heap.size rfl 29 p.cells (0, 0) _ HX.out Tryd.underlying29 rfl (infoPT rfl) ?_
  clear y0 y1 y2 y3 y4
  go_wp2_with fail
  refine (great19_any w1 p D ml (HP.out _ HB1.out) (HK.out _ HB1.out)).mono ?_
  rintro e w2 ⟨bb, rfl, hb2, hok⟩
  have HB2 := Lib.hid (HB1.out.trans (hb2.mono HB1.out.size))
  have HX2 := Lib.hid (keep_heap HX.out hb2)
  have HY2 := Lib.hid (keep_heap HY.out hb2)
  clear hb2 HX HY
  have HX := HX2
  have HY := HY2
  clear HX2 HY2
  cases bb
  rotate_left
  · go_wp2_with fail
    refine (wakes_any _).mono ?_
    rintro e wz ⟨rfl, hbz⟩
    have HZ := Lib.hid (HB2.out.trans (hbz.mono HB2.out.size))
    clear hbz
    go_wp2_with fail
    go_ret
    exact ⟨rfl, HZ.out⟩
  have HD := Lib.hid (hok rfl)
  clear hok
  obtain ⟨y0, -⟩ := cells_at HY.out 0 _ rfl
  obtain ⟨y1, -⟩ := cells_at HY.out 1 _ rfl
  obtain ⟨y2, -⟩ := cells_at HY.out 2 _ rfl
  obtain ⟨y3, -⟩ := cells_at HY.out 3 _ rfl
  obtain ⟨y4, -⟩ := cells_at HY.out 4 _ rfl
  obtain ⟨f, t, ht⟩ := HI.out _ HB2.out
  have HG := Lib.hid (great_any f t _ w2 ht)
  clear ht
  go_wp2_with fail
  refine HG.out.mono ?_
  rintro e w3 ⟨rfl, hb3⟩
  have HB3 := Lib.hid (HB2.out.trans (hb3.mono HB2.out.size))
  have HX3 := Lib.hid (keep_heap HX.out hb3)
  have HY3 := Lib.hid (keep_heap HY.out hb3)
  clear hb3 HX HY HG y0 y1 y2 y3 y4
  have HX := HX3
  have HY := HY3
  clear HX3 HY3
  generalize greatB t = bb at *
  cases bb
  rotate_left
  · go_wp2_with fail
    refine (wakes_any _).mono ?_
    rintro e wz ⟨rfl, hbz⟩
    have HZ := Lib.hid (HB3.out.trans (hbz.mono HB3.out.size))
    clear hbz
    go_wp2_with fail
    go_ret
    exact ⟨rfl, HZ.out⟩
  go_wp2_with fail
  have hd := (Below.refl w3.heap.size w3).drew
  have hB3 := HB3.out.trans (hd.mono HB3.out.size)
  have hX3 := keep_heap HX.out hd
  have hY3 := keep_heap HY.out hd
  have HB := Lib.hid hB3
  clear HX HY HB3 HB2 HB1
  have HX := Lib.hid hX3
  have HY := Lib.hid hY3
  refine region_post (R3 w3.drew p D) ?_ ?_
  · have hS : w3.drew.heap[W.heap.size]? = some (.cells p.cells 29 (0, 0)) := hX3
    have HPW := Lib.hid (show ∀ w, Below w3.drew.heap.size w3.drew w → PrX w p D.X from fun w hw => HP.out w (HB.out.trans (hw.mono HB.out.size)))
    clear HP
    have HP := HPW
    clear HPW
    have H0 := Lib.hid (show P3 w3.drew w3.drew p D none none none none from ⟨Below.refl _ _, (fun q L e => by cases e), (fun q e => by cases e), (fun i c e => by cases e), (fun i c e => by cases e), fun i c j d e => by cases e⟩)
    clear hd hB3 hX3 hY3
    refine region_planV (HS0 W.heap.size p.cells) (.take 0 (.take 2 (.forkc 1 (.forkc 3 (.fork 4 (.run 5 (.run 6 (.run 7 .done))) 5 (.run 4 (.run 6 (.run 7 .done)))) 4 (.fork 3 (.run 5 (.run 6 (.run 7 .done))) 5 (.run 3 (.run 6 (.run 7 .done)))) 5 (.fork 3 (.run 4 (.run 6 (.run 7 .done))) 4 (.run 3 (.run 6 (.run 7 .done))))) 4 (.fork 1 (.fork 3 (.run 5 (.run 6 (.run 7 .done))) 5 (.run 3 (.run 6 (.run 7 .done)))) 5 (.run 1 (.run 3 (.run 6 (.run 7 .done))))) 5 (.fork 1 (.fork 3 (.run 4 (.run 6 (.run 7 .done))) 4 (.run 3 (.run 6 (.run 7 .done)))) 4 (.run 1 (.run 3 (.run 6 (.run 7 .done)))))))) (by kernel_rfl) (by kernel_rfl) (by kernel_rfl) hS ?_
    generalize w3.drew = WD at *
    refine planV_take rfl ?_ (fun wS hSw => exec_load_row 29 (.tmp 3) rfl W.heap.size rfl p.cells 29 (0, 0) _ hSw Tryd.underlying29 rfl (infoPT rfl)) ?_
    focus (rfl)
    (try simp only [Act.put, List.setIfInBounds_toArray, List.set_cons_zero, List.set_cons_succ])
    refine planV_take rfl ?_ (fun wS hSw => exec_load_row 29 (.tmp 3) rfl W.heap.size rfl p.cells 29 (0, 0) _ hSw Tryd.underlying29 rfl (infoPT rfl)) ?_
    focus (rfl)
    (try simp only [Act.put, List.setIfInBounds_toArray, List.set_cons_zero, List.set_cons_succ])
    refine planV_forkc ?_ ?_ ?_
    · skip
      refine planV_run rfl ?_ (fun K hK => ?_)
      focus (rfl)
      go_simp
      refine (pcopy_any _ p D.X (HP.out _ H0.out.hb) HD.out.px).mono ?_
      rintro e w1 ⟨a, La, rfl, a1, a2, a3, a4, a5⟩
      have H1 := Lib.hid (H0.out.calla a1 a2 a3 a4 a5)
      have hS1 := keep_heap hS a2
      refine hK.out _ _ hS1 ?_
      clear hK K 
      (try simp only [Act.put, List.setIfInBounds_toArray, List.set_cons_zero, List.set_cons_succ])
      have hS1 := hS1
      clear hS H0 a1 a3 a4 a5 a2
      refine planV_forkc ?_ ?_ ?_
      · skip
        refine planV_run rfl ?_ (fun K hK => ?_)
        focus (rfl)
        go_simp
        refine (copy_any _ p D.X (HP.out _ H1.out.hb) HD.out.px).mono ?_
        rintro e w2 hcb
        obtain ⟨b, Lb, rfl, b1, b2, B, b3, b4, b5, b6, b7, b8⟩ := hcb.pr (HP.out _ H1.out.hb)
        have H2 := Lib.hid (H1.out.callb b2.hb b3 ⟨b5, b6, b7⟩ (Pv.one b2.pr))
        have hS2 := keep_heap hS1 b2.hb
        refine hK.out _ _ hS2 ?_
        clear hK K 
        (try simp only [Act.put, List.setIfInBounds_toArray, List.set_cons_zero, List.set_cons_succ])
        have hS2 := hS2
        clear hS1 H1 b1 b2 b3 b4 b5 b6 b7 b8 hcb
        refine planV_fork ?_ ?_
        · skip
          have H3 := Lib.hid (H2.out.boxx zeroP)
          have hS3 := keep_heap hS2 ((Below.refl w2.heap.size w2).alloc (Nat.le_refl _) (.cells zeroP 29))
          refine planV_run rfl ?_ (fun K hK => ?_)
          focus (rfl)
          go_simp
          refine hK.out _ _ (hS3) ?_
          clear hK K
          (try simp only [Act.put, List.setIfInBounds_toArray, List.set_cons_zero, List.set_cons_succ])
          generalize w2.alloc (.cells zeroP 29) = w3 at *
          clear hS2 H2
          have H4 := Lib.hid (H3.out.boxy zeroP)
          have hS4 := keep_heap hS3 ((Below.refl w3.heap.size w3).alloc (Nat.le_refl _) (.cells zeroP 29))
          refine planV_run rfl ?_ (fun K hK => ?_)
          focus (rfl)
          go_simp
          refine hK.out _ _ (hS4) ?_
          clear hK K
          (try simp only [Act.put, List.setIfInBounds_toArray, List.set_cons_zero, List.set_cons_succ])
          generalize w3.alloc (.cells zeroP 29) = w4 at *
          clear hS3 H3
          refine planV_run rfl ?_ (fun K hK => ?_)
          focus (rfl)
          refine wp_store_row 29 (.tmp 7) (.tmp 21) rfl (w2.heap.size) a.cells rfl rfl 29 zeroP (H4.out.hx _ _ rfl).2.1 (infoPT rfl) rfl (Pv.one (H4.out.ha _ _ rfl).2.2) ?_
          have H5 := Lib.hid (H4.out.storex a.cells)
          have hS5 := (chg_setRow w4 (w2.heap.size) a.cells).heap hS4 (fun e => by have e : W.heap.size = w2.heap.size := e; have h1 := (H4.out.hx _ _ rfl).1; have h2 := heap_lt HX.out; omega)
          refine hK.out _ _ (hS5) ?_
          clear hK K
          (try simp only [Act.put, List.setIfInBounds_toArray, List.set_cons_zero, List.set_cons_succ])
          generalize w4.setRow (w2.heap.size) a.cells = w5 at *
          clear hS4 H4
          refine planV_run rfl ?_ (fun K hK => ?_)
          focus (rfl)
          refine wp_store_row 29 (.tmp 8) (.tmp 23) rfl (w3.heap.size) b.cells rfl rfl 29 zeroP (H5.out.hy _ _ rfl).2.1 (infoPT rfl) rfl (H5.out.hq _ rfl).2.1 ?_
          have H6 := Lib.hid (H5.out.storey b.cells)
          have hS6 := (chg_setRow w5 (w3.heap.size) b.cells).heap hS5 (fun e => by have e : W.heap.size = w3.heap.size := e; have h1 := (H5.out.hy _ _ rfl).1; have h2 := heap_lt HX.out; omega)
          refine hK.out _ _ (hS6) ?_
          clear hK K
          (try simp only [Act.put, List.setIfInBounds_toArray, List.set_cons_zero, List.set_cons_succ])
          generalize w5.setRow (w3.heap.size) b.cells = w6 at *
          clear hS5 H5
          refine planV_done ?_
          refine r3_intro p.cells a La b (w2.heap.size) (w3.heap.size) ?_ H6.out
          simp only [puts, Act.put, List.setIfInBounds_toArray, List.set_cons_zero, List.set_cons_succ]
        · skip
          have H3 := Lib.hid (H2.out.boxy zeroP)
          have hS3 := keep_heap hS2 ((Below.refl w2.heap.size w2).alloc (Nat.le_refl _) (.cells zeroP 29))
          refine planV_run rfl ?_ (fun K hK => ?_)
          focus (rfl)
          go_simp
          refine hK.out _ _ (hS3) ?_
          clear hK K
          (try simp only [Act.put, List.setIfInBounds_toArray, List.set_cons_zero, List.set_cons_succ])
          generalize w2.alloc (.cells zeroP 29) = w3 at *
          clear hS2 H2
          have H4 := Lib.hid (H3.out.boxx zeroP)
          have hS4 := keep_heap hS3 ((Below.refl w3.heap.size w3).alloc (Nat.le_refl _) (.cells zeroP 29))
          refine planV_run rfl ?_ (fun K hK => ?_)
          focus (rfl)
          go_simp
          refine hK.out _ _ (hS4) ?_
          clear hK K
          (try simp only [Act.put, List.setIfInBounds_toArray, List.set_cons_zero, List.set_cons_succ])
          generalize w3.alloc (.cells zeroP 29) = w4 at *
          clear hS3 H3
          refine planV_run rfl ?_ (fun K hK => ?_)
          focus (rfl)
          refine wp_store_row 29 (.tmp 7) (.tmp 21) rfl (w3.heap.size) a.cells rfl rfl 29 zeroP (H4.out.hx _ _ rfl).2.1 (infoPT rfl) rfl (Pv.one (H4.out.ha _ _ rfl).2.2) ?_
          have H5 := Lib.hid (H4.out.storex a.cells)
          have hS5 := (chg_setRow w4 (w3.heap.size) a.cells).heap hS4 (fun e => by have e : W.heap.size = w3.heap.size := e; have h1 := (H4.out.hx _ _ rfl).1; have h2 := heap_lt HX.out; omega)
          refine hK.out _ _ (hS5) ?_
          clear hK K
          (try simp only [Act.put, List.setIfInBounds_toArray, List.set_cons_zero, List.set_cons_succ])
          generalize w4.setRow (w3.heap.size) a.cells = w5 at *
          clear hS4 H4
          refine planV_run rfl ?_ (fun K hK => ?_)
          focus (rfl)
          refine wp_store_row 29 (.tmp 8) (.tmp 23) rfl (w2.heap.size) b.cells rfl rfl 29 zeroP (H5.out.hy _ _ rfl).2.1 (infoPT rfl) rfl (H5.out.hq _ rfl).2.1 ?_
          have H6 := Lib.hid (H5.out.storey b.cells)
          have hS6 := (chg_setRow w5 (w2.heap.size) b.cells).heap hS5 (fun e => by have e : W.heap.size = w2.heap.size := e; have h1 := (H5.out.hy _ _ rfl).1; have h2 := heap_lt HX.out; omega)
          refine hK.out _ _ (hS6) ?_
          clear hK K
          (try simp only [Act.put, List.setIfInBounds_toArray, List.set_cons_zero, List.set_cons_succ])
          generalize w5.setRow (w2.heap.size) b.cells = w6 at *
          clear hS5 H5
          refine planV_done ?_
          refine r3_intro p.cells a La b (w3.heap.size) (w2.heap.size) ?_ H6.out
          simp only [puts, Act.put, List.setIfInBounds_toArray, List.set_cons_zero, List.set_cons_succ]
      · skip
        have H2 := Lib.hid (H1.out.boxx zeroP)
        have hS2 := keep_heap hS1 ((Below.refl w1.heap.size w1).alloc (Nat.le_refl _) (.cells zeroP 29))
        refine planV_run rfl ?_ (fun K hK => ?_)
        focus (rfl)
        go_simp
        refine hK.out _ _ (hS2) ?_
        clear hK K
        (try simp only [Act.put, List.setIfInBounds_toArray, List.set_cons_zero, List.set_cons_succ])
        generalize w1.alloc (.cells zeroP 29) = w2 at *
        clear hS1 H1
        refine planV_fork ?_ ?_
        · skip
          refine planV_run rfl ?_ (fun K hK => ?_)
          focus (rfl)
          go_simp
          refine (copy_any _ p D.X (HP.out _ H2.out.hb) HD.out.px).mono ?_
          rintro e w3 hcb
          obtain ⟨b, Lb, rfl, b1, b2, B, b3, b4, b5, b6, b7, b8⟩ := hcb.pr (HP.out _ H2.out.hb)
          have H3 := Lib.hid (H2.out.callb b2.hb b3 ⟨b5, b6, b7⟩ (Pv.one b2.pr))
          have hS3 := keep_heap hS2 b2.hb
          refine hK.out _ _ hS3 ?_
          clear hK K 
          (try simp only [Act.put, List.setIfInBounds_toArray, List.set_cons_zero, List.set_cons_succ])
          have hS3 := hS3
          clear hS2 H2 b1 b2 b3 b4 b5 b6 b7 b8 hcb
          have H4 := Lib.hid (H3.out.boxy zeroP)
          have hS4 := keep_heap hS3 ((Below.refl w3.heap.size w3).alloc (Nat.le_refl _) (.cells zeroP 29))
          refine planV_run rfl ?_ (fun K hK => ?_)
          focus (rfl)
          go_simp
          refine hK.out _ _ (hS4) ?_
          clear hK K
          (try simp only [Act.put, List.setIfInBounds_toArray, List.set_cons_zero, List.set_cons_succ])
          generalize w3.alloc (.cells zeroP 29) = w4 at *
          clear hS3 H3
          refine planV_run rfl ?_ (fun K hK => ?_)
          focus (rfl)
          refine wp_store_row 29 (.tmp 7) (.tmp 21) rfl (w1.heap.size) a.cells rfl rfl 29 zeroP (H4.out.hx _ _ rfl).2.1 (infoPT rfl) rfl (Pv.one (H4.out.ha _ _ rfl).2.2) ?_
          have H5 := Lib.hid (H4.out.storex a.cells)
          have hS5 := (chg_setRow w4 (w1.heap.size) a.cells).heap hS4 (fun e => by have e : W.heap.size = w1.heap.size := e; have h1 := (H4.out.hx _ _ rfl).1; have h2 := heap_lt HX.out; omega)
          refine hK.out _ _ (hS5) ?_
          clear hK K
          (try simp only [Act.put, List.setIfInBounds_toArray, List.set_cons_zero, List.set_cons_succ])
          generalize w4.setRow (w1.heap.size) a.cells = w5 at *
          clear hS4 H4
          refine planV_run rfl ?_ (fun K hK => ?_)
          focus (rfl)
          refine wp_store_row 29 (.tmp 8) (.tmp 23) rfl (w3.heap.size) b.cells rfl rfl 29 zeroP (H5.out.hy _ _ rfl).2.1 (infoPT rfl) rfl (H5.out.hq _ rfl).2.1 ?_
          have H6 := Lib.hid (H5.out.storey b.cells)
          have hS6 := (chg_setRow w5 (w3.heap.size) b.cells).heap hS5 (fun e => by have e : W.heap.size = w3.heap.size := e; have h1 := (H5.out.hy _ _ rfl).1; have h2 := heap_lt HX.out; omega)
          refine hK.out _ _ (hS6) ?_
          clear hK K
          (try simp only [Act.put, List.setIfInBounds_toArray, List.set_cons_zero, List.set_cons_succ])
          generalize w5.setRow (w3.heap.size) b.cells = w6 at *
          clear hS5 H5
          refine planV_done ?_
          refine r3_intro p.cells a La b (w1.heap.size) (w3.heap.size) ?_ H6.out
          simp only [puts, Act.put, List.setIfInBounds_toArray, List.set_cons_zero, List.set_cons_succ]
        · skip
          have H3 := Lib.hid (H2.out.boxy zeroP)
          have hS3 := keep_heap hS2 ((Below.refl w2.heap.size w2).alloc (Nat.le_refl _) (.cells zeroP 29))
          refine planV_run rfl ?_ (fun K hK => ?_)
          focus (rfl)
          go_simp
          refine hK.out _ _ (hS3) ?_
          clear hK K
          (try simp only [Act.put, List.setIfInBounds_toArray, List.set_cons_zero, List.set_cons_succ])
          generalize w2.alloc (.cells zeroP 29) = w3 at *
          clear hS2 H2
          refine planV_run rfl ?_ (fun K hK => ?_)
          focus (rfl)
          go_simp
          refine (copy_any _ p D.X (HP.out _ H3.out.hb) HD.out.px).mono ?_
          rintro e w4 hcb
          obtain ⟨b, Lb, rfl, b1, b2, B, b3, b4, b5, b6, b7, b8⟩ := hcb.pr (HP.out _ H3.out.hb)
          have H4 := Lib.hid (H3.out.callb b2.hb b3 ⟨b5, b6, b7⟩ (Pv.one b2.pr))
          have hS4 := keep_heap hS3 b2.hb
          refine hK.out _ _ hS4 ?_
          clear hK K 
          (try simp only [Act.put, List.setIfInBounds_toArray, List.set_cons_zero, List.set_cons_succ])
          have hS4 := hS4
          clear hS3 H3 b1 b2 b3 b4 b5 b6 b7 b8 hcb
          refine planV_run rfl ?_ (fun K hK => ?_)
          focus (rfl)
          refine wp_store_row 29 (.tmp 7) (.tmp 21) rfl (w1.heap.size) a.cells rfl rfl 29 zeroP (H4.out.hx _ _ rfl).2.1 (infoPT rfl) rfl (Pv.one (H4.out.ha _ _ rfl).2.2) ?_
          have H5 := Lib.hid (H4.out.storex a.cells)
          have hS5 := (chg_setRow w4 (w1.heap.size) a.cells).heap hS4 (fun e => by have e : W.heap.size = w1.heap.size := e; have h1 := (H4.out.hx _ _ rfl).1; have h2 := heap_lt HX.out; omega)
          refine hK.out _ _ (hS5) ?_
          clear hK K
          (try simp only [Act.put, List.setIfInBounds_toArray, List.set_cons_zero, List.set_cons_succ])
          generalize w4.setRow (w1.heap.size) a.cells = w5 at *
          clear hS4 H4
          refine planV_run rfl ?_ (fun K hK => ?_)
          focus (rfl)
          refine wp_store_row 29 (.tmp 8) (.tmp 23) rfl (w2.heap.size) b.cells rfl rfl 29 zeroP (H5.out.hy _ _ rfl).2.1 (infoPT rfl) rfl (H5.out.hq _ rfl).2.1 ?_
          have H6 := Lib.hid (H5.out.storey b.cells)
          have hS6 := (chg_setRow w5 (w2.heap.size) b.cells).heap hS5 (fun e => by have e : W.heap.size = w2.heap.size := e; have h1 := (H5.out.hy _ _ rfl).1; have h2 := heap_lt HX.out; omega)
          refine hK.out _ _ (hS6) ?_
          clear hK K
          (try simp only [Act.put, List.setIfInBounds_toArray, List.set_cons_zero, List.set_cons_succ])
          generalize w5.setRow (w2.heap.size) b.cells = w6 at *
          clear hS5 H5
          refine planV_done ?_
          refine r3_intro p.cells a La b (w1.heap.size) (w2.heap.size) ?_ H6.out
          simp only [puts, Act.put, List.setIfInBounds_toArray, List.set_cons_zero, List.set_cons_succ]
      · skip
        have H2 := Lib.hid (H1.out.boxy zeroP)
        have hS2 := keep_heap hS1 ((Below.refl w1.heap.size w1).alloc (Nat.le_refl _) (.cells zeroP 29))
        refine planV_run rfl ?_ (fun K hK => ?_)
        focus (rfl)
        go_simp
        refine hK.out _ _ (hS2) ?_
        clear hK K
        (try simp only [Act.put, List.setIfInBounds_toArray, List.set_cons_zero, List.set_cons_succ])
        generalize w1.alloc (.cells zeroP 29) = w2 at *
        clear hS1 H1
        refine planV_fork ?_ ?_
        · skip
          refine planV_run rfl ?_ (fun K hK => ?_)
          focus (rfl)
          go_simp
          refine (copy_any _ p D.X (HP.out _ H2.out.hb) HD.out.px).mono ?_
          rintro e w3 hcb
          obtain ⟨b, Lb, rfl, b1, b2, B, b3, b4, b5, b6, b7, b8⟩ := hcb.pr (HP.out _ H2.out.hb)
          have H3 := Lib.hid (H2.out.callb b2.hb b3 ⟨b5, b6, b7⟩ (Pv.one b2.pr))
          have hS3 := keep_heap hS2 b2.hb
          refine hK.out _ _ hS3 ?_
          clear hK K 
          (try simp only [Act.put, List.setIfInBounds_toArray, List.set_cons_zero, List.set_cons_succ])
          have hS3 := hS3
          clear hS2 H2 b1 b2 b3 b4 b5 b6 b7 b8 hcb
          have H4 := Lib.hid (H3.out.boxx zeroP)
          have hS4 := keep_heap hS3 ((Below.refl w3.heap.size w3).alloc (Nat.le_refl _) (.cells zeroP 29))
          refine planV_run rfl ?_ (fun K hK => ?_)
          focus (rfl)
          go_simp
          refine hK.out _ _ (hS4) ?_
          clear hK K
          (try simp only [Act.put, List.setIfInBounds_toArray, List.set_cons_zero, List.set_cons_succ])
          generalize w3.alloc (.cells zeroP 29) = w4 at *
          clear hS3 H3
          refine planV_run rfl ?_ (fun K hK => ?_)
          focus (rfl)
          refine wp_store_row 29 (.tmp 7) (.tmp 21) rfl (w3.heap.size) a.cells rfl rfl 29 zeroP (H4.out.hx _ _ rfl).2.1 (infoPT rfl) rfl (Pv.one (H4.out.ha _ _ rfl).2.2) ?_
          have H5 := Lib.hid (H4.out.storex a.cells)
          have hS5 := (chg_setRow w4 (w3.heap.size) a.cells).heap hS4 (fun e => by have e : W.heap.size = w3.heap.size := e; have h1 := (H4.out.hx _ _ rfl).1; have h2 := heap_lt HX.out; omega)
          refine hK.out _ _ (hS5) ?_
          clear hK K
          (try simp only [Act.put, List.setIfInBounds_toArray, List.set_cons_zero, List.set_cons_succ])
          generalize w4.setRow (w3.heap.size) a.cells = w5 at *
          clear hS4 H4
          refine planV_run rfl ?_ (fun K hK => ?_)
          focus (rfl)
          refine wp_store_row 29 (.tmp 8) (.tmp 23) rfl (w1.heap.size) b.cells rfl rfl 29 zeroP (H5.out.hy _ _ rfl).2.1 (infoPT rfl) rfl (H5.out.hq _ rfl).2.1 ?_
          have H6 := Lib.hid (H5.out.storey b.cells)
          have hS6 := (chg_setRow w5 (w1.heap.size) b.cells).heap hS5 (fun e => by have e : W.heap.size = w1.heap.size := e; have h1 := (H5.out.hy _ _ rfl).1; have h2 := heap_lt HX.out; omega)
          refine hK.out _ _ (hS6) ?_
          clear hK K
          (try simp only [Act.put, List.setIfInBounds_toArray, List.set_cons_zero, List.set_cons_succ])
          generalize w5.setRow (w1.heap.size) b.cells = w6 at *
          clear hS5 H5
          refine planV_done ?_
          refine r3_intro p.cells a La b (w3.heap.size) (w1.heap.size) ?_ H6.out
          simp only [puts, Act.put, List.setIfInBounds_toArray, List.set_cons_zero, List.set_cons_succ]
        · skip
          have H3 := Lib.hid (H2.out.boxx zeroP)
          have hS3 := keep_heap hS2 ((Below.refl w2.heap.size w2).alloc (Nat.le_refl _) (.cells zeroP 29))
          refine planV_run rfl ?_ (fun K hK => ?_)
          focus (rfl)
          go_simp
          refine hK.out _ _ (hS3) ?_
          clear hK K
          (try simp only [Act.put, List.setIfInBounds_toArray, List.set_cons_zero, List.set_cons_succ])
          generalize w2.alloc (.cells zeroP 29) = w3 at *
          clear hS2 H2
          refine planV_run rfl ?_ (fun K hK => ?_)
          focus (rfl)
          go_simp
          refine (copy_any _ p D.X (HP.out _ H3.out.hb) HD.out.px).mono ?_
          rintro e w4 hcb
          obtain ⟨b, Lb, rfl, b1, b2, B, b3, b4, b5, b6, b7, b8⟩ := hcb.pr (HP.out _ H3.out.hb)
          have H4 := Lib.hid (H3.out.callb b2.hb b3 ⟨b5, b6, b7⟩ (Pv.one b2.pr))
          have hS4 := keep_heap hS3 b2.hb
          refine hK.out _ _ hS4 ?_
          clear hK K 
          (try simp only [Act.put, List.setIfInBounds_toArray, List.set_cons_zero, List.set_cons_succ])
          have hS4 := hS4
          clear hS3 H3 b1 b2 b3 b4 b5 b6 b7 b8 hcb
          refine planV_run rfl ?_ (fun K hK => ?_)
          focus (rfl)
          refine wp_store_row 29 (.tmp 7) (.tmp 21) rfl (w2.heap.size) a.cells rfl rfl 29 zeroP (H4.out.hx _ _ rfl).2.1 (infoPT rfl) rfl (Pv.one (H4.out.ha _ _ rfl).2.2) ?_
          have H5 := Lib.hid (H4.out.storex a.cells)
          have hS5 := (chg_setRow w4 (w2.heap.size) a.cells).heap hS4 (fun e => by have e : W.heap.size = w2.heap.size := e; have h1 := (H4.out.hx _ _ rfl).1; have h2 := heap_lt HX.out; omega)
          refine hK.out _ _ (hS5) ?_
          clear hK K
          (try simp only [Act.put, List.setIfInBounds_toArray, List.set_cons_zero, List.set_cons_succ])
          generalize w4.setRow (w2.heap.size) a.cells = w5 at *
          clear hS4 H4
          refine planV_run rfl ?_ (fun K hK => ?_)
          focus (rfl)
          refine wp_store_row 29 (.tmp 8) (.tmp 23) rfl (w1.heap.size) b.cells rfl rfl 29 zeroP (H5.out.hy _ _ rfl).2.1 (infoPT rfl) rfl (H5.out.hq _ rfl).2.1 ?_
          have H6 := Lib.hid (H5.out.storey b.cells)
          have hS6 := (chg_setRow w5 (w1.heap.size) b.cells).heap hS5 (fun e => by have e : W.heap.size = w1.heap.size := e; have h1 := (H5.out.hy _ _ rfl).1; have h2 := heap_lt HX.out; omega)
          refine hK.out _ _ (hS6) ?_
          clear hK K
          (try simp only [Act.put, List.setIfInBounds_toArray, List.set_cons_zero, List.set_cons_succ])
          generalize w5.setRow (w1.heap.size) b.cells = w6 at *
          clear hS5 H5
          refine planV_done ?_
          refine r3_intro p.cells a La b (w2.heap.size) (w1.heap.size) ?_ H6.out
          simp only [puts, Act.put, List.setIfInBounds_toArray, List.set_cons_zero, List.set_cons_succ]
    · skip
      have H1 := Lib.hid (H0.out.boxx zeroP)
      have hS1 := keep_heap hS ((Below.refl WD.heap.size WD).alloc (Nat.le_refl _) (.cells zeroP 29))
      refine planV_run rfl ?_ (fun K hK => ?_)
      focus (rfl)
      go_simp
      refine hK.out _ _ (hS1) ?_
      clear hK K
      (try simp only [Act.put, List.setIfInBounds_toArray, List.set_cons_zero, List.set_cons_succ])
      generalize WD.alloc (.cells zeroP 29) = w1 at *
      clear hS H0
      refine planV_fork ?_ ?_
      · skip
        refine planV_run rfl ?_ (fun K hK => ?_)
        focus (rfl)
        go_simp
        refine (pcopy_any _ p D.X (HP.out _ H1.out.hb) HD.out.px).mono ?_
        rintro e w2 ⟨a, La, rfl, a1, a2, a3, a4, a5⟩
        have H2 := Lib.hid (H1.out.calla a1 a2 a3 a4 a5)
        have hS2 := keep_heap hS1 a2
        refine hK.out _ _ hS2 ?_
        clear hK K 
        (try simp only [Act.put, List.setIfInBounds_toArray, List.set_cons_zero, List.set_cons_succ])
        have hS2 := hS2
        clear hS1 H1 a1 a3 a4 a5 a2
        refine planV_fork ?_ ?_
        · skip
          refine planV_run rfl ?_ (fun K hK => ?_)
          focus (rfl)
          go_simp
          refine (copy_any _ p D.X (HP.out _ H2.out.hb) HD.out.px).mono ?_
          rintro e w3 hcb
          obtain ⟨b, Lb, rfl, b1, b2, B, b3, b4, b5, b6, b7, b8⟩ := hcb.pr (HP.out _ H2.out.hb)
          have H3 := Lib.hid (H2.out.callb b2.hb b3 ⟨b5, b6, b7⟩ (Pv.one b2.pr))
          have hS3 := keep_heap hS2 b2.hb
          refine hK.out _ _ hS3 ?_
          clear hK K 
          (try simp only [Act.put, List.setIfInBounds_toArray, List.set_cons_zero, List.set_cons_succ])
          have hS3 := hS3
          clear hS2 H2 b1 b2 b3 b4 b5 b6 b7 b8 hcb
          have H4 := Lib.hid (H3.out.boxy zeroP)
          have hS4 := keep_heap hS3 ((Below.refl w3.heap.size w3).alloc (Nat.le_refl _) (.cells zeroP 29))
          refine planV_run rfl ?_ (fun K hK => ?_)
          focus (rfl)
          go_simp
          refine hK.out _ _ (hS4) ?_
          clear hK K
          (try simp only [Act.put, List.setIfInBounds_toArray, List.set_cons_zero, List.set_cons_succ])
          generalize w3.alloc (.cells zeroP 29) = w4 at *
          clear hS3 H3
          refine planV_run rfl ?_ (fun K hK => ?_)
          focus (rfl)
          refine wp_store_row 29 (.tmp 7) (.tmp 21) rfl (WD.heap.size) a.cells rfl rfl 29 zeroP (H4.out.hx _ _ rfl).2.1 (infoPT rfl) rfl (Pv.one (H4.out.ha _ _ rfl).2.2) ?_
          have H5 := Lib.hid (H4.out.storex a.cells)
          have hS5 := (chg_setRow w4 (WD.heap.size) a.cells).heap hS4 (fun e => by have e : W.heap.size = WD.heap.size := e; have h1 := (H4.out.hx _ _ rfl).1; have h2 := heap_lt HX.out; omega)
          refine hK.out _ _ (hS5) ?_
          clear hK K
          (try simp only [Act.put, List.setIfInBounds_toArray, List.set_cons_zero, List.set_cons_succ])
          generalize w4.setRow (WD.heap.size) a.cells = w5 at *
          clear hS4 H4
          refine planV_run rfl ?_ (fun K hK => ?_)
          focus (rfl)
          refine wp_store_row 29 (.tmp 8) (.tmp 23) rfl (w3.heap.size) b.cells rfl rfl 29 zeroP (H5.out.hy _ _ rfl).2.1 (infoPT rfl) rfl (H5.out.hq _ rfl).2.1 ?_
          have H6 := Lib.hid (H5.out.storey b.cells)
          have hS6 := (chg_setRow w5 (w3.heap.size) b.cells).heap hS5 (fun e => by have e : W.heap.size = w3.heap.size := e; have h1 := (H5.out.hy _ _ rfl).1; have h2 := heap_lt HX.out; omega)
          refine hK.out _ _ (hS6) ?_
          clear hK K
          (try simp only [Act.put, List.setIfInBounds_toArray, List.set_cons_zero, List.set_cons_succ])
          generalize w5.setRow (w3.heap.size) b.cells = w6 at *
          clear hS5 H5
          refine planV_done ?_
          refine r3_intro p.cells a La b (WD.heap.size) (w3.heap.size) ?_ H6.out
          simp only [puts, Act.put, List.setIfInBounds_toArray, List.set_cons_zero, List.set_cons_succ]
        · skip
          have H3 := Lib.hid (H2.out.boxy zeroP)
          have hS3 := keep_heap hS2 ((Below.refl w2.heap.size w2).alloc (Nat.le_refl _) (.cells zeroP 29))
          refine planV_run rfl ?_ (fun K hK => ?_)
          focus (rfl)
          go_simp
          refine hK.out _ _ (hS3) ?_
          clear hK K
          (try simp only [Act.put, List.setIfInBounds_toArray, List.set_cons_zero, List.set_cons_succ])
          generalize w2.alloc (.cells zeroP 29) = w3 at *
          clear hS2 H2
          refine planV_run rfl ?_ (fun K hK => ?_)
          focus (rfl)
          go_simp
          refine (copy_any _ p D.X (HP.out _ H3.out.hb) HD.out.px).mono ?_
          rintro e w4 hcb
          obtain ⟨b, Lb, rfl, b1, b2, B, b3, b4, b5, b6, b7, b8⟩ := hcb.pr (HP.out _ H3.out.hb)
          have H4 := Lib.hid (H3.out.callb b2.hb b3 ⟨b5, b6, b7⟩ (Pv.one b2.pr))
          have hS4 := keep_heap hS3 b2.hb
          refine hK.out _ _ hS4 ?_
          clear hK K 
          (try simp only [Act.put, List.setIfInBounds_toArray, List.set_cons_zero, List.set_cons_succ])
          have hS4 := hS4
          clear hS3 H3 b1 b2 b3 b4 b5 b6 b7 b8 hcb
          refine planV_run rfl ?_ (fun K hK => ?_)
          focus (rfl)
          refine wp_store_row 29 (.tmp 7) (.tmp 21) rfl (WD.heap.size) a.cells rfl rfl 29 zeroP (H4.out.hx _ _ rfl).2.1 (infoPT rfl) rfl (Pv.one (H4.out.ha _ _ rfl).2.2) ?_
          have H5 := Lib.hid (H4.out.storex a.cells)
          have hS5 := (chg_setRow w4 (WD.heap.size) a.cells).heap hS4 (fun e => by have e : W.heap.size = WD.heap.size := e; have h1 := (H4.out.hx _ _ rfl).1; have h2 := heap_lt HX.out; omega)
          refine hK.out _ _ (hS5) ?_
          clear hK K
          (try simp only [Act.put, List.setIfInBounds_toArray, List.set_cons_zero, List.set_cons_succ])
          generalize w4.setRow (WD.heap.size) a.cells = w5 at *
          clear hS4 H4
          refine planV_run rfl ?_ (fun K hK => ?_)
          focus (rfl)
          refine wp_store_row 29 (.tmp 8) (.tmp 23) rfl (w2.heap.size) b.cells rfl rfl 29 zeroP (H5.out.hy _ _ rfl).2.1 (infoPT rfl) rfl (H5.out.hq _ rfl).2.1 ?_
          have H6 := Lib.hid (H5.out.storey b.cells)
          have hS6 := (chg_setRow w5 (w2.heap.size) b.cells).heap hS5 (fun e => by have e : W.heap.size = w2.heap.size := e; have h1 := (H5.out.hy _ _ rfl).1; have h2 := heap_lt HX.out; omega)
          refine hK.out _ _ (hS6) ?_
          clear hK K
          (try simp only [Act.put, List.setIfInBounds_toArray, List.set_cons_zero, List.set_cons_succ])
          generalize w5.setRow (w2.heap.size) b.cells = w6 at *
          clear hS5 H5
          refine planV_done ?_
          refine r3_intro p.cells a La b (WD.heap.size) (w2.heap.size) ?_ H6.out
          simp only [puts, Act.put, List.setIfInBounds_toArray, List.set_cons_zero, List.set_cons_succ]
      · skip
        have H2 := Lib.hid (H1.out.boxy zeroP)
        have hS2 := keep_heap hS1 ((Below.refl w1.heap.size w1).alloc (Nat.le_refl _) (.cells zeroP 29))
        refine planV_run rfl ?_ (fun K hK => ?_)
        focus (rfl)
        go_simp
        refine hK.out _ _ (hS2) ?_
        clear hK K
        (try simp only [Act.put, List.setIfInBounds_toArray, List.set_cons_zero, List.set_cons_succ])
        generalize w1.alloc (.cells zeroP 29) = w2 at *
        clear hS1 H1
        refine planV_run rfl ?_ (fun K hK => ?_)
        focus (rfl)
        go_simp
        refine (pcopy_any _ p D.X (HP.out _ H2.out.hb) HD.out.px).mono ?_
        rintro e w3 ⟨a, La, rfl, a1, a2, a3, a4, a5⟩
        have H3 := Lib.hid (H2.out.calla a1 a2 a3 a4 a5)
        have hS3 := keep_heap hS2 a2
        refine hK.out _ _ hS3 ?_
        clear hK K 
        (try simp only [Act.put, List.setIfInBounds_toArray, List.set_cons_zero, List.set_cons_succ])
        have hS3 := hS3
        clear hS2 H2 a1 a3 a4 a5 a2
        refine planV_run rfl ?_ (fun K hK => ?_)
        focus (rfl)
        go_simp
        refine (copy_any _ p D.X (HP.out _ H3.out.hb) HD.out.px).mono ?_
        rintro e w4 hcb
        obtain ⟨b, Lb, rfl, b1, b2, B, b3, b4, b5, b6, b7, b8⟩ := hcb.pr (HP.out _ H3.out.hb)
        have H4 := Lib.hid (H3.out.callb b2.hb b3 ⟨b5, b6, b7⟩ (Pv.one b2.pr))
        have hS4 := keep_heap hS3 b2.hb
        refine hK.out _ _ hS4 ?_
        clear hK K 
        (try simp only [Act.put, List.setIfInBounds_toArray, List.set_cons_zero, List.set_cons_succ])
        have hS4 := hS4
        clear hS3 H3 b1 b2 b3 b4 b5 b6 b7 b8 hcb
        refine planV_run rfl ?_ (fun K hK => ?_)
        focus (rfl)
        refine wp_store_row 29 (.tmp 7) (.tmp 21) rfl (WD.heap.size) a.cells rfl rfl 29 zeroP (H4.out.hx _ _ rfl).2.1 (infoPT rfl) rfl (Pv.one (H4.out.ha _ _ rfl).2.2) ?_
        have H5 := Lib.hid (H4.out.storex a.cells)
        have hS5 := (chg_setRow w4 (WD.heap.size) a.cells).heap hS4 (fun e => by have e : W.heap.size = WD.heap.size := e; have h1 := (H4.out.hx _ _ rfl).1; have h2 := heap_lt HX.out; omega)
        refine hK.out _ _ (hS5) ?_
        clear hK K
        (try simp only [Act.put, List.setIfInBounds_toArray, List.set_cons_zero, List.set_cons_succ])
        generalize w4.setRow (WD.heap.size) a.cells = w5 at *
        clear hS4 H4
        refine planV_run rfl ?_ (fun K hK => ?_)
        focus (rfl)
        refine wp_store_row 29 (.tmp 8) (.tmp 23) rfl (w1.heap.size) b.cells rfl rfl 29 zeroP (H5.out.hy _ _ rfl).2.1 (infoPT rfl) rfl (H5.out.hq _ rfl).2.1 ?_
        have H6 := Lib.hid (H5.out.storey b.cells)
        have hS6 := (chg_setRow w5 (w1.heap.size) b.cells).heap hS5 (fun e => by have e : W.heap.size = w1.heap.size := e; have h1 := (H5.out.hy _ _ rfl).1; have h2 := heap_lt HX.out; omega)
        refine hK.out _ _ (hS6) ?_
        clear hK K
        (try simp only [Act.put, List.setIfInBounds_toArray, List.set_cons_zero, List.set_cons_succ])
        generalize w5.setRow (w1.heap.size) b.cells = w6 at *
        clear hS5 H5
        refine planV_done ?_
        refine r3_intro p.cells a La b (WD.heap.size) (w1.heap.size) ?_ H6.out
        simp only [puts, Act.put, List.setIfInBounds_toArray, List.set_cons_zero, List.set_cons_succ]
    · skip
      have H1 := Lib.hid (H0.out.boxy zeroP)
      have hS1 := keep_heap hS ((Below.refl WD.heap.size WD).alloc (Nat.le_refl _) (.cells zeroP 29))
      refine planV_run rfl ?_ (fun K hK => ?_)
      focus (rfl)
      go_simp
      refine hK.out _ _ (hS1) ?_
      clear hK K
      (try simp only [Act.put, List.setIfInBounds_toArray, List.set_cons_zero, List.set_cons_succ])
      generalize WD.alloc (.cells zeroP 29) = w1 at *
      clear hS H0
      refine planV_fork ?_ ?_
      · skip
        refine planV_run rfl ?_ (fun K hK => ?_)
        focus (rfl)
        go_simp
        refine (pcopy_any _ p D.X (HP.out _ H1.out.hb) HD.out.px).mono ?_
        rintro e w2 ⟨a, La, rfl, a1, a2, a3, a4, a5⟩
        have H2 := Lib.hid (H1.out.calla a1 a2 a3 a4 a5)
        have hS2 := keep_heap hS1 a2
        refine hK.out _ _ hS2 ?_
        clear hK K 
        (try simp only [Act.put, List.setIfInBounds_toArray, List.set_cons_zero, List.set_cons_succ])
        have hS2 := hS2
        clear hS1 H1 a1 a3 a4 a5 a2
        refine planV_fork ?_ ?_
        · skip
          refine planV_run rfl ?_ (fun K hK => ?_)
          focus (rfl)
          go_simp
          refine (copy_any _ p D.X (HP.out _ H2.out.hb) HD.out.px).mono ?_
          rintro e w3 hcb
          obtain ⟨b, Lb, rfl, b1, b2, B, b3, b4, b5, b6, b7, b8⟩ := hcb.pr (HP.out _ H2.out.hb)
          have H3 := Lib.hid (H2.out.callb b2.hb b3 ⟨b5, b6, b7⟩ (Pv.one b2.pr))
          have hS3 := keep_heap hS2 b2.hb
          refine hK.out _ _ hS3 ?_
          clear hK K 
          (try simp only [Act.put, List.setIfInBounds_toArray, List.set_cons_zero, List.set_cons_succ])
          have hS3 := hS3
          clear hS2 H2 b1 b2 b3 b4 b5 b6 b7 b8 hcb
          have H4 := Lib.hid (H3.out.boxx zeroP)
          have hS4 := keep_heap hS3 ((Below.refl w3.heap.size w3).alloc (Nat.le_refl _) (.cells zeroP 29))
          refine planV_run rfl ?_ (fun K hK => ?_)
          focus (rfl)
          go_simp
          refine hK.out _ _ (hS4) ?_
          clear hK K
          (try simp only [Act.put, List.setIfInBounds_toArray, List.set_cons_zero, List.set_cons_succ])
          generalize w3.alloc (.cells zeroP 29) = w4 at *
          clear hS3 H3
          refine planV_run rfl ?_ (fun K hK => ?_)
          focus (rfl)
          refine wp_store_row 29 (.tmp 7) (.tmp 21) rfl (w3.heap.size) a.cells rfl rfl 29 zeroP (H4.out.hx _ _ rfl).2.1 (infoPT rfl) rfl (Pv.one (H4.out.ha _ _ rfl).2.2) ?_
          have H5 := Lib.hid (H4.out.storex a.cells)
          have hS5 := (chg_setRow w4 (w3.heap.size) a.cells).heap hS4 (fun e => by have e : W.heap.size = w3.heap.size := e; have h1 := (H4.out.hx _ _ rfl).1; have h2 := heap_lt HX.out; omega)
          refine hK.out _ _ (hS5) ?_
          clear hK K
          (try simp only [Act.put, List.setIfInBounds_toArray, List.set_cons_zero, List.set_cons_succ])
          generalize w4.setRow (w3.heap.size) a.cells = w5 at *
          clear hS4 H4
          refine planV_run rfl ?_ (fun K hK => ?_)
          focus (rfl)
          refine wp_store_row 29 (.tmp 8) (.tmp 23) rfl (WD.heap.size) b.cells rfl rfl 29 zeroP (H5.out.hy _ _ rfl).2.1 (infoPT rfl) rfl (H5.out.hq _ rfl).2.1 ?_
          have H6 := Lib.hid (H5.out.storey b.cells)
          have hS6 := (chg_setRow w5 (WD.heap.size) b.cells).heap hS5 (fun e => by have e : W.heap.size = WD.heap.size := e; have h1 := (H5.out.hy _ _ rfl).1; have h2 := heap_lt HX.out; omega)
          refine hK.out _ _ (hS6) ?_
          clear hK K
          (try simp only [Act.put, List.setIfInBounds_toArray, List.set_cons_zero, List.set_cons_succ])
          generalize w5.setRow (WD.heap.size) b.cells = w6 at *
          clear hS5 H5
          refine planV_done ?_
          refine r3_intro p.cells a La b (w3.heap.size) (WD.heap.size) ?_ H6.out
          simp only [puts, Act.put, List.setIfInBounds_toArray, List.set_cons_zero, List.set_cons_succ]
        · skip
          have H3 := Lib.hid (H2.out.boxx zeroP)
          have hS3 := keep_heap hS2 ((Below.refl w2.heap.size w2).alloc (Nat.le_refl _) (.cells zeroP 29))
          refine planV_run rfl ?_ (fun K hK => ?_)
          focus (rfl)
          go_simp
          refine hK.out _ _ (hS3) ?_
          clear hK K
          (try simp only [Act.put, List.setIfInBounds_toArray, List.set_cons_zero, List.set_cons_succ])
          generalize w2.alloc (.cells zeroP 29) = w3 at *
          clear hS2 H2
          refine planV_run rfl ?_ (fun K hK => ?_)
          focus (rfl)
          go_simp
          refine (copy_any _ p D.X (HP.out _ H3.out.hb) HD.out.px).mono ?_
          rintro e w4 hcb
          obtain ⟨b, Lb, rfl, b1, b2, B, b3, b4, b5, b6, b7, b8⟩ := hcb.pr (HP.out _ H3.out.hb)
          have H4 := Lib.hid (H3.out.callb b2.hb b3 ⟨b5, b6, b7⟩ (Pv.one b2.pr))
          have hS4 := keep_heap hS3 b2.hb
          refine hK.out _ _ hS4 ?_
          clear hK K 
          (try simp only [Act.put, List.setIfInBounds_toArray, List.set_cons_zero, List.set_cons_succ])
          have hS4 := hS4
          clear hS3 H3 b1 b2 b3 b4 b5 b6 b7 b8 hcb
          refine planV_run rfl ?_ (fun K hK => ?_)
          focus (rfl)
          refine wp_store_row 29 (.tmp 7) (.tmp 21) rfl (w2.heap.size) a.cells rfl rfl 29 zeroP (H4.out.hx _ _ rfl).2.1 (infoPT rfl) rfl (Pv.one (H4.out.ha _ _ rfl).2.2) ?_
          have H5 := Lib.hid (H4.out.storex a.cells)
          have hS5 := (chg_setRow w4 (w2.heap.size) a.cells).heap hS4 (fun e => by have e : W.heap.size = w2.heap.size := e; have h1 := (H4.out.hx _ _ rfl).1; have h2 := heap_lt HX.out; omega)
          refine hK.out _ _ (hS5) ?_
          clear hK K
          (try simp only [Act.put, List.setIfInBounds_toArray, List.set_cons_zero, List.set_cons_succ])
          generalize w4.setRow (w2.heap.size) a.cells = w5 at *
          clear hS4 H4
          refine planV_run rfl ?_ (fun K hK => ?_)
          focus (rfl)
          refine wp_store_row 29 (.tmp 8) (.tmp 23) rfl (WD.heap.size) b.cells rfl rfl 29 zeroP (H5.out.hy _ _ rfl).2.1 (infoPT rfl) rfl (H5.out.hq _ rfl).2.1 ?_
          have H6 := Lib.hid (H5.out.storey b.cells)
          have hS6 := (chg_setRow w5 (WD.heap.size) b.cells).heap hS5 (fun e => by have e : W.heap.size = WD.heap.size := e; have h1 := (H5.out.hy _ _ rfl).1; have h2 := heap_lt HX.out; omega)
          refine hK.out _ _ (hS6) ?_
          clear hK K
          (try simp only [Act.put, List.setIfInBounds_toArray, List.set_cons_zero, List.set_cons_succ])
          generalize w5.setRow (WD.heap.size) b.cells = w6 at *
          clear hS5 H5
          refine planV_done ?_
          refine r3_intro p.cells a La b (w2.heap.size) (WD.heap.size) ?_ H6.out
          simp only [puts, Act.put, List.setIfInBounds_toArray, List.set_cons_zero, List.set_cons_succ]
      · skip
        have H2 := Lib.hid (H1.out.boxx zeroP)
        have hS2 := keep_heap hS1 ((Below.refl w1.heap.size w1).alloc (Nat.le_refl _) (.cells zeroP 29))
        refine planV_run rfl ?_ (fun K hK => ?_)
        focus (rfl)
        go_simp
        refine hK.out _ _ (hS2) ?_
        clear hK K
        (try simp only [Act.put, List.setIfInBounds_toArray, List.set_cons_zero, List.set_cons_succ])
        generalize w1.alloc (.cells zeroP 29) = w2 at *
        clear hS1 H1
        refine planV_run rfl ?_ (fun K hK => ?_)
        focus (rfl)
        go_simp
        refine (pcopy_any _ p D.X (HP.out _ H2.out.hb) HD.out.px).mono ?_
        rintro e w3 ⟨a, La, rfl, a1, a2, a3, a4, a5⟩
        have H3 := Lib.hid (H2.out.calla a1 a2 a3 a4 a5)
        have hS3 := keep_heap hS2 a2
        refine hK.out _ _ hS3 ?_
        clear hK K 
        (try simp only [Act.put, List.setIfInBounds_toArray, List.set_cons_zero, List.set_cons_succ])
        have hS3 := hS3
        clear hS2 H2 a1 a3 a4 a5 a2
        refine planV_run rfl ?_ (fun K hK => ?_)
        focus (rfl)
        go_simp
        refine (copy_any _ p D.X (HP.out _ H3.out.hb) HD.out.px).mono ?_
        rintro e w4 hcb
        obtain ⟨b, Lb, rfl, b1, b2, B, b3, b4, b5, b6, b7, b8⟩ := hcb.pr (HP.out _ H3.out.hb)
        have H4 := Lib.hid (H3.out.callb b2.hb b3 ⟨b5, b6, b7⟩ (Pv.one b2.pr))
        have hS4 := keep_heap hS3 b2.hb
        refine hK.out _ _ hS4 ?_
        clear hK K 
        (try simp only [Act.put, List.setIfInBounds_toArray, List.set_cons_zero, List.set_cons_succ])
        have hS4 := hS4
        clear hS3 H3 b1 b2 b3 b4 b5 b6 b7 b8 hcb
        refine planV_run rfl ?_ (fun K hK => ?_)
        focus (rfl)
        refine wp_store_row 29 (.tmp 7) (.tmp 21) rfl (w1.heap.size) a.cells rfl rfl 29 zeroP (H4.out.hx _ _ rfl).2.1 (infoPT rfl) rfl (Pv.one (H4.out.ha _ _ rfl).2.2) ?_
        have H5 := Lib.hid (H4.out.storex a.cells)
        have hS5 := (chg_setRow w4 (w1.heap.size) a.cells).heap hS4 (fun e => by have e : W.heap.size = w1.heap.size := e; have h1 := (H4.out.hx _ _ rfl).1; have h2 := heap_lt HX.out; omega)
        refine hK.out _ _ (hS5) ?_
        clear hK K
        (try simp only [Act.put, List.setIfInBounds_toArray, List.set_cons_zero, List.set_cons_succ])
        generalize w4.setRow (w1.heap.size) a.cells = w5 at *
        clear hS4 H4
        refine planV_run rfl ?_ (fun K hK => ?_)
        focus (rfl)
        refine wp_store_row 29 (.tmp 8) (.tmp 23) rfl (WD.heap.size) b.cells rfl rfl 29 zeroP (H5.out.hy _ _ rfl).2.1 (infoPT rfl) rfl (H5.out.hq _ rfl).2.1 ?_
        have H6 := Lib.hid (H5.out.storey b.cells)
        have hS6 := (chg_setRow w5 (WD.heap.size) b.cells).heap hS5 (fun e => by have e : W.heap.size = WD.heap.size := e; have h1 := (H5.out.hy _ _ rfl).1; have h2 := heap_lt HX.out; omega)
        refine hK.out _ _ (hS6) ?_
        clear hK K
        (try simp only [Act.put, List.setIfInBounds_toArray, List.set_cons_zero, List.set_cons_succ])
        generalize w5.setRow (WD.heap.size) b.cells = w6 at *
        clear hS5 H5
        refine planV_done ?_
        refine r3_intro p.cells a La b (w1.heap.size) (WD.heap.size) ?_ H6.out
        simp only [puts, Act.put, List.setIfInBounds_toArray, List.set_cons_zero, List.set_cons_succ]
  · rintro a' w4 ⟨pc, a, La, b, px, py, rfl, hP3⟩
    simp only [puts, Act.put, List.setIfInBounds_toArray, List.set_cons_zero, List.set_cons_succ]
    obtain ⟨bpid, bpar, bsv, bmv, bname, btrap, bwait, blv, bwv⟩ := b
    have HQ := Lib.hid hP3.out
    obtain ⟨_, om⟩ := HQ.out.om
    obtain ⟨_, _, ol⟩ := HQ.out.ol
    obtain ⟨_, _, ow⟩ := HQ.out.ow
    obtain ⟨mo, mc, e1⟩ := own_slice om
    obtain ⟨lo, lc, e2⟩ := own_slice ol
    obtain ⟨wo, wc, e3⟩ := own_slice ow
    simp only at e1 e2 e3
    subst e1 e2 e3
    clear om ol ow hP3 hd hB3 hX3 hY3
    generalize w3.drew = WD at *
    have HD' := HD
    have hlk := HD.out.hl
    have hws := HD.out.hw
    have hnm := HD.out.hm
    obtain ⟨c7, -⟩ := cells_at HQ.out.hy 7 _ rfl
    go_wp2_with fail
    clear c7
    go_loopw [27] (fun iv wr => ∃ i : Nat, i ≤ D.lk.length ∧ iv = .int .i64 i ∧ Hid (Q3 WD wr p D a La ⟨bpid, bpar, bsv, .slice mo D.nm mc, bname, btrap, bwait, .slice lo D.lk.length lc, .slice wo D.ws.length wc⟩ px py)) (fun iv _ => D.lk.length - (intOf iv).toNat)
    case atStart => exact ⟨0, Nat.zero_le _, rfl, HQ⟩
    case round =>
      obtain ⟨i, hi, rfl, HR⟩ := hrel
      clear HQ
      by_cases hlt : i < D.lk.length
      · obtain ⟨ps, hps, hown⟩ := HR.out.ol
        obtain ⟨g, rfl⟩ := own_addr hown (by omega)
        obtain ⟨z0, hz0⟩ : ∃ z, ps[i]? = some z := ⟨_, List.getElem?_eq_getElem (by omega)⟩
        obtain ⟨d0, d1, d2⟩ := own_cell hown (iv_at hz0)
        obtain ⟨z, hz⟩ : ∃ z, IntKind.i64.wrap (z0 + 1) = z := ⟨_, rfl⟩
        obtain ⟨c7, -⟩ := cells_at HR.out.hy 7 _ rfl
        have hs := (own_sets hown i [.int .i64 z] (by simp; omega)).1
        rw [show i + [Value.int .i64 z].length = i + 1 from rfl, iv_set z (by omega)] at hs
        have hs2 : (wr.setCell ⟨g, i, none⟩ (.int .i64 z)).ownsRow WD.heap.size 3 1 (.slice (some ⟨g, 0, none⟩) D.lk.length lc) D.lk.length (iv (ps.set i z)) := hs
        have HR2 := Lib.hid (HR.out.setl (ps := ps.set i z) (by simpa using hps) ((chg_set (w := wr) (p := ⟨g, i, none⟩) (.int .i64 z)).mono (fun k _ e => by have e : k = g := e; rw [e]; rfl)) hs2)
        clear hs hs2 hown hps hz0 HR
        go_wp2_with fail
        go_roundw
        case rel => exact ⟨i + 1, hlt, by go_num, HR2⟩
        case measure => simp [intOf]; omega
      · have hlt' : ¬ ((i : Int) < (D.lk.length : Int)) := by omega
        obtain ⟨c3, -⟩ := cells_at HR.out.hy 3 _ rfl
        go_wp2_with fail
        clear c3 hlt hlt' hi
        have HS := HR
        clear HR
        go_loopw [41] (fun iv wr => ∃ i : Nat, i ≤ D.nm ∧ iv = .int .i64 i ∧ Hid (Q3 WD wr p D a La ⟨bpid, bpar, bsv, .slice mo D.nm mc, bname, btrap, bwait, .slice lo D.lk.length lc, .slice wo D.ws.length wc⟩ px py)) (fun iv _ => D.nm - (intOf iv).toNat)
        case atStart => exact ⟨0, Nat.zero_le _, rfl, HS⟩
        case round =>
          obtain ⟨i, hi, rfl, HR⟩ := hrel
          clear HS
          by_cases hlt : i < D.nm
          · obtain ⟨xs, hown⟩ := HR.out.om
            obtain ⟨g, rfl⟩ := own_addr hown (by omega)
            obtain ⟨c3, -⟩ := cells_at HR.out.hy 3 _ rfl
            have hs := own_sets hown (i * 6) [.int .i8 x.k, .int .i64 x.n, .string x.s, .string x.u, .slice x.ao x.ln x.lc, .bool x.ours] (by simp; omega)
            have HT := Lib.hid hs.2
            have HR2 := Lib.hid (HR.out.setm ((chg_setCells g _ (i * 6) wr).mono (fun k _ e => by have e : k = g := e; rw [e]; rfl)) hs.1)
            have HYR := Lib.hid (keep_heap HY.out HR.out.hb)
            clear hs hown
            go_wp2_with (with_reducible refine stop_op (o := ⟨_, .load 47 (.tmp 5), _, _, _, _⟩) ?_)
            refine Lib.hid ?_
            refine wpList_load_row (o := ⟨_, _, _, _, _, _⟩) rfl 47 (.tmp 5) rfl (W.heap.size + 1) rfl 47 #[.int .i8 x.k, .int .i64 x.n, .string x.s, .string x.u, .slice x.ao x.ln x.lc, .bool x.ours] (0, 0) _ HYR.out Tryd.underlying47 rfl (infoIM rfl) ?_
            go_wp2_with (with_reducible refine stop_op (o := ⟨_, .store 47 (.tmp 48) (.tmp 47), _, _, _, _⟩) ?_)
            refine Lib.hid ?_
            refine wpList_store_mid (op := ⟨none, _, _, _, _, _⟩) rfl 47 (.tmp 48) (.tmp 47) rfl g (i * 6) #[.int .i8 x.k, .int .i64 x.n, .string x.s, .string x.u, .slice x.ao x.ln x.lc, .bool x.ours] rfl rfl HT.out (infoIM rfl) (by simp [Value.oneCell']) ?_
            generalize wr.setCells g (i * 6) _ = w6 at *
            clear HR HT HYR c3
            go_wp2_with fail
            go_roundw
            case rel => exact ⟨i + 1, hlt, by go_num, HR2⟩
            case measure => simp [intOf]; omega
          · have hlt' : ¬ ((i : Int) < (D.nm : Int)) := by omega
            obtain ⟨c8, -⟩ := cells_at HR.out.hy 8 _ rfl
            go_wp2_with fail
            clear c8 hlt hlt' hi
            have HS := HR
            clear HR
            go_loopw [53] (fun iv wr => ∃ i : Nat, i ≤ D.ws.length ∧ iv = .int .i64 i ∧ Hid (Q3 WD wr p D a La ⟨bpid, bpar, bsv, .slice mo D.nm mc, bname, btrap, bwait, .slice lo D.lk.length lc, .slice wo D.ws.length wc⟩ px py)) (fun iv _ => D.ws.length - (intOf iv).toNat)
            case atStart => exact ⟨0, Nat.zero_le _, rfl, HS⟩
            case round =>
              obtain ⟨i, hi, rfl, HR⟩ := hrel
              clear HS
              by_cases hlt : i < D.ws.length
              · obtain ⟨ps, hps, hown⟩ := HR.out.ow
                obtain ⟨g, rfl⟩ := own_addr hown (by omega)
                obtain ⟨z0, hz0⟩ : ∃ z, ps[i]? = some z := ⟨_, List.getElem?_eq_getElem (by omega)⟩
                obtain ⟨d0, d1, d2⟩ := own_cell hown (wv_at hz0).2
                obtain ⟨z, hz⟩ : ∃ z, IntKind.i64.wrap (z0.2 + 1) = z := ⟨_, rfl⟩
                obtain ⟨c8, -⟩ := cells_at HR.out.hy 8 _ rfl
                have hs := (own_sets hown (i * 2 + 1) [.int .i64 z] (by simp; omega)).1
                rw [show i * 2 + 1 + [Value.int .i64 z].length = i * 2 + 1 + 1 from rfl, wv_set z hz0] at hs
                have hs2 : (wr.setCell ⟨g, i * 2 + 1, none⟩ (.int .i64 z)).ownsRow WD.heap.size 56 2 (.slice (some ⟨g, 0, none⟩) D.ws.length wc) D.ws.length (wv (ps.set i (z0.1, z))) := hs
                have HR2 := Lib.hid (HR.out.setw (ps := ps.set i (z0.1, z)) (by simpa using hps) ((chg_set (w := wr) (p := ⟨g, i * 2 + 1, none⟩) (.int .i64 z)).mono (fun k _ e => by have e : k = g := e; rw [e]; rfl)) hs2)
                clear hs hs2 hown hps hz0 HR
                go_wp2_with fail
                go_roundw
                case rel => exact ⟨i + 1, hlt, by go_num, HR2⟩
                case measure => simp [intOf]; omega
              · have hlt' : ¬ ((i : Int) < (D.ws.length : Int)) := by omega
                have hX1 := keep_heap HX.out HR.out.hb
                have HB1 := Lib.hid (HB.out.trans (HR.out.hb.mono HB.out.size))
                have HXL := Lib.hid (heap_lt HX.out)
                go_wp2_with (with_reducible refine stop_op (o := ⟨_, .load 29 (.tmp 3), _, _, _, _⟩) ?_)
                refine Lib.hid ?_
                refine wpList_load_row (o := ⟨_, _, _, _, _, _⟩) rfl 29 (.tmp 3) rfl W.heap.size rfl 29 p.cells (0, 0) _ hX1 Tryd.underlying29 rfl (infoPT rfl) ?_
                have HX1 := Lib.hid hX1
                clear hX1
                go_wp2_with fail
                refine (link_any wr p D k (HP.out _ HB1.out) HD.out).mono ?_
                rintro e w6 hlp
                obtain ⟨v6, rfl, hb6⟩ := hlp.some
                have HR6 := Lib.hid (HR.out.keep hb6)
                have HB6 := Lib.hid (HB1.out.trans (hb6.mono HB1.out.size))
                have HX6 := Lib.hid (keep_heap HX1.out hb6)
                clear hlp hb6 HR HB1 HX1 hlt hlt' hi
                go_wp2_with (with_reducible refine stop_op (o := ⟨_, .load 29 (.tmp 3), _, _, _, _⟩) ?_)
                refine Lib.hid ?_
                refine wpList_load_row (o := ⟨_, _, _, _, _, _⟩) rfl 29 (.tmp 3) rfl W.heap.size rfl 29 p.cells (0, 0) _ HX6.out Tryd.underlying29 rfl (infoPT rfl) ?_
                go_wp2_with fail
                refine (cut_any w6 p D k (HP.out _ HB6.out) HD.out).mono ?_
                rintro e w7 ⟨q7, D7, rfl, -, hpr7, -⟩
                have HR7 := Lib.hid (HR6.out.keep hpr7.hb)
                have HB7 := Lib.hid (HB6.out.trans (hpr7.hb.mono HB6.out.size))
                have HX7 := Lib.hid (keep_heap HX6.out hpr7.hb)
                clear hpr7 HR6 HB6 HX6
                go_wp2_with (with_reducible refine stop_op (o := ⟨_, .load 29 (.tmp 3), _, _, _, _⟩) ?_)
                refine Lib.hid ?_
                refine wpList_load_row (o := ⟨_, _, _, _, _, _⟩) rfl 29 (.tmp 3) rfl W.heap.size rfl 29 p.cells (0, 0) _ HX7.out Tryd.underlying29 rfl (infoPT rfl) ?_
                go_wp2_with (with_reducible refine stop_op (o := ⟨_, .load 47 (.tmp 5), _, _, _, _⟩) ?_)
                refine Lib.hid ?_
                refine wpList_load_row (o := ⟨_, _, _, _, _, _⟩) rfl 47 (.tmp 5) rfl (W.heap.size + 1) rfl 47 #[.int .i8 x.k, .int .i64 x.n, .string x.s, .string x.u, .slice x.ao x.ln x.lc, .bool x.ours] (0, 0) _ (keep_heap HY.out HR7.out.hb) Tryd.underlying47 rfl (infoIM rfl) ?_
                go_wp2_with fail
                refine (put_any w7 p D ml x (HP.out _ HB7.out) HD.out (HK.out _ HB7.out).xm (HK.out _ HB7.out).nm).mono ?_
                rintro e w8 hlp
                obtain ⟨v8, rfl, hb8⟩ := hlp.some
                have HR8 := Lib.hid (HR7.out.keep hb8)
                have HB8 := Lib.hid (HB7.out.trans (hb8.mono HB7.out.size))
                have HX8 := Lib.hid (keep_heap HX7.out hb8)
                clear hlp hb8 HR7 HB7 HX7
                go_wp2_with (with_reducible refine stop_op (o := ⟨_, .load 29 (.tmp 7), _, _, _, _⟩) ?_)
                refine Lib.hid ?_
                refine wpList_load_row (o := ⟨_, _, _, _, _, _⟩) rfl 29 (.tmp 7) rfl px rfl 29 a.cells (0, 0) _ HR8.out.hx Tryd.underlying29 rfl (infoPT rfl) ?_
                go_wp2_with (with_reducible refine stop_op (o := ⟨_, .load 29 (.tmp 3), _, _, _, _⟩) ?_)
                refine Lib.hid ?_
                refine wpList_load_row (o := ⟨_, _, _, _, _, _⟩) rfl 29 (.tmp 3) rfl W.heap.size rfl 29 p.cells (0, 0) _ HX8.out Tryd.underlying29 rfl (infoPT rfl) ?_
                have hpk := HK.out _ HB8.out
                have hpa := HR8.out.pr
                have hpp := HP.out _ HB8.out
                simp only [Pd.X] at hpa hpp
                rw [hpk.xm, hpk.nm] at hpa hpp
                have HC := Lib.hid (same_any w8 a p La D.L ml D.lk D.ws HR8.out.sp.symm hpa hpp (HR8.out.cp.bes hpk.fr (fun f hf => (hpa.st.fr f hf).size)) hpk.im (by have := hpk.nm; omega))
                clear hpk hpa hpp
                go_wp2_with fail
                refine HC.out.mono ?_
                rintro e w9 ⟨rfl, hb9⟩
                have HB9 := Lib.hid (HB8.out.trans (hb9.mono HB8.out.size))
                clear hb9 HC
                go_wp2_with fail
                refine (wakes_any _).mono ?_
                rintro e wz ⟨rfl, hbz⟩
                have HZ := Lib.hid (HB9.out.trans (hbz.mono HB9.out.size))
                clear hbz
                go_wp2_with fail
                go_ret
                exact ⟨rfl, HZ.out⟩
theorem own_row {H : Type} {enc : TypeId × Value → H} (W : World) {base : Nat} {v0 v1 v2 : Value} {d0 d1 d2 : DataW H} {p0 p1 p2 : List MemPlace} (hv0 : Value.okWide Tryd.prog W .any base 29 v0) (h0 : DataW.Trod enc Tryd.prog W 0 (fun _ => true) true 29 v0 d0 p0) (hz0 : Sz Tryd.prog 29 d0)
    (hv1 : Value.okWide Tryd.prog W .any base 3 v1) (h1 : DataW.Trod enc Tryd.prog W 0 (fun _ => true) true 3 v1 d1 p1) (hv2 : Value.okWide Tryd.prog W .any base 47 v2) (h2 : DataW.Trod enc Tryd.prog W 0 (fun _ => true) true 47 v2 d2 p2) {A : Prop} (hL : A) : Calls Tryd.prog 4 #[v0, v1, v2] W (IsPost W true) := by
  obtain ⟨p, D, ml, rfl, q1, q2⟩ := proc_of hv0 h0 hz0
  obtain ⟨k, rfl⟩ := okWide_int Tryd.underlying3 hv1
  obtain ⟨x, rfl, q3⟩ := item_of hv2 h2
  exact own_law W p D ml k x q1 q2 q3
end Go.Proofs.YtemgnljegbaobaaDoor
