/- append of a row onto nothing; the reference's Copy of any frame (printed by genog.py). Conditions: its rows read and are not too long. -/
import Derived.Test.YtemgnljegbaobaaDoorOf
namespace Go.Proofs.YtemgnljegbaobaaDoor
open Go.ChangeShapes Go.WideShapes Go.ChangeAt Go.RowKit
set_option linter.unusedVariables false
set_option linter.unusedSimpArgs false
set_option maxRecDepth 100000
theorem wpList_append_rw {P : Program} {ops : Array Oper} {rest : List Oper} {o : Oper} {a : Act} {w : World} {Q : Exit → Act → World → Prop} (hgd : o.guard = none) (s x : Operand) (t : TypeId)
    (ho : o.op = .call { callee := .builtin .append, args := #[s, x], argTypes := #[t, t] }) (e size : Nat) (ht : P.underlying t = some (.slice e))
    (hi : (P.info? e).map (fun i => (i.zero.map (fun z => z.cells.size), i.size, decide (i.bytes ≤ 1000))) = some (some size, size, true)) (hsz : 0 < size)
    (v : Value) (n : Nat) (xs : List Value) (hs : a.eval s = .slice none 0 0) (hx : a.eval x = v) (h : Rw w v n size xs) (hn : n ≤ 100000)
    (hk : ∀ v' w', w'.ownsRow w.heap.size e size v' n xs → Below w.heap.size w w' → wpList P ops Q rest (a.put o.dst v') w') : wpList P ops Q (o :: rest) a w := by
  obtain ⟨i0, z0, i1, i2, i3, i4, i5⟩ := info_of size hi
  obtain ⟨h1, h2, ao, c, rfl, h3, h4, h5⟩ := h
  cases ao with
  | none =>
    have hn0 : n = 0 := by
      rcases h5 with h5 | ⟨b, off, e, -⟩
      · exact h5
      · cases e
    subst hn0
    have hxs : xs = [] := List.length_eq_zero_iff.1 (by simpa using h1)
    subst hxs
    refine wpList_plain hgd fun _ hK => ?_
    have hr : (Builtin.append_ #[t, t] o.type #[.slice none 0 0, .slice none 0 c]).run P w = .ok (.slice none 0 0) w := by
      simp [Builtin.append_, run_underlying ht, sizeOf, typeInfo, i1, Builtin.lenOf, Builtin.firstCells, storeCells]
    unfold Oper.wp execOp
    simp only [ho, resolve, invoke, builtin, Sem.run_bind, Sem.run_pure, Result.andThen_ok, List.map_toArray, List.map_cons, List.map_nil, hs, hx, hr]
    exact hK _ _ (hk _ _ ⟨by simp, .inl ⟨rfl, rfl⟩⟩ (Below.refl _ _))
  | some ad =>
    have hnews : ∀ (j : Nat) (u : Value), xs[j]? = some u → w.cell? (ad.add j) = some u := by
      intro j u hj
      rcases h5 with h5 | ⟨b, off, e, hc⟩
      · subst h5
        have hxs : xs = [] := List.length_eq_zero_iff.1 (by simpa using h1)
        subst hxs
        simp at hj
      · injection e with e
        subst e
        rw [Addr.add_lit]
        exact hc j u hj
    have hby : (0 + n) * i0.bytes ≤ 140737488355328 := by
      rw [Nat.zero_add]
      exact Nat.le_trans (Nat.mul_le_mul hn i4) (by decide)
    refine wpList_append_own2 hgd s x t ho w.heap.size e i0 z0 size i0.bytes ht i1 i2 i3 rfl i5 hsz (.slice none 0 0) 0 [] hs (World.ownsRow_nil _ _ _ _) ad n c xs hx h1 hnews h2 (by unfold maxLen; omega) hby (Nat.le_refl _) ?_
    intro v' w' ho' hg hw
    rw [List.nil_append, Nat.zero_add] at ho'
    exact hk v' w' ho' (grown_below hg)
/-- three boxes: what is copied, what comes back, the copy; and rows of the call's own behind them -/
structure Fr3 (T : Nat) (z : Array Value) (w W : World) (A cs : Array Value) (L : List Ow) : Prop where
  hb : Below w.heap.size w W
  hX : W.heap[w.heap.size]? = some (.cells A T (0, 0))
  hY : W.heap[w.heap.size + 1]? = some (.cells z T (0, 0))
  hZ : W.heap[w.heap.size + 1 + 1]? = some (.cells cs T (0, 0))
  hs : w.heap.size + 3 ≤ W.heap.size
  hO : ∀ o ∈ L, W.ownsRow (w.heap.size + 3) o.e o.size o.v o.n o.xs
theorem Fr3.start (T : Nat) (z : Array Value) (w : World) (A : Array Value) : Fr3 T z w (((w.alloc (.cells A T)).alloc (.cells z T)).alloc (.cells A T)) A A [] := by
  have hb := (((Below.refl w.heap.size w).alloc (Nat.le_refl _) (.cells A T)).alloc (by simp) (.cells z T)).alloc (by simp; omega) (.cells A T)
  have hX := heap_old (heap_old (heap_new w (.cells A T)) (.cells z T)) (.cells A T)
  have hY := heap_old (heap_new (w.alloc (.cells A T)) (.cells z T)) (.cells A T)
  have hZ := heap_new ((w.alloc (.cells A T)).alloc (.cells z T)) (.cells A T)
  have s1 : (w.alloc (.cells A T)).heap.size = w.heap.size + 1 := by simp
  have s2 : ((w.alloc (.cells A T)).alloc (.cells z T)).heap.size = w.heap.size + 1 + 1 := by simp
  rw [s1] at hY
  rw [s2] at hZ
  exact ⟨hb, hX, hY, hZ, by simp, fun o ho => by cases ho⟩
theorem Fr3.keep {T : Nat} {z : Array Value} {w W W' : World} {A cs : Array Value} {L : List Ow} (h : Fr3 T z w W A cs L) (hb : Below W.heap.size W W') : Fr3 T z w W' A cs L :=
  ⟨h.hb.trans (hb.mono h.hb.size), keep_heap h.hX hb, keep_heap h.hY hb, keep_heap h.hZ hb, Nat.le_trans h.hs hb.size, fun o ho => own_keep (h.hO o ho) hb⟩
theorem Fr3.more {T : Nat} {z : Array Value} {w W : World} {A cs : Array Value} {L : List Ow} (h : Fr3 T z w W A cs L) (o : Ow) (ho : W.ownsRow (w.heap.size + 3) o.e o.size o.v o.n o.xs) : Fr3 T z w W A cs (o :: L) :=
  ⟨h.hb, h.hX, h.hY, h.hZ, h.hs, fun q hq => (List.mem_cons.1 hq).elim (fun e => e ▸ ho) (h.hO q)⟩
theorem Fr3.set {T : Nat} {z : Array Value} {w W : World} {A cs : Array Value} {L : List Ow} (h : Fr3 T z w W A cs L) (i : Nat) (v : Value) : Fr3 T z w (W.setCell ⟨w.heap.size + 1 + 1, i, none⟩ v) A (cs.setIfInBounds i v) L := by
  have hc := chg_set (w := W) (p := ⟨w.heap.size + 1 + 1, i, none⟩) v
  refine ⟨h.hb.trans (hc.below (B := w.heap.size) h.hb.size (fun k e => by have e : k = w.heap.size + 1 + 1 := e; omega)), hc.heap h.hX (fun e => by have e : w.heap.size = w.heap.size + 1 + 1 := e; omega), hc.heap h.hY (fun e => by have e : w.heap.size + 1 = w.heap.size + 1 + 1 := e; omega), set_at h.hZ v, Nat.le_trans h.hs hc.size, fun o ho => own_chg (h.hO o ho) hc fun k hk e => ?_⟩
  have := own_base (h.hO o ho) k hk
  have e : k = w.heap.size + 1 + 1 := e
  omega
theorem Fr3.shut {T : Nat} {z : Array Value} {w W : World} {A cs : Array Value} {L : List Ow} (h : Fr3 T z w W A cs L) (cs' : Array Value) :
    (W.setRow (w.heap.size + 1) cs').heap[w.heap.size + 1]? = some (.cells cs' T (0, 0)) ∧ Below w.heap.size w (W.setRow (w.heap.size + 1) cs') ∧ ∀ o ∈ L, (W.setRow (w.heap.size + 1) cs').ownsRow (w.heap.size + 3) o.e o.size o.v o.n o.xs := by
  have hE := chg_setRow W (w.heap.size + 1) cs'
  refine ⟨setRow_heap W (w.heap.size + 1) z cs' T (0, 0) h.hY, bel_setRow h.hb h.hb.size (by omega) cs', fun o ho => own_chg (h.hO o ho) hE fun k hk e => ?_⟩
  have := own_base (h.hO o ho) k hk
  have e : k = w.heap.size + 1 := e
  omega
set_option maxHeartbeats 16000000 in
theorem rcopy_any (w : World) (cs : Array Value) (X : Fx) (h : FrX w cs X) (hX : X.ok) : Calls Tryd.prog 49 #[.agg cs] w (OwnP w cs X) := by
  obtain ⟨hsize, hone, ⟨v3, g3, r3⟩, ⟨v4, g4, r4⟩, ⟨v5, g5, r5⟩, ⟨v6, g6, r6⟩, ⟨v28, g28, r28⟩, ⟨v33, g33, r33⟩, ⟨v34, g34, r34⟩⟩ := h
  have HR := Lib.hid (And.intro r3 (And.intro r4 (And.intro r5 (And.intro r6 (And.intro r28 (And.intro r33 (And.intro r34 hone)))))))
  clear r3 r4 r5 r6 r28 r33 r34 hone
  have hx0 := heap_old (heap_new w (.cells cs 45)) (.cells fr0L 45)
  have H0 := Lib.hid (Fr3.start 45 fr0L w cs)
  have HX0 := Lib.hid hx0
  clear hx0
  go_enter Tryd.func49, Tryd.ntmps49
  go_wp2_with (with_reducible refine stop_op (o := ⟨_, .load 45 (.tmp 1), _, _, _, _⟩) ?_)
  refine Lib.hid ?_
  refine wpList_load_row (o := ⟨_, _, _, _, _, _⟩) rfl 45 (.tmp 1) rfl w.heap.size rfl 45 cs (0, 0) _ HX0.out Tryd.underlying45 rfl (infoFR hsize) ?_
  clear HX0
  go_wp2_with (with_reducible refine stop_op (o := ⟨_, .store 45 (.tmp 3) (.tmp 4), _, _, _, _⟩) ?_)
  refine Lib.hid ?_
  refine wpList_store_new (o := ⟨none, _, _, _, _, _⟩) rfl 45 (.tmp 3) (.tmp 4) rfl cs (by rw [show ((w.alloc (.cells cs 45)).alloc (.cells fr0L 45)).heap.size = w.heap.size + 1 + 1 by simp]; rfl) rfl (infoFR hsize) hsize.symm HR.out.2.2.2.2.2.2.2 ?_
  generalize ((w.alloc (.cells cs 45)).alloc (.cells fr0L 45)).alloc (.cells cs 45) = W0 at *
  obtain ⟨c3, -⟩ := cells_at H0.out.hX 3 _ g3
  go_wp2_with (with_reducible refine stop_op (o := ⟨_, .call { callee := .builtin .append, args := #[.const (.slice none 0 0), .tmp 6], argTypes := #[34, 34] }, _, _, _, _⟩) ?_)
  clear c3
  refine Lib.hid ?_
  refine wpList_append_rw (o := ⟨_, _, _, _, _, _⟩) rfl (.const (.slice none 0 0)) (.tmp 6) 34 rfl 37 5 Tryd.underlying34 (by kernel_rfl) (by decide) v3 _ _ rfl rfl (HR.out.1.keep H0.out.hb) hX.h3 ?_
  intro q3 w3 O3 hb3
  obtain ⟨a3, k3, rfl⟩ := own_slice O3
  have M3 := Lib.hid ((H0.out.keep hb3).more ⟨_, _, _, _, _⟩ (own_lower O3 H0.out.hs))
  clear H0 O3 hb3
  obtain ⟨d3, d3f⟩ := cells_at M3.out.hZ 3 _ g3
  have N3 := Lib.hid (M3.out.set 3 (.slice a3 X.n3 k3))
  clear M3
  obtain ⟨c4, -⟩ := cells_at N3.out.hX 4 _ g4
  go_wp2_with (with_reducible refine stop_op (o := ⟨_, .call { callee := .builtin .append, args := #[.const (.slice none 0 0), .tmp 10], argTypes := #[22, 22] }, _, _, _, _⟩) ?_)
  generalize w3.setCell ⟨w.heap.size + 1 + 1, 3, none⟩ (.slice a3 X.n3 k3) = W3 at *
  clear d3 d3f
  clear c4
  refine Lib.hid ?_
  refine wpList_append_rw (o := ⟨_, _, _, _, _, _⟩) rfl (.const (.slice none 0 0)) (.tmp 10) 22 rfl 4 1 Tryd.underlying22 (by kernel_rfl) (by decide) v4 _ _ rfl rfl (HR.out.2.1.keep N3.out.hb) hX.h4 ?_
  intro q4 w4 O4 hb4
  obtain ⟨a4, k4, rfl⟩ := own_slice O4
  have M4 := Lib.hid ((N3.out.keep hb4).more ⟨_, _, _, _, _⟩ (own_lower O4 N3.out.hs))
  clear N3 O4 hb4
  have e4 : ((cs).setIfInBounds 3 (.slice a3 X.n3 k3))[4]? = some v4 := by simp only [Array.getElem?_setIfInBounds_ne (show (3 : Nat) ≠ 4 by decide)]; exact g4
  obtain ⟨d4, d4f⟩ := cells_at M4.out.hZ 4 _ e4
  have N4 := Lib.hid (M4.out.set 4 (.slice a4 X.n4 k4))
  clear M4 e4
  obtain ⟨c5, -⟩ := cells_at N4.out.hX 5 _ g5
  go_wp2_with (with_reducible refine stop_op (o := ⟨_, .call { callee := .builtin .append, args := #[.const (.slice none 0 0), .tmp 14], argTypes := #[34, 34] }, _, _, _, _⟩) ?_)
  generalize w4.setCell ⟨w.heap.size + 1 + 1, 4, none⟩ (.slice a4 X.n4 k4) = W4 at *
  clear d4 d4f
  clear c5
  refine Lib.hid ?_
  refine wpList_append_rw (o := ⟨_, _, _, _, _, _⟩) rfl (.const (.slice none 0 0)) (.tmp 14) 34 rfl 37 5 Tryd.underlying34 (by kernel_rfl) (by decide) v5 _ _ rfl rfl (HR.out.2.2.1.keep N4.out.hb) hX.h5 ?_
  intro q5 w5 O5 hb5
  obtain ⟨a5, k5, rfl⟩ := own_slice O5
  have M5 := Lib.hid ((N4.out.keep hb5).more ⟨_, _, _, _, _⟩ (own_lower O5 N4.out.hs))
  clear N4 O5 hb5
  have e5 : (((cs).setIfInBounds 3 (.slice a3 X.n3 k3)).setIfInBounds 4 (.slice a4 X.n4 k4))[5]? = some v5 := by simp only [Array.getElem?_setIfInBounds_ne (show (3 : Nat) ≠ 5 by decide), Array.getElem?_setIfInBounds_ne (show (4 : Nat) ≠ 5 by decide)]; exact g5
  obtain ⟨d5, d5f⟩ := cells_at M5.out.hZ 5 _ e5
  have N5 := Lib.hid (M5.out.set 5 (.slice a5 X.n5 k5))
  clear M5 e5
  obtain ⟨c6, -⟩ := cells_at N5.out.hX 6 _ g6
  go_wp2_with (with_reducible refine stop_op (o := ⟨_, .call { callee := .builtin .append, args := #[.const (.slice none 0 0), .tmp 18], argTypes := #[35, 35] }, _, _, _, _⟩) ?_)
  generalize w5.setCell ⟨w.heap.size + 1 + 1, 5, none⟩ (.slice a5 X.n5 k5) = W5 at *
  clear d5 d5f
  clear c6
  refine Lib.hid ?_
  refine wpList_append_rw (o := ⟨_, _, _, _, _, _⟩) rfl (.const (.slice none 0 0)) (.tmp 18) 35 rfl 132 2 Tryd.underlying35 (by kernel_rfl) (by decide) v6 _ _ rfl rfl (HR.out.2.2.2.1.keep N5.out.hb) hX.h6 ?_
  intro q6 w6 O6 hb6
  obtain ⟨a6, k6, rfl⟩ := own_slice O6
  have M6 := Lib.hid ((N5.out.keep hb6).more ⟨_, _, _, _, _⟩ (own_lower O6 N5.out.hs))
  clear N5 O6 hb6
  have e6 : ((((cs).setIfInBounds 3 (.slice a3 X.n3 k3)).setIfInBounds 4 (.slice a4 X.n4 k4)).setIfInBounds 5 (.slice a5 X.n5 k5))[6]? = some v6 := by simp only [Array.getElem?_setIfInBounds_ne (show (3 : Nat) ≠ 6 by decide), Array.getElem?_setIfInBounds_ne (show (4 : Nat) ≠ 6 by decide), Array.getElem?_setIfInBounds_ne (show (5 : Nat) ≠ 6 by decide)]; exact g6
  obtain ⟨d6, d6f⟩ := cells_at M6.out.hZ 6 _ e6
  have N6 := Lib.hid (M6.out.set 6 (.slice a6 X.n6 k6))
  clear M6 e6
  obtain ⟨c28, -⟩ := cells_at N6.out.hX 28 _ g28
  go_wp2_with (with_reducible refine stop_op (o := ⟨_, .call { callee := .builtin .append, args := #[.const (.slice none 0 0), .tmp 23], argTypes := #[38, 38] }, _, _, _, _⟩) ?_)
  generalize w6.setCell ⟨w.heap.size + 1 + 1, 6, none⟩ (.slice a6 X.n6 k6) = W6 at *
  clear d6 d6f
  clear c28
  refine Lib.hid ?_
  refine wpList_append_rw (o := ⟨_, _, _, _, _, _⟩) rfl (.const (.slice none 0 0)) (.tmp 23) 38 rfl 138 13 Tryd.underlying38 (by kernel_rfl) (by decide) v28 _ _ rfl rfl (HR.out.2.2.2.2.1.keep N6.out.hb) hX.h28 ?_
  intro q28 w28 O28 hb28
  obtain ⟨a28, k28, rfl⟩ := own_slice O28
  have M28 := Lib.hid ((N6.out.keep hb28).more ⟨_, _, _, _, _⟩ (own_lower O28 N6.out.hs))
  clear N6 O28 hb28
  have e28 : (((((cs).setIfInBounds 3 (.slice a3 X.n3 k3)).setIfInBounds 4 (.slice a4 X.n4 k4)).setIfInBounds 5 (.slice a5 X.n5 k5)).setIfInBounds 6 (.slice a6 X.n6 k6))[28]? = some v28 := by simp only [Array.getElem?_setIfInBounds_ne (show (3 : Nat) ≠ 28 by decide), Array.getElem?_setIfInBounds_ne (show (4 : Nat) ≠ 28 by decide), Array.getElem?_setIfInBounds_ne (show (5 : Nat) ≠ 28 by decide), Array.getElem?_setIfInBounds_ne (show (6 : Nat) ≠ 28 by decide)]; exact g28
  obtain ⟨d28, d28f⟩ := cells_at M28.out.hZ 28 _ e28
  have N28 := Lib.hid (M28.out.set 28 (.slice a28 X.n28 k28))
  clear M28 e28
  obtain ⟨c33, -⟩ := cells_at N28.out.hX 33 _ g33
  go_wp2_with (with_reducible refine stop_op (o := ⟨_, .call { callee := .builtin .append, args := #[.const (.slice none 0 0), .tmp 29], argTypes := #[26, 26] }, _, _, _, _⟩) ?_)
  generalize w28.setCell ⟨w.heap.size + 1 + 1, 28, none⟩ (.slice a28 X.n28 k28) = W28 at *
  clear d28 d28f
  clear c33
  refine Lib.hid ?_
  refine wpList_append_rw (o := ⟨_, _, _, _, _, _⟩) rfl (.const (.slice none 0 0)) (.tmp 29) 26 rfl 3 1 Tryd.underlying26 (by kernel_rfl) (by decide) v33 _ _ rfl rfl (HR.out.2.2.2.2.2.1.keep N28.out.hb) hX.h33 ?_
  intro q33 w33 O33 hb33
  obtain ⟨a33, k33, rfl⟩ := own_slice O33
  have M33 := Lib.hid ((N28.out.keep hb33).more ⟨_, _, _, _, _⟩ (own_lower O33 N28.out.hs))
  clear N28 O33 hb33
  have e33 : ((((((cs).setIfInBounds 3 (.slice a3 X.n3 k3)).setIfInBounds 4 (.slice a4 X.n4 k4)).setIfInBounds 5 (.slice a5 X.n5 k5)).setIfInBounds 6 (.slice a6 X.n6 k6)).setIfInBounds 28 (.slice a28 X.n28 k28))[33]? = some v33 := by simp only [Array.getElem?_setIfInBounds_ne (show (3 : Nat) ≠ 33 by decide), Array.getElem?_setIfInBounds_ne (show (4 : Nat) ≠ 33 by decide), Array.getElem?_setIfInBounds_ne (show (5 : Nat) ≠ 33 by decide), Array.getElem?_setIfInBounds_ne (show (6 : Nat) ≠ 33 by decide), Array.getElem?_setIfInBounds_ne (show (28 : Nat) ≠ 33 by decide)]; exact g33
  obtain ⟨d33, d33f⟩ := cells_at M33.out.hZ 33 _ e33
  have N33 := Lib.hid (M33.out.set 33 (.slice a33 X.n33 k33))
  clear M33 e33
  obtain ⟨c34, -⟩ := cells_at N33.out.hX 34 _ g34
  go_wp2_with (with_reducible refine stop_op (o := ⟨_, .call { callee := .builtin .append, args := #[.const (.slice none 0 0), .tmp 35], argTypes := #[26, 26] }, _, _, _, _⟩) ?_)
  generalize w33.setCell ⟨w.heap.size + 1 + 1, 33, none⟩ (.slice a33 X.n33 k33) = W33 at *
  clear d33 d33f
  clear c34
  refine Lib.hid ?_
  refine wpList_append_rw (o := ⟨_, _, _, _, _, _⟩) rfl (.const (.slice none 0 0)) (.tmp 35) 26 rfl 3 1 Tryd.underlying26 (by kernel_rfl) (by decide) v34 _ _ rfl rfl (HR.out.2.2.2.2.2.2.1.keep N33.out.hb) hX.h34 ?_
  intro q34 w34 O34 hb34
  obtain ⟨a34, k34, rfl⟩ := own_slice O34
  have M34 := Lib.hid ((N33.out.keep hb34).more ⟨_, _, _, _, _⟩ (own_lower O34 N33.out.hs))
  clear N33 O34 hb34
  have e34 : (((((((cs).setIfInBounds 3 (.slice a3 X.n3 k3)).setIfInBounds 4 (.slice a4 X.n4 k4)).setIfInBounds 5 (.slice a5 X.n5 k5)).setIfInBounds 6 (.slice a6 X.n6 k6)).setIfInBounds 28 (.slice a28 X.n28 k28)).setIfInBounds 33 (.slice a33 X.n33 k33))[34]? = some v34 := by simp only [Array.getElem?_setIfInBounds_ne (show (3 : Nat) ≠ 34 by decide), Array.getElem?_setIfInBounds_ne (show (4 : Nat) ≠ 34 by decide), Array.getElem?_setIfInBounds_ne (show (5 : Nat) ≠ 34 by decide), Array.getElem?_setIfInBounds_ne (show (6 : Nat) ≠ 34 by decide), Array.getElem?_setIfInBounds_ne (show (28 : Nat) ≠ 34 by decide), Array.getElem?_setIfInBounds_ne (show (33 : Nat) ≠ 34 by decide)]; exact g34
  obtain ⟨d34, d34f⟩ := cells_at M34.out.hZ 34 _ e34
  have N34 := Lib.hid (M34.out.set 34 (.slice a34 X.n34 k34))
  clear M34 e34
  go_wp2_with (with_reducible refine stop_op (o := ⟨_, .load 45 (.tmp 3), _, _, _, _⟩) ?_)
  generalize w34.setCell ⟨w.heap.size + 1 + 1, 34, none⟩ (.slice a34 X.n34 k34) = W34 at *
  clear d34 d34f
  generalize hc8 : (((((((cs).setIfInBounds 3 (.slice a3 X.n3 k3)).setIfInBounds 4 (.slice a4 X.n4 k4)).setIfInBounds 5 (.slice a5 X.n5 k5)).setIfInBounds 6 (.slice a6 X.n6 k6)).setIfInBounds 28 (.slice a28 X.n28 k28)).setIfInBounds 33 (.slice a33 X.n33 k33)).setIfInBounds 34 (.slice a34 X.n34 k34) = cs8 at *
  have hs8 : cs8.size = 35 := by rw [← hc8]; simp [hsize]
  have ha8 : cs8.all (·.oneCell') = true := by
    rw [← hc8]
    exact all_set (all_set (all_set (all_set (all_set (all_set (all_set HR.out.2.2.2.2.2.2.2 rfl) rfl) rfl) rfl) rfl) rfl) rfl
  have hb8 : SBR cs cs8 := by
    intro i n3 n4 n5 n6 n28 n33 n34
    rw [← hc8]
    simp only [Array.getElem?_setIfInBounds_ne (Ne.symm n3), Array.getElem?_setIfInBounds_ne (Ne.symm n4), Array.getElem?_setIfInBounds_ne (Ne.symm n5), Array.getElem?_setIfInBounds_ne (Ne.symm n6), Array.getElem?_setIfInBounds_ne (Ne.symm n28), Array.getElem?_setIfInBounds_ne (Ne.symm n33), Array.getElem?_setIfInBounds_ne (Ne.symm n34)]
  have hg8 : cs8[3]? = some (.slice a3 X.n3 k3) ∧ cs8[4]? = some (.slice a4 X.n4 k4) ∧ cs8[5]? = some (.slice a5 X.n5 k5) ∧ cs8[6]? = some (.slice a6 X.n6 k6) ∧ cs8[28]? = some (.slice a28 X.n28 k28) ∧ cs8[33]? = some (.slice a33 X.n33 k33) ∧ cs8[34]? = some (.slice a34 X.n34 k34) := by
    rw [← hc8]
    simp [Array.getElem?_setIfInBounds, hsize]
  have HE := Lib.hid (And.intro ha8 (And.intro hb8 hg8))
  clear ha8 hb8 hg8 hc8
  refine Lib.hid ?_
  refine wpList_load_row (o := ⟨_, _, _, _, _, _⟩) rfl 45 (.tmp 3) rfl (w.heap.size + 1 + 1) rfl 45 cs8 (0, 0) _ N34.out.hZ Tryd.underlying45 rfl (infoFR hs8) ?_
  go_wp2_with (with_reducible refine stop_op (o := ⟨_, .store 45 (.tmp 2) (.tmp 39), _, _, _, _⟩) ?_)
  refine Lib.hid ?_
  refine wpList_store_row (o := ⟨none, _, _, _, _, _⟩) rfl 45 (.tmp 2) (.tmp 39) rfl (w.heap.size + 1) cs8 rfl rfl 45 fr0L N34.out.hY (infoFR hs8) hs8.symm HE.out.1 ?_
  have HF := Lib.hid (N34.out.shut cs8)
  generalize W34.setRow (w.heap.size + 1) cs8 = W12 at *
  clear N34
  go_wp2_with fail
  obtain ⟨hY, hB, hO⟩ := HF.out
  obtain ⟨ha8, hb8, e3, e4, e5, e6, e28, e33, e34⟩ := HE.out
  obtain ⟨q3, q4, q5, q6, q28, q33, q34, -⟩ := HR.out
  have get : ∀ (o : Ow), o ∈ _ → (∀ u ∈ o.xs, u.oneCell' = true) → Rw W12 o.v o.n o.size o.xs := fun o ho h1 => Rw_own (hO o ho) h1
  refine ret_cell hY rfl Tryd.underlying45 rfl (infoFR hs8) rfl ⟨cs8, rfl, ⟨hs8, ha8, ⟨_, e3, get ⟨37, _, _, _, _⟩ ?_ q3.2.1⟩, ⟨_, e4, get ⟨4, _, _, _, _⟩ ?_ q4.2.1⟩, ⟨_, e5, get ⟨37, _, _, _, _⟩ ?_ q5.2.1⟩, ⟨_, e6, get ⟨132, _, _, _, _⟩ ?_ q6.2.1⟩, ⟨_, e28, get ⟨138, _, _, _, _⟩ ?_ q28.2.1⟩, ⟨_, e33, get ⟨3, _, _, _, _⟩ ?_ q33.2.1⟩, ⟨_, e34, get ⟨3, _, _, _, _⟩ ?_ q34.2.1⟩⟩, hb8, hB, fun k hk i hi v hv hvk => absurd hvk ?_⟩
  · iterate 6 apply List.mem_cons_of_mem
    exact List.mem_cons_self
  · iterate 5 apply List.mem_cons_of_mem
    exact List.mem_cons_self
  · iterate 4 apply List.mem_cons_of_mem
    exact List.mem_cons_self
  · iterate 3 apply List.mem_cons_of_mem
    exact List.mem_cons_self
  · iterate 2 apply List.mem_cons_of_mem
    exact List.mem_cons_self
  · iterate 1 apply List.mem_cons_of_mem
    exact List.mem_cons_self
  · exact List.mem_cons_self
  · have nb : ∀ (o : Ow), o ∈ _ → ¬ o.v.ownBlock = some k := fun o ho e => by
      have := own_base (hO o ho) k e
      omega
    simp only [frRows, List.mem_cons, List.not_mem_nil, or_false] at hi
    rcases hi with rfl | rfl | rfl | rfl | rfl | rfl | rfl
    · obtain rfl := Option.some.inj (e3.symm.trans hv)
      refine nb ⟨37, 5, X.n3, _, X.x3⟩ ?_
      iterate 6 apply List.mem_cons_of_mem
      exact List.mem_cons_self
    · obtain rfl := Option.some.inj (e4.symm.trans hv)
      refine nb ⟨4, 1, X.n4, _, X.x4⟩ ?_
      iterate 5 apply List.mem_cons_of_mem
      exact List.mem_cons_self
    · obtain rfl := Option.some.inj (e5.symm.trans hv)
      refine nb ⟨37, 5, X.n5, _, X.x5⟩ ?_
      iterate 4 apply List.mem_cons_of_mem
      exact List.mem_cons_self
    · obtain rfl := Option.some.inj (e6.symm.trans hv)
      refine nb ⟨132, 2, X.n6, _, X.x6⟩ ?_
      iterate 3 apply List.mem_cons_of_mem
      exact List.mem_cons_self
    · obtain rfl := Option.some.inj (e28.symm.trans hv)
      refine nb ⟨138, 13, X.n28, _, X.x28⟩ ?_
      iterate 2 apply List.mem_cons_of_mem
      exact List.mem_cons_self
    · obtain rfl := Option.some.inj (e33.symm.trans hv)
      refine nb ⟨3, 1, X.n33, _, X.x33⟩ ?_
      iterate 1 apply List.mem_cons_of_mem
      exact List.mem_cons_self
    · obtain rfl := Option.some.inj (e34.symm.trans hv)
      refine nb ⟨3, 1, X.n34, _, X.x34⟩ ?_
      exact List.mem_cons_self
end Go.Proofs.YtemgnljegbaobaaDoor
