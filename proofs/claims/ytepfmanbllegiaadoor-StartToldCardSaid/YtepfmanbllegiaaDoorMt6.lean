/- cells in the middle of a block; start.tuple. Conditions: what is handed over reads; the letters stand. -/
import Derived.Test.YtepfmanbllegiaaDoorMt5
import Derived.Deep.MidRow
namespace Go.Proofs.YtepfmanbllegiaaDoor
open Go.ChangeShapes Go.WideShapes Go.ChangeAt Go.RowKit
set_option linter.unusedVariables false
set_option linter.unusedSimpArgs false
set_option maxRecDepth 100000
def setL : List Value → Nat → List Value → List Value
  | cs, _, [] => cs
  | cs, o, v :: r => setL (cs.set o v) (o + 1) r
theorem chg_cells : ∀ (vs : List Value) (b o : Nat) (w : World), Chg (fun k => k = b) w (w.setCells b o vs)
  | [], _, _, w => Chg.refl _ w
  | v :: r, b, o, w => (chg_set (w := w) (p := ⟨b, o, none⟩) v).trans (chg_cells r b (o + 1) _)
theorem mid_range {w : World} {q o : Nat} {pre cs post : List Value} {t : TypeId} (h : w.heap[q]? = some (.cells (pre ++ (cs ++ post)).toArray t (0, 0))) (ho : pre.length = o) : w.rangeAt q o cs := fun j v hj => by
  have hl : j < cs.length := (List.getElem?_eq_some_iff.1 hj).1
  refine (cells_at h (o + j) v ?_).1
  rw [List.getElem?_toArray, List.getElem?_append_right (by omega), ho, Nat.add_sub_cancel_left, List.getElem?_append_left hl]
  exact hj
theorem setRow_cells {t : TypeId} {g : Nat} : ∀ (vs : List Value) (o : Nat) {w : World} {cs : List Value}, w.heap[g]? = some (.cells cs.toArray t (0, 0)) → (w.setCells g o vs).heap[g]? = some (.cells (setL cs o vs).toArray t (0, 0))
  | [], _, _, _, h => h
  | v :: r, o, w, cs, h => by
    refine setRow_cells r (o + 1) ?_
    rw [set_at h]
    congr 2
    apply Array.ext'
    rw [Array.toList_setIfInBounds]
theorem setL_mid : ∀ (vs cs pre post : List Value), cs.length = vs.length → setL (pre ++ (cs ++ post)) pre.length vs = pre ++ (vs ++ post)
  | [], [], pre, post, _ => rfl
  | v :: vs, a :: cs, pre, post, h => by
    show setL ((pre ++ (a :: (cs ++ post))).set pre.length v) (pre.length + 1) vs = _
    rw [List.set_append_right _ _ (Nat.le_refl _), Nat.sub_self]
    show setL (pre ++ (v :: (cs ++ post))) (pre.length + 1) vs = _
    have := setL_mid vs cs (pre ++ [v]) post (by simpa using h)
    simpa using this
theorem there_of {t : TypeId} {g o n : Nat} {w : World} {cs : List Value} (h : w.heap[g]? = some (.cells cs.toArray t (0, 0))) (hl : o + n ≤ cs.length) : w.there g o n := fun j hj => by
  have hi : o + j < cs.length := by omega
  have := cells_at h (o + j) (cs[o + j]'hi) (by rw [List.getElem?_toArray, List.getElem?_eq_getElem hi])
  exact ⟨by rw [this.1]; rfl, this.2⟩
/-- a row of terms that fills a block -/
def RowAt (w : World) (g : Nat) (L : List TE) : Prop := w.heap[g]? = some (.cells (tcs L).toArray 27 (0, 0))
theorem RowAt.keep {w w' : World} {g : Nat} {L : List TE} (h : RowAt w g L) (hb : Below w.heap.size w w') : RowAt w' g L := keep_heap h hb
theorem RowAt.tes {M : Nat → Prop} {w : World} {g : Nat} {L : List TE} (h : RowAt w g L) (hg : ¬ M g) (hE : ∀ x ∈ L, TeOk M w x) (hl : L.length ≤ 100) : TesOk M w (.slice (some ⟨g, 0, none⟩) L.length L.length) L :=
  ⟨⟨_, _, rfl, Nat.le_refl _, by omega, .inr ⟨g, 0, rfl, hg, fun j u hj => by rw [Nat.zero_add]; exact (cells_at h j u (by rw [List.getElem?_toArray]; exact hj)).1⟩⟩, hE⟩
theorem tcs_split (L : List TE) (z : TE) : tcs (L ++ [z]) = tcs L ++ (z.cells ++ []) := by
  rw [List.append_nil]
  exact tcs_snoc L z
/-- the last part put otherwise -/
theorem RowAt.last {w : World} {g : Nat} {L : List TE} {z : TE} (h : RowAt w g (L ++ [z])) (y : TE) : RowAt (w.setCells g (L.length * 5) y.cells) g (L ++ [y]) := by
  unfold RowAt at h ⊢
  rw [setRow_cells y.cells (L.length * 5) h]
  congr 3
  rw [tcs_split, tcs_split, ← tcs_len]
  exact setL_mid y.cells z.cells (tcs L) [] rfl
def StP (M : Nat → Prop) (w : World) (g : Nat) (t : Tm) (e : Ending) (w' : World) : Prop := ∃ x : TE, e = .returned (.agg #[.int .i8 x.k, .int .i64 x.n, .string x.s, .string x.u, .slice x.ao x.l.length x.cap]) ∧ x.t = t ∧ TeOk M w' x ∧ Chg (fun k => k = g) w w'
set_option maxHeartbeats 8000000 in
theorem stup_any (M : Nat → Prop) (w : World) (hM : ∀ k, M k → k < w.heap.size) (hc : Cells w 0 letL) (g : Nat) (hlv : g ≠ 0) (L : List TE) (z : TE) (n : Nat) (hn : n = L.length + 1) (hl : L.length ≤ 50) (h : RowAt w g (L ++ [z])) (hg : ¬ M g) (hE : ∀ x ∈ L ++ [z], TeOk (fun k => M k ∨ k = g) w x) :
    Calls Tryd.prog 31 #[.slice (some ⟨g, 0, none⟩) n n] w (StP M w g (tupS ((L ++ [z]).map TE.t))) := by
  subst hn
  have hgl := heap_lt h
  have hb1 := (Below.refl w.heap.size w).alloc (Nat.le_refl _) (.cells zT 27)
  have hx1 := heap_new w (.cells zT 27)
  have hs1 : (w.alloc (.cells zT 27)).heap.size = w.heap.size + 1 := by simp
  have hME : ∀ x ∈ L ++ [z], TeOk (fun k => (M k ∨ k = w.heap.size) ∨ k = g) (w.alloc (.cells zT 27)) x := fun x hx => (hE x hx).chg (chg_of_below hb1 (fun _ => False)) (fun _ h => h.elim) (fun k hk hl => by
    rcases hk with (hk | hk) | hk
    · exact .inl hk
    · omega
    · exact .inr hk)
  have h1 := h.keep hb1
  have hlen : (L ++ [z]).length = L.length + 1 := by simp
  have hT := tup_any (fun k => M k ∨ k = w.heap.size) _ (fun k hk => by rcases hk with hk | hk; have := hM k hk; omega; omega) (keepCells hc hb1) _ _ (h1.tes (M := fun k => M k ∨ k = w.heap.size) (by rintro (hk | hk); exact hg hk; omega) (fun x hx => (hME x hx).more fun k hk _ => .inl hk) (by omega)) (fun c => .inl (by simp)) (by omega)
  rw [hlen] at hT
  have HT := Lib.hid hT
  have HB := Lib.hid (And.intro hb1 (And.intro hx1 (And.intro h1 hME)))
  have HM := Lib.hid (And.intro hM (And.intro hg (And.intro hc (And.intro hgl hlv))))
  have HE := Lib.hid (show tupS ((L ++ [z]).map TE.t) = if mdN ((L ++ [z]).map TE.t) 1 = 0 then .mk 5 0 ⟨#[]⟩ ⟨#[]⟩ ((L ++ [z]).map TE.t) else if mdN (limL ((L ++ [z]).map TE.t)) 1 = 0 then .mk 5 0 ⟨#[]⟩ ⟨#[]⟩ (limL ((L ++ [z]).map TE.t)) else .mk 0 0 ⟨#[]⟩ ⟨#[]⟩ [] from rfl)
  clear hb1 hx1 hs1 h h1 hM hc hE hME hT hlen hg hgl hlv
  generalize tupS ((L ++ [z]).map TE.t) = res at *
  go_enter Tryd.func31, Tryd.ntmps31
  go_wp2_with fail
  generalize w.alloc (.cells zT 27) = w1 at *
  refine HT.out.mono ?_
  rintro e w2 ⟨hb2, hcase⟩
  have HB2 := Lib.hid (And.intro (HB.out.1.trans (hb2.mono HB.out.1.size)) (And.intro (keep_heap HB.out.2.1 hb2) (And.intro (HB.out.2.2.1.keep hb2) (fun x hx => (HB.out.2.2.2 x hx).keep hb2))))
  clear hb2 HT HB
  rcases hcase with ⟨h2, x, rfl, hxt, hxo⟩ | ⟨h2, rfl⟩
  · have HF := Lib.hid (show x.t = res by rw [HE.out, if_pos h2, hxt])
    have HX := Lib.hid hxo
    clear HE h2 hxt hxo
    simp only [TE.cells]
    go_wp2_with (with_reducible refine stop_op (o := ⟨_, .store 27 (.tmp 3) (.tmp 8), _, _, _, _⟩) ?_)
    refine Lib.hid ?_
    refine wpList_store_new (o := ⟨none, _, _, _, _, _⟩) rfl 27 (.tmp 3) (.tmp 8) rfl #[.int .i8 x.k, .int .i64 x.n, .string x.s, .string x.u, .slice x.ao x.l.length x.cap] rfl rfl (infoTM' _ rfl) rfl (by simp [Value.oneCell']) ?_
    have hb3 := (Below.refl w2.heap.size w2).alloc (Nat.le_refl _) (.cells #[.int .i8 x.k, .int .i64 x.n, .string x.s, .string x.u, .slice x.ao x.l.length x.cap] 27)
    have HB3 := Lib.hid (And.intro (HB2.out.1.trans (hb3.mono HB2.out.1.size)) (keep_heap HB2.out.2.1 hb3))
    have HX3 := Lib.hid (HX.out.keep hb3)
    obtain ⟨y0, y1, y2, y3, y4⟩ := BxS.of (x := x) (heap_new w2 (.cells #[.int .i8 x.k, .int .i64 x.n, .string x.s, .string x.u, .slice x.ao x.l.length x.cap] 27))
    clear hb3 HB2 HX
    generalize w2.alloc (.cells #[.int .i8 x.k, .int .i64 x.n, .string x.s, .string x.u, .slice x.ao x.l.length x.cap] 27) = w3 at *
    generalize w2.heap.size = q at *
    go_wp2_with (with_reducible refine stop_op (o := ⟨_, .store 27 (.tmp 2) (.tmp 23), _, _, _, _⟩) ?_)
    refine Lib.hid ?_
    refine wpList_store_row (o := ⟨none, _, _, _, _, _⟩) rfl 27 (.tmp 2) (.tmp 23) rfl (w.heap.size) #[.int .i8 x.k, .int .i64 x.n, .string x.s, .string x.u, .slice x.ao x.l.length x.cap] rfl rfl 27 zT (HB3.out.2) (infoTM' _ rfl) rfl (by simp [Value.oneCell']) ?_
    have hc4 := chg_setRow w3 w.heap.size #[.int .i8 x.k, .int .i64 x.n, .string x.s, .string x.u, .slice x.ao x.l.length x.cap]
    have HZ := Lib.hid (And.intro (setRow_heap w3 w.heap.size zT #[.int .i8 x.k, .int .i64 x.n, .string x.s, .string x.u, .slice x.ao x.l.length x.cap] 27 (0, 0) HB3.out.2) (And.intro (bel_setRow HB3.out.1 HB3.out.1.size (Nat.le_refl _) #[.int .i8 x.k, .int .i64 x.n, .string x.s, .string x.u, .slice x.ao x.l.length x.cap]) (HX3.out.chg (M' := M) hc4 (fun k e _ => .inr e) (fun k hk _ => .inl hk))))
    generalize w3.setRow w.heap.size #[.int .i8 x.k, .int .i64 x.n, .string x.s, .string x.u, .slice x.ao x.l.length x.cap] = w4 at *
    clear hc4 HB3 HX3 y0 y1 y2 y3 y4
    go_wp2_with fail
    exact ret_cell HZ.out.1 rfl Tryd.underlying27 rfl (infoTM' _ rfl) rfl ⟨x, rfl, HF.out, HZ.out.2.2, chg_of_below HZ.out.2.1 _⟩
  · have q1 : (mdN ((L ++ [z]).map TE.t) 1 != 0) = true := by simpa using h2
    have HF := Lib.hid (HE.out.trans (if_neg h2))
    generalize mdN ((L ++ [z]).map TE.t) 1 = en at *
    clear HE h2
    go_wp2_with (with_reducible refine stop_op (o := ⟨_, .store 27 (.tmp 3) (.tmp 8), _, _, _, _⟩) ?_)
    refine Lib.hid ?_
    refine wpList_store_new (o := ⟨none, _, _, _, _, _⟩) rfl 27 (.tmp 3) (.tmp 8) rfl zT rfl rfl (infoTM' _ rfl) rfl (by simp [Value.oneCell']) ?_
    have hb3 := (Below.refl w2.heap.size w2).alloc (Nat.le_refl _) (.cells zT 27)
    have hg3 : g ≠ w2.heap.size := by
      have := HM.out.2.2.2.1
      have := HB2.out.1.size
      omega
    have HB3 := Lib.hid (And.intro (HB2.out.1.trans (hb3.mono HB2.out.1.size)) (And.intro (keep_heap HB2.out.2.1 hb3) (And.intro (HB2.out.2.2.1.keep hb3) (And.intro (heap_new w2 (.cells zT 27)) (And.intro (fun x hx => (HB2.out.2.2.2 x hx).chg (M' := fun k => ((M k ∨ k = w.heap.size) ∨ k = g) ∨ k = w2.heap.size) (chg_of_below hb3 (fun _ => False)) (fun _ h => h.elim) (fun k hk hl => hk.elim id (fun e => by omega))) hg3)))))
    have HQL := Lib.hid (heap_lt HB2.out.2.1)
    clear hb3 HB2 hg3
    generalize w2.alloc (.cells zT 27) = w3 at *
    generalize w2.heap.size = q at *
    have hw : IntKind.i64.wrap (((L.length + 1 : Nat) : Int) - 1) = (L.length : Int) := by
      rw [IntWalk.i64_in _ (by omega)]
      omega
    have hix : (L.length : Int) < ((L.length + 1 : Nat) : Int) := by omega
    have hi0 : (0 : Int) ≤ (L.length : Int) := by omega
    go_wp2_with fail
    refine (atom_x w3 _).mono ?_
    rintro e w4 ⟨rfl, hb4⟩
    have HB4 := Lib.hid (And.intro (HB3.out.1.trans (hb4.mono HB3.out.1.size)) (And.intro (keep_heap HB3.out.2.1 hb4) (And.intro (HB3.out.2.2.1.keep hb4) (And.intro (keep_heap HB3.out.2.2.2.1 hb4) (And.intro (fun x hx => (HB3.out.2.2.2.2.1 x hx).keep hb4) HB3.out.2.2.2.2.2)))))
    clear hb4 HB3
    clear hw
    go_wp2_with (with_reducible refine stop_op (o := ⟨_, .store 27 (.tmp 17) (.tmp 16), _, _, _, _⟩) ?_)
    refine Lib.hid ?_
    refine wpList_store_mid (op := ⟨none, _, _, _, _, _⟩) rfl 27 (.tmp 17) (.tmp 16) rfl g (L.length * 5) #[.int .i8 1, .int .i64 0, .string ⟨#[115, 121, 115, 116, 101, 109, 95, 108, 105, 109, 105, 116]⟩, .string ⟨#[]⟩, .slice none 0 0] rfl rfl (there_of HB4.out.2.2.1 (by rw [tcs_len]; simp; omega)) (infoTM' _ rfl) (by simp [Value.oneCell']) ?_
    rw [show (#[.int .i8 1, .int .i64 0, .string ⟨#[115, 121, 115, 116, 101, 109, 95, 108, 105, 109, 105, 116]⟩, .string ⟨#[]⟩, .slice none 0 0] : Array Value).toList = (atomT limS).cells from rfl]
    have hrow := HB4.out.2.2.1.last (atomT limS)
    have hc5 := chg_cells (atomT limS).cells g (L.length * 5) w4
    have hne : ¬ w.heap.size = g := by have := HM.out.2.2.2.1; omega
    have hE5 : ∀ x ∈ L ++ [atomT limS], TeOk (fun k => ((M k ∨ k = w.heap.size) ∨ k = g) ∨ k = q) (w4.setCells g (L.length * 5) (atomT limS).cells) x := fun x hx => by
      rcases List.mem_append.1 hx with hx | hx
      · exact (HB4.out.2.2.2.2.1 x (List.mem_append_left _ hx)).chg hc5 (fun k hk _ => .inl (.inr hk)) (fun k hk _ => hk)
      · rw [List.mem_singleton.1 hx]
        exact atomT_ok _ _ _ (by decide)
    have hcl : Cells (w4.setCells g (L.length * 5) (atomT limS).cells) 0 letL := fun j r hj => ⟨hc5.cell (keepCells HM.out.2.2.1 HB4.out.1 j r hj).1 (fun e => HM.out.2.2.2.2 e.symm), hc5.cell (keepCells HM.out.2.2.1 HB4.out.1 j r hj).2 (fun e => HM.out.2.2.2.2 e.symm)⟩
    have HG := Lib.hid (chg_of_below HB4.out.1 (fun k => k = g) |>.trans hc5)
    have HB5 := Lib.hid (And.intro (hc5.heap HB4.out.2.1 hne) (hc5.heap HB4.out.2.2.2.1 (fun e => HB4.out.2.2.2.2.2 e.symm)))
    have hlen : (L ++ [atomT limS]).length = L.length + 1 := by simp
    have hmap : (L ++ [atomT limS]).map TE.t = limL ((L ++ [z]).map TE.t) := by simp [limL, atomT, TE.t]
    have hs5 : w4.heap.size ≤ (w4.setCells g (L.length * 5) (atomT limS).cells).heap.size := hc5.size
    have HQ5 := Lib.hid (show w.heap.size < (w4.setCells g (L.length * 5) (atomT limS).cells).heap.size ∧ q < (w4.setCells g (L.length * 5) (atomT limS).cells).heap.size by
      have := heap_lt HB4.out.2.1
      have := heap_lt HB4.out.2.2.2.1
      omega)
    have hT := tup_any (fun k => (M k ∨ k = w.heap.size) ∨ k = q) _ (fun k hk => by
      rcases hk with (hk | hk) | hk
      · have := HM.out.1 k hk
        have := HQ5.out.1
        omega
      · have := HQ5.out.1
        omega
      · have := HQ5.out.2
        omega) hcl _ _ (hrow.tes (M := fun k => (M k ∨ k = w.heap.size) ∨ k = q) (by
      rintro ((hk | hk) | hk)
      · exact HM.out.2.1 hk
      · have := HM.out.2.2.2.1
        omega
      · exact HB4.out.2.2.2.2.2 hk) (fun x hx => (hE5 x hx).more fun k hk _ => by
      rcases hk with hk | hk
      · exact .inl (.inl hk)
      · exact .inr hk) (by omega)) (fun c => .inl (by simp)) (by omega)
    rw [hmap, hlen] at hT
    have HT := Lib.hid hT
    clear hT hrow hc5 hne hE5 hcl hlen hmap hs5 HB4 hix hi0 q1
    generalize w4.setCells g (L.length * 5) (atomT limS).cells = w5 at *
    go_wp2_with fail
    refine HT.out.mono ?_
    clear HT
    rintro e w6 ⟨hb6, hcase⟩
    have HB6 := Lib.hid (And.intro (keep_heap HB5.out.1 hb6) (keep_heap HB5.out.2 hb6))
    have HG6 := Lib.hid (HG.out.trans (chg_of_below hb6 _))
    have HQ6 := Lib.hid (Nat.lt_of_lt_of_le HQ5.out.1 hb6.size)
    clear hb6 HB5 HG HQ5
    rcases hcase with ⟨h2, x, rfl, hxt, hxo⟩ | ⟨h2, rfl⟩
    · have HFF := Lib.hid (show x.t = res by rw [HF.out, if_pos h2, hxt])
      have HX := Lib.hid hxo
      clear h2 hxt hxo
      simp only [TE.cells]
      go_wp2_with (with_reducible refine stop_op (o := ⟨_, .store 27 (.tmp 3) (.tmp 21), _, _, _, _⟩) ?_)
      refine Lib.hid ?_
      refine wpList_store_row (o := ⟨none, _, _, _, _, _⟩) rfl 27 (.tmp 3) (.tmp 21) rfl (q) #[.int .i8 x.k, .int .i64 x.n, .string x.s, .string x.u, .slice x.ao x.l.length x.cap] rfl rfl 27 zT (HB6.out.2) (infoTM' _ rfl) rfl (by simp [Value.oneCell']) ?_
      have hc7 := chg_setRow w6 q #[.int .i8 x.k, .int .i64 x.n, .string x.s, .string x.u, .slice x.ao x.l.length x.cap]
      have hq7 := setRow_heap w6 q zT #[.int .i8 x.k, .int .i64 x.n, .string x.s, .string x.u, .slice x.ao x.l.length x.cap] 27 (0, 0) HB6.out.2
      have hne7 : ¬ w.heap.size = q := by have := HQL.out; omega
      have H7 := Lib.hid (And.intro (hc7.heap HB6.out.1 hne7) hq7)
      obtain ⟨y0, y1, y2, y3, y4⟩ := BxS.of (x := x) hq7
      have HC7 := Lib.hid hc7
      clear hq7 hne7 hc7
      generalize w6.setRow q #[.int .i8 x.k, .int .i64 x.n, .string x.s, .string x.u, .slice x.ao x.l.length x.cap] = w7 at *
      go_wp2_with (with_reducible refine stop_op (o := ⟨_, .store 27 (.tmp 2) (.tmp 23), _, _, _, _⟩) ?_)
      refine Lib.hid ?_
      refine wpList_store_row (o := ⟨none, _, _, _, _, _⟩) rfl 27 (.tmp 2) (.tmp 23) rfl (w.heap.size) #[.int .i8 x.k, .int .i64 x.n, .string x.s, .string x.u, .slice x.ao x.l.length x.cap] rfl rfl 27 zT (H7.out.1) (infoTM' _ rfl) rfl (by simp [Value.oneCell']) ?_
      have hc8 := chg_setRow w7 w.heap.size #[.int .i8 x.k, .int .i64 x.n, .string x.s, .string x.u, .slice x.ao x.l.length x.cap]
      have hc7 := HC7.out
      have hq8 := setRow_heap w7 w.heap.size zT #[.int .i8 x.k, .int .i64 x.n, .string x.s, .string x.u, .slice x.ao x.l.length x.cap] 27 (0, 0) H7.out.1
      have HXF : Hid (TeOk M (w7.setRow w.heap.size #[.int .i8 x.k, .int .i64 x.n, .string x.s, .string x.u, .slice x.ao x.l.length x.cap]) x) := Lib.hid ((HX.out.chg (M' := M) ((hc7.mono (T := fun k => k = w.heap.size ∨ k = q) fun k _ h => .inr h).trans (hc8.mono (T := fun k => k = w.heap.size ∨ k = q) fun k _ h => .inl h)) (fun k hk _ => hk.elim (fun e => .inl (.inr e)) (fun e => .inr e)) (fun k hk _ => .inl (.inl hk))))
      have HCF : Hid (Chg (fun k => k = g) w (w7.setRow w.heap.size #[.int .i8 x.k, .int .i64 x.n, .string x.s, .string x.u, .slice x.ao x.l.length x.cap])) := Lib.hid (((HG6.out.mono (T := fun k => k = g ∨ w.heap.size ≤ k) fun k _ h => .inl h).trans ((hc7.mono (T := fun k => k = g ∨ w.heap.size ≤ k) fun k _ h => .inr (by have h : k = q := h; have := HQL.out; omega)).trans (hc8.mono (T := fun k => k = g ∨ w.heap.size ≤ k) fun k _ h => .inr (by have h : k = w.heap.size := h; omega)))).mono fun k hk h => h.resolve_right (by omega))
      have HR8 := Lib.hid hq8
      clear hc7 hc8 hq8 HG6 H7 HC7 HB6 y0 y1 y2 y3 y4
      generalize w7.setRow w.heap.size #[.int .i8 x.k, .int .i64 x.n, .string x.s, .string x.u, .slice x.ao x.l.length x.cap] = w8 at *
      go_wp2_with fail
      exact ret_cell HR8.out rfl Tryd.underlying27 rfl (infoTM' _ rfl) rfl ⟨x, rfl, HFF.out, HXF.out, HCF.out⟩
    · have HFF := Lib.hid (show (numT 0 0).t = res by rw [HF.out, if_neg h2]; rfl)
      clear h2
      go_wp2_with (with_reducible refine stop_op (o := ⟨_, .store 27 (.tmp 3) (.tmp 21), _, _, _, _⟩) ?_)
      refine Lib.hid ?_
      refine wpList_store_row (o := ⟨none, _, _, _, _, _⟩) rfl 27 (.tmp 3) (.tmp 21) rfl (q) zT rfl rfl 27 zT (HB6.out.2) (infoTM' _ rfl) rfl (by simp [Value.oneCell']) ?_
      have hc7 := chg_setRow w6 q zT
      have hq7 := setRow_heap w6 q zT zT 27 (0, 0) HB6.out.2
      have hne7 : ¬ w.heap.size = q := by have := HQL.out; omega
      have H7 := Lib.hid (And.intro (hc7.heap HB6.out.1 hne7) hq7)
      obtain ⟨y0, y1, y2, y3, y4⟩ := BxS.of (x := (numT 0 0)) hq7
      have HC7 := Lib.hid hc7
      clear hq7 hne7 hc7
      generalize w6.setRow q zT = w7 at *
      go_wp2_with (with_reducible refine stop_op (o := ⟨_, .store 27 (.tmp 2) (.tmp 23), _, _, _, _⟩) ?_)
      refine Lib.hid ?_
      refine wpList_store_row (o := ⟨none, _, _, _, _, _⟩) rfl 27 (.tmp 2) (.tmp 23) rfl (w.heap.size) zT rfl rfl 27 zT (H7.out.1) (infoTM' _ rfl) rfl (by simp [Value.oneCell']) ?_
      have hc8 := chg_setRow w7 w.heap.size zT
      have hc7 := HC7.out
      have hq8 := setRow_heap w7 w.heap.size zT zT 27 (0, 0) H7.out.1
      have HXF : Hid (TeOk M (w7.setRow w.heap.size zT) (numT 0 0)) := Lib.hid ((numT_ok _ _ _ _ (by omega) (by omega)))
      have HCF : Hid (Chg (fun k => k = g) w (w7.setRow w.heap.size zT)) := Lib.hid (((HG6.out.mono (T := fun k => k = g ∨ w.heap.size ≤ k) fun k _ h => .inl h).trans ((hc7.mono (T := fun k => k = g ∨ w.heap.size ≤ k) fun k _ h => .inr (by have h : k = q := h; have := HQL.out; omega)).trans (hc8.mono (T := fun k => k = g ∨ w.heap.size ≤ k) fun k _ h => .inr (by have h : k = w.heap.size := h; omega)))).mono fun k hk h => h.resolve_right (by omega))
      have HR8 := Lib.hid hq8
      clear hc7 hc8 hq8 HG6 H7 HC7 HB6 y0 y1 y2 y3 y4
      generalize w7.setRow w.heap.size zT = w8 at *
      go_wp2_with fail
      exact ret_cell HR8.out rfl Tryd.underlying27 rfl (infoTM' _ rfl) rfl ⟨(numT 0 0), rfl, HFF.out, HXF.out, HCF.out⟩
end Go.Proofs.YtepfmanbllegiaaDoor
