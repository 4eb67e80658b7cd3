/- terms by value whose rows lie outside of some blocks; server.atom, server.is, server.tuple. Conditions: what is handed over reads; the letters stand. -/
/- mail.is. Conditions: the item and the term read. -/
/- mail.First of one item. Conditions: the item and the term read. -/
/- server.IsAck. Conditions: the item reads. -/
import Derived.Test.YthpmdeofdlcccaaGreatDoorZi
import Derived.Test.YthpmdeofdlcccaaGreatDoorTz
import Derived.Test.YthpmdeofdlcccaaGreatDoorTy
import Derived.Test.YthpmdeofdlcccaaGreatDoorWb
namespace Go.Proofs.YthpmdeofdlcccaaGreatDoor
open Go.ChangeShapes Go.WideShapes Go.ChangeAt Go.RowKit
set_option linter.unusedVariables false
set_option linter.unusedSimpArgs false
set_option maxRecDepth 100000
abbrev Av (M : Nat → Prop) : Nat → Prop := fun k => ¬ M k
/-- a term by value; its rows lie outside of M -/
def TeOk (M : Nat → Prop) (w : World) (x : TE) : Prop := fields x.k x.n x.s x.u ∧ ∃ F, RowS (Av M) F w x.lv x.l
section
variable {M M' T : Nat → Prop} {w w' : World} {x : TE}
theorem TeOk.chg (h : TeOk M w x) (hc : Chg T w w') (hT : ∀ k, T k → k < w.heap.size → M k) (hM : ∀ k, M' k → k < w.heap.size → M k) : TeOk M' w' x := by
  obtain ⟨h1, F, h2⟩ := h
  exact ⟨h1, F, h2.chg hc (fun k hk hl ht => hk (hT k ht hl)) (fun k hk hl hm => hk (hM k hm hl)) (Nat.le_refl _)⟩
theorem TeOk.keep (h : TeOk M w x) (hb : Below w.heap.size w w') : TeOk M w' x := h.chg (chg_of_below hb (fun _ => False)) (fun _ h => h.elim) (fun _ h _ => h)
theorem TeOk.more (h : TeOk M w x) (hM : ∀ k, M' k → k < w.heap.size → M k) : TeOk M' w x := h.chg (Chg.refl (fun _ => False) w) (fun _ h => h.elim) hM
theorem TeOk.tv (h : TeOk M w x) : ∃ F, TermV F w (.agg x.cells.toArray) x.t := by
  obtain ⟨h1, F, h2⟩ := h
  exact ⟨F, te_row rfl h1 h2⟩
/-- terms one behind the other in memory, outside of M -/
def TesOk (M : Nat → Prop) (w : World) (v : Value) (E : List TE) : Prop :=
  (∃ ao cap, v = .slice ao E.length cap ∧ E.length ≤ cap ∧ cap ≤ 9223372036854775807 ∧ (E = [] ∨ ∃ b off, ao = some ⟨b, off, none⟩ ∧ ¬ M b ∧ ∀ (j : Nat) (u : Value), (tcs E)[j]? = some u → w.cell? ⟨b, off + j, none⟩ = some u)) ∧ ∀ x ∈ E, TeOk M w x
theorem TesOk.chg {v : Value} {E : List TE} (h : TesOk M w v E) (hc : Chg T w w') (hT : ∀ k, T k → k < w.heap.size → M k) (hM : ∀ k, M' k → k < w.heap.size → M k) : TesOk M' w' v E := by
  obtain ⟨⟨ao, cap, rfl, h1, h2, h3⟩, h4⟩ := h
  refine ⟨⟨ao, cap, rfl, h1, h2, ?_⟩, fun x hx => (h4 x hx).chg hc hT hM⟩
  rcases h3 with h3 | ⟨b, off, e, hb, hcl⟩
  · exact .inl h3
  · by_cases h0 : E = []
    · exact .inl h0
    · have hl : 0 < (tcs E).length := by
        rw [tcs_len]
        have := List.length_pos_iff.2 h0
        omega
      have hlt : b < w.heap.size := World.block_lt_of_cell? w _ (hcl 0 _ (List.getElem?_eq_getElem hl))
      exact .inr ⟨b, off, e, fun hm => hb (hM b hm hlt), fun j u hj => hc.cell (hcl j u hj) fun ht => hb (hT b ht hlt)⟩
theorem TesOk.keep {v : Value} {E : List TE} (h : TesOk M w v E) (hb : Below w.heap.size w w') : TesOk M w' v E := h.chg (chg_of_below hb (fun _ => False)) (fun _ h => h.elim) (fun _ h _ => h)
theorem TesOk.more {v : Value} {E : List TE} (h : TesOk M w v E) (hM : ∀ k, M' k → k < w.heap.size → M k) : TesOk M' w v E := h.chg (Chg.refl (fun _ => False) w) (fun _ h => h.elim) hM
theorem TesOk.slice {v : Value} {E : List TE} (h : TesOk M w v E) : ∃ ao cap, v = .slice ao E.length cap ∧ E.length ≤ cap ∧ cap ≤ 9223372036854775807 := by
  obtain ⟨⟨ao, cap, rfl, h1, h2, h3⟩, h4⟩ := h
  exact ⟨ao, cap, rfl, h1, h2⟩
/-- one of them -/
theorem TesOk.at {v : Value} {E : List TE} (h : TesOk M w v E) {i : Nat} {x : TE} (hx : E[i]? = some x) : ∃ b off cap, v = .slice (some ⟨b, off, none⟩) E.length cap ∧ TeOk M w x ∧
    w.cell? ⟨b, off + i * 5, none⟩ = some (.int .i8 x.k) ∧ w.cell? ⟨b, off + i * 5 + 1, none⟩ = some (.int .i64 x.n) ∧ w.cell? ⟨b, off + i * 5 + 2, none⟩ = some (.string x.s) ∧ w.cell? ⟨b, off + i * 5 + 3, none⟩ = some (.string x.u) ∧ w.cell? ⟨b, off + i * 5 + 4, none⟩ = some x.lv := by
  obtain ⟨⟨ao, cap, rfl, h1, h2, h3⟩, h4⟩ := h
  rcases h3 with h3 | ⟨b, off, rfl, hb, hcl⟩
  · rw [h3] at hx
    simp at hx
  · have key : ∀ j u, j < 5 → x.cells[j]? = some u → w.cell? ⟨b, off + i * 5 + j, none⟩ = some u := fun j u hj hu => by
      rw [Nat.add_assoc]
      exact hcl _ _ (by rw [tcs_at E i j x hx hj]; exact hu)
    exact ⟨b, off, cap, rfl, h4 x (List.mem_of_getElem? hx), key 0 _ (by decide) rfl, key 1 _ (by decide) rfl, key 2 _ (by decide) rfl, key 3 _ (by decide) rfl, key 4 _ (by decide) rfl⟩
/-- a term's parts -/
theorem TeOk.row (h : TeOk M w x) : ∃ E : List TE, E.map TE.t = x.l ∧ TesOk M w x.lv E := by
  obtain ⟨h1, F, h2⟩ := h
  obtain ⟨ao, cap, e, l1, l2, l3⟩ := id h2
  rw [e] at h2
  obtain ⟨E, e1, e2, e3⟩ := row_tes h2
  have hl : E.length = x.l.length := by rw [← e1, List.length_map]
  refine ⟨E, e1, ⟨ao, cap, by rw [e, hl], by omega, l2, ?_⟩, fun y hy => ⟨(e2 y hy).1, F, (e2 y hy).2⟩⟩
  by_cases h0 : E = []
  · exact .inl h0
  · right
    have h00 : 0 < x.l.length := by rw [← hl]; exact List.length_pos_iff.2 h0
    obtain ⟨b, off, e4, hat⟩ := l3 0 x.l[0] (List.getElem?_eq_getElem h00)
    refine ⟨b, off, e4, ?_, fun j u hj => ?_⟩
    · cases F with
      | zero => exact hat.elim
      | succ F =>
        cases hx0 : x.l[0] with
        | mk k n s u l => rw [hx0] at hat; exact hat.1
    · have := e3 _ e4 j u hj
      rw [Addr.add_lit] at this
      exact this
theorem max_F {E : List TE} (h : ∀ x ∈ E, TeOk M w x) : ∃ F, ∀ x ∈ E, fields x.k x.n x.s x.u ∧ RowS (Av M) F w x.lv x.l := by
  induction E with
  | nil => exact ⟨0, fun x hx => by cases hx⟩
  | cons y E ih =>
    obtain ⟨F, hF⟩ := ih fun x hx => h x (List.mem_cons_of_mem _ hx)
    obtain ⟨h1, G, h2⟩ := h y List.mem_cons_self
    refine ⟨F + G, fun x hx => ?_⟩
    rcases List.mem_cons.1 hx with rfl | hx
    · exact ⟨h1, h2.chg (Chg.refl (fun _ => False) w) (fun _ _ _ h => h) (fun _ h _ => h) (by omega)⟩
    · exact ⟨(hF x hx).1, (hF x hx).2.chg (Chg.refl (fun _ => False) w) (fun _ _ _ h => h) (fun _ h _ => h) (by omega)⟩
/-- as a row of trees -/
theorem TesOk.rowS {v : Value} {E : List TE} (h : TesOk M w v E) : ∃ F, RowS (fun k => ¬ M k ∧ k < w.heap.size) F w v (E.map TE.t) := by
  obtain ⟨F, hF⟩ := max_F h.2
  obtain ⟨⟨ao, cap, rfl, h1, h2, h3⟩, h4⟩ := h
  refine ⟨F + 1, ao, cap, by rw [List.length_map], by rw [List.length_map]; exact h1, h2, fun i t hi => ?_⟩
  rw [List.getElem?_map] at hi
  obtain ⟨x, hx, rfl⟩ := Option.map_eq_some_iff.1 hi
  rcases h3 with h3 | ⟨b, off, rfl, hb, hcl⟩
  · rw [h3] at hx
    simp at hx
  · have key : ∀ j u, j < 5 → x.cells[j]? = some u → w.cell? ⟨b, off + i * 5 + j, none⟩ = some u := fun j u hj hu => by
      rw [Nat.add_assoc]
      exact hcl _ _ (by rw [tcs_at E i j x hx hj]; exact hu)
    obtain ⟨g1, ao', cap', e, g2, g3, g4⟩ := hF x (List.mem_of_getElem? hx)
    have k4 := key 4 _ (by decide) rfl
    have e' : x.lv = .slice x.ao x.l.length x.cap := rfl
    rw [e'] at e
    injection e with e1 e2 e3
    subst e1 e3
    refine ⟨b, off, rfl, ⟨hb, World.block_lt_of_cell? w _ k4⟩, g1, x.ao, x.cap, ⟨key 0 _ (by decide) rfl, key 1 _ (by decide) rfl, key 2 _ (by decide) rfl, key 3 _ (by decide) rfl, k4⟩, g2, g3, fun j t hj => ?_⟩
    obtain ⟨b', off', e4, hat⟩ := g4 j t hj
    exact ⟨b', off', e4, AtS.chg (Chg.refl (fun _ => False) w) (fun _ _ _ h => h) (fun k hk hl => ⟨hk, hl⟩) (Nat.le_refl _) hat⟩
theorem TesOk.nil (M : Nat → Prop) (w : World) : TesOk M w (.slice none 0 0) [] := ⟨⟨none, 0, rfl, Nat.le_refl _, by omega, .inl rfl⟩, fun x hx => by cases hx⟩
theorem TesOk.of_row {l : List Tm} {F : Nat} {v : Value} (h : RowS (Av M) F w v l) : ∃ E, E.map TE.t = l ∧ TesOk M w v E := by
  obtain ⟨ao, cap, e, h2, h3, h4⟩ := id h
  subst e
  have : TeOk M w ⟨0, 0, ⟨#[]⟩, ⟨#[]⟩, ao, cap, l⟩ := ⟨⟨⟨by show (-128 : Int) ≤ 0; decide, by show (0 : Int) ≤ 127; decide⟩, ⟨by show (-9223372036854775808 : Int) ≤ 0; decide, by show (0 : Int) ≤ 9223372036854775807; decide⟩, by show (ByteArray.mk #[]).size ≤ _; decide, by show (ByteArray.mk #[]).size ≤ _; decide⟩, F, h⟩
  exact this.row
end
/-- an atom -/
def atomT (s : ByteArray) : TE := ⟨1, 0, s, ⟨#[]⟩, none, 0, []⟩
theorem atomT_ok (M : Nat → Prop) (w : World) (s : ByteArray) (hs : s.size ≤ 9223372036854775807) : TeOk M w (atomT s) :=
  ⟨⟨⟨by show (-128 : Int) ≤ 1; decide, by show (1 : Int) ≤ 127; decide⟩, ⟨by show (-9223372036854775808 : Int) ≤ 0; decide, by show (0 : Int) ≤ 9223372036854775807; decide⟩, hs, by show (ByteArray.mk #[]).size ≤ _; decide⟩, 0, none, 0, rfl, Nat.le_refl _, by omega, fun i t hi => by simp [atomT] at hi⟩
/-- a term of no parts: a pid, a reference, a number -/
def numT (k n : Int) : TE := ⟨k, n, ⟨#[]⟩, ⟨#[]⟩, none, 0, []⟩
theorem numT_ok (M : Nat → Prop) (w : World) (k n : Int) (hk : -128 ≤ k ∧ k ≤ 127) (hn : -9223372036854775808 ≤ n ∧ n ≤ 9223372036854775807) : TeOk M w (numT k n) :=
  ⟨⟨hk, hn, by show (ByteArray.mk #[]).size ≤ _; decide, by show (ByteArray.mk #[]).size ≤ _; decide⟩, 0, none, 0, rfl, Nat.le_refl _, by omega, fun i t hi => by simp [numT] at hi⟩
theorem ret_cell {P : Program} {fn : Func} {R : Ending → World → Prop} {tmps : Array Value} {w : World} {g p : Nat} {ty t : TypeId} {fr : Nat × Nat} {d : TypeDesc} {cs : Array Value} (hg : w.heap[g]? = some (.cells cs t fr)) (hfn : fn.results = #[.cell p ty])
    (hu : P.underlying ty = some d) (hd : (match d with | .struct _ | .array _ _ => true | _ => false) = true) (hi : (P.info? ty).map (·.size) = some cs.size)
    (hp : tmps.getD p undef = .pointer (some ⟨g, 0, none⟩)) (hpost : R (.returned (.agg cs)) w) : bodyPost P fn R .ret { tmps := tmps, defers := [] } w := by
  refine bodyPost_ret (v := .agg cs) ?_ rfl hpost
  have hl := run_loadVar_row (P := P) w g t ty cs fr d hg hu hd hi
  unfold results
  rw [hfn]
  simp only [Array.getD_eq_getD_getElem?] at hp
  simp [asAddr, hp, hl]
def TePost (M : Nat → Prop) (w : World) (t : Tm) (e : Ending) (w' : World) : Prop := ∃ x : TE, e = .returned (.agg x.cells.toArray) ∧ x.t = t ∧ TeOk M w' x ∧ Below w.heap.size w w'
theorem satom_any (w : World) (s : ByteArray) : Calls Tryz.prog 39 #[.string s] w fun e w' => e = .returned (.agg (atomT s).cells.toArray) ∧ Below w.heap.size w w' := by
  have hb1 := (Below.refl w.heap.size w).alloc (Nat.le_refl _) (.cells #[.int .i8 1, .int .i64 0, .string s, .string ⟨#[]⟩, .slice none 0 0] 25)
  have hx1 := heap_new w (.cells #[.int .i8 1, .int .i64 0, .string s, .string ⟨#[]⟩, .slice none 0 0] 25)
  have HB := Lib.hid (And.intro hb1 hx1)
  clear hb1 hx1
  go_enter Tryz.func39, Tryz.ntmps39
  go_wp2_with fail
  exact ret_cell HB.out.2 rfl Tryz.underlying25 rfl (infoTM' _ rfl) rfl ⟨rfl, HB.out.1⟩
/-- a tuple of so many parts, the first one that atom? -/
def isB (t : Tm) (tag : ByteArray) (n : Nat) : Bool := decide (t.k = 5) && (decide (t.l.length = n) && match t.l with
  | a :: _ => decide (a.k = 1) && decide (a.s = tag)
  | [] => false)
/-- the cells of a part -/
structure PtAt (w : World) (b o : Nat) (x : TE) : Prop where
  c0 : w.cell? ⟨b, o, none⟩ = some (.int .i8 x.k)
  c1 : w.cell? ⟨b, o + 1, none⟩ = some (.int .i64 x.n)
  c2 : w.cell? ⟨b, o + 2, none⟩ = some (.string x.s)
  c3 : w.cell? ⟨b, o + 3, none⟩ = some (.string x.u)
  c4 : w.cell? ⟨b, o + 4, none⟩ = some (.slice x.ao x.l.length x.cap)
theorem PtAt.keep {w w' : World} {b o : Nat} {x : TE} (h : PtAt w b o x) (hb : Below w.heap.size w w') : PtAt w' b o x := ⟨keep_cell h.c0 hb, keep_cell h.c1 hb, keep_cell h.c2 hb, keep_cell h.c3 hb, keep_cell h.c4 hb⟩
/-- a term's part -/
theorem TeOk.part {M : Nat → Prop} {w : World} {x : TE} (h : TeOk M w x) {i : Nat} (hi : i < x.l.length) : ∃ b off, ∃ y : TE, x.ao = some ⟨b, off, none⟩ ∧ x.l[i]? = some y.t ∧ TeOk M w y ∧ PtAt w b (off + i * 5) y ∧ ¬ M b := by
  obtain ⟨E, e1, h2⟩ := h.row
  have hl : E.length = x.l.length := by rw [← e1, List.length_map]
  obtain ⟨y, hy⟩ : ∃ y, E[i]? = some y := ⟨E[i]'(by omega), List.getElem?_eq_getElem _⟩
  obtain ⟨b, off, cap, e, h3, c0, c1, c2, c3, c4⟩ := h2.at hy
  have e' : x.lv = .slice x.ao x.l.length x.cap := rfl
  rw [e'] at e
  injection e with e2 e3 e4
  refine ⟨b, off, y, e2, by rw [← e1, List.getElem?_map, hy]; rfl, h3, ⟨c0, c1, c2, c3, c4⟩, ?_⟩
  obtain ⟨⟨ao, cap', e5, -, -, h5⟩, -⟩ := h2
  rw [e'] at e5
  injection e5 with e6 e7 e8
  rcases h5 with h5 | ⟨b', off', e9, hb, -⟩
  · rw [h5] at hy
    simp at hy
  · rw [← e6, e2] at e9
    injection e9 with e9
    injection e9 with e9 e10
    rw [e9]
    exact hb
set_option maxHeartbeats 1000000 in
theorem sis_any (M : Nat → Prop) (w : World) (x : TE) (tag : ByteArray) (n : Nat) (hx : TeOk M w x) (h0 : 0 < n) (hn : n ≤ 100) : Calls Tryz.prog 31 #[.agg x.cells.toArray, .string tag, .int .i64 n] w (IsPost w (isB x.t tag n)) := by
  have hb1 := (Below.refl w.heap.size w).alloc (Nat.le_refl _) (.cells x.cells.toArray 25)
  have hx1 := heap_new w (.cells x.cells.toArray 25)
  have HB := Lib.hid hb1
  have y0 : (w.alloc (.cells x.cells.toArray 25)).cell? ⟨w.heap.size, 0, none⟩ = some (.int .i8 x.k) := (cells_at hx1 0 _ rfl).1
  have y4 : (w.alloc (.cells x.cells.toArray 25)).cell? ⟨w.heap.size, 4, none⟩ = some (.slice x.ao x.l.length x.cap) := (cells_at hx1 4 _ rfl).1
  have hx2 := hx.keep hb1
  clear hx1 hb1 hx
  have hE : isB x.t tag n = (decide (x.k = 5) && (decide (x.l.length = n) && match x.l with
    | a :: _ => decide (a.k = 1) && decide (a.s = tag)
    | [] => false)) := rfl
  go_enter Tryz.func31, Tryz.ntmps31
  by_cases hk : x.k = 5
  · by_cases hl : x.l.length = n
    · obtain ⟨b, off, y, e1, e2, hy, hp, -⟩ := hx2.part (i := 0) (by omega)
      have hE2 : isB x.t tag n = (decide (y.k = 1) && decide (y.s = tag)) := by
        rw [hE]
        cases hxl : x.l with
        | nil => rw [hxl] at hl; simp at hl; omega
        | cons a l =>
          rw [hxl] at e2 hl
          simp at e2
          subst e2
          simp only [hk, hl, decide_true, Bool.true_and]
          rfl
      have HE := Lib.hid hE2
      clear hE hE2 hx2 hy e2
      rw [e1, hl] at y4
      rw [hk] at y0
      obtain ⟨p0, -, p2, -, -⟩ := hp
      rw [show off + 0 * 5 = off by omega] at p0 p2
      have hn0 : (0 : Int) < (n : Int) := by omega
      clear hl hk e1
      by_cases h1 : y.k = 1
      · rw [h1] at p0
        by_cases h2 : y.s = tag
        · rw [h2] at p2
          have HF := Lib.hid (show isB x.t tag n = true by rw [HE.out, h1, h2]; simp)
          clear HE h1 h2
          go_wp2_with fail
          go_ret
          exact ⟨by rw [HF.out]; rfl, HB.out⟩
        · have q1 := str_ne h2
          have HF := Lib.hid (show isB x.t tag n = false by rw [HE.out]; simp [h2])
          clear HE h1 h2
          go_wp2_with fail
          go_ret
          exact ⟨by rw [HF.out]; rfl, HB.out⟩
      · have q1 : (y.k == 1) = false := by simp [h1]
        have HF := Lib.hid (show isB x.t tag n = false by rw [HE.out]; simp [h1])
        clear HE h1
        go_wp2_with fail
        go_ret
        exact ⟨by rw [HF.out]; rfl, HB.out⟩
    · have q1 : ((x.l.length : Int) == (n : Int)) = false := by
        simp only [beq_eq_false_iff_ne, ne_eq, Int.natCast_inj]
        exact hl
      have HF := Lib.hid (show isB x.t tag n = false by rw [hE]; simp [hl])
      rw [hk] at y0
      clear hE hk hl hx2
      go_wp2_with fail
      go_ret
      exact ⟨by rw [HF.out]; rfl, HB.out⟩
  · have q1 : (x.k == 5) = false := by simp [hk]
    have HF := Lib.hid (show isB x.t tag n = false by rw [hE]; simp [hk])
    clear hE hk hx2
    go_wp2_with fail
    go_ret
    exact ⟨by rw [HF.out]; rfl, HB.out⟩
/-- the atom system_limit -/
def limS : ByteArray := ⟨#[115, 121, 115, 116, 101, 109, 95, 108, 105, 109, 105, 116]⟩
/-- a tuple, or the atom -/
def tupA (L : List Tm) : Tm := if mdN L 1 = 0 then .mk 5 0 ⟨#[]⟩ ⟨#[]⟩ L else .mk 1 0 limS ⟨#[]⟩ []
/-- what term.Tuple tells of terms outside of M -/
theorem tup_any (M : Nat → Prop) (w : World) (hM : ∀ k, M k → k < w.heap.size) (hc : Cells w 0 letL) (v : Value) (E : List TE) (h : TesOk M w v E) (h1 : ∀ c, v ≠ .slice none 0 c ∨ c = 0) (hl : E.length ≤ 4000) :
    Calls Tryz.prog 40 #[v] w fun e w' => Below w.heap.size w w' ∧ ((mdN (E.map TE.t) 1 = 0 ∧ ∃ x : TE, e = .returned (.tuple #[.agg x.cells.toArray, .int .i64 0]) ∧ x.t = .mk 5 0 ⟨#[]⟩ ⟨#[]⟩ (E.map TE.t) ∧ TeOk M w' x) ∨ (mdN (E.map TE.t) 1 ≠ 0 ∧ e = .returned (.tuple #[.agg zT, .int .i64 (mdN (E.map TE.t) 1)]))) := by
  obtain ⟨F, hF⟩ := h.rowS
  obtain ⟨ao, cap, rfl, -⟩ := h.slice
  have hlen : (E.map TE.t).length = E.length := List.length_map ..
  have hno : ao = none → cap = 0 := fun e => ?_
  · have hT := tuple_any (fun k => ¬ M k ∧ k < w.heap.size) F (E.map TE.t) ao cap w (fun k hk => hk.2) hc (by rw [hlen]; exact hF) hno (by rw [hlen]; exact hl)
    rw [hlen] at hT
    refine hT.mono ?_
    rintro e w' ⟨hb, ⟨h2, ao', cap', rfl, hr⟩ | ⟨h2, rfl⟩⟩
    · refine ⟨hb, .inl ⟨h2, ⟨5, 0, ⟨#[]⟩, ⟨#[]⟩, ao', cap', E.map TE.t⟩, rfl, rfl, ⟨⟨by show (-128 : Int) ≤ 5; decide, by show (5 : Int) ≤ 127; decide⟩, ⟨by show (-9223372036854775808 : Int) ≤ 0; decide, by show (0 : Int) ≤ 9223372036854775807; decide⟩, by show (ByteArray.mk #[]).size ≤ _; decide, by show (ByteArray.mk #[]).size ≤ _; decide⟩, F + 1, ?_⟩⟩
      exact hr.chg (Chg.refl (fun _ => False) _) (fun _ _ _ h => h) (fun k hk _ hm => by
        rcases hk with hk | hk
        · exact hk.1 hm
        · have := hM k hm
          omega) (Nat.le_refl _)
    · exact ⟨hb, .inr ⟨h2, rfl⟩⟩
  · subst e
    rcases h1 cap with h1 | h1
    · obtain ⟨⟨ao', cap', e, -, -, h3⟩, -⟩ := h
      injection e with e1 e2 e3
      rcases h3 with h3 | ⟨b, off, e4, -⟩
      · rw [h3] at h1
        exact absurd rfl h1
      · rw [← e1] at e4
        cases e4
    · exact h1
theorem stuple_any (M : Nat → Prop) (w : World) (hM : ∀ k, M k → k < w.heap.size) (hc : Cells w 0 letL) (v : Value) (E : List TE) (h : TesOk M w v E) (h1 : ∀ c, v ≠ .slice none 0 c ∨ c = 0) (hl : E.length ≤ 4000) :
    Calls Tryz.prog 30 #[v] w (TePost M w (tupA (E.map TE.t))) := by
  obtain ⟨ao, cap, rfl, -⟩ := h.slice
  have hb1 := (Below.refl w.heap.size w).alloc (Nat.le_refl _) (.cells zT 25)
  have hx1 := heap_new w (.cells zT 25)
  have hs1 : (w.alloc (.cells zT 25)).heap.size = w.heap.size + 1 := by simp
  have HT := Lib.hid (tup_any (fun k => M k ∨ k = w.heap.size) _ (fun k hk => by rcases hk with hk | hk; have := hM k hk; omega; omega) (keepCells hc hb1) _ E (h.chg (chg_of_below hb1 (fun _ => False)) (fun _ h => h.elim) (fun k hk hl => hk.elim id (fun e => by omega))) h1 hl)
  have HB := Lib.hid (And.intro hb1 hx1)
  have HM := Lib.hid hM
  clear hb1 hx1 hs1 h h1 hM hc
  have hE : tupA (E.map TE.t) = if mdN (E.map TE.t) 1 = 0 then .mk 5 0 ⟨#[]⟩ ⟨#[]⟩ (E.map TE.t) else .mk 1 0 limS ⟨#[]⟩ [] := rfl
  have HE := Lib.hid hE
  clear hE
  go_enter Tryz.func30, Tryz.ntmps30
  go_wp2_with fail
  generalize w.alloc (.cells zT 25) = w1 at *
  refine HT.out.mono ?_
  rintro e w2 ⟨hb2, hcase⟩
  have HB2 := Lib.hid (And.intro (HB.out.1.trans (hb2.mono HB.out.1.size)) (keep_heap HB.out.2 hb2))
  clear hb2 HT HB
  rcases hcase with ⟨h2, x, rfl, hxt, hxo⟩ | ⟨h2, rfl⟩
  · have HF := Lib.hid (show tupA (E.map TE.t) = x.t by rw [HE.out, if_pos h2, hxt])
    have HX := Lib.hid hxo
    clear HE h2 hxt hxo
    simp only [TE.cells]
    go_wp2_with (with_reducible refine stop_op (o := ⟨_, .store 25 (.tmp 2) (.tmp 13), _, _, _, _⟩) ?_)
    have hb3 := (Below.refl w2.heap.size w2).alloc (Nat.le_refl _) (.cells #[.int .i8 x.k, .int .i64 x.n, .string x.s, .string x.u, .slice x.ao x.l.length x.cap] 25)
    have HB3 := Lib.hid (And.intro (HB2.out.1.trans (hb3.mono HB2.out.1.size)) (keep_heap HB2.out.2 hb3))
    have HX3 := Lib.hid (HX.out.keep hb3)
    clear hb3 HB2 HX
    generalize w2.alloc (.cells #[.int .i8 x.k, .int .i64 x.n, .string x.s, .string x.u, .slice x.ao x.l.length x.cap] 25) = w3 at *
    refine Lib.hid ?_
    refine wpList_store_row (o := ⟨none, _, _, _, _, _⟩) rfl 25 (.tmp 2) (.tmp 13) rfl w.heap.size #[.int .i8 x.k, .int .i64 x.n, .string x.s, .string x.u, .slice x.ao x.l.length x.cap] rfl rfl 25 zT HB3.out.2 (infoTM' _ rfl) rfl (by simp [Value.oneCell']) ?_
    have hc4 := chg_setRow w3 w.heap.size #[.int .i8 x.k, .int .i64 x.n, .string x.s, .string x.u, .slice x.ao x.l.length x.cap]
    have HZ := Lib.hid (And.intro (setRow_heap w3 w.heap.size zT #[.int .i8 x.k, .int .i64 x.n, .string x.s, .string x.u, .slice x.ao x.l.length x.cap] 25 (0, 0) HB3.out.2) (And.intro (bel_setRow HB3.out.1 HB3.out.1.size (Nat.le_refl _) #[.int .i8 x.k, .int .i64 x.n, .string x.s, .string x.u, .slice x.ao x.l.length x.cap]) (HX3.out.chg (M' := M) hc4 (fun k e _ => .inr e) (fun k hk _ => .inl hk))))
    generalize w3.setRow w.heap.size #[.int .i8 x.k, .int .i64 x.n, .string x.s, .string x.u, .slice x.ao x.l.length x.cap] = w4 at *
    clear hc4 HB3 HX3
    go_wp2_with fail
    refine ret_cell HZ.out.1 rfl Tryz.underlying25 rfl (infoTM' _ rfl) rfl ⟨x, rfl, HF.out.symm, HZ.out.2.2, HZ.out.2.1⟩
  · generalize mdN (E.map TE.t) 1 = n at *
    have q1 : (n != 0) = true := by simpa using h2
    have HF := Lib.hid (HE.out.trans (if_neg h2))
    clear HE h2
    go_wp2_with fail
    have hb3 := (Below.refl w2.heap.size w2).alloc (Nat.le_refl _) (.cells zT 25)
    have HB3 := Lib.hid (And.intro (HB2.out.1.trans (hb3.mono HB2.out.1.size)) (keep_heap HB2.out.2 hb3))
    clear hb3 HB2
    generalize w2.alloc (.cells zT 25) = w3 at *
    refine (satom_any w3 _).mono ?_
    rintro e w4 ⟨rfl, hb4⟩
    have HB4 := Lib.hid (And.intro (HB3.out.1.trans (hb4.mono HB3.out.1.size)) (keep_heap HB3.out.2 hb4))
    clear hb4 HB3
    go_wp2_with (with_reducible refine stop_op (o := ⟨_, .store 25 (.tmp 2) (.tmp 12), _, _, _, _⟩) ?_)
    refine Lib.hid ?_
    refine wpList_store_row (o := ⟨none, _, _, _, _, _⟩) rfl 25 (.tmp 2) (.tmp 12) rfl w.heap.size (atomT limS).cells.toArray rfl rfl 25 zT HB4.out.2 (infoTM' _ rfl) rfl (by simp [Value.oneCell', TE.cells, atomT]) ?_
    have HZ := Lib.hid (And.intro (setRow_heap w4 w.heap.size zT (atomT limS).cells.toArray 25 (0, 0) HB4.out.2) (bel_setRow HB4.out.1 HB4.out.1.size (Nat.le_refl _) (atomT limS).cells.toArray))
    generalize w4.setRow w.heap.size (atomT limS).cells.toArray = w5 at *
    clear HB4
    go_wp2_with fail
    refine ret_cell HZ.out.1 rfl Tryz.underlying25 rfl (infoTM' _ rfl) rfl ⟨atomT limS, rfl, HF.out.symm, atomT_ok _ _ _ (by decide), HZ.out.2⟩
end Go.Proofs.YthpmdeofdlcccaaGreatDoor
namespace Go.Proofs.YthpmdeofdlcccaaGreatDoor
open Go.ChangeShapes Go.WideShapes Go.ChangeAt Go.RowKit
set_option linter.unusedVariables false
set_option linter.unusedSimpArgs false
set_option maxRecDepth 100000
/-- an item -/
structure It where
  x : TE
  o : Bool
def It.cells (i : It) : List Value := [.int .i8 i.x.k, .int .i64 i.x.n, .string i.x.s, .string i.x.u, .slice i.x.ao i.x.l.length i.x.cap, .bool i.o]
/-- a tuple with that tag and that second part? -/
def isIt (t : Tm) (tag : ByteArray) (u : Tm) : Bool := decide (t.k = 5) && match t.l with
  | a :: b :: _ => decide (a.k = 1) && (decide (a.s = tag) && eqT b u)
  | _ => false
def IsS1 (q : Nat) (k : Int) (W : World) : Prop := W.cell? ⟨q, 0, none⟩ = some (.int .i8 k)
def IsS2 (q b o : Nat) (k0 : Int) (s0 : ByteArray) (W : World) : Prop := W.cell? ⟨q, 0, none⟩ = some (.int .i8 5) ∧ W.cell? ⟨b, o, none⟩ = some (.int .i8 k0) ∧ W.cell? ⟨b, o + 2, none⟩ = some (.string s0)
def IsS3 (q b o : Nat) (s0 : ByteArray) (k n : Int) (s u : ByteArray) (lv : Value) (k' n' : Int) (s' u' : ByteArray) (lv' : Value) (W : World) : Prop := W.cell? ⟨q, 0, none⟩ = some (.int .i8 5) ∧ W.cell? ⟨b, o, none⟩ = some (.int .i8 1) ∧ W.cell? ⟨b, o + 2, none⟩ = some (.string s0) ∧
  W.cell? ⟨b, o + 5, none⟩ = some (.int .i8 k) ∧ W.cell? ⟨b, o + 5 + 1, none⟩ = some (.int .i64 n) ∧ W.cell? ⟨b, o + 5 + 2, none⟩ = some (.string s) ∧ W.cell? ⟨b, o + 5 + 3, none⟩ = some (.string u) ∧ W.cell? ⟨b, o + 5 + 4, none⟩ = some lv ∧
  W.cell? ⟨q + 1, 0, none⟩ = some (.int .i8 k') ∧ W.cell? ⟨q + 1, 1, none⟩ = some (.int .i64 n') ∧ W.cell? ⟨q + 1, 2, none⟩ = some (.string s') ∧ W.cell? ⟨q + 1, 3, none⟩ = some (.string u') ∧ W.cell? ⟨q + 1, 4, none⟩ = some lv'
theorem IsS3.keep {q b o : Nat} {s0 : ByteArray} {k n : Int} {s u : ByteArray} {lv : Value} {k' n' : Int} {s' u' : ByteArray} {lv' : Value} {W W' : World} (h : IsS3 q b o s0 k n s u lv k' n' s' u' lv' W) (hb : Below W.heap.size W W') : IsS3 q b o s0 k n s u lv k' n' s' u' lv' W' := by
  obtain ⟨g1, g2, g3, h1, h2, h3, h4, h5, h6, h7, h8, h9, h10⟩ := h
  exact ⟨keep_cell g1 hb, keep_cell g2 hb, keep_cell g3 hb, keep_cell h1 hb, keep_cell h2 hb, keep_cell h3 hb, keep_cell h4 hb, keep_cell h5 hb, keep_cell h6 hb, keep_cell h7 hb, keep_cell h8 hb, keep_cell h9 hb, keep_cell h10 hb⟩
set_option maxHeartbeats 4000000 in
theorem mis_any (M M' : Nat → Prop) (w : World) (i : It) (tag : ByteArray) (z : TE) (hi : TeOk M w i.x) (hz : TeOk M' w z) : Calls Tryz.prog 58 #[.agg i.cells.toArray, .string tag, .agg z.cells.toArray] w (IsPost w (isIt i.x.t tag z.t)) := by
  obtain ⟨x, o⟩ := i
  have hb1 := (Below.refl w.heap.size w).alloc (Nat.le_refl _) (.cells (It.mk x o).cells.toArray 59)
  have hb2 := hb1.alloc (by simp) (.cells z.cells.toArray 25)
  have n1 := heap_old (heap_new w (.cells (It.mk x o).cells.toArray 59)) (.cells z.cells.toArray 25)
  have n2 := heap_new (w.alloc (.cells (It.mk x o).cells.toArray 59)) (.cells z.cells.toArray 25)
  rw [World.size_alloc] at n2
  have HB := Lib.hid hb2
  have x0 : ((w.alloc (.cells (It.mk x o).cells.toArray 59)).alloc (.cells z.cells.toArray 25)).cell? ⟨w.heap.size, 0, none⟩ = some (.int .i8 x.k) := (cells_at n1 0 _ rfl).1
  have x4 : ((w.alloc (.cells (It.mk x o).cells.toArray 59)).alloc (.cells z.cells.toArray 25)).cell? ⟨w.heap.size, 4, none⟩ = some (.slice x.ao x.l.length x.cap) := (cells_at n1 4 _ rfl).1
  have z0 : ((w.alloc (.cells (It.mk x o).cells.toArray 59)).alloc (.cells z.cells.toArray 25)).cell? ⟨w.heap.size + 1, 0, none⟩ = some (.int .i8 z.k) := (cells_at n2 0 _ rfl).1
  have z1 : ((w.alloc (.cells (It.mk x o).cells.toArray 59)).alloc (.cells z.cells.toArray 25)).cell? ⟨w.heap.size + 1, 1, none⟩ = some (.int .i64 z.n) := (cells_at n2 1 _ rfl).1
  have z2 : ((w.alloc (.cells (It.mk x o).cells.toArray 59)).alloc (.cells z.cells.toArray 25)).cell? ⟨w.heap.size + 1, 2, none⟩ = some (.string z.s) := (cells_at n2 2 _ rfl).1
  have z3 : ((w.alloc (.cells (It.mk x o).cells.toArray 59)).alloc (.cells z.cells.toArray 25)).cell? ⟨w.heap.size + 1, 3, none⟩ = some (.string z.u) := (cells_at n2 3 _ rfl).1
  have z4 : ((w.alloc (.cells (It.mk x o).cells.toArray 59)).alloc (.cells z.cells.toArray 25)).cell? ⟨w.heap.size + 1, 4, none⟩ = some (.slice z.ao z.l.length z.cap) := (cells_at n2 4 _ rfl).1
  have hx2 : TeOk M ((w.alloc (.cells (It.mk x o).cells.toArray 59)).alloc (.cells z.cells.toArray 25)) x := TeOk.keep hi hb2
  have hz2 := hz.keep hb2
  clear n1 n2 hb1 hb2 hi hz
  show Calls Tryz.prog 58 _ w (IsPost w (isIt x.t tag z.t))
  have hE : isIt x.t tag z.t = (decide (x.k = 5) && match x.l with
    | a :: b :: _ => decide (a.k = 1) && (decide (a.s = tag) && eqT b z.t)
    | _ => false) := rfl
  generalize isIt x.t tag z.t = res at *
  by_cases hk : x.k = 5
  · by_cases hl : 2 ≤ x.l.length
    · obtain ⟨b, off, y, e1, e2, hy, hp, -⟩ := hx2.part (i := 0) (by omega)
      obtain ⟨b', off', y1, e1', e2', hy1, hp1, -⟩ := hx2.part (i := 1) (by omega)
      rw [e1] at e1'
      injection e1' with e1'
      injection e1' with e3 e4 e5
      subst e3 e4
      have hE2 : res = (decide (y.k = 1) && (decide (y.s = tag) && eqT y1.t z.t)) := by
        rw [hE]
        cases hxl : x.l with
        | nil => rw [hxl] at hl; simp at hl
        | cons a l =>
          cases l with
          | nil => rw [hxl] at hl; simp at hl
          | cons c l =>
            rw [hxl] at e2 e2'
            simp at e2 e2'
            subst e2 e2'
            simp only [hk, decide_true, Bool.true_and]
            rfl
      have HE := Lib.hid hE2
      clear hE hE2 hx2 hy e2 e2'
      have hn0 : ((x.l.length : Int) ≥ 2) := by omega
      have hn1 : 0 < x.l.length := by omega
      have hn2 : 1 < x.l.length := by omega
      have hn3 : (1 : Int) < (x.l.length : Int) := by omega
      rw [e1] at x4
      rw [hk] at x0
      obtain ⟨p0, -, p2, -, -⟩ := hp
      obtain ⟨r0, r1, r2, r3, r4⟩ := hp1
      rw [show off + 0 * 5 = off by omega] at p0 p2
      rw [show off + 1 * 5 = off + 5 by omega] at r0 r1 r2 r3 r4
      clear hl hk e1
      by_cases h1 : y.k = 1
      · rw [h1] at p0
        by_cases h2 : y.s = tag
        · rw [h2] at p2
          have HF := Lib.hid (show res = eqT y1.t z.t by rw [HE.out, h1, h2]; simp)
          clear HE h1 h2
          go_enter Tryz.func58, Tryz.ntmps58
          go_wp2_with fail
          have hS : IsS3 w.heap.size b off tag y1.k y1.n y1.s y1.u (.slice y1.ao y1.l.length y1.cap) z.k z.n z.s z.u (.slice z.ao z.l.length z.cap) (World.drew ((w.alloc (.cells (It.mk x o).cells.toArray 59)).alloc (.cells z.cells.toArray 25))) := ⟨x0, p0, p2, r0, r1, r2, r3, r4, z0, z1, z2, z3, z4⟩
          have HC := Lib.hid (And.intro (hy1.keep (Below.refl _ _).drew) (hz2.keep (Below.refl _ _).drew))
          have HBD := Lib.hid (HB.out.trans ((Below.refl _ _).drew.mono HB.out.size))
          clear x0 p0 p2 r0 r1 r2 r3 r4 z0 z1 z2 z3 z4 hy1 hz2 HB
          refine region_plan (IsS3 w.heap.size b off tag y1.k y1.n y1.s y1.u (.slice y1.ao y1.l.length y1.cap) z.k z.n z.s z.u (.slice z.ao z.l.length z.cap)) [(0, 0), (1, 0), (2, 0), (3, 0), (4, 0), (5, 0), (6, 0), (7, 0), (8, 0), (9, 0), (10, 0), (11, 0), (12, 0), (13, 0), (14, 0), (15, 0), (16, 0), (17, 0), (18, 0), (19, 0), (20, 0), (21, 0), (22, 0), (23, 0), (24, 0), (25, 0), (26, 0), (27, 0), (28, 0), (29, 1), (30, 0), (31, 0)] (by kernel_rfl) (by kernel_rfl) (by kernel_rfl) hS ?_
          generalize World.drew _ = WD at *
          iterate 29 (first | (refine plan_skip rfl ?_ ?_; (focus (rfl)); (try simp only [Act.put, List.setIfInBounds_toArray, List.set_cons_zero, List.set_cons_succ])) | (refine plan_take (v := ?_) rfl ?_ (fun w hSw => ?_) ?_; rotate_left; (focus (rfl)); (focus (unfold IsS3 at hSw; (go_simp <;> with_reducible rfl))); (try simp only [Act.put, List.setIfInBounds_toArray, List.set_cons_zero, List.set_cons_succ])))
          refine plan_run rfl ?_ (fun K hK => ?_)
          focus (rfl)
          go_simp
          refine (msame_any _ _ _ _ _ _ WD HC.out.1.tv.choose_spec HC.out.2.tv.choose_spec).mono ?_
          rintro e W1 ⟨rfl, hb1⟩
          have hS1 := hS.keep hb1
          have HB1 := Lib.hid (HBD.out.trans (hb1.mono HBD.out.size))
          refine hK.out _ _ hS1 ?_
          clear hK K 
          (try simp only [Act.put, List.setIfInBounds_toArray, List.set_cons_zero, List.set_cons_succ])
          iterate 2 (first | (refine plan_skip rfl ?_ ?_; (focus (rfl)); (try simp only [Act.put, List.setIfInBounds_toArray, List.set_cons_zero, List.set_cons_succ])) | (refine plan_take (v := ?_) rfl ?_ (fun w hSw => ?_) ?_; rotate_left; (focus (rfl)); (focus (unfold IsS3 at hSw; (go_simp <;> with_reducible rfl))); (try simp only [Act.put, List.setIfInBounds_toArray, List.set_cons_zero, List.set_cons_succ])))
          refine plan_done ?_
          go_wp2_with fail
          go_ret
          exact ⟨by rw [HF.out]; rfl, HB1.out⟩
        · have q1 := str_ne h2
          have HE := Lib.hid (show res = false by rw [HE.out]; simp [h2])
          clear h1 h2
          have hS : IsS2 w.heap.size b off 1 y.s (World.drew ((w.alloc (.cells (It.mk x o).cells.toArray 59)).alloc (.cells z.cells.toArray 25))) := ⟨x0, p0, p2⟩
          have HBD := Lib.hid (HB.out.trans ((Below.refl _ _).drew.mono HB.out.size))
          go_enter Tryz.func58, Tryz.ntmps58
          go_wp2_with fail
          refine region_plan (IsS2 w.heap.size b off 1 y.s) [(0, 0), (1, 0), (2, 0), (3, 0), (4, 0), (5, 0), (6, 0), (7, 0), (8, 0), (9, 0), (10, 0), (11, 0), (12, 0), (13, 0), (14, 0), (15, 0), (16, 0), (17, 0), (18, 0), (19, 0), (20, 0), (21, 0), (22, 0), (23, 0), (24, 0), (25, 0), (26, 0), (27, 0), (28, 0), (29, 1), (30, 0), (31, 0)] (by kernel_rfl) (by kernel_rfl) (by kernel_rfl) hS ?_
          generalize World.drew _ = WD at *
          iterate 29 (first | (refine plan_skip rfl ?_ ?_; (focus (rfl)); (try simp only [Act.put, List.setIfInBounds_toArray, List.set_cons_zero, List.set_cons_succ])) | (refine plan_take (v := ?_) rfl ?_ (fun w hSw => ?_) ?_; rotate_left; (focus (rfl)); (focus (unfold IsS2 at hSw; (go_simp <;> with_reducible rfl))); (try simp only [Act.put, List.setIfInBounds_toArray, List.set_cons_zero, List.set_cons_succ])))
          (refine plan_run_skip rfl ?_ hS ?_; (focus (rfl)); (try simp only [Act.put, List.setIfInBounds_toArray, List.set_cons_zero, List.set_cons_succ]))
          iterate 2 (first | (refine plan_skip rfl ?_ ?_; (focus (rfl)); (try simp only [Act.put, List.setIfInBounds_toArray, List.set_cons_zero, List.set_cons_succ])) | (refine plan_take (v := ?_) rfl ?_ (fun w hSw => ?_) ?_; rotate_left; (focus (rfl)); (focus (unfold IsS2 at hSw; (go_simp <;> with_reducible rfl))); (try simp only [Act.put, List.setIfInBounds_toArray, List.set_cons_zero, List.set_cons_succ])))
          refine plan_done ?_
          go_wp2_with fail
          go_ret
          exact ⟨by rw [HE.out]; rfl, HBD.out⟩
      · have q1 : (y.k == 1) = false := by simp [h1]
        have HE := Lib.hid (show res = false by rw [HE.out]; simp [h1])
        clear h1
        have hS : IsS2 w.heap.size b off y.k y.s (World.drew ((w.alloc (.cells (It.mk x o).cells.toArray 59)).alloc (.cells z.cells.toArray 25))) := ⟨x0, p0, p2⟩
        have HBD := Lib.hid (HB.out.trans ((Below.refl _ _).drew.mono HB.out.size))
        go_enter Tryz.func58, Tryz.ntmps58
        go_wp2_with fail
        refine region_plan (IsS2 w.heap.size b off y.k y.s) [(0, 0), (1, 0), (2, 0), (3, 0), (4, 0), (5, 0), (6, 0), (7, 0), (8, 0), (9, 0), (10, 0), (11, 0), (12, 0), (13, 0), (14, 0), (15, 0), (16, 0), (17, 0), (18, 0), (19, 0), (20, 0), (21, 0), (22, 0), (23, 0), (24, 0), (25, 0), (26, 0), (27, 0), (28, 0), (29, 1), (30, 0), (31, 0)] (by kernel_rfl) (by kernel_rfl) (by kernel_rfl) hS ?_
        generalize World.drew _ = WD at *
        iterate 29 (first | (refine plan_skip rfl ?_ ?_; (focus (rfl)); (try simp only [Act.put, List.setIfInBounds_toArray, List.set_cons_zero, List.set_cons_succ])) | (refine plan_take (v := ?_) rfl ?_ (fun w hSw => ?_) ?_; rotate_left; (focus (rfl)); (focus (unfold IsS2 at hSw; (go_simp <;> with_reducible rfl))); (try simp only [Act.put, List.setIfInBounds_toArray, List.set_cons_zero, List.set_cons_succ])))
        (refine plan_run_skip rfl ?_ hS ?_; (focus (rfl)); (try simp only [Act.put, List.setIfInBounds_toArray, List.set_cons_zero, List.set_cons_succ]))
        iterate 2 (first | (refine plan_skip rfl ?_ ?_; (focus (rfl)); (try simp only [Act.put, List.setIfInBounds_toArray, List.set_cons_zero, List.set_cons_succ])) | (refine plan_take (v := ?_) rfl ?_ (fun w hSw => ?_) ?_; rotate_left; (focus (rfl)); (focus (unfold IsS2 at hSw; (go_simp <;> with_reducible rfl))); (try simp only [Act.put, List.setIfInBounds_toArray, List.set_cons_zero, List.set_cons_succ])))
        refine plan_done ?_
        go_wp2_with fail
        go_ret
        exact ⟨by rw [HE.out]; rfl, HBD.out⟩
    · have q1 : ¬ ((2 : Int) ≤ (x.l.length : Int)) := by omega
      have q2 : ¬ (2 ≤ x.l.length) := hl
      have q3 : decide ((x.l.length : Int) ≥ 2) = false := by simp; omega
      have HE := Lib.hid (show res = false by rw [hE]; match hxl : x.l with | [] => simp | [a] => simp | a :: b :: l => rw [hxl] at hl; simp at hl)
      rw [hk] at x0
      clear hE hk hl hx2
      have hS : IsS1 w.heap.size 5 (World.drew ((w.alloc (.cells (It.mk x o).cells.toArray 59)).alloc (.cells z.cells.toArray 25))) := x0
      have HBD := Lib.hid (HB.out.trans ((Below.refl _ _).drew.mono HB.out.size))
      go_enter Tryz.func58, Tryz.ntmps58
      go_wp2_with fail
      refine region_plan (IsS1 w.heap.size 5) [(0, 0), (1, 0), (2, 0), (3, 0), (4, 0), (5, 0), (6, 0), (7, 0), (8, 0), (9, 0), (10, 0), (11, 0), (12, 0), (13, 0), (14, 0), (15, 0), (16, 0), (17, 0), (18, 0), (19, 0), (20, 0), (21, 0), (22, 0), (23, 0), (24, 0), (25, 0), (26, 0), (27, 0), (28, 0), (29, 1), (30, 0), (31, 0)] (by kernel_rfl) (by kernel_rfl) (by kernel_rfl) hS ?_
      generalize World.drew _ = WD at *
      iterate 29 (first | (refine plan_skip rfl ?_ ?_; (focus (rfl)); (try simp only [Act.put, List.setIfInBounds_toArray, List.set_cons_zero, List.set_cons_succ])) | (refine plan_take (v := ?_) rfl ?_ (fun w hSw => ?_) ?_; rotate_left; (focus (rfl)); (focus (unfold IsS1 at hSw; (go_simp <;> with_reducible rfl))); (try simp only [Act.put, List.setIfInBounds_toArray, List.set_cons_zero, List.set_cons_succ])))
      (refine plan_run_skip rfl ?_ hS ?_; (focus (rfl)); (try simp only [Act.put, List.setIfInBounds_toArray, List.set_cons_zero, List.set_cons_succ]))
      iterate 2 (first | (refine plan_skip rfl ?_ ?_; (focus (rfl)); (try simp only [Act.put, List.setIfInBounds_toArray, List.set_cons_zero, List.set_cons_succ])) | (refine plan_take (v := ?_) rfl ?_ (fun w hSw => ?_) ?_; rotate_left; (focus (rfl)); (focus (unfold IsS1 at hSw; (go_simp <;> with_reducible rfl))); (try simp only [Act.put, List.setIfInBounds_toArray, List.set_cons_zero, List.set_cons_succ])))
      refine plan_done ?_
      go_wp2_with fail
      go_ret
      exact ⟨by rw [HE.out]; rfl, HBD.out⟩
  · have q1 : (x.k == 5) = false := by simp [hk]
    have HE := Lib.hid (show res = false by rw [hE]; simp [hk])
    clear hE hk hx2
    have hS : IsS1 w.heap.size x.k (World.drew ((w.alloc (.cells (It.mk x o).cells.toArray 59)).alloc (.cells z.cells.toArray 25))) := x0
    have HBD := Lib.hid (HB.out.trans ((Below.refl _ _).drew.mono HB.out.size))
    go_enter Tryz.func58, Tryz.ntmps58
    go_wp2_with fail
    refine region_plan (IsS1 w.heap.size x.k) [(0, 0), (1, 0), (2, 0), (3, 0), (4, 0), (5, 0), (6, 0), (7, 0), (8, 0), (9, 0), (10, 0), (11, 0), (12, 0), (13, 0), (14, 0), (15, 0), (16, 0), (17, 0), (18, 0), (19, 0), (20, 0), (21, 0), (22, 0), (23, 0), (24, 0), (25, 0), (26, 0), (27, 0), (28, 0), (29, 1), (30, 0), (31, 0)] (by kernel_rfl) (by kernel_rfl) (by kernel_rfl) hS ?_
    generalize World.drew _ = WD at *
    iterate 29 (first | (refine plan_skip rfl ?_ ?_; (focus (rfl)); (try simp only [Act.put, List.setIfInBounds_toArray, List.set_cons_zero, List.set_cons_succ])) | (refine plan_take (v := ?_) rfl ?_ (fun w hSw => ?_) ?_; rotate_left; (focus (rfl)); (focus (unfold IsS1 at hSw; (go_simp <;> with_reducible rfl))); (try simp only [Act.put, List.setIfInBounds_toArray, List.set_cons_zero, List.set_cons_succ])))
    (refine plan_run_skip rfl ?_ hS ?_; (focus (rfl)); (try simp only [Act.put, List.setIfInBounds_toArray, List.set_cons_zero, List.set_cons_succ]))
    iterate 2 (first | (refine plan_skip rfl ?_ ?_; (focus (rfl)); (try simp only [Act.put, List.setIfInBounds_toArray, List.set_cons_zero, List.set_cons_succ])) | (refine plan_take (v := ?_) rfl ?_ (fun w hSw => ?_) ?_; rotate_left; (focus (rfl)); (focus (unfold IsS1 at hSw; (go_simp <;> with_reducible rfl))); (try simp only [Act.put, List.setIfInBounds_toArray, List.set_cons_zero, List.set_cons_succ])))
    refine plan_done ?_
    go_wp2_with fail
    go_ret
    exact ⟨by rw [HE.out]; rfl, HBD.out⟩
end Go.Proofs.YthpmdeofdlcccaaGreatDoor
namespace Go.Proofs.YthpmdeofdlcccaaGreatDoor
open Go.ChangeShapes Go.WideShapes Go.ChangeAt Go.RowKit
set_option linter.unusedVariables false
set_option linter.unusedSimpArgs false
set_option maxRecDepth 100000
/-- the cells of an item -/
structure ItAt (w : World) (b o : Nat) (i : It) : Prop where
  c0 : w.cell? ⟨b, o, none⟩ = some (.int .i8 i.x.k)
  c1 : w.cell? ⟨b, o + 1, none⟩ = some (.int .i64 i.x.n)
  c2 : w.cell? ⟨b, o + 2, none⟩ = some (.string i.x.s)
  c3 : w.cell? ⟨b, o + 3, none⟩ = some (.string i.x.u)
  c4 : w.cell? ⟨b, o + 4, none⟩ = some (.slice i.x.ao i.x.l.length i.x.cap)
  c5 : w.cell? ⟨b, o + 5, none⟩ = some (.bool i.o)
theorem ItAt.keep {w w' : World} {b o : Nat} {i : It} (h : ItAt w b o i) (hb : Below w.heap.size w w') : ItAt w' b o i := ⟨keep_cell h.c0 hb, keep_cell h.c1 hb, keep_cell h.c2 hb, keep_cell h.c3 hb, keep_cell h.c4 hb, keep_cell h.c5 hb⟩
/-- what the closure has caught -/
structure FsW (w : World) (ob tb ub : Nat) (ours : Bool) (tag : ByteArray) (z : TE) : Prop where
  h1 : w.cell? ⟨ob, 0, none⟩ = some (.bool ours)
  h2 : w.cell? ⟨tb, 0, none⟩ = some (.string tag)
  h3 : PtAt w ub 0 z
theorem FsW.keep {w w' : World} {ob tb ub : Nat} {ours : Bool} {tag : ByteArray} {z : TE} (h : FsW w ob tb ub ours tag z) (hb : Below w.heap.size w w') : FsW w' ob tb ub ours tag z := ⟨keep_cell h.h1 hb, keep_cell h.h2 hb, h.h3.keep hb⟩
def fsB (i : It) (ours : Bool) (tag : ByteArray) (z : TE) : Bool := (i.o || !ours) && isIt i.x.t tag z.t
set_option maxHeartbeats 2000000 in
theorem first1_any (M M' : Nat → Prop) (w : World) (i : It) (ob tb ub : Nat) (ours : Bool) (tag : ByteArray) (z : TE) (hi : TeOk M w i.x) (hz : TeOk M' w z) (hw : FsW w ob tb ub ours tag z) :
    Calls Tryz.prog 57 #[.agg i.cells.toArray, .pointer (some ⟨ob, 0, none⟩), .pointer (some ⟨tb, 0, none⟩), .pointer (some ⟨ub, 0, none⟩)] w (IsPost w (fsB i ours tag z)) := by
  have hb1 := (Below.refl w.heap.size w).alloc (Nat.le_refl _) (.cells i.cells.toArray 59)
  have n1 := heap_new w (.cells i.cells.toArray 59)
  have x0 : (w.alloc (.cells i.cells.toArray 59)).cell? ⟨w.heap.size, 0, none⟩ = some (.int .i8 i.x.k) := (cells_at n1 0 _ rfl).1
  have x1 : (w.alloc (.cells i.cells.toArray 59)).cell? ⟨w.heap.size, 1, none⟩ = some (.int .i64 i.x.n) := (cells_at n1 1 _ rfl).1
  have x2 : (w.alloc (.cells i.cells.toArray 59)).cell? ⟨w.heap.size, 2, none⟩ = some (.string i.x.s) := (cells_at n1 2 _ rfl).1
  have x3 : (w.alloc (.cells i.cells.toArray 59)).cell? ⟨w.heap.size, 3, none⟩ = some (.string i.x.u) := (cells_at n1 3 _ rfl).1
  have x4 : (w.alloc (.cells i.cells.toArray 59)).cell? ⟨w.heap.size, 4, none⟩ = some (.slice i.x.ao i.x.l.length i.x.cap) := (cells_at n1 4 _ rfl).1
  have x5 : (w.alloc (.cells i.cells.toArray 59)).cell? ⟨w.heap.size, 5, none⟩ = some (.bool i.o) := (cells_at n1 5 _ rfl).1
  have HC := Lib.hid (mis_any M M' (w.alloc (.cells i.cells.toArray 59)) i tag z (hi.keep hb1) (hz.keep hb1))
  obtain ⟨y1, y2, z0, z1, z2, z3, z4⟩ := hw.keep hb1
  have HB := Lib.hid hb1
  have HE := Lib.hid (show fsB i ours tag z = ((i.o || !ours) && isIt i.x.t tag z.t) from rfl)
  generalize fsB i ours tag z = res at *
  generalize isIt i.x.t tag z.t = r at *
  simp only [Nat.zero_add] at z0 z1 z2 z3 z4
  clear hb1 n1 hi hz hw
  have hic : i.cells.toArray = #[.int .i8 i.x.k, .int .i64 i.x.n, .string i.x.s, .string i.x.u, .slice i.x.ao i.x.l.length i.x.cap, .bool i.o] := rfl
  cases hb : (i.o || !ours)
  · have HF := Lib.hid (show res = false by rw [HE.out, hb]; rfl)
    have ho : i.o = false := by cases h : i.o; rfl; rw [h] at hb; simp at hb
    have ho' : ours = true := by cases h : ours; rw [h] at hb; simp at hb; rfl
    subst ho'
    rw [ho] at x5
    clear HE hb ho hic
    go_enter Tryz.func57, Tryz.ntmps57
    go_wp2_with fail
    go_ret
    exact ⟨by rw [HF.out]; rfl, HB.out⟩
  · have HF := Lib.hid (show res = r by rw [HE.out, hb]; rfl)
    have q : (i.o = true ∨ (i.o = false ∧ ours = false)) := by cases h1 : i.o <;> cases h2 : ours <;> simp_all
    clear HE hb hic
    rcases q with q | ⟨q, q2⟩
    · rw [q] at x5
      have HI := Lib.hid (show (.agg i.cells.toArray : Value) = .agg #[.int .i8 i.x.k, .int .i64 i.x.n, .string i.x.s, .string i.x.u, .slice i.x.ao i.x.l.length i.x.cap, .bool true] by rw [← q]; rfl)
      clear q
      go_enter Tryz.func57, Tryz.ntmps57
      go_wp2_with fail
      rw [HI.out] at HC
      refine HC.out.mono ?_
      rintro e w2 ⟨rfl, hb2⟩
      have HB2 := Lib.hid (HB.out.trans (hb2.mono HB.out.size))
      clear hb2 x0 x1 x2 x3 x4 x5 z0 z1 z2 z3 z4 y1 y2
      go_wp2_with fail
      go_ret
      exact ⟨by rw [HF.out]; rfl, HB2.out⟩
    · rw [q] at x5
      subst q2
      have HI := Lib.hid (show (.agg i.cells.toArray : Value) = .agg #[.int .i8 i.x.k, .int .i64 i.x.n, .string i.x.s, .string i.x.u, .slice i.x.ao i.x.l.length i.x.cap, .bool false] by rw [← q]; rfl)
      clear q
      go_enter Tryz.func57, Tryz.ntmps57
      go_wp2_with fail
      rw [HI.out] at HC
      refine HC.out.mono ?_
      rintro e w2 ⟨rfl, hb2⟩
      have HB2 := Lib.hid (HB.out.trans (hb2.mono HB.out.size))
      clear hb2 x0 x1 x2 x3 x4 x5 z0 z1 z2 z3 z4 y1 y2
      go_wp2_with fail
      go_ret
      exact ⟨by rw [HF.out]; rfl, HB2.out⟩
def FiPost (w : World) (r : Bool) (e : Ending) (w' : World) : Prop := e = .returned (.tuple #[.int .i64 0, .bool r]) ∧ Below w.heap.size w w'
set_option maxHeartbeats 2000000 in
theorem pick_one (M M' : Nat → Prop) (w : World) (b o cap : Nat) (i : It) (ob tb ub : Nat) (ours : Bool) (tag : ByteArray) (z : TE) (ha : ItAt w b o i) (hi : TeOk M w i.x) (hz : TeOk M' w z) (hw : FsW w ob tb ub ours tag z) :
    Calls Tryz.prog 56 #[.slice (some ⟨b, o, none⟩) 1 cap, .func (.func 57) #[] #[.pointer (some ⟨ob, 0, none⟩), .pointer (some ⟨tb, 0, none⟩), .pointer (some ⟨ub, 0, none⟩)]] w (FiPost w (fsB i ours tag z)) := by
  have HA := Lib.hid (And.intro ha (And.intro hi (And.intro hz hw)))
  clear ha hi hz hw
  go_enter Tryz.func56, Tryz.ntmps56
  go_wp2_with fail
  go_loopw [10] (fun iv wr => ∃ k : Nat, k ≤ 1 ∧ iv = .int .i64 k ∧ Hid (Below w.heap.size w wr ∧ (k = 1 → fsB i ours tag z = false)))
    (fun iv _ => 1 - (intOf iv).toNat)
  case atStart => exact ⟨0, by omega, rfl, Lib.hid ⟨Below.refl _ _, fun h => by omega⟩⟩
  case round =>
    obtain ⟨k, hk, rfl, HI⟩ := hrel
    by_cases hlt : k = 0
    · subst hlt
      obtain ⟨c0, c1, c2, c3, c4, c5⟩ := HA.out.1.keep HI.out.1
      have hic : (.cells i.cells.toArray 59 : Obj) = .cells #[.int .i8 i.x.k, .int .i64 i.x.n, .string i.x.s, .string i.x.u, .slice i.x.ao i.x.l.length i.x.cap, .bool i.o] 59 := rfl
      have hb1 := (Below.refl wr.heap.size wr).alloc (Nat.le_refl _) (.cells #[.int .i8 i.x.k, .int .i64 i.x.n, .string i.x.s, .string i.x.u, .slice i.x.ao i.x.l.length i.x.cap, .bool i.o] 59)
      have HC := Lib.hid (first1_any M M' _ i ob tb ub ours tag z ((HA.out.2.1.keep HI.out.1).keep hb1) ((HA.out.2.2.1.keep HI.out.1).keep hb1) ((HA.out.2.2.2.keep HI.out.1).keep hb1))
      have HB := Lib.hid (HI.out.1.trans (hb1.mono HI.out.1.size))
      have hiv : (.agg i.cells.toArray : Value) = .agg #[.int .i8 i.x.k, .int .i64 i.x.n, .string i.x.s, .string i.x.u, .slice i.x.ao i.x.l.length i.x.cap, .bool i.o] := rfl
      rw [hiv] at HC
      clear hic hb1 hiv HI
      generalize hres : fsB i ours tag z = res at *
      clear hres
      go_wp2_with fail
      generalize wr.alloc (.cells #[.int .i8 i.x.k, .int .i64 i.x.n, .string i.x.s, .string i.x.u, .slice i.x.ao i.x.l.length i.x.cap, .bool i.o] 59) = w1 at *
      refine HC.out.mono ?_
      rintro e w2 ⟨rfl, hb2⟩
      have HB2 := Lib.hid (HB.out.trans (hb2.mono HB.out.size))
      clear hb2 c0 c1 c2 c3 c4 c5 HC
      cases res
      · go_wp2_with fail
        go_roundw
        case rel => exact ⟨1, by omega, by go_num, Lib.hid ⟨HB2.out, fun _ => trivial⟩⟩
        case measure => simp [intOf]
      · go_wp2_with fail
        go_ret2
        exact ⟨rfl, HB2.out⟩
    · have h1 : k = 1 := by omega
      subst h1
      have HF := Lib.hid (HI.out.2 rfl)
      go_wp2_with fail
      go_ret2
      exact ⟨by rw [HF.out]; rfl, HI.out.1⟩
set_option maxHeartbeats 2000000 in
theorem first_one (M M' : Nat → Prop) (w : World) (b o cap : Nat) (i : It) (ours : Bool) (tag : ByteArray) (z : TE) (ha : ItAt w b o i) (hi : TeOk M w i.x) (hz : TeOk M' w z) :
    Calls Tryz.prog 28 #[.slice (some ⟨b, o, none⟩) 1 cap, .string tag, .agg z.cells.toArray, .bool ours] w (FiPost w (fsB i ours tag z)) := by
  have hb1 := (Below.refl w.heap.size w).alloc (Nat.le_refl _) (.cells #[.string tag] 9)
  have hb2 := hb1.alloc (by simp) (.cells z.cells.toArray 25)
  have hb3 := hb2.alloc (by simp; omega) (.cells #[.bool ours] 4)
  have n1 := heap_old (heap_old (heap_new w (.cells #[.string tag] 9)) (.cells z.cells.toArray 25)) (.cells #[.bool ours] 4)
  have n2 := heap_old (heap_new (w.alloc (.cells #[.string tag] 9)) (.cells z.cells.toArray 25)) (.cells #[.bool ours] 4)
  have n3 := heap_new ((w.alloc (.cells #[.string tag] 9)).alloc (.cells z.cells.toArray 25)) (.cells #[.bool ours] 4)
  simp only [World.size_alloc] at n2 n3
  have hf : FsW _ (w.heap.size + 1 + 1) w.heap.size (w.heap.size + 1) ours tag z := ⟨(cells_at n3 0 _ rfl).1, (cells_at n1 0 _ rfl).1, (cells_at n2 0 _ rfl).1, (cells_at n2 1 _ rfl).1, (cells_at n2 2 _ rfl).1, (cells_at n2 3 _ rfl).1, (cells_at n2 4 _ rfl).1⟩
  have HC := Lib.hid (pick_one M M' _ b o cap i _ _ _ ours tag z (ha.keep hb3) (hi.keep hb3) (hz.keep hb3) hf)
  have HB := Lib.hid hb3
  clear n1 n2 n3 hb1 hb2 hb3 hf ha hi hz
  go_enter Tryz.func28, Tryz.ntmps28
  go_wp2_with fail
  refine HC.out.mono ?_
  rintro e w2 ⟨rfl, hb2⟩
  have HB2 := Lib.hid (HB.out.trans (hb2.mono HB.out.size))
  clear hb2 HC
  go_wp2_with fail
  go_ret2
  exact ⟨rfl, HB2.out⟩
end Go.Proofs.YthpmdeofdlcccaaGreatDoor
namespace Go.Proofs.YthpmdeofdlcccaaGreatDoor
open Go.ChangeShapes Go.WideShapes Go.ChangeAt Go.RowKit
set_option linter.unusedVariables false
set_option linter.unusedSimpArgs false
set_option maxRecDepth 100000
def ackS : ByteArray := ⟨#[97, 99, 107]⟩
/-- an acknowledgement of that pid? -/
def ackB (t : Tm) (o : Bool) (pid : Int) : Bool := (o || !true) && isIt t ackS (.mk 4 pid ⟨#[]⟩ ⟨#[]⟩ []) && decide (t.l.length = 3)
def zTm : Tm := .mk 0 0 ⟨#[]⟩ ⟨#[]⟩ []
def ackT (t : Tm) (b : Bool) : Tm := if b then (t.l[2]?).getD zTm else zTm
def AkPost (M : Nat → Prop) (w : World) (t : Tm) (b : Bool) (e : Ending) (w' : World) : Prop := Below w.heap.size w w' ∧ ∃ y : TE, e = .returned (.tuple #[.agg y.cells.toArray, .bool b]) ∧ TeOk M w' y ∧ y.t = ackT t b
set_option maxHeartbeats 2000000 in
theorem isack_any (M : Nat → Prop) (w : World) (i : It) (pid : Int) (hi : TeOk M w i.x) (hp : -9223372036854775808 ≤ pid ∧ pid ≤ 9223372036854775807) :
    Calls Tryz.prog 18 #[.agg i.cells.toArray, .int .i64 pid] w (AkPost M w i.x.t (ackB i.x.t i.o pid)) := by
  have hb1 := (Below.refl w.heap.size w).alloc (Nat.le_refl _) (.cells #[.int .i8 i.x.k, .int .i64 i.x.n, .string i.x.s, .string i.x.u, .slice i.x.ao i.x.l.length i.x.cap, .bool i.o] 59)
  have hb2 := hb1.alloc (by simp) (.cells zT 25)
  have hb3 := hb2.alloc (by simp; omega) (.cells #[.int .i8 i.x.k, .int .i64 i.x.n, .string i.x.s, .string i.x.u, .slice i.x.ao i.x.l.length i.x.cap, .bool i.o] 59)
  have n1 := heap_old (heap_old (heap_new w (.cells #[.int .i8 i.x.k, .int .i64 i.x.n, .string i.x.s, .string i.x.u, .slice i.x.ao i.x.l.length i.x.cap, .bool i.o] 59)) (.cells zT 25)) (.cells #[.int .i8 i.x.k, .int .i64 i.x.n, .string i.x.s, .string i.x.u, .slice i.x.ao i.x.l.length i.x.cap, .bool i.o] 59)
  have n2 := heap_old (heap_new (w.alloc (.cells #[.int .i8 i.x.k, .int .i64 i.x.n, .string i.x.s, .string i.x.u, .slice i.x.ao i.x.l.length i.x.cap, .bool i.o] 59)) (.cells zT 25)) (.cells #[.int .i8 i.x.k, .int .i64 i.x.n, .string i.x.s, .string i.x.u, .slice i.x.ao i.x.l.length i.x.cap, .bool i.o] 59)
  have n3 := heap_new ((w.alloc (.cells #[.int .i8 i.x.k, .int .i64 i.x.n, .string i.x.s, .string i.x.u, .slice i.x.ao i.x.l.length i.x.cap, .bool i.o] 59)).alloc (.cells zT 25)) (.cells #[.int .i8 i.x.k, .int .i64 i.x.n, .string i.x.s, .string i.x.u, .slice i.x.ao i.x.l.length i.x.cap, .bool i.o] 59)
  simp only [World.size_alloc] at n2 n3
  have hE : ackB i.x.t i.o pid = (fsB i true ackS (numT 4 pid) && decide (i.x.l.length = 3)) := rfl
  have HC := Lib.hid (first_one M M (((w.alloc (.cells #[.int .i8 i.x.k, .int .i64 i.x.n, .string i.x.s, .string i.x.u, .slice i.x.ao i.x.l.length i.x.cap, .bool i.o] 59)).alloc (.cells zT 25)).alloc (.cells #[.int .i8 i.x.k, .int .i64 i.x.n, .string i.x.s, .string i.x.u, .slice i.x.ao i.x.l.length i.x.cap, .bool i.o] 59)) (w.heap.size + 1 + 1) 0 1 i true ackS (numT 4 pid) ⟨(cells_at n3 0 _ rfl).1, (cells_at n3 1 _ rfl).1, (cells_at n3 2 _ rfl).1, (cells_at n3 3 _ rfl).1, (cells_at n3 4 _ rfl).1, (cells_at n3 5 _ rfl).1⟩ (hi.keep hb3) (numT_ok _ _ _ _ (by omega) hp))
  have HN := Lib.hid (And.intro n1 n2)
  have HB := Lib.hid hb3
  have HI := Lib.hid hi
  clear hb1 hb2 hb3 n1 n2 n3 hi
  generalize ackB i.x.t i.o pid = res at *
  generalize fsB i true ackS (numT 4 pid) = r at *
  show Calls Tryz.prog 18 #[.agg #[.int .i8 i.x.k, .int .i64 i.x.n, .string i.x.s, .string i.x.u, .slice i.x.ao i.x.l.length i.x.cap, .bool i.o], .int .i64 pid] w _
  go_enter Tryz.func18, Tryz.ntmps18
  go_wp2_with fail
  refine HC.out.mono ?_
  rintro e w4 ⟨rfl, hb4⟩
  have m1 := keep_heap HN.out.1 hb4
  have m2 := keep_heap HN.out.2 hb4
  have x4 : w4.cell? ⟨w.heap.size, 4, none⟩ = some (.slice i.x.ao i.x.l.length i.x.cap) := (cells_at m1 4 _ rfl).1
  have z0 : w4.cell? ⟨w.heap.size + 1, 0, none⟩ = some (.int .i8 0) := (cells_at m2 0 _ rfl).1
  have z1 : w4.cell? ⟨w.heap.size + 1, 1, none⟩ = some (.int .i64 0) := (cells_at m2 1 _ rfl).1
  have z2 : w4.cell? ⟨w.heap.size + 1, 2, none⟩ = some (.string ⟨#[]⟩) := (cells_at m2 2 _ rfl).1
  have z3 : w4.cell? ⟨w.heap.size + 1, 3, none⟩ = some (.string ⟨#[]⟩) := (cells_at m2 3 _ rfl).1
  have z4 : w4.cell? ⟨w.heap.size + 1, 4, none⟩ = some (.slice none 0 0) := (cells_at m2 4 _ rfl).1
  have HB2 := Lib.hid (And.intro (HB.out.trans (hb4.mono HB.out.size)) (And.intro m1 m2))
  clear hb4 m1 m2 HC HB HN
  cases r
  · have HF := Lib.hid (show res = false by rw [hE]; rfl)
    clear hE
    go_wp2_with (with_reducible refine stop_op (o := ⟨_, .store 25 (.tmp 4) (.tmp 25), _, _, _, _⟩) ?_)
    refine Lib.hid ?_
    refine wpList_store_row (o := ⟨none, _, _, _, _, _⟩) rfl 25 (.tmp 4) (.tmp 25) rfl (w.heap.size + 1) #[.int .i8 0, .int .i64 0, .string ⟨#[]⟩, .string ⟨#[]⟩, .slice none 0 0] rfl rfl 25 zT (HB2.out.2.2) (infoTM' _ rfl) rfl (by simp [Value.oneCell']) ?_
    have HZ := Lib.hid (And.intro (setRow_heap w4 (w.heap.size + 1) zT #[.int .i8 0, .int .i64 0, .string ⟨#[]⟩, .string ⟨#[]⟩, .slice none 0 0] 25 (0, 0) HB2.out.2.2) (bel_setRow HB2.out.1 HB2.out.1.size (Nat.le_succ _) #[.int .i8 0, .int .i64 0, .string ⟨#[]⟩, .string ⟨#[]⟩, .slice none 0 0]))
    generalize w4.setRow (w.heap.size + 1) #[.int .i8 0, .int .i64 0, .string ⟨#[]⟩, .string ⟨#[]⟩, .slice none 0 0] = w5 at *
    clear HB2
    go_wp2_with fail
    exact ret_row HZ.out.1 rfl Tryz.underlying25 rfl (infoTM' _ rfl) rfl rfl ⟨HZ.out.2, numT 0 0, by rw [HF.out]; rfl, numT_ok _ _ _ _ (by omega) (by omega), by rw [HF.out]; rfl⟩
  · by_cases hl : i.x.l.length = 3
    · have HF := Lib.hid (show res = true by rw [hE, hl]; rfl)
      obtain ⟨b, off, y, e1, e2, hy, hpp, -⟩ := HI.out.part (i := 2) (by omega)
      obtain ⟨c0, c1, c2, c3, c4⟩ := hpp.keep HB2.out.1
      have HY := Lib.hid (And.intro hy (show ackT i.x.t true = y.t by unfold ackT; rw [if_pos rfl, show i.x.t.l = i.x.l from rfl, e2]; rfl))
      rw [hl, e1] at x4
      rw [show off + 2 * 5 = off + 10 by omega] at c0 c1 c2 c3 c4
      clear hE hl hpp hy e2 e1
      go_wp2_with (with_reducible refine stop_op (o := ⟨_, .store 25 (.tmp 4) (.tmp 30), _, _, _, _⟩) ?_)
      refine Lib.hid ?_
      refine wpList_store_row (o := ⟨none, _, _, _, _, _⟩) rfl 25 (.tmp 4) (.tmp 30) rfl (w.heap.size + 1) #[.int .i8 y.k, .int .i64 y.n, .string y.s, .string y.u, .slice y.ao y.l.length y.cap] rfl rfl 25 zT (HB2.out.2.2) (infoTM' _ rfl) rfl (by simp [Value.oneCell']) ?_
      have HZ := Lib.hid (And.intro (setRow_heap w4 (w.heap.size + 1) zT #[.int .i8 y.k, .int .i64 y.n, .string y.s, .string y.u, .slice y.ao y.l.length y.cap] 25 (0, 0) HB2.out.2.2) (bel_setRow HB2.out.1 HB2.out.1.size (Nat.le_succ _) #[.int .i8 y.k, .int .i64 y.n, .string y.s, .string y.u, .slice y.ao y.l.length y.cap]))
      generalize w4.setRow (w.heap.size + 1) #[.int .i8 y.k, .int .i64 y.n, .string y.s, .string y.u, .slice y.ao y.l.length y.cap] = w5 at *
      clear HB2 c0 c1 c2 c3 c4 x4
      go_wp2_with fail
      exact ret_row HZ.out.1 rfl Tryz.underlying25 rfl (infoTM' _ rfl) rfl rfl ⟨HZ.out.2, y, by rw [HF.out]; rfl, HY.out.1.keep HZ.out.2, by rw [HF.out]; exact HY.out.2.symm⟩
    · have q1 : ((i.x.l.length : Int) != 3) = true := by simp; omega
      have HF := Lib.hid (show res = false by rw [hE]; simp [hl])
      clear hE hl
      go_wp2_with (with_reducible refine stop_op (o := ⟨_, .store 25 (.tmp 4) (.tmp 25), _, _, _, _⟩) ?_)
      refine Lib.hid ?_
      refine wpList_store_row (o := ⟨none, _, _, _, _, _⟩) rfl 25 (.tmp 4) (.tmp 25) rfl (w.heap.size + 1) #[.int .i8 0, .int .i64 0, .string ⟨#[]⟩, .string ⟨#[]⟩, .slice none 0 0] rfl rfl 25 zT (HB2.out.2.2) (infoTM' _ rfl) rfl (by simp [Value.oneCell']) ?_
      have HZ := Lib.hid (And.intro (setRow_heap w4 (w.heap.size + 1) zT #[.int .i8 0, .int .i64 0, .string ⟨#[]⟩, .string ⟨#[]⟩, .slice none 0 0] 25 (0, 0) HB2.out.2.2) (bel_setRow HB2.out.1 HB2.out.1.size (Nat.le_succ _) #[.int .i8 0, .int .i64 0, .string ⟨#[]⟩, .string ⟨#[]⟩, .slice none 0 0]))
      generalize w4.setRow (w.heap.size + 1) #[.int .i8 0, .int .i64 0, .string ⟨#[]⟩, .string ⟨#[]⟩, .slice none 0 0] = w5 at *
      clear HB2
      go_wp2_with fail
      exact ret_row HZ.out.1 rfl Tryz.underlying25 rfl (infoTM' _ rfl) rfl rfl ⟨HZ.out.2, numT 0 0, by rw [HF.out]; rfl, numT_ok _ _ _ _ (by omega) (by omega), by rw [HF.out]; rfl⟩
end Go.Proofs.YthpmdeofdlcccaaGreatDoor
