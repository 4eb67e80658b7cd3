/- terms by value whose rows lie outside of some blocks; server.atom, server.is, server.tuple. Conditions: what is handed over reads; the letters stand. -/
import Derived.Test.YtepfmanbllegiaaDoorZi
import Derived.Test.YtepfmanbllegiaaDoorTz
import Derived.Test.YtepfmanbllegiaaDoorTy
namespace Go.Proofs.YtepfmanbllegiaaDoor
open Go.ChangeShapes Go.WideShapes Go.ChangeAt Go.RowKit
set_option linter.unusedVariables false
set_option linter.unusedSimpArgs false
set_option maxRecDepth 100000
abbrev Av (M : Nat → Prop) : Nat → Prop := fun k => ¬ M k
/-- a term by value; its rows lie outside of M -/
def TeOk (M : Nat → Prop) (w : World) (x : TE) : Prop := fields x.k x.n x.s x.u ∧ ∃ F, RowS (Av M) F w x.lv x.l
section
variable {M M' T : Nat → Prop} {w w' : World} {x : TE}
theorem TeOk.chg (h : TeOk M w x) (hc : Chg T w w') (hT : ∀ k, T k → k < w.heap.size → M k) (hM : ∀ k, M' k → k < w.heap.size → M k) : TeOk M' w' x := by
  obtain ⟨h1, F, h2⟩ := h
  exact ⟨h1, F, h2.chg hc (fun k hk hl ht => hk (hT k ht hl)) (fun k hk hl hm => hk (hM k hm hl)) (Nat.le_refl _)⟩
theorem TeOk.keep (h : TeOk M w x) (hb : Below w.heap.size w w') : TeOk M w' x := h.chg (chg_of_below hb (fun _ => False)) (fun _ h => h.elim) (fun _ h _ => h)
theorem TeOk.more (h : TeOk M w x) (hM : ∀ k, M' k → k < w.heap.size → M k) : TeOk M' w x := h.chg (Chg.refl (fun _ => False) w) (fun _ h => h.elim) hM
theorem TeOk.tv (h : TeOk M w x) : ∃ F, TermV F w (.agg x.cells.toArray) x.t := by
  obtain ⟨h1, F, h2⟩ := h
  exact ⟨F, te_row rfl h1 h2⟩
/-- terms one behind the other in memory, outside of M -/
def TesOk (M : Nat → Prop) (w : World) (v : Value) (E : List TE) : Prop :=
  (∃ ao cap, v = .slice ao E.length cap ∧ E.length ≤ cap ∧ cap ≤ 9223372036854775807 ∧ (E = [] ∨ ∃ b off, ao = some ⟨b, off, none⟩ ∧ ¬ M b ∧ ∀ (j : Nat) (u : Value), (tcs E)[j]? = some u → w.cell? ⟨b, off + j, none⟩ = some u)) ∧ ∀ x ∈ E, TeOk M w x
theorem TesOk.chg {v : Value} {E : List TE} (h : TesOk M w v E) (hc : Chg T w w') (hT : ∀ k, T k → k < w.heap.size → M k) (hM : ∀ k, M' k → k < w.heap.size → M k) : TesOk M' w' v E := by
  obtain ⟨⟨ao, cap, rfl, h1, h2, h3⟩, h4⟩ := h
  refine ⟨⟨ao, cap, rfl, h1, h2, ?_⟩, fun x hx => (h4 x hx).chg hc hT hM⟩
  rcases h3 with h3 | ⟨b, off, e, hb, hcl⟩
  · exact .inl h3
  · by_cases h0 : E = []
    · exact .inl h0
    · have hl : 0 < (tcs E).length := by
        rw [tcs_len]
        have := List.length_pos_iff.2 h0
        omega
      have hlt : b < w.heap.size := World.block_lt_of_cell? w _ (hcl 0 _ (List.getElem?_eq_getElem hl))
      exact .inr ⟨b, off, e, fun hm => hb (hM b hm hlt), fun j u hj => hc.cell (hcl j u hj) fun ht => hb (hT b ht hlt)⟩
theorem TesOk.keep {v : Value} {E : List TE} (h : TesOk M w v E) (hb : Below w.heap.size w w') : TesOk M w' v E := h.chg (chg_of_below hb (fun _ => False)) (fun _ h => h.elim) (fun _ h _ => h)
theorem TesOk.more {v : Value} {E : List TE} (h : TesOk M w v E) (hM : ∀ k, M' k → k < w.heap.size → M k) : TesOk M' w v E := h.chg (Chg.refl (fun _ => False) w) (fun _ h => h.elim) hM
theorem TesOk.slice {v : Value} {E : List TE} (h : TesOk M w v E) : ∃ ao cap, v = .slice ao E.length cap ∧ E.length ≤ cap ∧ cap ≤ 9223372036854775807 := by
  obtain ⟨⟨ao, cap, rfl, h1, h2, h3⟩, h4⟩ := h
  exact ⟨ao, cap, rfl, h1, h2⟩
/-- one of them -/
theorem TesOk.at {v : Value} {E : List TE} (h : TesOk M w v E) {i : Nat} {x : TE} (hx : E[i]? = some x) : ∃ b off cap, v = .slice (some ⟨b, off, none⟩) E.length cap ∧ TeOk M w x ∧
    w.cell? ⟨b, off + i * 5, none⟩ = some (.int .i8 x.k) ∧ w.cell? ⟨b, off + i * 5 + 1, none⟩ = some (.int .i64 x.n) ∧ w.cell? ⟨b, off + i * 5 + 2, none⟩ = some (.string x.s) ∧ w.cell? ⟨b, off + i * 5 + 3, none⟩ = some (.string x.u) ∧ w.cell? ⟨b, off + i * 5 + 4, none⟩ = some x.lv := by
  obtain ⟨⟨ao, cap, rfl, h1, h2, h3⟩, h4⟩ := h
  rcases h3 with h3 | ⟨b, off, rfl, hb, hcl⟩
  · rw [h3] at hx
    simp at hx
  · have key : ∀ j u, j < 5 → x.cells[j]? = some u → w.cell? ⟨b, off + i * 5 + j, none⟩ = some u := fun j u hj hu => by
      rw [Nat.add_assoc]
      exact hcl _ _ (by rw [tcs_at E i j x hx hj]; exact hu)
    exact ⟨b, off, cap, rfl, h4 x (List.mem_of_getElem? hx), key 0 _ (by decide) rfl, key 1 _ (by decide) rfl, key 2 _ (by decide) rfl, key 3 _ (by decide) rfl, key 4 _ (by decide) rfl⟩
/-- a term's parts -/
theorem TeOk.row (h : TeOk M w x) : ∃ E : List TE, E.map TE.t = x.l ∧ TesOk M w x.lv E := by
  obtain ⟨h1, F, h2⟩ := h
  obtain ⟨ao, cap, e, l1, l2, l3⟩ := id h2
  rw [e] at h2
  obtain ⟨E, e1, e2, e3⟩ := row_tes h2
  have hl : E.length = x.l.length := by rw [← e1, List.length_map]
  refine ⟨E, e1, ⟨ao, cap, by rw [e, hl], by omega, l2, ?_⟩, fun y hy => ⟨(e2 y hy).1, F, (e2 y hy).2⟩⟩
  by_cases h0 : E = []
  · exact .inl h0
  · right
    have h00 : 0 < x.l.length := by rw [← hl]; exact List.length_pos_iff.2 h0
    obtain ⟨b, off, e4, hat⟩ := l3 0 x.l[0] (List.getElem?_eq_getElem h00)
    refine ⟨b, off, e4, ?_, fun j u hj => ?_⟩
    · cases F with
      | zero => exact hat.elim
      | succ F =>
        cases hx0 : x.l[0] with
        | mk k n s u l => rw [hx0] at hat; exact hat.1
    · have := e3 _ e4 j u hj
      rw [Addr.add_lit] at this
      exact this
theorem max_F {E : List TE} (h : ∀ x ∈ E, TeOk M w x) : ∃ F, ∀ x ∈ E, fields x.k x.n x.s x.u ∧ RowS (Av M) F w x.lv x.l := by
  induction E with
  | nil => exact ⟨0, fun x hx => by cases hx⟩
  | cons y E ih =>
    obtain ⟨F, hF⟩ := ih fun x hx => h x (List.mem_cons_of_mem _ hx)
    obtain ⟨h1, G, h2⟩ := h y List.mem_cons_self
    refine ⟨F + G, fun x hx => ?_⟩
    rcases List.mem_cons.1 hx with rfl | hx
    · exact ⟨h1, h2.chg (Chg.refl (fun _ => False) w) (fun _ _ _ h => h) (fun _ h _ => h) (by omega)⟩
    · exact ⟨(hF x hx).1, (hF x hx).2.chg (Chg.refl (fun _ => False) w) (fun _ _ _ h => h) (fun _ h _ => h) (by omega)⟩
/-- as a row of trees -/
theorem TesOk.rowS {v : Value} {E : List TE} (h : TesOk M w v E) : ∃ F, RowS (fun k => ¬ M k ∧ k < w.heap.size) F w v (E.map TE.t) := by
  obtain ⟨F, hF⟩ := max_F h.2
  obtain ⟨⟨ao, cap, rfl, h1, h2, h3⟩, h4⟩ := h
  refine ⟨F + 1, ao, cap, by rw [List.length_map], by rw [List.length_map]; exact h1, h2, fun i t hi => ?_⟩
  rw [List.getElem?_map] at hi
  obtain ⟨x, hx, rfl⟩ := Option.map_eq_some_iff.1 hi
  rcases h3 with h3 | ⟨b, off, rfl, hb, hcl⟩
  · rw [h3] at hx
    simp at hx
  · have key : ∀ j u, j < 5 → x.cells[j]? = some u → w.cell? ⟨b, off + i * 5 + j, none⟩ = some u := fun j u hj hu => by
      rw [Nat.add_assoc]
      exact hcl _ _ (by rw [tcs_at E i j x hx hj]; exact hu)
    obtain ⟨g1, ao', cap', e, g2, g3, g4⟩ := hF x (List.mem_of_getElem? hx)
    have k4 := key 4 _ (by decide) rfl
    have e' : x.lv = .slice x.ao x.l.length x.cap := rfl
    rw [e'] at e
    injection e with e1 e2 e3
    subst e1 e3
    refine ⟨b, off, rfl, ⟨hb, World.block_lt_of_cell? w _ k4⟩, g1, x.ao, x.cap, ⟨key 0 _ (by decide) rfl, key 1 _ (by decide) rfl, key 2 _ (by decide) rfl, key 3 _ (by decide) rfl, k4⟩, g2, g3, fun j t hj => ?_⟩
    obtain ⟨b', off', e4, hat⟩ := g4 j t hj
    exact ⟨b', off', e4, AtS.chg (Chg.refl (fun _ => False) w) (fun _ _ _ h => h) (fun k hk hl => ⟨hk, hl⟩) (Nat.le_refl _) hat⟩
theorem TesOk.nil (M : Nat → Prop) (w : World) : TesOk M w (.slice none 0 0) [] := ⟨⟨none, 0, rfl, Nat.le_refl _, by omega, .inl rfl⟩, fun x hx => by cases hx⟩
theorem TesOk.of_row {l : List Tm} {F : Nat} {v : Value} (h : RowS (Av M) F w v l) : ∃ E, E.map TE.t = l ∧ TesOk M w v E := by
  obtain ⟨ao, cap, e, h2, h3, h4⟩ := id h
  subst e
  have : TeOk M w ⟨0, 0, ⟨#[]⟩, ⟨#[]⟩, ao, cap, l⟩ := ⟨⟨⟨by show (-128 : Int) ≤ 0; decide, by show (0 : Int) ≤ 127; decide⟩, ⟨by show (-9223372036854775808 : Int) ≤ 0; decide, by show (0 : Int) ≤ 9223372036854775807; decide⟩, by show (ByteArray.mk #[]).size ≤ _; decide, by show (ByteArray.mk #[]).size ≤ _; decide⟩, F, h⟩
  exact this.row
end
/-- an atom -/
def atomT (s : ByteArray) : TE := ⟨1, 0, s, ⟨#[]⟩, none, 0, []⟩
theorem atomT_ok (M : Nat → Prop) (w : World) (s : ByteArray) (hs : s.size ≤ 9223372036854775807) : TeOk M w (atomT s) :=
  ⟨⟨⟨by show (-128 : Int) ≤ 1; decide, by show (1 : Int) ≤ 127; decide⟩, ⟨by show (-9223372036854775808 : Int) ≤ 0; decide, by show (0 : Int) ≤ 9223372036854775807; decide⟩, hs, by show (ByteArray.mk #[]).size ≤ _; decide⟩, 0, none, 0, rfl, Nat.le_refl _, by omega, fun i t hi => by simp [atomT] at hi⟩
/-- a term of no parts: a pid, a reference, a number -/
def numT (k n : Int) : TE := ⟨k, n, ⟨#[]⟩, ⟨#[]⟩, none, 0, []⟩
theorem numT_ok (M : Nat → Prop) (w : World) (k n : Int) (hk : -128 ≤ k ∧ k ≤ 127) (hn : -9223372036854775808 ≤ n ∧ n ≤ 9223372036854775807) : TeOk M w (numT k n) :=
  ⟨⟨hk, hn, by show (ByteArray.mk #[]).size ≤ _; decide, by show (ByteArray.mk #[]).size ≤ _; decide⟩, 0, none, 0, rfl, Nat.le_refl _, by omega, fun i t hi => by simp [numT] at hi⟩
theorem ret_cell {P : Program} {fn : Func} {R : Ending → World → Prop} {tmps : Array Value} {w : World} {g p : Nat} {ty t : TypeId} {fr : Nat × Nat} {d : TypeDesc} {cs : Array Value} (hg : w.heap[g]? = some (.cells cs t fr)) (hfn : fn.results = #[.cell p ty])
    (hu : P.underlying ty = some d) (hd : (match d with | .struct _ | .array _ _ => true | _ => false) = true) (hi : (P.info? ty).map (·.size) = some cs.size)
    (hp : tmps.getD p undef = .pointer (some ⟨g, 0, none⟩)) (hpost : R (.returned (.agg cs)) w) : bodyPost P fn R .ret { tmps := tmps, defers := [] } w := by
  refine bodyPost_ret (v := .agg cs) ?_ rfl hpost
  have hl := run_loadVar_row (P := P) w g t ty cs fr d hg hu hd hi
  unfold results
  rw [hfn]
  simp only [Array.getD_eq_getD_getElem?] at hp
  simp [asAddr, hp, hl]
def TePost (M : Nat → Prop) (w : World) (t : Tm) (e : Ending) (w' : World) : Prop := ∃ x : TE, e = .returned (.agg x.cells.toArray) ∧ x.t = t ∧ TeOk M w' x ∧ Below w.heap.size w w'
/-- a tuple of so many parts, the first one that atom? -/
def isB (t : Tm) (tag : ByteArray) (n : Nat) : Bool := decide (t.k = 5) && (decide (t.l.length = n) && match t.l with
  | a :: _ => decide (a.k = 1) && decide (a.s = tag)
  | [] => false)
/-- the cells of a part -/
structure PtAt (w : World) (b o : Nat) (x : TE) : Prop where
  c0 : w.cell? ⟨b, o, none⟩ = some (.int .i8 x.k)
  c1 : w.cell? ⟨b, o + 1, none⟩ = some (.int .i64 x.n)
  c2 : w.cell? ⟨b, o + 2, none⟩ = some (.string x.s)
  c3 : w.cell? ⟨b, o + 3, none⟩ = some (.string x.u)
  c4 : w.cell? ⟨b, o + 4, none⟩ = some (.slice x.ao x.l.length x.cap)
theorem PtAt.keep {w w' : World} {b o : Nat} {x : TE} (h : PtAt w b o x) (hb : Below w.heap.size w w') : PtAt w' b o x := ⟨keep_cell h.c0 hb, keep_cell h.c1 hb, keep_cell h.c2 hb, keep_cell h.c3 hb, keep_cell h.c4 hb⟩
/-- a term's part -/
theorem TeOk.part {M : Nat → Prop} {w : World} {x : TE} (h : TeOk M w x) {i : Nat} (hi : i < x.l.length) : ∃ b off, ∃ y : TE, x.ao = some ⟨b, off, none⟩ ∧ x.l[i]? = some y.t ∧ TeOk M w y ∧ PtAt w b (off + i * 5) y ∧ ¬ M b := by
  obtain ⟨E, e1, h2⟩ := h.row
  have hl : E.length = x.l.length := by rw [← e1, List.length_map]
  obtain ⟨y, hy⟩ : ∃ y, E[i]? = some y := ⟨E[i]'(by omega), List.getElem?_eq_getElem _⟩
  obtain ⟨b, off, cap, e, h3, c0, c1, c2, c3, c4⟩ := h2.at hy
  have e' : x.lv = .slice x.ao x.l.length x.cap := rfl
  rw [e'] at e
  injection e with e2 e3 e4
  refine ⟨b, off, y, e2, by rw [← e1, List.getElem?_map, hy]; rfl, h3, ⟨c0, c1, c2, c3, c4⟩, ?_⟩
  obtain ⟨⟨ao, cap', e5, -, -, h5⟩, -⟩ := h2
  rw [e'] at e5
  injection e5 with e6 e7 e8
  rcases h5 with h5 | ⟨b', off', e9, hb, -⟩
  · rw [h5] at hy
    simp at hy
  · rw [← e6, e2] at e9
    injection e9 with e9
    injection e9 with e9 e10
    rw [e9]
    exact hb
/-- the atom system_limit -/
def limS : ByteArray := ⟨#[115, 121, 115, 116, 101, 109, 95, 108, 105, 109, 105, 116]⟩
/-- a tuple, or the atom -/
def tupA (L : List Tm) : Tm := if mdN L 1 = 0 then .mk 5 0 ⟨#[]⟩ ⟨#[]⟩ L else .mk 1 0 limS ⟨#[]⟩ []
/-- what term.Tuple tells of terms outside of M -/
theorem tup_any (M : Nat → Prop) (w : World) (hM : ∀ k, M k → k < w.heap.size) (hc : Cells w 0 letL) (v : Value) (E : List TE) (h : TesOk M w v E) (h1 : ∀ c, v ≠ .slice none 0 c ∨ c = 0) (hl : E.length ≤ 4000) :
    Calls Tryd.prog 46 #[v] w fun e w' => Below w.heap.size w w' ∧ ((mdN (E.map TE.t) 1 = 0 ∧ ∃ x : TE, e = .returned (.tuple #[.agg x.cells.toArray, .int .i64 0]) ∧ x.t = .mk 5 0 ⟨#[]⟩ ⟨#[]⟩ (E.map TE.t) ∧ TeOk M w' x) ∨ (mdN (E.map TE.t) 1 ≠ 0 ∧ e = .returned (.tuple #[.agg zT, .int .i64 (mdN (E.map TE.t) 1)]))) := by
  obtain ⟨F, hF⟩ := h.rowS
  obtain ⟨ao, cap, rfl, -⟩ := h.slice
  have hlen : (E.map TE.t).length = E.length := List.length_map ..
  have hno : ao = none → cap = 0 := fun e => ?_
  · have hT := tuple_any (fun k => ¬ M k ∧ k < w.heap.size) F (E.map TE.t) ao cap w (fun k hk => hk.2) hc (by rw [hlen]; exact hF) hno (by rw [hlen]; exact hl)
    rw [hlen] at hT
    refine hT.mono ?_
    rintro e w' ⟨hb, ⟨h2, ao', cap', rfl, hr⟩ | ⟨h2, rfl⟩⟩
    · refine ⟨hb, .inl ⟨h2, ⟨5, 0, ⟨#[]⟩, ⟨#[]⟩, ao', cap', E.map TE.t⟩, rfl, rfl, ⟨⟨by show (-128 : Int) ≤ 5; decide, by show (5 : Int) ≤ 127; decide⟩, ⟨by show (-9223372036854775808 : Int) ≤ 0; decide, by show (0 : Int) ≤ 9223372036854775807; decide⟩, by show (ByteArray.mk #[]).size ≤ _; decide, by show (ByteArray.mk #[]).size ≤ _; decide⟩, F + 1, ?_⟩⟩
      exact hr.chg (Chg.refl (fun _ => False) _) (fun _ _ _ h => h) (fun k hk _ hm => by
        rcases hk with hk | hk
        · exact hk.1 hm
        · have := hM k hm
          omega) (Nat.le_refl _)
    · exact ⟨hb, .inr ⟨h2, rfl⟩⟩
  · subst e
    rcases h1 cap with h1 | h1
    · obtain ⟨⟨ao', cap', e, -, -, h3⟩, -⟩ := h
      injection e with e1 e2 e3
      rcases h3 with h3 | ⟨b, off, e4, -⟩
      · rw [h3] at h1
        exact absurd rfl h1
      · rw [← e1] at e4
        cases e4
    · exact h1
end Go.Proofs.YtepfmanbllegiaaDoor
