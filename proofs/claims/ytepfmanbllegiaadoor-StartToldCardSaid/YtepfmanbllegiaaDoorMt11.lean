/- stop.New, walked (after Pa, Pb, Pc: my own texts of the round before), up to 100 records. Conditions: the records read. -/
import Derived.Test.YtepfmanbllegiaaDoorK
import Derived.Lib.SliceRun
import Derived.Test.YtepfmanbllegiaaDoorMt10
namespace Go.Proofs.YtepfmanbllegiaaDoor.Stp
set_option maxRecDepth 100000
open Go.ChangeShapes Go.WideShapes Go.ChangeAt Go.RowKit
open Go.Maps (Keyed)
set_option linter.unusedVariables false
/-- a record: what its cells hold; its pid -/
structure Rc where
  (k n : Int)
  (s t : ByteArray)
  l : Option Addr
  (ln lc : Nat)
  (kd rs sh : Int)
  (m f : ByteArray)
  g : Option Addr
  (gn gc : Nat)
  u : Option Addr
  (un uc : Nat)
  p : Int
def Rc.cells (r : Rc) : List Value := [.int .i8 r.k, .int .i64 r.n, .string r.s, .string r.t, .slice r.l r.ln r.lc, .int .i8 r.kd, .int .i8 r.rs, .int .i64 r.sh, .string r.m, .string r.f, .slice r.g r.gn r.gc, .slice r.u r.un r.uc, .int .i64 r.p]
theorem Rc.one (r : Rc) : ∀ u ∈ r.cells, u.oneCell' = true := by
  intro u hu
  simp only [Rc.cells, List.mem_cons, List.not_mem_nil, or_false] at hu
  rcases hu with rfl | rfl | rfl | rfl | rfl | rfl | rfl | rfl | rfl | rfl | rfl | rfl | rfl <;> rfl
def Rc.ok (r : Rc) : Prop := -9223372036854775808 ≤ r.p ∧ r.p ≤ 9223372036854775807
def RcAt (w : World) (b o : Nat) (r : Rc) : Prop := ∀ j u, r.cells[j]? = some u → w.cell? ⟨b, o + j, none⟩ = some u
def RRow (w : World) (ao : Option Addr) (R : List Rc) : Prop := ∀ i r, R[i]? = some r → ∃ b off, ao = some ⟨b, off, none⟩ ∧ b < w.heap.size ∧ RcAt w b (off + i * 13) r
theorem RRow.keep {w w' : World} {ao : Option Addr} {R : List Rc} (h : RRow w ao R) (hb : Below w.heap.size w w') : RRow w' ao R := by
  intro i t hi
  obtain ⟨b, off, e, hl, h1⟩ := h i t hi
  exact ⟨b, off, e, Nat.lt_of_lt_of_le hl hb.size, fun j u hj => keep_cell (h1 j u hj) hb⟩
theorem RcAt.pid {w : World} {b o : Nat} {r : Rc} (h : RcAt w b o r) : w.cell? ⟨b, o + 12, none⟩ = some (.int .i64 r.p) := h 12 _ rfl
theorem RcAt.all {w : World} {b o : Nat} {r : Rc} (h : RcAt w b o r) :
    w.cell? ⟨b, o, none⟩ = some (.int .i8 r.k) ∧ w.cell? ⟨b, o + 1, none⟩ = some (.int .i64 r.n) ∧ w.cell? ⟨b, o + 2, none⟩ = some (.string r.s) ∧ w.cell? ⟨b, o + 3, none⟩ = some (.string r.t) ∧ w.cell? ⟨b, o + 4, none⟩ = some (.slice r.l r.ln r.lc) ∧ w.cell? ⟨b, o + 5, none⟩ = some (.int .i8 r.kd) ∧
    w.cell? ⟨b, o + 6, none⟩ = some (.int .i8 r.rs) ∧ w.cell? ⟨b, o + 7, none⟩ = some (.int .i64 r.sh) ∧ w.cell? ⟨b, o + 8, none⟩ = some (.string r.m) ∧ w.cell? ⟨b, o + 9, none⟩ = some (.string r.f) ∧ w.cell? ⟨b, o + 10, none⟩ = some (.slice r.g r.gn r.gc) ∧ w.cell? ⟨b, o + 11, none⟩ = some (.slice r.u r.un r.uc) ∧
    w.cell? ⟨b, o + 12, none⟩ = some (.int .i64 r.p) :=
  ⟨h 0 _ rfl, h 1 _ rfl, h 2 _ rfl, h 3 _ rfl, h 4 _ rfl, h 5 _ rfl, h 6 _ rfl, h 7 _ rfl, h 8 _ rfl, h 9 _ rfl, h 10 _ rfl, h 11 _ rfl, h 12 _ rfl⟩
def rcs (R : List Rc) : List Value := R.flatMap Rc.cells
theorem rcs_len : ∀ R : List Rc, (rcs R).length = R.length * 13
  | [] => rfl
  | x :: R => by rw [rcs, List.flatMap_cons, List.length_append, List.length_cons]; have := rcs_len R; rw [rcs] at this; rw [this]; simp [Rc.cells]; omega
theorem rcs_at : ∀ (R : List Rc) (i j : Nat) (r : Rc), R[i]? = some r → j < 13 → (rcs R)[i * 13 + j]? = r.cells[j]?
  | [], _, _, _, h, _ => by simp at h
  | x :: R, 0, j, r, h, hj => by
    simp at h
    subst h
    rw [rcs, List.flatMap_cons, List.getElem?_append_left (by simpa [Rc.cells] using hj)]
    simp
  | x :: R, i + 1, j, r, h, hj => by
    rw [rcs, List.flatMap_cons, List.getElem?_append_right (by simp [Rc.cells]; omega)]
    have := rcs_at R i j r (by simpa using h) hj
    rw [rcs] at this
    rw [← this]
    congr 1
    simp [Rc.cells]
    omega
theorem rcs_split {R : List Rc} {k : Nat} {u : Value} (h : (rcs R)[k]? = some u) : ∃ r, R[k / 13]? = some r ∧ r.cells[k % 13]? = some u := by
  have hk := (List.getElem?_eq_some_iff.1 h).1
  rw [rcs_len] at hk
  have hi : k / 13 < R.length := by omega
  refine ⟨R[k / 13], by simp [hi], ?_⟩
  rw [← rcs_at R (k / 13) (k % 13) R[k / 13] (by simp [hi]) (by omega), ← h]
  congr 1
  omega
/-- the cells of a row of the call's own, whatever its things' size -/
theorem own_cells {w : World} {base e size n : Nat} {v : Value} {xs : List Value} (h : w.ownsRow base e size v n xs) (hn : 0 < n) :
    ∃ g cap, v = .slice (some ⟨g, 0, none⟩) n cap ∧ base ≤ g ∧ g < w.heap.size ∧ n ≤ cap ∧ cap ≤ 9223372036854775807 ∧ ∀ j u, xs[j]? = some u → w.cell? ⟨g, j, none⟩ = some u := by
  obtain ⟨hl, h2⟩ := h
  rcases h2 with ⟨_, h0⟩ | ⟨g, cap, cur, hv, hg, hh, h3, h4, h5, h6⟩
  · omega
  · refine ⟨g, cap, hv, hg, heap_lt hh, h3, by unfold maxLen at h4; omega, fun j u hj => ?_⟩
    rw [← h6] at hj
    have hj' : cur[j]? = some u := by
      rw [List.getElem?_take] at hj
      split at hj
      · simpa using hj
      · cases hj
    simp [World.cell?, hh, hj']
theorem row_of {w : World} {base : Nat} {v : Value} {R : List Rc} (h : w.ownsRow base 46 13 v R.length (rcs R)) : ∃ ao cap, v = .slice ao R.length cap ∧ RRow w ao R := by
  rcases Nat.eq_zero_or_pos R.length with h0 | h0
  · obtain ⟨ao, c, rfl⟩ := own_slice h
    refine ⟨ao, c, rfl, fun i t hi => ?_⟩
    have := (List.getElem?_eq_some_iff.1 hi).1
    omega
  · obtain ⟨g, cap, rfl, hg, hgs, _, _, hc⟩ := own_cells h h0
    refine ⟨_, _, rfl, fun i r hi => ⟨g, 0, rfl, hgs, fun j u hj => ?_⟩⟩
    have hj13 : j < 13 := by have := (List.getElem?_eq_some_iff.1 hj).1; simpa [Rc.cells] using this
    rw [Nat.zero_add]
    exact hc _ _ ((rcs_at R i j r hi hj13).trans hj)
/-- pids that must not be -/
def badAt (ps : List Int) (j : Nat) : Prop := ∃ p, ps[j]? = some p ∧ (p < 0 ∨ (0 < p ∧ p ∈ ps.take j))
def okPs (ps : List Int) : Prop := ∀ j, ¬ badAt ps j
theorem okPs_pos {ps : List Int} (h : okPs ps) {p : Int} (hp : p ∈ ps) : 0 ≤ p := by
  obtain ⟨j, hj⟩ := List.getElem?_of_mem hp
  apply Int.not_lt.1
  intro h0
  exact h j ⟨p, hj, .inl h0⟩
/-- the map of pids that were seen -/
def ikey (p : Int) : Lit := .int .i64 p
theorem ikey_ne {p q : Int} (h : p ≠ q) : ikey p ≠ ikey q := by
  intro e
  injection e with _ e
  exact h e
def seenD : List Int → DataW Unit → DataW Unit
  | [], D => D
  | p :: l, D => seenD l (D.put (ikey p) (.lit (.bool (decide (0 < p)))))
theorem seenD_snoc (l : List Int) (p : Int) : ∀ D : DataW Unit, seenD (l ++ [p]) D = (seenD l D).put (ikey p) (.lit (.bool (decide (0 < p)))) := by
  induction l with
  | nil => intro D; rfl
  | cons a l ih => intro D; exact ih _
theorem seenD_isMap (l : List Int) : ∀ D : DataW Unit, Maps.IsMap D → Maps.IsMap (seenD l D) := by
  induction l with
  | nil => intro D h; exact h
  | cons a l ih => intro D h; exact ih _ (h.put _ _)
theorem snoc_ind {α : Type} {p : List α → Prop} (h0 : p []) (h1 : ∀ l a, p l → p (l ++ [a])) (l : List α) : p l := by
  have : ∀ m : List α, p m.reverse := by
    intro m
    induction m with
    | nil => exact h0
    | cons a m ih => rw [List.reverse_cons]; exact h1 _ _ ih
  simpa using this l.reverse
def seens (l : List Int) : DataW Unit := seenD l (.map [])
theorem seens_at (l : List Int) (p : Int) : (seens l).atKey (ikey p) (.lit (.bool false)) = .lit (.bool (decide (0 < p ∧ p ∈ l))) := by
  induction l using snoc_ind with
  | h0 => simp; rfl
  | h1 l a ih =>
    unfold seens at ih ⊢
    rw [seenD_snoc]
    by_cases h : p = a
    · subst h
      rw [Maps.atKey_put_same (seenD_isMap l _ Maps.isMap_empty) (show WideAt.IsKeyLit (ikey p) from trivial)]
      simp
    · rw [Maps.atKey_put_other (ikey_ne h), ih]
      simp [h]
theorem kI : Keyed Tryd.prog 3 := Go.Maps.int_keyed Tryd.underlying3
theorem zB (w : World) : (zeroValue 4).run Tryd.prog w = .ok (.bool false) w := by kernel_rfl
theorem infoRC : (Tryd.prog.info? 46).map (fun i => (i.size)) = some 13 := by kernel_rfl
set_option linter.unusedVariables false
theorem infoRC2 : ∃ i z, Tryd.prog.info? 46 = some i ∧ i.zero = some z ∧ i.size = 13 ∧ i.bytes = 176 ∧ z.cells.size = 13 := by
  have h : (Tryd.prog.info? 46).map (fun i => (i.zero.map (fun z => z.cells.size), i.size, i.bytes)) = some (some 13, 13, 176) := by kernel_rfl
  cases hi : Tryd.prog.info? 46 with
  | none => rw [hi] at h; cases h
  | some i =>
    rw [hi] at h
    simp only [Option.map_some, Option.some.injEq, Prod.mk.injEq] at h
    obtain ⟨h1, h2, h3⟩ := h
    cases hz : i.zero with
    | none => rw [hz] at h1; cases h1
    | some z =>
      rw [hz] at h1
      exact ⟨i, z, rfl, hz, h2, h3, by simpa using h1⟩
def CloneP (w : World) (R : List Rc) (e : Ending) (w' : World) : Prop :=
  ∃ v, e = .returned v ∧ Below w.heap.size w w' ∧ w'.ownsRow w.heap.size 46 13 v R.length (rcs R)
set_option maxHeartbeats 1000000 in
theorem clone_any (w : World) (ao : Option Addr) (cap : Nat) (R : List Rc) (hR : R.length ≤ 100) (hr : RRow w ao R) (hn : ao = none → R = []) : Calls Tryd.prog 51 #[.slice ao R.length cap] w (CloneP w R) := by
  obtain ⟨i0, z, hi, hz0, hz1, hz2, hz3⟩ := infoRC2
  have hq := Lib.run_eql_slice_nil (P := Tryd.prog) w 28 46 ao R.length cap 0 0 Tryd.underlying28
  cases ao with
  | none =>
    obtain rfl := hn rfl
    simp only [Option.isNone_none, List.length_nil] at hq
    go_enter Tryd.func51, Tryd.ntmps51
    go_wp2_with fail
    go_ret
    exact ⟨_, rfl, Below.refl _ _, World.ownsRow_nil _ _ _ _⟩
  | some ad =>
    simp only [Option.isNone_some] at hq
    have hnews : ∀ j u, (rcs R)[j]? = some u → (w.alloc (.cells #[] 46)).cell? (ad.add j) = some u := by
      intro j u hj
      obtain ⟨r, h1, h2⟩ := rcs_split hj
      obtain ⟨b, off, e, hb, hc⟩ := hr _ r h1
      have h3 := hc _ _ h2
      injection e with e
      subst e
      rw [Addr.add_lit]
      have e2 : off + j / 13 * 13 + j % 13 = off + j := by omega
      rw [e2] at h3
      exact keep_cell h3 ((Below.refl _ _).alloc (Nat.le_refl _) _)
    have hone : ∀ u ∈ rcs R, u.oneCell' = true := by
      intro u hu
      obtain ⟨j, hj⟩ := List.getElem?_of_mem hu
      obtain ⟨r, h1, h2⟩ := rcs_split hj
      exact r.one u (List.mem_of_getElem? h2)
    have HN := Lib.hid hnews
    have HO := Lib.hid hone
    have HR := Lib.hid hr
    clear hnews hone hr
    go_enter Tryd.func51, Tryd.ntmps51
    go_wp2_with (at_builtin; refine stop_here ?_)
    refine Lib.hid ?_
    refine wpList_append_own2 rfl (.tmp 5) (.tmp 6) 28 rfl w.heap.size 46 i0 z 13 176 Tryd.underlying28 hi hz0 hz1 hz2 hz3 (by decide) _ 0 [] rfl (World.ownsRow_lit w #[] 0 (Nat.le_refl _) (by unfold maxLen; omega) rfl) ad R.length cap (rcs R) rfl (rcs_len R) HN.out HO.out (by unfold maxLen; omega) (by omega) (by simp) ?_
    intro v' W hown hg _
    obtain ⟨ao', cc, rfl⟩ := own_slice hown
    rw [List.nil_append, Nat.zero_add] at hown
    have hca : Chg (fun k => w.heap.size ≤ k) w W := (chg_alloc _ w (.cells #[] 46)).trans ((chg_grown hg).mono (fun k _ hk => by injection hk with hk; have e : k = w.heap.size := hk; omega))
    have HB := Lib.hid (hca.below (Nat.le_refl _) (fun k h => h))
    have HW := Lib.hid hown
    clear hown hg hca
    go_wp2_with fail
    go_ret
    exact ⟨_, rfl, HB.out, by simpa using HW.out⟩
set_option linter.unusedVariables false
abbrev nS : Value := .slice none 0 0
abbrev zI : Value := .int .i64 0
abbrev z8 : Value := .int .i8 0
abbrev zS : Value := .string ⟨#[]⟩
/-- a frame's cells; a frame -/
def frC (kd ph n : Int) (v : Value) : Array Value :=
  #[.int .i8 kd, zI, zI, nS, nS, nS, nS, zI, .int .i8 ph, zI, zI, zI, .int .i64 n, z8, zI, zS, zS, nS, z8, zI, zS, zS, nS, z8, zI, zS, zS, nS, v, z8, zI, zI, nS, nS, nS]
def frV (kd ph n : Int) (v : Value) : Value := .agg (frC kd ph n v)
theorem infoFR (kd ph n : Int) (v : Value) : (Tryd.prog.info? 36).map (·.size) = some (frC kd ph n v).size := by
  have : (Tryd.prog.info? 36).map (·.size) = some 35 := by kernel_rfl
  exact this
theorem ret_fr {fn : Func} {R : Ending → World → Prop} {tmps : Array Value} {w : World} {g p q : Nat} {kd ph n : Int} {v u : Value} (hg : w.heap[g]? = some (.cells (frC kd ph n v) 36 (0, 0))) (hfn : fn.results = #[.cell p 36, .tmp q])
    (hp : tmps.getD p undef = .pointer (some ⟨g, 0, none⟩)) (hq : tmps.getD q undef = u) (hpost : R (.returned (.tuple #[frV kd ph n v, u])) w) : bodyPost Tryd.prog fn R .ret { tmps := tmps, defers := [] } w := by
  refine bodyPost_ret (v := .tuple #[frV kd ph n v, u]) ?_ rfl hpost
  have hl := run_loadVar_row (P := Tryd.prog) w g 36 36 (frC kd ph n v) (0, 0) _ hg Tryd.underlying36 rfl (infoFR kd ph n v)
  unfold results
  rw [hfn]
  simp only [Array.getD_eq_getD_getElem?] at hp hq
  simp [asAddr, hp, hq, hl]
  rfl
theorem frC_one (kd ph n : Int) {v : Value} (hv : v.oneCell' = true) : ((frC kd ph n v).all fun x => x.oneCell') = true := by
  unfold frC
  rw [List.all_toArray]
  cases v <;> simp_all [Value.oneCell']
def pidsL (R : List Rc) : List Int := R.map Rc.p
def NewI (w : World) (R : List Rc) (k : Nat) (W : World) : Prop :=
  Below w.heap.size w W ∧ W.heap[w.heap.size]? = some (.cells (frC 0 0 0 nS) 36 (0, 0)) ∧ W.ownsMap Tryd.prog 3 (plainElem Tryd.prog 4) (w.heap.size + 1) k (seens ((pidsL R).take k)) ∧ ∀ j, j < k → ¬ badAt (pidsL R) j
def NewP (w : World) (R : List Rc) (e : Ending) (w' : World) : Prop :=
  Below w.heap.size w w' ∧ ((okPs (pidsL R) ∧ R.length ≤ 24 ∧ ∃ v, e = .returned (.tuple #[frV 3 0 0 v, .int .i64 0]) ∧ w'.ownsRow w.heap.size 46 13 v R.length (rcs R)) ∨
    (¬ (okPs (pidsL R) ∧ R.length ≤ 24) ∧ e = .returned (.tuple #[frV 0 0 0 nS, .int .i64 2])))
theorem plainElem_bool_inv {H : Type} {P : Program} {e : TypeId} (he : P.underlying e = some .bool) {v : Value} {z : DataW H × List MemPlace} (h : plainElem P e v = some z) : ∃ x, v = .bool x ∧ z = (.lit (.bool x), []) := by
  unfold plainElem at h
  rw [he] at h
  cases v <;> simp at h
  exact ⟨_, rfl, h.symm⟩
theorem look_seen {w : World} {b n : Nat} {l : List Int} (h : w.ownsMap Tryd.prog 3 (plainElem Tryd.prog 4) b n (seens l)) (p : Int) (h1 : -9223372036854775808 ≤ p) (h2 : p ≤ 9223372036854775807) :
    (Instr.lookup 105 (.map (some b)) (.int .i64 p) false).run Tryd.prog w = .ok (.bool (decide (0 < p ∧ p ∈ l))) w := by
  obtain ⟨v, ps, hr, hv⟩ := h.lookup kI Tryd.underlying105 (zB w) (plainElem_bool Tryd.underlying4 false) (Go.Maps.keyOf_int_mk Tryd.underlying3 (WalkArith.wf_i64 ⟨h1, h2⟩))
  have := seens_at l p
  unfold ikey at this
  rw [this] at hv
  obtain ⟨x, rfl, hx⟩ := plainElem_bool_inv Tryd.underlying4 hv
  injection hx with hx _
  injection hx with hx
  injection hx with hx
  rw [hx]
  exact hr
set_option maxRecDepth 100000 in
set_option maxHeartbeats 4000000 in
theorem new_any (w : World) (ao : Option Addr) (cap : Nat) (R : List Rc) (hR : R.length ≤ 100) (hok : ∀ r ∈ R, r.ok) (hr : RRow w ao R) (hn : ao = none → R = []) : Calls Tryd.prog 38 #[.slice ao R.length cap] w (NewP w R) := by
  have hmm := @run_makeMap Tryd.prog
  have HR := Lib.hid hr
  have HK := Lib.hid hok
  clear hr hok
  go_enter Tryd.func38, Tryd.ntmps38
  go_wp2_with fail
  have hI0 : NewI w R 0 ((w.alloc (.cells (frC 0 0 0 nS) 36)).alloc (.map #[] 0)) := by
    have h1 := World.ownsMap_made (w.alloc (.cells (frC 0 0 0 nS) 36)) Tryd.prog 3 (plainElem (H := Unit) Tryd.prog 4)
    rw [World.size_alloc] at h1
    exact ⟨((Below.refl _ w).alloc (Nat.le_refl _) _).alloc (by simp) _, heap_old (heap_new w _) _, by rw [List.take_zero]; exact h1, fun j hj => by omega⟩
  unfold frC at hI0
  generalize ((w.alloc _).alloc (.map #[] 0)) = W0 at *
  clear hmm
  go_loopw [10] (fun kv wr => ∃ k : Nat, k ≤ R.length ∧ kv = .int .i64 k ∧ NewI w R k wr) (fun kv _ => R.length - (intOf kv).toNat)
  case atStart => exact ⟨0, by omega, rfl, hI0⟩
  case round =>
    clear hI0
    obtain ⟨k, hk, rfl, hI⟩ := hrel
    by_cases hlt : k < R.length
    · obtain ⟨r, hrk⟩ : ∃ r, R[k]? = some r := ⟨R[k], by simp [hlt]⟩
      obtain ⟨b, off, rfl, hbs, hat⟩ := HR.out.keep hI.1 k r hrk
      obtain ⟨hp1, hp2⟩ := HK.out r (List.mem_of_getElem? hrk)
      obtain ⟨c0, c1, c2, c3, c4, c5, c6, c7, c8, c9, c10, c11, c12⟩ := hat.all
      have hpk : (pidsL R)[k]? = some r.p := by simp [pidsL, hrk]
      obtain ⟨k0, n, s, t, l, ln, lc, kd, rs, sh, m, f, g, gn, gc, u, un, uc, p⟩ := r
      dsimp only at c0 c1 c2 c3 c4 c5 c6 c7 c8 c9 c10 c11 c12 hp1 hp2 hpk
      have hmap := hI.2.2.1.alloc (.cells #[.int .i8 k0, .int .i64 n, .string s, .string t, .slice l ln lc, .int .i8 kd, .int .i8 rs, .int .i64 sh, .string m, .string f, .slice g gn gc, .slice u un uc, .int .i64 p] 46)
      have hlook := look_seen hmap p hp1 hp2
      have HI := Lib.hid hI
      have HPK := Lib.hid hpk
      have hsz := hI.1.size
      have hf := keep_heap hI.2.1 ((Below.refl _ wr).alloc (Nat.le_refl _) (.cells #[.int .i8 k0, .int .i64 n, .string s, .string t, .slice l ln lc, .int .i8 kd, .int .i8 rs, .int .i64 sh, .string m, .string f, .slice g gn gc, .slice u un uc, .int .i64 p] 46))
      have hlt2 := heap_lt hI.2.1
      clear hI hpk hat hrk
      by_cases hneg : p < 0
      · have d0 : decide (p < 0) = true := by simpa using hneg
        have HNEG := Lib.hid hneg
        clear hlook hmap
        have HF := Lib.hid hf
        clear hf
        go_wp2_with (with_reducible refine stop_op (o := ⟨none, .store 36 (.tmp 2) (.tmp 23), _, _, _, _⟩) ?_)
        refine Lib.hid ?_
        refine wpList_store_row (o := ⟨none, _, _, _, _, _⟩) rfl 36 (.tmp 2) (.tmp 23) rfl w.heap.size (frC 0 0 0 nS) rfl rfl 36 (frC 0 0 0 nS) HF.out (infoFR _ _ _ _) rfl (frC_one _ _ _ rfl) ?_
        rw [setRow_self _ _ _ _ _ HF.out]
        go_wp2_with fail
        refine ret_fr HF.out rfl rfl rfl ⟨HI.out.1.alloc hsz _, .inr ⟨fun h => h.1 k ⟨p, HPK.out, ?_⟩, rfl⟩⟩
        first | exact .inl HNEG.out | exact .inr HNEG.out
      · have d0 : decide (p < 0) = false := by simpa using hneg
        by_cases hs : 0 < p ∧ p ∈ (pidsL R).take k
        · rw [decide_eq_true hs] at hlook
          have HNEG := Lib.hid hs
          have HF := Lib.hid hf
          clear hmap hs hf
          go_wp2_with (with_reducible refine stop_op (o := ⟨none, .store 36 (.tmp 2) (.tmp 23), _, _, _, _⟩) ?_)
          refine Lib.hid ?_
          refine wpList_store_row (o := ⟨none, _, _, _, _, _⟩) rfl 36 (.tmp 2) (.tmp 23) rfl w.heap.size (frC 0 0 0 nS) rfl rfl 36 (frC 0 0 0 nS) HF.out (infoFR _ _ _ _) rfl (frC_one _ _ _ rfl) ?_
          rw [setRow_self _ _ _ _ _ HF.out]
          go_wp2_with fail
          refine ret_fr HF.out rfl rfl rfl ⟨HI.out.1.alloc hsz _, .inr ⟨fun h => h.1 k ⟨p, HPK.out, ?_⟩, rfl⟩⟩
          first | exact .inl HNEG.out | exact .inr HNEG.out
        · rw [decide_eq_false hs] at hlook
          have HS := Lib.hid hs
          have HM := Lib.hid hmap
          clear hs hmap hf
          go_wp2_with (at_mapUpdate; refine stop_here ?_)
          refine Lib.hid ?_
          refine wpList_mapUpdate_own _ rfl (.tmp 24) (.tmp 26) (.tmp 29) 105 rfl 3 4 kI Tryd.underlying105 _ (w.heap.size + 1) k _ rfl HM.out (by unfold maxLen; omega) (.int .i64 p) (.bool (decide (0 < p))) (ikey p) rfl rfl (Go.Maps.keyOf_int_mk Tryd.underlying3 (WalkArith.wf_i64 ⟨hp1, hp2⟩)) (.lit (.bool (decide (0 < p)))) [] (plainElem_bool Tryd.underlying4 _) ?_
          intro W hown hg
          have HN : Hid (NewI w R (k + 1) W) := Lib.hid (by
            have hc := chg_grown hg
            obtain ⟨i1, i2, i3, i4⟩ := HI.out
            have hb := i1.alloc i1.size (.cells #[.int .i8 k0, .int .i64 n, .string s, .string t, .slice l ln lc, .int .i8 kd, .int .i8 rs, .int .i64 sh, .string m, .string f, .slice g gn gc, .slice u un uc, .int .i64 p] 46)
            refine ⟨hb.trans (hc.below hb.size (fun q h => by injection h with h; omega)), hc.heap (keep_heap i2 ((Below.refl _ wr).alloc (Nat.le_refl _) _)) (fun h => by injection h with h; omega), ?_, ?_⟩
            · have e1 : (pidsL R).take (k + 1) = (pidsL R).take k ++ [p] := by rw [List.take_add_one, HPK.out]; rfl
              rw [e1]
              unfold seens at hown ⊢
              rw [seenD_snoc]
              exact hown
            · intro j hj
              rcases Nat.lt_or_ge j k with h | h
              · exact i4 j h
              · obtain rfl : j = k := by omega
                rintro ⟨q, hq, hb⟩
                rw [HPK.out] at hq
                obtain rfl := Option.some.inj hq
                rcases hb with hb | hb
                · omega
                · exact HS.out hb)
          clear hown hg HM
          go_wp2_with fail
          go_roundw
          case rel => exact ⟨k + 1, by omega, by go_num, HN.out⟩
          case measure => simp [intOf]; omega
    · have hkR : k = R.length := by omega
      subst hkR
      have HI := Lib.hid hI
      have hsz := hI.1.size
      have HF := Lib.hid hI.2.1
      have HOK : Hid (okPs (pidsL R)) := Lib.hid (fun j hb => by
        have hj : j < R.length := by
          obtain ⟨p, h, _⟩ := hb
          have := (List.getElem?_eq_some_iff.1 h).1
          simpa [pidsL] using this
        exact HI.out.2.2.2 j hj hb)
      clear hI
      by_cases h24 : 24 < R.length
      · go_wp2_with (with_reducible refine stop_op (o := ⟨none, .store 36 (.tmp 2) (.tmp 34), _, _, _, _⟩) ?_)
        refine Lib.hid ?_
        refine wpList_store_row (o := ⟨none, _, _, _, _, _⟩) rfl 36 (.tmp 2) (.tmp 34) rfl w.heap.size (frC 0 0 0 nS) rfl rfl 36 (frC 0 0 0 nS) HF.out (infoFR _ _ _ _) rfl (frC_one _ _ _ rfl) ?_
        rw [setRow_self _ _ _ _ _ HF.out]
        go_wp2_with fail
        exact ret_fr HF.out rfl rfl rfl ⟨HI.out.1, .inr ⟨fun h => by omega, rfl⟩⟩
      · have HC := Lib.hid (clone_any wr ao cap R hR (HR.out.keep HI.out.1) hn)
        go_wp2_with fail
        refine HC.out.mono ?_
        rintro e w2 ⟨v, rfl, hb2, hown⟩
        obtain ⟨vo, vc, rfl⟩ := own_slice hown
        have HF2 := Lib.hid (keep_heap HF.out hb2)
        have HB2 := Lib.hid (HI.out.1.trans (hb2.mono hsz))
        have HW := Lib.hid hown
        clear hb2 hown
        go_wp2_with (with_reducible refine stop_op (o := ⟨none, .store 36 (.tmp 2) (.tmp 38), _, _, _, _⟩) ?_)
        refine Lib.hid ?_
        refine wpList_store_row (o := ⟨none, _, _, _, _, _⟩) rfl 36 (.tmp 2) (.tmp 38) rfl w.heap.size (frC 3 0 0 (.slice vo R.length vc)) rfl rfl 36 (frC 0 0 0 nS) HF2.out (infoFR _ _ _ _) rfl (frC_one _ _ _ rfl) ?_
        have HF3 := Lib.hid (setRow_heap _ _ _ (frC 3 0 0 (.slice vo R.length vc)) _ _ HF2.out)
        have HP : Hid (NewP w R (.returned (.tuple #[frV 3 0 0 (.slice vo R.length vc), .int .i64 0])) (w2.setRow w.heap.size (frC 3 0 0 (.slice vo R.length vc)))) := Lib.hid
          ⟨bel_setRow HB2.out HB2.out.size (Nat.le_refl _) _, .inl ⟨HOK.out, by omega, _, rfl, own_lower (own_chg HW.out (chg_setRow _ _ _) (fun k hk e => by
            have := own_base HW.out k hk
            have := HI.out.1.size
            have h2 := heap_lt HF.out
            omega)) hsz⟩⟩
        generalize (w2.setRow w.heap.size (frC 3 0 0 (.slice vo R.length vc))) = W3 at *
        go_wp2_with fail
        exact ret_fr HF3.out rfl rfl rfl HP.out
end Go.Proofs.YtepfmanbllegiaaDoor.Stp
namespace Go.Proofs.YtepfmanbllegiaaDoor
open Go.ChangeShapes Go.WideShapes Go.ChangeAt Go.RowKit
set_option linter.unusedVariables false
def Rc.stp (r : Rc) : Stp.Rc := ⟨r.c.id.k, r.c.id.n, r.c.id.s, r.c.id.u, r.c.id.ao, r.c.id.l.length, r.c.id.cap, r.c.ki, r.c.re, r.c.sh, r.c.m, r.c.f, r.c.ao, r.c.an, r.c.ac, r.c.so, r.c.sn, r.c.sc, r.pid⟩
theorem Rc.stp_cells (r : Rc) : r.stp.cells = r.cells := rfl
def frN (kd : Int) (s : Sl) : Mm := { mmZ with rs := s }
/-- some frame -/
def NwfP (w : World) (e : Ending) (w' : World) : Prop := Below w.heap.size w w' ∧ ∃ (a : Fa) (m : Mm) (n : Int), e = .returned (.tuple #[.agg (flL a m).toArray, .int .i64 n])
theorem stopnew_any {M : Nat → Prop} (w : World) (ao : Option Addr) (cap : Nat) (RL : List Rc) (h : RcAt M w ⟨ao, RL.length, cap⟩ RL) (hn : ao = none → RL = []) (hl : RL.length ≤ 100) (hp : ∀ r ∈ RL, -9223372036854775808 ≤ r.pid ∧ r.pid ≤ 9223372036854775807) :
    Calls Tryd.prog 38 #[.slice ao RL.length cap] w (NwfP w) := by
  have hlen : (RL.map Rc.stp).length = RL.length := List.length_map ..
  have hr : Stp.RRow w ao (RL.map Rc.stp) := fun i r hi => by
    rw [List.getElem?_map] at hi
    obtain ⟨x, hx, rfl⟩ := Option.map_eq_some_iff.1 hi
    obtain ⟨b, off, e, -, hc⟩ := h.at hx
    exact ⟨b, off, e, World.block_lt_of_cell? w _ (hc 0 _ rfl), fun j u hj => hc j u (by rw [← Rc.stp_cells]; exact hj)⟩
  have := Stp.new_any w ao cap (RL.map Rc.stp) (by rw [hlen]; exact hl) (fun r hr => by
    obtain ⟨x, hx, rfl⟩ := List.mem_map.1 hr
    exact hp x hx) hr (fun e => by rw [hn e]; rfl)
  rw [hlen] at this
  refine this.mono ?_
  rintro e w' ⟨hb, ⟨-, -, v, rfl, hown⟩ | ⟨-, rfl⟩⟩
  · obtain ⟨o, c, rfl⟩ := own_slice hown
    exact ⟨hb, { faZ with k := 3 }, { mmZ with rs := ⟨o, (RL.map Rc.stp).length, c⟩ }, 0, rfl⟩
  · exact ⟨hb, faZ, mmZ, 2, rfl⟩
end Go.Proofs.YtepfmanbllegiaaDoor
