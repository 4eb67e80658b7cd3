/- what term.made wants, in a seat without term.Read. No conditions. -/
import Derived.Test.YthpmdeofdlcccaaGreatDoorXj
import Derived.Test.YthpmdeofdlcccaaGreatDoorJz
import Derived.Test.YthpmdeofdlcccaaGreatDoorKz
namespace Go.Proofs.YthpmdeofdlcccaaGreatDoor
open Go.ChangeShapes Go.WideShapes Go.ChangeAt Go.RowKit
set_option linter.unusedVariables false
set_option maxRecDepth 100000
theorem infoTM' (cs : Array Value) (h : cs.size = 5) : (Tryz.prog.info? 25).map (·.size) = some cs.size := by
  rw [h]
  kernel_rfl
theorem cells_chg {S : Nat → Prop} {w w' : World} {o : Nat} {L : List (Int × Int)} (h : Cells w o L) (hc : Chg S w w') (hs : ¬ S 0) : Cells w' o L := fun j r hj => ⟨hc.cell (h j r hj).1 hs, hc.cell (h j r hj).2 hs⟩
abbrev zT : Array Value := #[.int .i8 0, .int .i64 0, .string ⟨#[]⟩, .string ⟨#[]⟩, .slice none 0 0]
theorem infoTM2 : ∃ i z, Tryz.prog.info? 25 = some i ∧ i.zero = some z ∧ i.size = 5 ∧ i.bytes = 72 ∧ z.cells.size = 5 := by
  have h : (Tryz.prog.info? 25).map (fun i => (i.zero.map (fun z => z.cells.size), i.size, i.bytes)) = some (some 5, 5, 72) := by kernel_rfl
  cases hi : Tryz.prog.info? 25 with
  | none => rw [hi] at h; cases h
  | some i =>
    rw [hi] at h
    simp only [Option.map_some, Option.some.injEq, Prod.mk.injEq] at h
    obtain ⟨h1, h2, h3⟩ := h
    cases hz : i.zero with
    | none => rw [hz] at h1; cases h1
    | some z =>
      rw [hz] at h1
      exact ⟨i, z, rfl, hz, h2, h3, by simpa using h1⟩
theorem At.ats {w : World} : ∀ {f b o : Nat} {t : Tm}, At f w b o t → AtS (fun k => k < w.heap.size) f w b o t := by
  intro f
  induction f with
  | zero => intro b o t h; exact h.elim
  | succ f ih =>
    intro b o t h
    obtain ⟨k, n, s, u, l⟩ := t
    obtain ⟨hf, lv, hnode, hrow⟩ := h.open
    obtain ⟨ao, cap, rfl, hl, hcap, hp⟩ := hrow
    exact ⟨World.block_lt_of_cell? w _ hnode.1, hf, ao, cap, hnode, hl, hcap, fun i t hi => by
      obtain ⟨b', off, e, h⟩ := hp i t hi
      exact ⟨b', off, e, ih h⟩⟩
theorem Row.rows {w : World} {f : Nat} {v : Value} {l : List Tm} (h : Row f w v l) : RowS (fun k => k < w.heap.size) f w v l := by
  obtain ⟨ao, cap, rfl, hl, hcap, hp⟩ := h
  exact ⟨ao, cap, rfl, hl, hcap, fun i t hi => by
    obtain ⟨b', off, e, h⟩ := hp i t hi
    exact ⟨b', off, e, h.ats⟩⟩
theorem TermV.te {f : Nat} {w : World} {v : Value} {t : Tm} (h : TermV f w v t) : ∃ te : TE, v = .agg te.cells.toArray ∧ te.t = t ∧ fields te.k te.n te.s te.u ∧ RowS (fun k => k < w.heap.size) f w te.lv te.l := by
  obtain ⟨hf, lv, rfl, hr⟩ := h
  obtain ⟨ao, cap, rfl, hl, hcap, hp⟩ := hr.rows
  obtain ⟨k, n, s, u, l⟩ := t
  exact ⟨⟨k, n, s, u, ao, cap, l⟩, rfl, rfl, hf, ao, cap, rfl, hl, hcap, hp⟩
theorem row_elem {S : Nat → Prop} {F : Nat} {w : World} {ao : Option Addr} {n cap : Nat} {L : List Tm} {i : Nat} {t : Tm} (h : RowS S F w (.slice ao n cap) L) (hi : L[i]? = some t) :
    ∃ (b off : Nat) (te : TE), ao = some ⟨b, off, none⟩ ∧ te.t = t ∧ fields te.k te.n te.s te.u ∧ RowS S F w te.lv te.l ∧ w.cell? ⟨b, off + i * 5, none⟩ = some (.int .i8 te.k) ∧ w.cell? ⟨b, off + i * 5 + 1, none⟩ = some (.int .i64 te.n) ∧ w.cell? ⟨b, off + i * 5 + 2, none⟩ = some (.string te.s) ∧ w.cell? ⟨b, off + i * 5 + 3, none⟩ = some (.string te.u) ∧ w.cell? ⟨b, off + i * 5 + 4, none⟩ = some te.lv := by
  obtain ⟨ao', cap', e, h1, h2, h3⟩ := h
  injection e with e1 e2 e3
  subst e1 e2 e3
  obtain ⟨b, off, rfl, ha⟩ := h3 i t hi
  cases F with
  | zero => exact ha.elim
  | succ F =>
    obtain ⟨k, m, s, u, l⟩ := t
    obtain ⟨h0, hf, ao, lc, ⟨c0, c1, c2, c3, c4⟩, h4, h5, h6⟩ := ha
    exact ⟨b, off, ⟨k, m, s, u, ao, lc, l⟩, rfl, rfl, hf, ⟨ao, lc, rfl, h4, h5, fun j x hj => by
      obtain ⟨b', o', e, hx⟩ := h6 j x hj
      exact ⟨b', o', e, hx.chg (Chg.refl (fun _ => False) w) (fun _ _ _ h => h) (fun _ h _ => h) (Nat.le_succ F)⟩⟩, c0, c1, c2, c3, c4⟩
mutual
theorem chk_ok : ∀ (t : Tm) (c : Int), okT t → 0 ≤ c → c + nT t ≤ 256 → chk t (c, true) = (c + nT t, true)
  | .mk k n s u l, c, h, h0, h1 => by
    rw [okT] at h
    rw [nT] at h1
    have e : chkL l (c + 1, true) = (c + 1 + nL l, true) := chkL_ok l (c + 1) h.2 (by omega) (by omega)
    rw [chk, h.1]
    simp only [Bool.and_true]
    rw [e, nT]
    simp
    omega
theorem chkL_ok : ∀ (l : List Tm) (c : Int), okL l → 0 ≤ c → c + nL l ≤ 256 → chkL l (c, true) = (c + nL l, true)
  | [], c, _, _, _ => by simp [chkL, nL]
  | t :: l, c, h, h0, h1 => by
    rw [okL] at h
    rw [nL] at h1
    rw [chkL, if_neg (by simp; omega), chk_ok t c h.1 h0 (by omega), chkL_ok l _ h.2 (by omega) (by omega), nL]
    simp
    omega
end
theorem ok_check {t : Tm} (h : okT t) (hn : nT t ≤ 256) : checkN t = 0 := by
  unfold checkN
  rw [chk_ok t 0 h (by omega) (by omega)]
  simp
  omega
theorem ok_size {t : Tm} (hn : nT t ≤ 256) : szT t 0 = nT t := by
  have := szT_eq t 0 (by omega) (by omega)
  omega
theorem okL_of : ∀ {l : List Tm}, (∀ x ∈ l, okT x) → okL l
  | [], _ => by rw [okL]; trivial
  | a :: l, h => by
    rw [okL]
    exact ⟨h a List.mem_cons_self, okL_of fun x hx => h x (List.mem_cons_of_mem _ hx)⟩
theorem ret_row {P : Program} {fn : Func} {R : Ending → World → Prop} {tmps : Array Value} {w : World} {g p q : Nat} {ty t : TypeId} {fr : Nat × Nat} {d : TypeDesc} {cs : Array Value} {u : Value} (hg : w.heap[g]? = some (.cells cs t fr)) (hfn : fn.results = #[.cell p ty, .tmp q])
    (hu : P.underlying ty = some d) (hd : (match d with | .struct _ | .array _ _ => true | _ => false) = true) (hi : (P.info? ty).map (·.size) = some cs.size)
    (hp : tmps.getD p undef = .pointer (some ⟨g, 0, none⟩)) (hq : tmps.getD q undef = u) (hpost : R (.returned (.tuple #[.agg cs, u])) w) : bodyPost P fn R .ret { tmps := tmps, defers := [] } w := by
  refine bodyPost_ret (v := .tuple #[.agg cs, u]) ?_ rfl hpost
  have hl := run_loadVar_row (P := P) w g t ty cs fr d hg hu hd hi
  unfold results
  rw [hfn]
  simp only [Array.getD_eq_getD_getElem?] at hp hq
  simp [asAddr, hp, hq, hl]
theorem TRow.rowS {S S' : Nat → Prop} {F : Nat} {w : World} {base : Nat} {ao : Option Addr} {cap : Nat} {E : List TE} (h : TRow S F w base (.slice ao E.length cap) E) (hS : ∀ k, S k → S' k) (hg : ∀ k, (Value.slice ao E.length cap).ownBlock = some k → S' k) :
    RowS S' (F + 1) w (.slice ao (E.map TE.t).length cap) (E.map TE.t) := by
  obtain ⟨h1, h2⟩ := h
  obtain ⟨hl, ⟨e0, e⟩ | ⟨g, cap', cur, e0, hb, hh, h3, h4, r⟩⟩ := id h1
  · have e1 := List.eq_nil_of_length_eq_zero e
    subst e1
    injection e0 with e1 e2 e3
    subst e1 e3
    exact ⟨none, 0, rfl, by simp, by omega, fun i t hi => by simp at hi⟩
  · injection e0 with e1 e2 e3
    subst e1 e3
    refine ⟨some ⟨g, 0, none⟩, cap, rfl, by simpa using h3, by unfold maxLen at h4; omega, fun i t hi => ?_⟩
    rw [List.getElem?_map] at hi
    obtain ⟨x, hx, rfl⟩ := Option.map_eq_some_iff.1 hi
    obtain ⟨hf, ao, lc, e, l1, l2, l3⟩ := h2 x (List.mem_of_getElem? hx)
    have hi' := (List.getElem?_eq_some_iff.1 hx).1
    have key : ∀ j u, x.cells[j]? = some u → w.cell? ⟨g, 0 + i * 5 + j, none⟩ = some u := fun j u hj => by
      have hj5 : j < 5 := by have := (List.getElem?_eq_some_iff.1 hj).1; simpa [TE.cells] using this
      rw [Nat.zero_add, h1.cellAt (i * 5 + j) (by omega), tcs_at E i j x hx hj5]
      exact hj
    injection e with e1 e2 e3
    refine ⟨g, 0, rfl, hg g rfl, hf, x.ao, x.cap, ⟨key 0 _ rfl, key 1 _ rfl, key 2 _ rfl, key 3 _ rfl, key 4 _ rfl⟩, by rw [e3]; exact l1, by rw [e3]; exact l2, fun j t hj => ?_⟩
    obtain ⟨b', off, e', h⟩ := l3 j t hj
    exact ⟨b', off, by rw [e1]; exact e', h.chg (Chg.refl (fun _ => False) w) (fun _ _ _ h => h) (fun k h _ => hS k h.1) (Nat.le_refl _)⟩
end Go.Proofs.YthpmdeofdlcccaaGreatDoor
