/- heap: Put, walked. Conditions: the table of letters reads as laid; the term reads and may be; there is room. -/
import Derived.Test.YtfbmjcblnemkgaaDoorGn
import Derived.Test.YtfbmjcblnemkgaaDoorGd
namespace Go.Proofs.YtfbmjcblnemkgaaDoor
open Go.ChangeShapes Go.WideShapes Go.ChangeAt Go.RowKit
set_option linter.unusedVariables false
set_option maxRecDepth 100000
theorem keep_let {w w' : World} (h : Cells w 0 letL) (hb : Below w.heap.size w w') : Cells w' 0 letL := fun j r hj => ⟨keep_cell (h j r hj).1 hb, keep_cell (h j r hj).2 hb⟩
/-- what no Make turns: all but a heap's own -/
theorem heapS_not {W : World} {base p : Nat} {v : Value} {C : List HC} {k : Nat} {cs : Array Value} {t : TypeId} (h : Hp W base p v C) (hk : W.heap[k]? = some (.cells cs t (0, 0))) (h1 : t ≠ 61) (h2 : t ≠ 46) : ¬ heapS p v k := by
  rintro (rfl | hj)
  · rw [h.1] at hk
    injection hk with hk
    injection hk with _ hk
    exact h1 hk.symm
  · obtain ⟨cur, hcur⟩ := own_type h.2.2.1.1 k hj
    rw [hcur] at hk
    injection hk with hk
    injection hk with _ hk
    exact h2 hk.symm
/-- heaps, one behind the other: what is left of others -/
structure Up (w0 : World) (p : Nat) (v : Value) (C : List HC) (W : World) (v' : Value) (C' : List HC) (W' : World) : Prop where
  hc : Chg (heapS p v) W W'
  hv : v'.ownBlock = v.ownBlock ∨ ∃ g, v'.ownBlock = some g ∧ W.heap.size ≤ g
  ext : ∃ D, C' = C ++ D
  rows : ∀ c ∈ C', c ∈ C ∨ ∀ j, (Value.slice c.lo c.l.length c.lc).ownBlock = some j → W.heap.size ≤ j
theorem Up.refl {w0 : World} {p : Nat} {v : Value} {C : List HC} {W : World} : Up w0 p v C W v C W := ⟨Chg.refl _ _, .inl rfl, ⟨[], by simp⟩, fun c h => .inl h⟩
theorem Up.below {w0 : World} {p : Nat} {v : Value} {C : List HC} {W W' : World} (h : Below W.heap.size W W') : Up w0 p v C W v C W' := ⟨chg_of_below h _, .inl rfl, ⟨[], by simp⟩, fun c h => .inl h⟩
theorem Up.trans {w0 : World} {p : Nat} {v v1 v2 : Value} {C C1 C2 : List HC} {W W1 W2 : World} (h : Up w0 p v C W v1 C1 W1) (g : Up w0 p v1 C1 W1 v2 C2 W2) : Up w0 p v C W v2 C2 W2 := by
  have hs := h.hc.size
  refine ⟨⟨g.hc.os.trans h.hc.os, g.hc.tape.trans h.hc.tape, g.hc.output.trans h.hc.output, by have := g.hc.size; omega, fun k hlt hS => ?_⟩, ?_, ?_, fun c hc => ?_⟩
  · refine (g.hc.block k (by omega) (fun e => ?_)).trans (h.hc.block k hlt hS)
    rcases e with rfl | e
    · exact hS (.inl rfl)
    · rcases h.hv with hv | ⟨g', hg', hl⟩
      · exact hS (.inr (hv ▸ e))
      · rw [hg'] at e
        injection e with e
        omega
  · rcases g.hv with hv | ⟨g', hg', hl⟩
    · rcases h.hv with hv' | ⟨g', hg', hl⟩
      · exact .inl (hv.trans hv')
      · exact .inr ⟨g', hv.trans hg', hl⟩
    · exact .inr ⟨g', hg', by omega⟩
  · obtain ⟨D, rfl⟩ := h.ext
    obtain ⟨E, rfl⟩ := g.ext
    exact ⟨D ++ E, by simp⟩
  · rcases g.rows c hc with hc | hc
    · exact h.rows c hc
    · exact .inr fun j hj => by have := hc j hj; omega
theorem made_words (n : Nat) (hn : n ≤ 1048576) : ∃ cs : Array Value, ∀ w : World, (Instr.makeSlice 26 (.int .i64 0) (.int .i64 n)).run Tryd.prog w = .ok (.slice (some ⟨w.heap.size, 0, none⟩) 0 n) (w.alloc (.cells cs 33)) ∧
    ∀ base, base ≤ w.heap.size → (w.alloc (.cells cs 33)).ownsRow base 33 7 (.slice (some ⟨w.heap.size, 0, none⟩) 0 n) 0 [] := by
  obtain ⟨i0, z0, hi, hz0, hz1, hz2, hz3⟩ := infoWD2
  refine ⟨madeCells z0.cells (n * 7), fun w => ?_⟩
  have hr := run_makeSlice (P := Tryd.prog) (w := w) 26 33 i0 z0 Tryd.underlying26 hi hz0 .i64 .i64 0 n (by omega) (by omega) (by rw [hz1]; omega) (by rw [hz2]; omega) (by omega)
  rw [hz1] at hr
  exact ⟨hr, fun base hb => World.ownsRow_made w _ n hb (by unfold maxLen; omega) (size_madeCells _ _)⟩
abbrev cellX (n : Nat) : Wd := ⟨true, n, 0, 0, ⟨#[]⟩, ⟨#[]⟩, none, 0, []⟩
/-- what the closure reads -/
structure PkC (w0 : World) (p hb tb : Nat) (v : Value) (C : List HC) (W : World) : Prop where
  hp : Hp W p p v C
  hh : W.heap[hb]? = some (.cells #[.pointer (some ⟨p, 0, none⟩)] 24 (0, 0))
  ht : W.heap[tb]? = some (.cells #[.func (.func 26) #[] #[.pointer (some ⟨tb, 0, none⟩), .pointer (some ⟨hb, 0, none⟩)]] 35 (0, 0))
  hb0 : Below w0.heap.size w0 W
  lp : w0.heap.size ≤ p
theorem PkC.keep {w0 : World} {p hb tb : Nat} {v : Value} {C : List HC} {W W' : World} (h : PkC w0 p hb tb v C W) (hk : Below W.heap.size W W') : PkC w0 p hb tb v C W' :=
  ⟨h.hp.keep hk, keep_heap h.hh hk, keep_heap h.ht hk, h.hb0.trans (hk.mono h.hb0.size), h.lp⟩
theorem heapS_base {W : World} {p : Nat} {v : Value} {C : List HC} {k : Nat} (h : Hp W p p v C) (hk : heapS p v k) : p ≤ k := by
  rcases hk with rfl | hk
  · exact Nat.le_refl _
  · exact own_base h.2.2.1.1 k hk
theorem PkC.up {w0 : World} {p hb tb : Nat} {v v' : Value} {C C' : List HC} {W W' : World} (h : PkC w0 p hb tb v C W) (hu : Up w0 p v C W v' C' W') (hp : Hp W' p p v' C') : PkC w0 p hb tb v' C' W' :=
  ⟨hp, hu.hc.heap h.hh (heapS_not h.hp h.hh (by decide) (by decide)), hu.hc.heap h.ht (heapS_not h.hp h.ht (by decide) (by decide)), h.hb0.trans (hu.hc.below h.hb0.size (fun k hk => Nat.le_trans h.lp (heapS_base h.hp hk))), h.lp⟩
/-- what is put -/
structure Pt (w0 : World) (f p : Nat) (v : Value) (C : List HC) (t : Tm) (W : World) (x : Wd) (v' : Value) (C' : List HC) (W' : World) : Prop where
  hp : Hp W' p p v' C'
  up : Up w0 p v C W v' C' W'
  len : C'.length ≤ C.length + nT t
  wok : WOk f w0 x
  may : mayW C'.length x = true
  tk : tkN C' C'.length x = t
  nod : nodesW C' x = nT t
  oks : ∀ c ∈ C', c ∈ C ∨ ∀ y ∈ c.l, WOk f w0 y
  made : Made C → Made C'
def PutP (w0 : World) (f p : Nat) (v : Value) (C : List HC) (t : Tm) (W : World) (e : Ending) (W' : World) : Prop :=
  ∃ (x : Wd) (v' : Value) (C' : List HC), e = .returned (.tuple #[.agg x.cells.toArray, .int .i64 0]) ∧ Pt w0 f p v C t W x v' C' W'
/-- what stands in a round -/
structure PkI (w0 : World) (f p hb tb : Nat) (v : Value) (C : List HC) (k n : Int) (s u : ByteArray) (ao : Option Addr) (cap : Nat) (l : List Tm) (W : World) (j : Nat) (lv v1 : Value) (C1 : List HC) (L : List Wd) (wr : World) : Prop where
  up : Up w0 p v C W v1 C1 wr
  pk : PkC w0 p hb tb v1 C1 wr
  hX : wr.heap[W.heap.size]? = some (.cells #[.int .i8 k, .int .i64 n, .string s, .string u, .slice ao l.length cap] 31 (0, 0))
  hY : wr.heap[W.heap.size + 1]? = some (.cells wzC 33 (0, 0))
  own : wr.ownsRow (W.heap.size + 2) 33 7 lv j (wcs L)
  hl : L.length = j
  len : C1.length ≤ C.length + nL (l.take j)
  oks : ∀ c ∈ C1, c ∈ C ∨ ∀ y ∈ c.l, WOk f w0 y
  made : Made C → Made C1
  ws : ∀ (i : Nat) (x : Wd), L[i]? = some x → WOk f w0 x ∧ mayW C1.length x = true ∧ ∃ t, l[i]? = some t ∧ tkN C1 C1.length x = t ∧ nodesW C1 x = nT t
  ap : ∀ c ∈ C1, ∀ g, (Value.slice c.lo c.l.length c.lc).ownBlock = some g → lv.ownBlock ≠ some g
  ro : ∀ c ∈ C1, ∀ g, (Value.slice c.lo c.l.length c.lc).ownBlock = some g → g ≠ W.heap.size + 1
theorem PkI.keep {w0 : World} {f p hb tb : Nat} {v : Value} {C : List HC} {k n : Int} {s u : ByteArray} {ao : Option Addr} {cap : Nat} {l : List Tm} {W : World} {j : Nat} {lv v1 : Value} {C1 : List HC} {L : List Wd} {wr wr' : World}
    (h : PkI w0 f p hb tb v C k n s u ao cap l W j lv v1 C1 L wr) (hk : Below wr.heap.size wr wr') : PkI w0 f p hb tb v C k n s u ao cap l W j lv v1 C1 L wr' :=
  ⟨h.up.trans (Up.below hk), h.pk.keep hk, keep_heap h.hX hk, keep_heap h.hY hk, own_keep h.own hk, h.hl, h.len, h.oks, h.made, h.ws, h.ap, h.ro⟩
/-- another part is put -/
theorem PkI.put {w0 : World} {f p hb tb : Nat} {v : Value} {C : List HC} {k n : Int} {s u : ByteArray} {ao : Option Addr} {cap : Nat} {l : List Tm} {W : World} {j : Nat} {lv v1 v2 : Value} {C1 C2 : List HC} {L : List Wd} {wr W3 : World} {t : Tm} {x : Wd}
    (h : PkI w0 f p hb tb v C k n s u ao cap l W j lv v1 C1 L wr) (hj : l[j]? = some t) (hp : Pt w0 f p v1 C1 t wr x v2 C2 W3) :
    Up w0 p v C W v2 C2 W3 ∧ PkC w0 p hb tb v2 C2 W3 ∧ W3.heap[W.heap.size]? = some (.cells #[.int .i8 k, .int .i64 n, .string s, .string u, .slice ao l.length cap] 31 (0, 0)) ∧ W3.heap[W.heap.size + 1]? = some (.cells wzC 33 (0, 0)) ∧
      W3.ownsRow (W.heap.size + 2) 33 7 lv j (wcs L) ∧ C2.length ≤ C.length + nL (l.take (j + 1)) ∧ (∀ c ∈ C2, c ∈ C ∨ ∀ y ∈ c.l, WOk f w0 y) ∧ (Made C → Made C2) ∧
      (∀ (i : Nat) (y : Wd), (L ++ [x])[i]? = some y → WOk f w0 y ∧ mayW C2.length y = true ∧ ∃ t, l[i]? = some t ∧ tkN C2 C2.length y = t ∧ nodesW C2 y = nT t) ∧ (∀ c ∈ C2, ∀ g, (Value.slice c.lo c.l.length c.lc).ownBlock = some g → lv.ownBlock ≠ some g) ∧ (∀ c ∈ C2, ∀ g, (Value.slice c.lo c.l.length c.lc).ownBlock = some g → g ≠ W.heap.size + 1) := by
  have hob := own_type h.own
  have hnot : ∀ k cs t', wr.heap[k]? = some (.cells cs t' (0, 0)) → t' ≠ 61 → t' ≠ 46 → ¬ heapS p v1 k := fun k cs t' hk h1 h2 => heapS_not h.pk.hp hk h1 h2
  refine ⟨h.up.trans hp.up, h.pk.up hp.up hp.hp, hp.up.hc.heap h.hX (hnot _ _ _ h.hX (by decide) (by decide)), hp.up.hc.heap h.hY (hnot _ _ _ h.hY (by decide) (by decide)), own_chg h.own hp.up.hc (fun g hg => ?_), ?_, fun c hc => ?_, fun hm => hp.made (h.made hm), fun i y hi => ?_, fun c hc g hg e => ?_, fun c hc g hg e => ?_⟩
  · obtain ⟨cur, hcur⟩ := hob g hg
    exact hnot g cur 33 hcur (by decide) (by decide)
  · have := hp.len
    have := h.len
    rw [nL_take hj]
    omega
  · rcases hp.oks c hc with hc | hc
    · exact h.oks c hc
    · exact .inr hc
  · obtain ⟨D, hD⟩ := hp.up.ext
    by_cases hlt : i < L.length
    · rw [List.getElem?_append_left hlt] at hi
      obtain ⟨h1, h2, t', h3, h4, h5⟩ := h.ws i y hi
      refine ⟨h1, may_more h2 (by rw [hD]; simp), t', h3, ?_, ?_⟩
      · rw [← h4, hD, ← tk_grow h.pk.hp.2.2.2 C1.length y _ (may_low h2) (Nat.le_refl _) (by simp)]
      · rw [← h5, hD, nodes_more h2]
    · have hi2 : i = L.length := by
        have := (List.getElem?_eq_some_iff.1 hi).1
        simp at this
        omega
      subst hi2
      simp at hi
      subst hi
      refine ⟨hp.wok, hp.may, t, ?_, hp.tk, hp.nod⟩
      rw [h.hl]
      exact hj
  · rcases hp.up.rows c hc with hc | hc
    · exact h.ap c hc g hg e
    · have h1 := hc g hg
      have h2 := own_lt h.own (Nat.le_refl _) g e
      omega
  · rcases hp.up.rows c hc with hc | hc
    · exact h.ro c hc g hg e
    · have h1 := hc g hg
      have h2 := heap_lt h.hY
      omega
/-- its word stands behind the others -/
theorem PkI.push {w0 : World} {f p hb tb : Nat} {v : Value} {C : List HC} {k n : Int} {s u : ByteArray} {ao : Option Addr} {cap : Nat} {l : List Tm} {W : World} {j : Nat} {lv lv' v2 : Value} {C2 : List HC} {L : List Wd} {W4 W5 : World} {x : Wd}
    (h1 : Up w0 p v C W v2 C2 W4) (h2 : PkC w0 p hb tb v2 C2 W4) (h3 : W4.heap[W.heap.size]? = some (.cells #[.int .i8 k, .int .i64 n, .string s, .string u, .slice ao l.length cap] 31 (0, 0))) (h4 : W4.heap[W.heap.size + 1]? = some (.cells wzC 33 (0, 0)))
    (h5 : W4.ownsRow (W.heap.size + 2) 33 7 lv j (wcs L)) (hL : L.length = j) (h6 : C2.length ≤ C.length + nL (l.take (j + 1))) (h7 : ∀ c ∈ C2, c ∈ C ∨ ∀ y ∈ c.l, WOk f w0 y) (h8 : Made C → Made C2)
    (h9 : ∀ (i : Nat) (y : Wd), (L ++ [x])[i]? = some y → WOk f w0 y ∧ mayW C2.length y = true ∧ ∃ t, l[i]? = some t ∧ tkN C2 C2.length y = t ∧ nodesW C2 y = nT t) (h10 : ∀ c ∈ C2, ∀ g, (Value.slice c.lo c.l.length c.lc).ownBlock = some g → lv.ownBlock ≠ some g) (h11 : ∀ c ∈ C2, ∀ g, (Value.slice c.lo c.l.length c.lc).ownBlock = some g → g ≠ W.heap.size + 1)
    (hown : W5.ownsRow (W.heap.size + 2) 33 7 lv' (j + 1) (wcs L ++ x.cells)) (hg : W4.grownBy W5 lv.ownBlock) (hwh : lv'.ownBlock = lv.ownBlock ∨ lv'.ownBlock = some W4.heap.size) (hhb : hb < W.heap.size) (htb : tb < W.heap.size) (hw0 : w0.heap.size ≤ W.heap.size) :
    PkI w0 f p hb tb v C k n s u ao cap l W (j + 1) lv' v2 C2 (L ++ [x]) W5 := by
  have hc := chg_grown hg
  have hob := own_base h5
  have hty := own_type h5
  have hp5 : Hp W5 p p v2 C2 := ⟨hc.heap h2.hp.1 (fun e => by
    obtain ⟨cur, hcur⟩ := hty p e.symm
    rw [h2.hp.1] at hcur
    injection hcur with hcur
    injection hcur with _ hcur
    revert hcur
    decide), h2.hp.2.1, h2.hp.2.2.1.chg2 hc (fun c hcm g hgg e => h10 c hcm g hgg e.symm) (fun g hgg e => by
    obtain ⟨cur, hcur⟩ := hty g e.symm
    obtain ⟨cur', hcur'⟩ := own_type h2.hp.2.2.1.1 g hgg
    rw [hcur] at hcur'
    injection hcur' with hcur'
    injection hcur' with _ hcur'
    revert hcur'
    decide), h2.hp.2.2.2⟩
  refine ⟨⟨?_, h1.hv, h1.ext, h1.rows⟩, ⟨hp5, hc.heap h2.hh (fun e => by have := hob _ e.symm; omega), hc.heap h2.ht (fun e => by have := hob _ e.symm; omega), h2.hb0.trans (hc.below h2.hb0.size (fun g e => by have := hob g e.symm; omega)), h2.lp⟩, hc.heap h3 (fun e => by have := hob _ e.symm; omega), hc.heap h4 (fun e => by have := hob _ e.symm; omega), by rw [show wcs (L ++ [x]) = wcs L ++ x.cells from by simp [wcs]]; exact hown, by simp [hL], h6, h7, h8, h9, fun c hcm g hgg e => ?_, h11⟩
  · refine ⟨hc.os.trans h1.hc.os, hc.tape.trans h1.hc.tape, hc.output.trans h1.hc.output, by have := hc.size; have := h1.hc.size; omega, fun g hlt hS => ?_⟩
    refine (hc.block g (by have := h1.hc.size; omega) (fun e => ?_)).trans (h1.hc.block g hlt hS)
    have := hob g e.symm
    omega
  · rcases hwh with hw | hw
    · exact h10 c hcm g hgg (hw ▸ e)
    · rw [hw] at e
      injection e with e
      have := own_lt (h2.hp.2.2.1.2 c hcm) (Nat.le_refl _) g hgg
      omega
theorem Hp.turn {S : Nat → Prop} {W W' : World} {b p : Nat} {v : Value} {C : List HC} (h : Hp W b p v C) (hc : Chg S W W') (hw : ∀ k, S k → ∃ cur, W.heap[k]? = some (.cells cur 33 (0, 0))) (hr : ∀ c ∈ C, ∀ g, (Value.slice c.lo c.l.length c.lc).ownBlock = some g → ¬ S g) : Hp W' b p v C := by
  refine ⟨hc.heap h.1 fun e => ?_, h.2.1, h.2.2.1.chg2 hc hr fun g hg e => ?_, h.2.2.2⟩
  · obtain ⟨cur, hcur⟩ := hw p e
    rw [h.1] at hcur
    injection hcur with hcur
    injection hcur with _ hcur
    revert hcur
    decide
  · obtain ⟨cur, hcur⟩ := hw g e
    obtain ⟨cur', hcur'⟩ := own_type h.2.2.1.1 g hg
    rw [hcur] at hcur'
    injection hcur' with hcur'
    injection hcur' with _ hcur'
    revert hcur'
    decide
theorem Up.turn {S : Nat → Prop} {w0 : World} {p : Nat} {v v' : Value} {C C' : List HC} {W W1 W2 : World} (h : Up w0 p v C W v' C' W1) (hc : Chg S W1 W2) (hS : ∀ k, S k → W.heap.size ≤ k) : Up w0 p v C W v' C' W2 := by
  have hs := h.hc.size
  refine ⟨⟨hc.os.trans h.hc.os, hc.tape.trans h.hc.tape, hc.output.trans h.hc.output, by have := hc.size; omega, fun k hlt hn => ?_⟩, h.hv, h.ext, h.rows⟩
  exact (hc.block k (by omega) (fun e => by have := hS k e; omega)).trans (h.hc.block k hlt hn)
theorem sum_nT : ∀ l : List Tm, (l.map (fun t => (nT t : Int))).sum = nL l
  | [] => by simp [nL]
  | t :: l => by
    rw [List.map_cons, List.sum_cons, sum_nT l, nL]
    simp
theorem words_sum {C : List HC} {L : List Wd} {l : List Tm} (hl : L.length = l.length) (h : ∀ (i : Nat) (x : Wd), L[i]? = some x → ∃ t, l[i]? = some t ∧ nodesW C x = nT t) : (L.map (nodesW C)).sum = nL l := by
  have e : L.map (nodesW C) = l.map (fun t => (nT t : Int)) := by
    refine List.ext_getElem? fun i => ?_
    rw [List.getElem?_map, List.getElem?_map]
    cases hx : L[i]? with
    | none =>
      have := List.getElem?_eq_none_iff.1 hx
      rw [List.getElem?_eq_none_iff.2 (by omega)]
      rfl
    | some x =>
      obtain ⟨t, h1, h2⟩ := h i x hx
      rw [h1]
      simp [h2]
  rw [e, sum_nT]
theorem words_tk {C D : List HC} {L : List Wd} {l : List Tm} (hC : Good C) (hl : L.length = l.length) (h : ∀ (i : Nat) (x : Wd), L[i]? = some x → mayW C.length x = true ∧ ∃ t, l[i]? = some t ∧ tkN C C.length x = t) : L.map (tkN (C ++ D) C.length) = l := by
  refine List.ext_getElem? fun i => ?_
  rw [List.getElem?_map]
  cases hx : L[i]? with
  | none =>
    have := List.getElem?_eq_none_iff.1 hx
    rw [List.getElem?_eq_none_iff.2 (by omega)]
    rfl
  | some x =>
    obtain ⟨h0, t, h1, h2⟩ := h i x hx
    rw [h1, ← h2, Option.map_some, tk_grow hC C.length x C.length (may_low h0) (Nat.le_refl _) (Nat.le_refl _)]
/-- what is made of all the words -/
theorem put_fin {C : List HC} {k : Int} {L : List Wd} {l : List Tm} {w0 : World} {f : Nat} (hp : partsB k = true) (h7 : k = 7 → l.length = 2) (hC : Good C) (hroom : C.length < 1048576) (hl : L.length = l.length) (hn : nL l + 1 ≤ 256)
    (h : ∀ (i : Nat) (x : Wd), L[i]? = some x → WOk f w0 x ∧ mayW C.length x = true ∧ ∃ t, l[i]? = some t ∧ tkN C C.length x = t ∧ nodesW C x = nT t) :
    makeN C k L = 0 ∧ sizeW C L = (nL l + 1 : Nat) ∧ ∀ lo lc, tkN (C ++ [⟨k, sizeW C L, lo, lc, L⟩]) (C.length + 1) (cellX C.length) = .mk k 0 ⟨#[]⟩ ⟨#[]⟩ l ∧ nodesW (C ++ [⟨k, sizeW C L, lo, lc, L⟩]) (cellX C.length) = (nL l + 1 : Nat) ∧ mayW (C.length + 1) (cellX C.length) = true := by
  have hm : ∀ x ∈ L, mayW C.length x = true := by
    intro x hx
    obtain ⟨i, hi⟩ := List.getElem?_of_mem hx
    exact (h i x hi).2.1
  have hs : sizeW C L = (nL l + 1 : Nat) := by
    have h1 := words_sum (C := C) hl (fun i x hi => by obtain ⟨-, -, t, a, -, b⟩ := h i x hi; exact ⟨t, a, b⟩)
    unfold sizeW
    rw [fold_min L 1 (fun x hx => by have := nodes_pos hC (hm x hx); omega) (by omega), h1]
    simp
    omega
  refine ⟨?_, hs, fun lo lc => ⟨?_, ?_, ?_⟩⟩
  · unfold makeN
    have e1 : badK k L = false := by
      unfold badK
      rw [hp]
      simp
      intro e
      rw [hl]
      exact h7 e
    have e2 : (L.any fun x => !mayW C.length x) = false := by
      rw [List.any_eq_false]
      intro x hx
      simp [hm x hx]
    rw [e1, e2, hs, if_neg (by simp), if_neg (by omega), if_neg (by omega)]
  · rw [tkN_cell _ C.length (cellX C.length) ⟨k, sizeW C L, lo, lc, L⟩ rfl (by simp)]
    rw [words_tk hC hl (fun i x hi => by obtain ⟨-, a, t, b, c, -⟩ := h i x hi; exact ⟨a, t, b, c⟩)]
  · simp [nodesW, hs]
  · simp [mayW, empty]
    omega
theorem wokX (f : Nat) (w : World) (n : Nat) (hn : n ≤ 1048576) : WOk f w (cellX n) :=
  ⟨⟨by simp only; omega, by simp only; omega⟩, ⟨by simp, by simp, Nat.zero_le _, Nat.zero_le _⟩, none, 0, rfl, by simp, by omega, fun i t h => by simp at h⟩
end Go.Proofs.YtfbmjcblnemkgaaDoor
