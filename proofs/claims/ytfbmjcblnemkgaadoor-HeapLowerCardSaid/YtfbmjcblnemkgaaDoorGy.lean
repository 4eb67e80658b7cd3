/- a heap beside a row of words that are on it. Conditions: what comes reads. -/
import Derived.Test.YtfbmjcblnemkgaaDoorGv
import Derived.Test.YtfbmjcblnemkgaaDoorGx
namespace Go.Proofs.YtfbmjcblnemkgaaDoor
open Go.ChangeShapes Go.WideShapes Go.ChangeAt Go.RowKit
set_option linter.unusedVariables false
set_option maxRecDepth 100000
theorem TermV.le {f g : Nat} {w : World} {v : Value} {t : Tm} (h : TermV f w v t) (hg : f ≤ g) : TermV g w v t := by
  obtain ⟨h1, lv, h2, h3⟩ := h
  exact ⟨h1, lv, h2, h3.le hg⟩
theorem WOk.le {f g : Nat} {w : World} {x : Wd} (h : WOk f w x) (hg : f ≤ g) : WOk g w x := ⟨h.1, h.2.1, h.2.2.le hg⟩
/-- a heap, and words on it -/
structure BkI (w0 : World) (f : Nat) (l : List Tm) (m : Nat) (wv v : Value) (C : List HC) (L : List Wd) (wr : World) : Prop where
  hb : Below w0.heap.size w0 wr
  hp : Hp wr w0.heap.size w0.heap.size v C
  own : wr.ownsRow w0.heap.size 33 7 wv L.length (wcs L)
  len : C.length ≤ m
  oks : ∀ c ∈ C, ∀ y ∈ c.l, WOk f w0 y
  ws : ∀ (i : Nat) (x : Wd), L[i]? = some x → WOk f w0 x ∧ mayW C.length x = true ∧ ∃ t, l[i]? = some t ∧ checkN t = 0 ∧ okT t ∧ nT t ≤ 256 ∧ tkN C C.length x = t ∧ nodesW C x = nT t
  ap : ∀ c ∈ C, ∀ g, (Value.slice c.lo c.l.length c.lc).ownBlock = some g → wv.ownBlock ≠ some g
theorem BkI.keep {w0 : World} {f : Nat} {l : List Tm} {m : Nat} {wv v : Value} {C : List HC} {L : List Wd} {wr wr' : World} (h : BkI w0 f l m wv v C L wr) (hk : Below wr.heap.size wr wr') : BkI w0 f l m wv v C L wr' :=
  ⟨h.hb.trans (hk.mono h.hb.size), h.hp.keep hk, own_keep h.own hk, h.len, h.oks, h.ws, h.ap⟩
/-- the heap grows -/
theorem BkI.up {w0 w1 : World} {f : Nat} {l : List Tm} {m m' : Nat} {wv v v' : Value} {C C' : List HC} {L : List Wd} {wr wr' : World} (h : BkI w0 f l m wv v C L wr) (hu : Up w1 w0.heap.size v C wr v' C' wr') (hp : Hp wr' w0.heap.size w0.heap.size v' C')
    (hlen : C'.length ≤ m') (hok : ∀ c ∈ C', c ∈ C ∨ ∀ y ∈ c.l, WOk f w0 y) : BkI w0 f l m' wv v' C' L wr' := by
  refine ⟨h.hb.trans (hu.hc.below h.hb.size (fun k hk => heapS_base h.hp hk)), hp, own_chg h.own hu.hc (fun g hg => ?_), hlen, fun c hc => ?_, fun i x hi => ?_, fun c hc g hg e => ?_⟩
  · obtain ⟨cur, hcur⟩ := own_type h.own g hg
    exact heapS_not h.hp hcur (by decide) (by decide)
  · rcases hok c hc with hc | hc
    · exact h.oks c hc
    · exact hc
  · obtain ⟨D, hD⟩ := hu.ext
    obtain ⟨h1, h2, t, h3, h4, h4', h5, h6, h7⟩ := h.ws i x hi
    refine ⟨h1, may_more h2 (by rw [hD]; simp), t, h3, h4, h4', h5, ?_, ?_⟩
    · rw [← h6, hD, ← tk_grow h.hp.2.2.2 C.length x _ (may_low h2) (Nat.le_refl _) (by simp)]
    · rw [← h7, hD, nodes_more h2]
  · rcases hu.rows c hc with hc | hc
    · exact h.ap c hc g hg e
    · have h1 := hc g hg
      have h2 := own_lt h.own (Nat.le_refl _) g e
      omega
/-- a word is put behind the others -/
theorem BkI.push {w0 : World} {f : Nat} {l : List Tm} {m : Nat} {wv wv' v : Value} {C : List HC} {L : List Wd} {wr wr' : World} {x : Wd} {t : Tm} (h : BkI w0 f l m wv v C L wr) (hown : wr'.ownsRow w0.heap.size 33 7 wv' (L.length + 1) (wcs L ++ x.cells)) (hg : wr.grownBy wr' wv.ownBlock)
    (hwh : wv'.ownBlock = wv.ownBlock ∨ wv'.ownBlock = some wr.heap.size) (hx : WOk f w0 x) (hm : mayW C.length x = true) (hl : l[L.length]? = some t) (hck : checkN t = 0) (hok : okT t) (hn : nT t ≤ 256) (htk : tkN C C.length x = t) (hnod : nodesW C x = nT t) : BkI w0 f l m wv' v C (L ++ [x]) wr' := by
  have hc := chg_grown hg
  refine ⟨h.hb.trans (hc.below h.hb.size (fun k e => own_base h.own k e.symm)), h.hp.turn hc (fun g e => ?_) (fun c hcm g hgg e => h.ap c hcm g hgg e.symm), ?_, h.len, h.oks, fun i y hi => ?_, fun c hcm g hgg e => ?_⟩
  · exact own_type h.own g e.symm
  · rw [show wcs (L ++ [x]) = wcs L ++ x.cells from by simp [wcs], List.length_append]
    exact hown
  · by_cases hlt : i < L.length
    · rw [List.getElem?_append_left hlt] at hi
      exact h.ws i y hi
    · have hi2 : i = L.length := by
        have := (List.getElem?_eq_some_iff.1 hi).1
        simp at this
        omega
      subst hi2
      simp at hi
      subst hi
      exact ⟨hx, hm, t, hl, hck, hok, hn, htk, hnod⟩
  · rcases hwh with hw | hw
    · exact h.ap c hcm g hgg (hw ▸ e)
    · rw [hw] at e
      injection e with e
      have := own_lt (h.hp.2.2.1.2 c hcm) (Nat.le_refl _) g hgg
      omega
/-- a box beside them is turned -/
theorem BkI.box {w0 : World} {f : Nat} {l : List Tm} {m : Nat} {wv v : Value} {C : List HC} {L : List Wd} {wr : World} {z : Nat} {zs : Array Value} (h : BkI w0 f l m wv v C L wr) (hz : wr.heap[z]? = some (.cells zs 33 (0, 0))) (hB : w0.heap.size ≤ z) (hw : wv.ownBlock ≠ some z)
    (hr : ∀ c ∈ C, (Value.slice c.lo c.l.length c.lc).ownBlock ≠ some z) (cs : Array Value) : BkI w0 f l m wv v C L (wr.setRow z cs) := by
  have hc := chg_setRow wr z cs
  exact ⟨h.hb.trans (hc.below h.hb.size (fun k e => by have e : k = z := e; omega)), h.hp.turn hc (fun g e => ⟨zs, by rw [show g = z from e]; exact hz⟩) (fun c hcm g hg e => hr c hcm (by rw [hg, show g = z from e])), own_chg h.own hc (fun g hg e => hw (by rw [hg, show g = z from e])), h.len, h.oks, h.ws, h.ap⟩
theorem BkI.word {w0 : World} {f : Nat} {l : List Tm} {m : Nat} {v : Value} {C : List HC} {L : List Wd} {wr : World} {ao : Option Addr} {n cap : Nat} (h : BkI w0 f l m (.slice ao n cap) v C L wr) : n = L.length ∧ WRow wr ao L := by
  obtain ⟨ao', cap', e, -, -, hr, -⟩ := own_wrow h.own
  injection e with e1 e2 e3
  subst e1
  exact ⟨e2, hr⟩
/-- what a tuple of a word twice comes to -/
def TwoD (w0 : World) (f : Nat) (C' : List HC) (t : Tm) (y : Wd) (er : Int) : Prop :=
  (er = 0 ∧ 2 * nT t + 1 ≤ 256 ∧ WOk f w0 y ∧ mayW C'.length y = true ∧ tkN C' C'.length y = .mk 5 0 ⟨#[]⟩ ⟨#[]⟩ [t, t] ∧ nodesW C' y = (2 * nT t + 1 : Nat)) ∨ (er = 11 ∧ 256 < 2 * nT t + 1)
def TwoP (w0 : World) (f : Nat) (l : List Tm) (m : Nat) (wv : Value) (C : List HC) (L : List Wd) (t : Tm) (W : World) (e : Ending) (W' : World) : Prop :=
  ∃ (y : Wd) (er : Int) (v' : Value) (C' : List HC), e = .returned (.tuple #[.agg y.cells.toArray, .int .i64 er]) ∧ BkI w0 f l (m + 1) wv v' C' L W' ∧ (∀ (k : Nat) (cs : Array Value), W.heap[k]? = some (.cells cs 33 (0, 0)) → W'.heap[k]? = some (.cells cs 33 (0, 0))) ∧
    (∀ c ∈ C', c ∈ C ∨ ∀ j, (Value.slice c.lo c.l.length c.lc).ownBlock = some j → W.heap.size ≤ j) ∧ W.heap.size ≤ W'.heap.size ∧ TwoD w0 f C' t y er
theorem two_any (w0 : World) (f : Nat) (l : List Tm) (m : Nat) (wv v : Value) (C : List HC) (L : List Wd) (W : World) (b : Nat) (h' : BkI w0 f l m wv v C L W) (hL : Cells w0 0 letL) (hm : m < 1048576) (i : Nat) (x : Wd) (t : Tm) (hi : L[i]? = some x) (ht : l[i]? = some t) (hr : WRow W (some ⟨b, 0, none⟩) [x, x]) :
    Calls Tryd.prog 10 #[.pointer (some ⟨w0.heap.size, 0, none⟩), .int .i8 5, .slice (some ⟨b, 0, none⟩) 2 2] W (TwoP w0 f l m wv C L t W) := by
  have h := h'
  obtain ⟨h1, h2, t', h3, h4, h4', h5, h6, h7⟩ := h.ws i x hi
  obtain rfl : t' = t := Option.some.inj (h3.symm.trans ht)
  have hws : ∀ (j : Nat) (y : Wd), [x, x][j]? = some y → WOk f w0 y ∧ mayW C.length y = true ∧ ∃ t, [t', t'][j]? = some t ∧ tkN C C.length y = t ∧ nodesW C y = nT t := by
    intro j y hj
    match j, hj with
    | 0, hj => simp at hj; subst hj; exact ⟨h1, h2, t', rfl, h6, h7⟩
    | 1, hj => simp at hj; subst hj; exact ⟨h1, h2, t', rfl, h6, h7⟩
  have hall : ∀ y ∈ [x, x], WOk f w0 y := by
    intro y hy
    simp only [List.mem_cons, List.not_mem_nil, or_false, or_self] at hy
    subst hy
    exact h1
  have hnl : nL [t', t'] = 2 * nT t' := by
    simp [nL]
    omega
  have hlen := h.len
  refine (make_any f _ _ _ v C 5 [x, x] (some ⟨b, 0, none⟩) 2 h'.hp (keep_let hL h'.hb) hr (fun y hy => (hall y hy).keep h'.hb) (by simp) (fun e => by cases e)).mono ?_
  rintro e W' (⟨he, v', lo, lc, rfl, hp', hc, hv, hrow⟩ | ⟨he, rfl, hb2⟩)
  · have hsz : 2 * nT t' + 1 ≤ 256 := by
      by_cases hh : 2 * nT t' + 1 ≤ 256
      · exact hh
      · exfalso
        have hs : sizeW C [x, x] = 257 := by
          unfold sizeW
          have hpos := nodes_pos h.hp.2.2.2 h2
          rw [fold_min [x, x] 1 (fun y hy => by
            simp only [List.mem_cons, List.not_mem_nil, or_false, or_self] at hy
            subst hy
            omega) (by omega)]
          simp [h7]
          omega
        unfold makeN at he
        rw [hs] at he
        split at he
        · cases he
        · rw [if_pos (by omega)] at he
          cases he
    obtain ⟨p1, p2, p3⟩ := put_fin (k := 5) (w0 := w0) (f := f) (l := [t', t']) (by decide) (fun e => by cases e) h.hp.2.2.2 (by omega) rfl (by omega) hws
    obtain ⟨p4, p5, p6⟩ := p3 lo lc
    have hu : Up w0 w0.heap.size v C W v' (C ++ [⟨5, sizeW C [x, x], lo, lc, [x, x]⟩]) W' := ⟨hc, hv, ⟨_, rfl⟩, fun c hcm => by
      rw [List.mem_append, List.mem_singleton] at hcm
      rcases hcm with hcm | rfl
      · exact .inl hcm
      · exact .inr hrow⟩
    refine ⟨cellX C.length, 0, v', _, rfl, h'.up hu hp' (by simp; omega) (fun c hcm => by
      rw [List.mem_append, List.mem_singleton] at hcm
      rcases hcm with hcm | rfl
      · exact .inl hcm
      · exact .inr hall), (fun k cs hk => hc.heap hk (heapS_not h'.hp hk (by decide) (by decide))), hu.rows, hc.size, .inl ⟨rfl, hsz, wokX _ _ _ (by omega), by simpa using p6, by simpa using p4, ?_⟩⟩
    rw [p5, hnl]
  · have h'' := h'.keep hb2
    have hbad : badK 5 [x, x] = false := by
      simp [badK, partsB]
    have hany : ([x, x].any fun y => !mayW C.length y) = false := by
      rw [List.any_eq_false]
      intro y hy
      simp only [List.mem_cons, List.not_mem_nil, or_false, or_self] at hy
      subst hy
      simp [h2]
    have hE : makeN C 5 [x, x] = if 256 < sizeW C [x, x] then 11 else 0 := by
      unfold makeN
      rw [hbad, hany, if_neg (by simp)]
      rw [if_neg (c := 1048576 ≤ C.length) (by omega)]
    have hs : sizeW C [x, x] = min (1 + 2 * (nT t' : Int)) 257 := by
      unfold sizeW
      have hpos := nodes_pos h.hp.2.2.2 h2
      rw [fold_min [x, x] 1 (fun y hy => by
        simp only [List.mem_cons, List.not_mem_nil, or_false, or_self] at hy
        subst hy
        omega) (by omega)]
      simp [h7]
      omega
    have hgt : 256 < 2 * nT t' + 1 := by
      by_cases hh : 2 * nT t' + 1 ≤ 256
      · rw [hE, if_neg (by rw [hs]; omega)] at he
        exact absurd rfl he
      · omega
    refine ⟨wZ, 11, v, C, ?_, ⟨h''.hb, h''.hp, h''.own, by omega, h''.oks, h''.ws, h''.ap⟩, fun k cs hk => keep_heap hk hb2, fun c hc => .inl hc, hb2.size, .inr ⟨rfl, hgt⟩⟩
    rw [hE, if_pos (by rw [hs]; omega)]
    rfl
/-- a block that is newer than all of them is turned -/
theorem BkI.late {w0 : World} {f : Nat} {l : List Tm} {m : Nat} {wv v : Value} {C : List HC} {L : List Wd} {W0 wr : World} {z : Nat} (h0 : BkI w0 f l m wv v C L W0) (h : BkI w0 f l m wv v C L wr) (hz : W0.heap.size ≤ z) (cs : Array Value) : BkI w0 f l m wv v C L (wr.setRow z cs) := by
  have hc := chg_setRow wr z cs
  have hB := h0.hb.size
  have hw := own_lt h0.own (Nat.le_refl _)
  have hv := own_lt h0.hp.2.2.1.1 (Nat.le_refl _)
  have hp := heap_lt h0.hp.1
  have hr := fun c hcm => own_lt (h0.hp.2.2.1.2 c hcm) (Nat.le_refl _)
  refine ⟨h.hb.trans (hc.below h.hb.size (fun k e => by have e : k = z := e; omega)), ⟨hc.heap h.hp.1 (fun e => by have e : w0.heap.size = z := e; omega), h.hp.2.1, h.hp.2.2.1.chg2 hc (fun c hcm g hg e => by have := hr c hcm g hg; have e : g = z := e; omega) (fun g hg e => by have := hv g hg; have e : g = z := e; omega), h.hp.2.2.2⟩, own_chg h.own hc (fun g hg e => by have := hw g hg; have e : g = z := e; omega), h.len, h.oks, h.ws, h.ap⟩
def TupD (n0 n1 f : Nat) (W' : World) (t : Tm) (te : TE) (er : Int) : Prop :=
  (er = 0 ∧ 2 * nT t + 1 ≤ 256 ∧ te.t = .mk 5 0 ⟨#[]⟩ ⟨#[]⟩ [t, t] ∧ RowS (fun b => b < n0 ∨ n1 < b) f W' te.lv te.l) ∨ (er = 11 ∧ 256 < 2 * nT t + 1)
def TupP (n0 f : Nat) (t : Tm) (W : World) (e : Ending) (W' : World) : Prop :=
  ∃ (te : TE) (er : Int), e = .returned (.tuple #[.agg te.cells.toArray, .int .i64 er]) ∧ Below W.heap.size W W' ∧ TupD n0 W.heap.size f W' t te er
theorem TupD.chg {n0 n1 f : Nat} {T : Nat → Prop} {W W' : World} {t : Tm} {te : TE} {er : Int} (h : TupD n0 n1 f W t te er) (hc : Chg T W W') (hT : ∀ k, T k → ¬ (k < n0 ∨ n1 < k)) : TupD n0 n1 f W' t te er := by
  rcases h with ⟨h1, h2, h3, h4⟩ | h
  · exact .inl ⟨h1, h2, h3, h4.chg hc (fun k hk _ e => hT k e hk) (fun k hk _ => hk) (Nat.le_refl _)⟩
  · exact .inr h
theorem TupD.keep {n0 n1 f : Nat} {W W' : World} {t : Tm} {te : TE} {er : Int} (h : TupD n0 n1 f W t te er) (hb : Below W.heap.size W W') : TupD n0 n1 f W' t te er := h.chg (chg_of_below hb (fun _ => False)) (fun _ h => h.elim)
theorem TupD.ex {n0 n1 f : Nat} {W : World} {t : Tm} {te : TE} {er : Int} (h : TupD n0 n1 f W t te er) : ∃ n1, TupD n0 n1 f W t te er := ⟨_, h⟩
theorem siz_two (t : Tm) : siz (.mk 5 0 ⟨#[]⟩ ⟨#[]⟩ [t, t]) 257 = min ((2 * nT t + 1 : Nat) : Int) 257 := by
  rw [siz_eq _ _ (by omega)]
  congr 2
  simp [nT, nL]
  omega
theorem tup_any (w0 : World) (f : Nat) (t : Tm) (te : TE) (b : Nat) (W : World) (h0 : Below w0.heap.size w0 W) (ht : te.t = t) (h1 : fields te.k te.n te.s te.u) (h2 : Row f w0 te.lv te.l) (hc : rcheckN t = 0)
    (hcl : W.heap[b]? = some (.cells #[.int .i8 te.k, .int .i64 te.n, .string te.s, .string te.u, .slice te.ao te.l.length te.cap, .int .i8 te.k, .int .i64 te.n, .string te.s, .string te.u, .slice te.ao te.l.length te.cap] 31 (0, 0))) :
    Calls Tryd.prog 11 #[.slice (some ⟨b, 0, none⟩) 2 2] W (TupP w0.heap.size (f + 1) t W) := by
  have hall : ∀ x ∈ [te, te], x = te := by
    intro x hx
    simpa using hx
  have h := tuple_any w0 f [te, te] b 0 2 W h0 (by simp) (by omega) (fun x hx => by rw [hall x hx]; exact ⟨h1, h2⟩) (fun j u hj => by
    rw [Addr.add_lit, Nat.zero_add]
    exact (cells_at hcl j u (by simpa [tcs, TE.cells] using hj)).1) (by simp) (fun x hx => by rw [hall x hx, ht]; exact hc)
  refine h.mono ?_
  rintro e W' ⟨hb, hor⟩
  simp only [List.map_cons, List.map_nil, ht, siz_two] at hor
  rcases hor with ⟨g1, te', rfl, g2, g3⟩ | ⟨g1, rfl⟩
  · exact ⟨te', 0, rfl, hb, .inl ⟨rfl, by omega, g2, g3⟩⟩
  · exact ⟨⟨0, 0, ⟨#[]⟩, ⟨#[]⟩, none, 0, []⟩, 11, rfl, hb, .inr ⟨rfl, by omega⟩⟩
end Go.Proofs.YtfbmjcblnemkgaaDoor
