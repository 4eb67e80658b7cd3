/- the reader: list. Conditions: the reader reads; the table of letters reads as laid; terms are read. -/
import Derived.Test.YtaomakhhkjflaaaDoorXc
namespace Go.Proofs.YtaomakhhkjflaaaDoor
open Go.ChangeShapes Go.WideShapes Go.ChangeAt Go.RowKit
set_option linter.unusedVariables false
set_option linter.unusedSimpArgs false
set_option maxRecDepth 100000
abbrev nilC : Array Value := #[.int .i8 6, .int .i64 0, .string ⟨#[]⟩, .string ⟨#[]⟩, .slice none 0 0]
theorem okT_nil {k n : Int} {s u : ByteArray} {l : List Tm} (h : okT (.mk k n s u l)) (hk : k = 6) : n = 0 ∧ s = ⟨#[]⟩ ∧ u = ⟨#[]⟩ ∧ l = [] := by
  rw [okT] at h
  have h1 := h.1
  subst hk
  unfold oneB bareB at h1
  simp at h1
  exact ⟨h1.1, empty_true h1.2.1, empty_true h1.2.2.1, by simpa using h1.2.2.2⟩
theorem nT_mem {l : List Tm} {t : Tm} (h : t ∈ l) : nT t ≤ nL l := by
  induction l with
  | nil => cases h
  | cons a l ih =>
    rw [nL]
    rcases List.mem_cons.1 h with rfl | h
    · omega
    · have := ih h
      omega
theorem AtS.le {S : Nat → Prop} {w : World} {f g b o : Nat} {t : Tm} (h : AtS S f w b o t) (hg : f ≤ g) : AtS S g w b o t := h.chg (Chg.refl (fun _ => False) w) (fun _ _ _ h => h) (fun _ h _ => h) hg
theorem AtS.shrink {S : Nat → Prop} {w : World} : ∀ (f b o : Nat) (t : Tm), AtS S f w b o t → AtS S (nT t) w b o t := by
  intro f
  induction f with
  | zero => intro b o t h; exact h.elim
  | succ f ih =>
    intro b o t h
    obtain ⟨k, n, s, u, l⟩ := t
    obtain ⟨h0, h1, ao, cap, h2, h3, h4, h5⟩ := h
    rw [nT]
    refine ⟨h0, h1, ao, cap, h2, h3, h4, fun i t hi => ?_⟩
    obtain ⟨b', off, e, h⟩ := h5 i t hi
    exact ⟨b', off, e, (ih _ _ _ h).le (nT_mem (List.mem_of_getElem? hi))⟩
theorem RowS.shrink {S : Nat → Prop} {w : World} {f : Nat} {v : Value} {l : List Tm} (h : RowS S f w v l) : RowS S (nL l) w v l := by
  obtain ⟨ao, cap, rfl, h4, h5, h6⟩ := h
  refine ⟨ao, cap, rfl, h4, h5, fun i t hi => ?_⟩
  obtain ⟨b', off, e, h⟩ := h6 i t hi
  exact ⟨b', off, e, (AtS.shrink _ _ _ _ h).le (nT_mem (List.mem_of_getElem? hi))⟩
theorem RowS.nT {S : Nat → Prop} {w : World} {f : Nat} {te : TE} {t : Tm} (h : RowS S f w te.lv te.l) (ht : te.t = t) : RowS S (nT t) w te.lv te.l := by
  subst ht
  have h1 := h.shrink
  rw [TE.t, Go.Proofs.YtaomakhhkjflaaaDoor.nT]
  exact h1.chg (Chg.refl (fun _ => False) w) (fun _ _ _ h => h) (fun _ h _ => h) (by omega)
theorem TRow.weaken {S S' : Nat → Prop} {F : Nat} {w : World} {base base' : Nat} {v : Value} {E : List TE} (h : TRow S F w base v E) (hb : base' ≤ base) (hS : ∀ k, S k → S' k) : TRow S' F w base' v E :=
  ⟨own_lower h.1 hb, fun x hx => ⟨(h.2 x hx).1, (h.2 x hx).2.chg (Chg.refl (fun _ => False) w) (fun _ _ _ h => h) (fun k hk _ => ⟨hS k hk.1, hk.2⟩) (Nat.le_refl _)⟩⟩
theorem TRow.elem {S : Nat → Prop} {F : Nat} {w : World} {base : Nat} {ao : Option Addr} {n cap : Nat} {E : List TE} (h : TRow S F w base (.slice ao n cap) E) {i : Nat} {x : TE} (hi : E[i]? = some x) :
    ∃ g, ao = some ⟨g, 0, none⟩ ∧ g < w.heap.size ∧ ∀ j u, x.cells[j]? = some u → w.cell? ⟨g, i * 5 + j, none⟩ = some u := by
  have h1 := h.1
  have hlt := (List.getElem?_eq_some_iff.1 hi).1
  rcases h1.2 with ⟨_, h0⟩ | ⟨g, cap', cur, hv, hg, hh, r⟩
  · omega
  · simp only [Value.slice.injEq] at hv
    obtain ⟨rfl, rfl, rfl⟩ := hv
    refine ⟨g, rfl, heap_lt hh, fun j u hj => ?_⟩
    have hj5 : j < 5 := by have := (List.getElem?_eq_some_iff.1 hj).1; simpa [TE.cells] using this
    rw [h1.cellAt (i * 5 + j) (by omega), tcs_at E i j x hi hj5]
    exact hj
/-- a cons's row -/
theorem row_cons {S : Nat → Prop} {F1 F2 : Nat} {W : World} {x y : TE} (hS : S W.heap.size) (hx : fields x.k x.n x.s x.u) (hx2 : RowS S F1 W x.lv x.l) (hy : fields y.k y.n y.s y.u) (hy2 : RowS S F2 W y.lv y.l) :
    RowS S (max F1 F2 + 1) (W.alloc (.cells #[.int .i8 x.k, .int .i64 x.n, .string x.s, .string x.u, .slice x.ao x.l.length x.cap, .int .i8 y.k, .int .i64 y.n, .string y.s, .string y.u, .slice y.ao y.l.length y.cap] 25)) (.slice (some ⟨W.heap.size, 0, none⟩) 2 2) [x.t, y.t] := by
  have hb := (Below.refl W.heap.size W).alloc (Nat.le_refl _) (.cells #[.int .i8 x.k, .int .i64 x.n, .string x.s, .string x.u, .slice x.ao x.l.length x.cap, .int .i8 y.k, .int .i64 y.n, .string y.s, .string y.u, .slice y.ao y.l.length y.cap] 25)
  have hn := heap_new W (.cells #[.int .i8 x.k, .int .i64 x.n, .string x.s, .string x.u, .slice x.ao x.l.length x.cap, .int .i8 y.k, .int .i64 y.n, .string y.s, .string y.u, .slice y.ao y.l.length y.cap] 25)
  have kx := hx2.chg (S' := S) (chg_of_below hb (fun _ => False)) (fun _ _ _ h => h) (fun _ h _ => h) (Nat.le_max_left F1 F2)
  have ky := hy2.chg (S' := S) (chg_of_below hb (fun _ => False)) (fun _ _ _ h => h) (fun _ h _ => h) (Nat.le_max_right F1 F2)
  obtain ⟨ax, cx, ex, x1, x2, x3⟩ := kx
  obtain ⟨ay, cy, ey, y1, y2, y3⟩ := ky
  simp only [TE.lv, Value.slice.injEq] at ex ey
  obtain ⟨rfl, -, rfl⟩ := ex
  obtain ⟨rfl, -, rfl⟩ := ey
  refine ⟨some ⟨W.heap.size, 0, none⟩, 2, rfl, by simp, by omega, fun i t hi => ⟨W.heap.size, 0, rfl, ?_⟩⟩
  match i, hi with
  | 0, hi =>
    simp at hi
    subst hi
    exact ⟨hS, hx, x.ao, x.cap, ⟨(cells_at hn 0 _ rfl).1, (cells_at hn 1 _ rfl).1, (cells_at hn 2 _ rfl).1, (cells_at hn 3 _ rfl).1, (cells_at hn 4 _ rfl).1⟩, x1, x2, x3⟩
  | 1, hi =>
    simp at hi
    subst hi
    exact ⟨hS, hy, y.ao, y.cap, ⟨(cells_at hn 5 _ rfl).1, (cells_at hn 6 _ rfl).1, (cells_at hn 7 _ rfl).1, (cells_at hn 8 _ rfl).1, (cells_at hn 9 _ rfl).1⟩, y1, y2, y3⟩
/-- where a list stands that is made again -/
structure LsI (W : World) (r : Nat) (s : ByteArray) (p b N : Nat) (L : List Tm) (v : Value) (E : List TE) (d : Tm) (te : TE) (wx : World) : Prop where
  hc : Chg (fun k => k = r) W wx
  hr : RdAt wx r s p b
  hX : wx.heap[W.heap.size]? = some (.cells zT 25 (0, 0))
  hY : wx.heap[W.heap.size + 1]? = some (.cells te.cells.toArray 25 (0, 0))
  row : TRow (fun k => W.heap.size + 2 ≤ k) N wx (W.heap.size + 2) v E
  map : E.map TE.t = L
  ht : te.t = d
  hf : fields te.k te.n te.s te.u
  hrs : ∃ F, RowS (fun k => W.heap.size + 2 ≤ k) F wx te.lv te.l
/-- what list does behind its tail -/
theorem LsI.see {W : World} {r : Nat} {s : ByteArray} {p b b' N : Nat} {L : List Tm} {v : Value} {E : List TE} {d : Tm} {te : TE} {wx wy : World} {q : Nat} (h : LsI W r s p b N L v E d te wx) (hc : Chg (fun k => k = r) wx wy) (hr : RdAt wy r s q b') (hrl : r < W.heap.size) : LsI W r s q b' N L v E d te wy :=
  ⟨h.hc.trans hc, hr, hc.heap h.hX (fun e => by have e : W.heap.size = r := e; omega), hc.heap h.hY (fun e => by have e : W.heap.size + 1 = r := e; omega), h.row.chg hc (fun k e hk => by have e : k = r := e; omega) (fun k e => by have e : k = r := e; omega), h.map, h.ht, h.hf,
    by
      obtain ⟨F, h1⟩ := h.hrs
      exact ⟨F, h1.chg hc (fun k hk _ e => by have e : k = r := e; have hk : W.heap.size + 2 ≤ k := hk; omega) (fun k hk _ => hk) (Nat.le_refl _)⟩⟩
/-- another tail -/
theorem LsI.put {W : World} {r : Nat} {s : ByteArray} {p b N : Nat} {L : List Tm} {v : Value} {E : List TE} {d d' : Tm} {te te' : TE} {wx : World} (h : LsI W r s p b N L v E d te wx) (hrl : r < W.heap.size) (ht : te'.t = d') (hf : fields te'.k te'.n te'.s te'.u) {F : Nat} (hrs : RowS (fun k => W.heap.size + 2 ≤ k) F wx te'.lv te'.l) :
    LsI W r s p b N L v E d' te' (wx.setRow (W.heap.size + 1) te'.cells.toArray) := by
  have hc := chg_setRow wx (W.heap.size + 1) te'.cells.toArray
  exact ⟨h.hc.grow hc (fun k hk e => by have e : k = W.heap.size + 1 := e; omega), hc.heap h.hr (fun e => by have e : r = W.heap.size + 1 := e; omega), hc.heap h.hX (fun e => by have e : W.heap.size = W.heap.size + 1 := e; omega), setRow_heap wx (W.heap.size + 1) _ te'.cells.toArray _ _ h.hY,
    h.row.chg hc (fun k e hk => by have e : k = W.heap.size + 1 := e; omega) (fun k e => by have e : k = W.heap.size + 1 := e; omega), h.map, ht, hf, F, hrs.chg hc (fun k hk _ e => by have e : k = W.heap.size + 1 := e; have hk : W.heap.size + 2 ≤ k := hk; omega) (fun k hk _ => hk) (Nat.le_refl _)⟩
/-- what region 18 reads -/
def X18 (g o y : Nat) (k n : Int) (s u : ByteArray) (lv : Value) (k' n' : Int) (s' u' : ByteArray) (lv' : Value) (W : World) : Prop := W.cell? ⟨g, o, none⟩ = some (.int .i8 k) ∧ W.cell? ⟨g, o + 1, none⟩ = some (.int .i64 n) ∧ W.cell? ⟨g, o + 2, none⟩ = some (.string s) ∧ W.cell? ⟨g, o + 3, none⟩ = some (.string u) ∧ W.cell? ⟨g, o + 4, none⟩ = some lv ∧
  W.cell? ⟨y, 0, none⟩ = some (.int .i8 k') ∧ W.cell? ⟨y, 1, none⟩ = some (.int .i64 n') ∧ W.cell? ⟨y, 2, none⟩ = some (.string s') ∧ W.cell? ⟨y, 3, none⟩ = some (.string u') ∧ W.cell? ⟨y, 4, none⟩ = some lv'
theorem X18.keep {g o y : Nat} {k n : Int} {s u : ByteArray} {lv : Value} {k' n' : Int} {s' u' : ByteArray} {lv' : Value} {W W' : World} (h : X18 g o y k n s u lv k' n' s' u' lv' W) (hk : Below W.heap.size W W') : X18 g o y k n s u lv k' n' s' u' lv' W' := by
  obtain ⟨g1, g2, g3, g4, g5, h1, h2, h3, h4, h5⟩ := h
  exact ⟨keep_cell g1 hk, keep_cell g2 hk, keep_cell g3 hk, keep_cell g4 hk, keep_cell g5 hk, keep_cell h1 hk, keep_cell h2 hk, keep_cell h3 hk, keep_cell h4 hk, keep_cell h5 hk⟩
set_option maxHeartbeats 16000000 in
theorem list_any (N : Nat) (ih : TermRd N) (t : Tm) (hok : okT t) (hnt : nT t ≤ N + 1) (hn256 : nT t ≤ 256) (hk : t.k = 6 ∨ t.k = 7) (W : World) (r : Nat) (s : ByteArray) (i b : Nat) (l : List UInt8) (h : RdAt W r s i b) (hcl : Cells W 0 letL) (hlv : 0 ≠ r)
    (hs : s.size ≤ 1099511627776) (hrest : Rest s i (wrC t.l ++ 93 :: l)) (hb : b + (bg t - 1) ≤ 256) : Calls Tryd.prog 42 #[.pointer (some ⟨r, 0, none⟩)] W (TrP W r s (i + (wrC t.l).length + 1) (b + (bg t - 1)) (nT t) t) := by
  have hrl := heap_lt h
  have hb2 := ((Below.refl W.heap.size W).alloc (Nat.le_refl _) (.cells zT 25)).alloc (by simp) (.cells nilC 25)
  have hX := heap_old (heap_new W (.cells zT 25)) (.cells nilC 25)
  have hY := heap_new (W.alloc (.cells zT 25)) (.cells nilC 25)
  have hs1 : (W.alloc (.cells zT 25)).heap.size = W.heap.size + 1 := by simp
  rw [hs1] at hY
  have hs2 : ((W.alloc (.cells zT 25)).alloc (.cells nilC 25)).heap.size = W.heap.size + 2 := by simp
  have HR := Lib.hid (h.keep hb2)
  have HC0 := Lib.hid (chg_of_below hb2 (fun k => k = r))
  have HX := Lib.hid hX
  have HY := Lib.hid hY
  have HCL := Lib.hid hcl
  have HS1 := Lib.hid hs1
  have HS2 := Lib.hid hs2
  have HIH := Lib.hid ih
  have HOK := Lib.hid hok
  have HSEE := Lib.hid (see_any _ r s i b _ [93] (h.keep hb2) hrest hs (by simp))
  have HREST := Lib.hid hrest
  clear hb2 hX hY hs2 h hcl hok hrest ih
  go_enter Tryd.func42, Tryd.ntmps42
  go_wp2_with (with_reducible refine stop_op (o := ⟨_, .store 25 (.tmp 4) (.tmp 8), _, _, _, _⟩) ?_)
  refine Lib.hid ?_
  refine wpList_store_new (o := ⟨none, _, _, _, _, _⟩) rfl 25 (.tmp 4) (.tmp 8) rfl nilC (by rw [hs1]; rfl) rfl (infoTM' _ rfl) rfl (by simp [Value.oneCell']) ?_
  generalize (W.alloc (.cells zT 25)).alloc (.cells nilC 25) = W2 at *
  clear hs1
  go_wp2_with fail
  refine HSEE.out.mono ?_
  rintro e W3 ⟨hc3, (⟨hpre, rfl, hr3⟩ | ⟨hpre, rfl, hr3⟩)⟩
  · have h6 : t.k = 6 := by
      rcases hk with h | h
      · exact h
      · exfalso
        obtain ⟨k, n, s', u, l'⟩ := t
        obtain ⟨-, -, -, a, b', e, ha, hb'⟩ := okT_cons HOK.out h
        subst e
        obtain ⟨c, w, e, h1, h2⟩ := wr_head ha
        have e2 : wrC (Tm.mk k n s' u [a, b']).l = c :: (w ++ wrD [b']) := by simp [Tm.l, wrC, e]
        rw [e2] at hpre
        obtain ⟨q, e3⟩ := hpre
        simp at e3
        exact h1 e3.1.symm
    have hY3 := hc3.heap HY.out (fun e => by have e : W.heap.size + 1 = r := e; omega)
    have hX3 := hc3.heap HX.out (fun e => by have e : W.heap.size = r := e; omega)
    have HY3 := Lib.hid hY3
    have HX3 := Lib.hid hX3
    have hcs := chg_setRow W3 W.heap.size nilC
    have HXF := Lib.hid (setRow_heap W3 W.heap.size _ nilC _ _ hX3)
    have HFIN : Hid (TrP W r s (i + (wrC t.l).length + 1) (b + (bg t - 1)) (nT t) t (.returned (.tuple #[.agg nilC, .int .i64 0])) (W3.setRow W.heap.size nilC)) := Lib.hid (by
      obtain ⟨k, n, s', u, l'⟩ := t
      have h6 : k = 6 := h6
      obtain ⟨rfl, rfl, rfl, rfl⟩ := okT_nil HOK.out h6
      subst h6
      have e1 : bg (.mk 6 0 ⟨#[]⟩ ⟨#[]⟩ []) = 1 := by simp [bg]
      rw [e1]
      refine ⟨⟨6, 0, ⟨#[]⟩, ⟨#[]⟩, none, 0, []⟩, rfl, rfl, ⟨by simp, by simp, Nat.zero_le _, Nat.zero_le _⟩, (HC0.out.trans hc3).grow hcs (fun k hk e => by have e : k = W.heap.size := e; omega), ?_, none, 0, rfl, by simp, by omega, fun i t hi => by simp at hi⟩
      have e2 : (wrC (Tm.mk 6 0 ⟨#[]⟩ ⟨#[]⟩ []).l).length = 0 := by simp [Tm.l, wrC]
      rw [e2]
      exact hcs.heap hr3 (fun e => by have e : r = W.heap.size := e; omega))
    clear hc3 hr3 hcs hpre hY3 hX3 HX HY HC0
    go_wp2_with (with_reducible refine stop_op (o := ⟨_, .load 25 (.tmp 4), _, _, _, _⟩) ?_)
    refine Lib.hid ?_
    refine wpList_load_row (o := ⟨_, _, _, _, _, _⟩) rfl 25 (.tmp 4) rfl (W.heap.size + 1) rfl 25 nilC (0, 0) _ HY3.out Tryd.underlying25 rfl (infoTM' _ rfl) ?_
    go_wp2_with (with_reducible refine stop_op (o := ⟨_, .store 25 (.tmp 2) (.tmp 11), _, _, _, _⟩) ?_)
    refine Lib.hid ?_
    refine wpList_store_row (o := ⟨none, _, _, _, _, _⟩) rfl 25 (.tmp 2) (.tmp 11) rfl W.heap.size nilC rfl rfl 25 zT HX3.out (infoTM' _ rfl) rfl (by simp [Value.oneCell']) ?_
    go_wp2_with fail
    exact ret_row HXF.out rfl Tryd.underlying25 rfl (infoTM' _ rfl) rfl rfl HFIN.out
  · have h7 : t.k = 7 := by
      rcases hk with h | h
      · exfalso
        obtain ⟨k, n, s', u, l'⟩ := t
        obtain ⟨rfl, rfl, rfl, rfl⟩ := okT_nil HOK.out h
        exact hpre ⟨l, by simp [Tm.l, wrC]⟩
      · exact h
    obtain ⟨hrb, he7, hoe, hle, hall, h7'⟩ := sp_all (nT t) t (Nat.le_refl _) HOK.out
    obtain ⟨hl1, hlt, hwc⟩ := h7' h7
    have hbg := bg_sp (nT t) t (Nat.le_refl _) HOK.out h7
    have hbt : bg t = 1 + bgC t.l := by
      obtain ⟨k, n, s', u, l'⟩ := t
      have h7 : k = 7 := h7
      subst h7
      simp [bg, Tm.l]
    have hmem : ∀ x ∈ spL t, okT x ∧ nT x ≤ N := fun x hx => ⟨hall x hx, by have := nT_mem hx; have := nT_pos (spE t); omega⟩
    have hDn : nT (spE t) ≤ N := by omega
    have hLl := nL_len (spL t)
    have hbe : bg t - 1 = bgL (spL t) + (if (spE t).k = 6 then 0 else bg (spE t)) := by omega
    have hwl : (wrC t.l).length = (wrL (spL t)).length + (if (spE t).k = 6 then ([] : List UInt8) else 124 :: tx (spE t)).length := by rw [hwc, List.length_append]
    have hr0 := HREST.out
    rw [hwc, List.append_assoc] at hr0
    rw [hbe] at hb
    have hL1000 : (spL t).length ≤ 1000 := by omega
    have hRB := Lib.hid hrb
    have HBE := Lib.hid hbe
    have HWL := Lib.hid hwl
    clear hrb hle hall h7' hlt hwc hbg hbt hbe hwl HREST hLl
    generalize spL t = L at *
    generalize spE t = D at *
    have hfol : Foll ((if D.k = 6 then ([] : List UInt8) else 124 :: tx D) ++ 93 :: l) ∧ ∀ c l', (if D.k = 6 then ([] : List UInt8) else 124 :: tx D) ++ 93 :: l = c :: l' → c ≠ 44 := by
      split
      · exact ⟨foll_one (by simp), fun c l' e => by simp at e; rw [← e.1]; decide⟩
      · exact ⟨foll_one (by simp), fun c l' e => by simp at e; rw [← e.1]; decide⟩
    have hX3 := hc3.heap HX.out (fun e => by have e : W.heap.size = r := e; omega)
    have hY3 := hc3.heap HY.out (fun e => by have e : W.heap.size + 1 = r := e; omega)
    have hC3 := HC0.out.trans hc3
    have hw3 := hc3.size
    have hbL : b + bgL L ≤ 256 := by split at hb <;> omega
    have hrow := row_any N HIH.out L hl1 hL1000 hmem W3 r s i b _ hr3 (cells_chg HCL.out hC3 hlv) hlv hs hr0 hfol.1 hfol.2 hbL
    have HROW := Lib.hid hrow
    have HX3 := Lib.hid hX3
    have HY3 := Lib.hid hY3
    have HC3 := Lib.hid hC3
    have HR0 := Lib.hid hr0
    have HDE := Lib.hid (And.intro he7 hoe)
    have HW3 : Hid (W.heap.size + 2 ≤ W3.heap.size) := Lib.hid (by have := HS2.out; omega)
    clear hrow hX3 hY3 hC3 hw3 hr0 hfol hc3 hr3 hpre he7 hoe hmem HX HY HC0 HR HSEE
    go_wp2_with fail
    refine HROW.out.mono ?_
    rintro e W4 ⟨ao, cap, E, rfl, hmap, hc4, hr4, hT4⟩
    have hw4 : W3.heap.size ≤ W4.heap.size := hc4.size
    have hLS : LsI W r s (i + (wrL L).length) (b + bgL L) N L (.slice ao L.length cap) E (.mk 6 0 ⟨#[]⟩ ⟨#[]⟩ []) ⟨6, 0, ⟨#[]⟩, ⟨#[]⟩, none, 0, []⟩ W4 :=
      ⟨HC3.out.trans hc4, hr4, hc4.heap HX3.out (fun e => by have e : W.heap.size = r := e; omega), hc4.heap HY3.out (fun e => by have e : W.heap.size + 1 = r := e; omega), hT4.weaken HW3.out (fun k hk => Nat.le_trans HW3.out hk), hmap, rfl, ⟨by simp, by simp, Nat.zero_le _, Nat.zero_le _⟩, 0, none, 0, rfl, by simp, by omega, fun i t hi => by simp at hi⟩
    have HLS := Lib.hid hLS
    have hr1 := HR0.out.app
    have HSEE := Lib.hid (see_any W4 r s (i + (wrL L).length) (b + bgL L) _ [124] hr4 hr1.2.1 hs (by simp))
    have HR1 := Lib.hid hr1.2.1
    clear hmap hc4 hr4 hT4 hLS hr1 HROW HX3 HY3 HC3 HR0
    go_wp2_with fail
    refine HSEE.out.mono ?_
    rintro e W5 ⟨hc5, (⟨hpre, rfl, hr5⟩ | ⟨hpre, rfl, hr5⟩)⟩
    · have h6 : ¬ D.k = 6 := by
        intro h
        rw [if_pos h] at hpre
        obtain ⟨q, e⟩ := hpre
        simp at e
      rw [if_neg h6] at HR1 hb
      have hr2 := Rest.app (a := [124]) HR1.out
      have hcall := HIH.out D hDn HDE.out.2 W5 r s (i + (wrL L).length + 1) (b + bgL L) _ hr5 (cells_chg HCL.out (HLS.out.hc.trans hc5) hlv) hlv hs hr2.2.1 (foll_one (by simp)) (by omega)
      have HCALL := Lib.hid hcall
      have HLS5 := Lib.hid (HLS.out.see hc5 hr5 hrl)
      have HR2 := Lib.hid (hr2.2.1.app).2.1
      clear hr2 hcall hc5 hr5 hpre HLS HSEE HR1
      go_wp2_with fail
      refine HCALL.out.mono ?_
      rintro e W6 ⟨te, rfl, hte, hfe, hc6, hr6, hrs6⟩
      have hw56 := HLS5.out.hc.size
      have hY5 := heap_lt HLS5.out.hY
      have hLS6 := HLS5.out.see hc6 hr6 hrl
      have hY6 := hLS6.hY
      have hLS7 := hLS6.put hrl hte hfe (hrs6.chg (S' := fun k => W.heap.size + 2 ≤ k) (Chg.refl (fun _ => False) _) (fun _ _ _ h => h) (fun k hk _ => by have hk : W5.heap.size ≤ k := hk; show W.heap.size + 2 ≤ k; omega) (Nat.le_refl _))
      have HLS7 := Lib.hid hLS7
      obtain ⟨gk, gn, gs, gu, gao, gcap, gl⟩ := te
      clear hte hfe hc6 hr6 hrs6 hLS6 hLS7 HLS5 HCALL
      simp only [TE.cells] at *
      go_wp2_with (with_reducible refine stop_op (o := ⟨_, .store 25 (.tmp 4) (.tmp 26), _, _, _, _⟩) ?_)
      refine Lib.hid ?_
      refine wpList_store_row (o := ⟨none, _, _, _, _, _⟩) rfl 25 (.tmp 4) (.tmp 26) rfl (W.heap.size + 1) #[.int .i8 gk, .int .i64 gn, .string gs, .string gu, .slice gao gl.length gcap] rfl rfl 25 nilC hY6 (infoTM' _ rfl) rfl (by simp [Value.oneCell']) ?_
      generalize W6.setRow (W.heap.size + 1) #[.int .i8 gk, .int .i64 gn, .string gs, .string gu, .slice gao gl.length gcap] = W7 at *
      have z0 : W7.cell? ⟨W.heap.size + 1, 0, none⟩ = some (.int .i8 gk) := (cells_at HLS7.out.hY 0 _ rfl).1
      have hk6 : (gk == 6) = false := by
        have h1 := HLS7.out.ht
        have h2 : gk = D.k := by rw [← h1]; rfl
        simp [h2, h6]
      have hk7 : (gk == 7) = false := by
        have h1 := HLS7.out.ht
        have h2 : gk = D.k := by rw [← h1]; rfl
        have := HDE.out.1
        simp [h2, this]
      have HSEE := Lib.hid (see_any W7 r s _ _ _ [93] HLS7.out.hr HR2.out hs (by simp))
      go_wp2_with fail
      refine HSEE.out.mono ?_
      rintro e W8 ⟨hc8, (⟨-, rfl, hr8⟩ | ⟨hf, -⟩)⟩
      · have HLS8 := Lib.hid (HLS7.out.see hc8 hr8 hrl)
        clear hc8 hr8 HSEE HLS7 z0 hk6 hk7 hY6
        go_wp2_with fail
        have HLX : Hid (∃ te, LsI W r s (i + (wrL L).length + 1 + (tx D).length + 1) (b + bgL L + bg D) N L (.slice ao L.length cap) E D te W8) := Lib.hid ⟨_, HLS8.out⟩
        clear HLS8
        have hEl : E.length = L.length := by
          obtain ⟨te, h⟩ := HLX.out
          have := congrArg List.length h.map
          simpa using this
        have HEL := Lib.hid hEl
        clear hEl
        go_loopw [7] (fun iv wr => ∃ (j : Nat) (te : TE), j ≤ L.length ∧ iv = .int .i64 ((j : Int) - 1) ∧ Hid (LsI W r s (i + (wrL L).length + 1 + (tx D).length + 1) (b + bgL L + bg D) N L (.slice ao L.length cap) E (rebuild (L.drop j) D) te wr)) (fun iv _ => (intOf iv + 1).toNat)
        case atStart =>
          obtain ⟨te, h⟩ := HLX.out
          exact ⟨L.length, te, Nat.le_refl _, rfl, Lib.hid (by rw [List.drop_length]; exact h)⟩
        case round =>
          clear HLX
          obtain ⟨j, te, hj, rfl, HI⟩ := hrel
          by_cases hj0 : 1 ≤ j
          · obtain ⟨m, rfl⟩ : ∃ m, j = m + 1 := ⟨j - 1, by omega⟩
            have e0 : (((m + 1 : Nat) : Int) - 1) = m := by omega
            rw [e0]
            obtain ⟨x, hx⟩ : ∃ x, E[m]? = some x := ⟨E[m]'(by have := HEL.out; omega), List.getElem?_eq_getElem _⟩
            obtain ⟨g, rfl, hg, hxc⟩ := HI.out.row.elem hx
            have hxm := List.mem_of_getElem? hx
            have hxr := HI.out.row.2 x hxm
            have hLm : L[m]? = some x.t := by rw [← HI.out.map, List.getElem?_map, hx]; rfl
            have hdr := (Below.refl wr.heap.size wr).drew
            have hIb := HI.out.see (chg_of_below hdr _) (HI.out.hr.keep hdr) hrl
            obtain ⟨xk, xn, xs, xu, xao, xcap, xl⟩ := x
            obtain ⟨yk, yn, ys, yu, yao, ycap, yl⟩ := te
            have hS : X18 g (m * 5) (W.heap.size + 1) xk xn xs xu (.slice xao xl.length xcap) yk yn ys yu (.slice yao yl.length ycap) wr.drew := by
              have hy := hIb.hY
              exact ⟨keep_cell (hxc 0 _ rfl) hdr, keep_cell (hxc 1 _ rfl) hdr, keep_cell (hxc 2 _ rfl) hdr, keep_cell (hxc 3 _ rfl) hdr, keep_cell (hxc 4 _ rfl) hdr, (cells_at hy 0 _ rfl).1, (cells_at hy 1 _ rfl).1, (cells_at hy 2 _ rfl).1, (cells_at hy 3 _ rfl).1, (cells_at hy 4 _ rfl).1⟩
            have hxr2 : fields xk xn xs xu ∧ RowS (fun k => W.heap.size + 2 ≤ k) N wr.drew (.slice xao xl.length xcap) xl := ⟨hxr.1, hxr.2.chg (chg_of_below hdr (fun _ => False)) (fun _ _ _ h => h) (fun k hk _ => hk.1) (Nat.le_refl _)⟩
            have HXR := Lib.hid hxr2
            have HIB := Lib.hid hIb
            have HLM := Lib.hid hLm
            have hw := HI.out.hc.size
            have hYl := heap_lt HI.out.hY
            have HYL : Hid (W.heap.size + 2 ≤ wr.drew.heap.size) := Lib.hid (show W.heap.size + 2 ≤ wr.heap.size by omega)
            clear hx hxc hxm hxr hLm hdr hIb hxr2 HI hg hw hYl e0 hj0
            have hmL : m < L.length := by omega
            go_wp2_with fail
            refine region_planZ 7 (X18 g (m * 5) (W.heap.size + 1) xk xn xs xu (.slice xao xl.length xcap) yk yn ys yu (.slice yao yl.length ycap)) [(0, 0), (1, 0), (2, 0), (3, 0), (4, 0), (5, 1), (6, 0), (7, 1)] (by kernel_rfl) (by kernel_rfl) (by kernel_rfl) hS ?_
            generalize wr.drew = WD at *
            iterate 5 (first | (refine planZ_skip rfl ?_ ?_; (focus (rfl)); (try simp only [Act.put, List.setIfInBounds_toArray, List.set_cons_zero, List.set_cons_succ])) | (refine planZ_take (v := ?_) rfl ?_ (fun w hSw => ?_) ?_; rotate_left; (focus (rfl)); (focus (unfold X18 at hSw; (go_simp <;> with_reducible rfl))); (try simp only [Act.put, List.setIfInBounds_toArray, List.set_cons_zero, List.set_cons_succ])))
            have hba := (Below.refl WD.heap.size WD).alloc (Nat.le_refl _) (.cells #[.int .i8 xk, .int .i64 xn, .string xs, .string xu, .slice xao xl.length xcap, .int .i8 yk, .int .i64 yn, .string ys, .string yu, .slice yao yl.length ycap] 25)
            have hSa := hS.keep hba
            refine planZ_run rfl ?_ (fun K hK => ?_)
            focus (rfl)
            go_simp
            refine hK.out _ _ (fun _ => hSa) ?_
            clear hK K
            (try simp only [Act.put, List.setIfInBounds_toArray, List.set_cons_zero, List.set_cons_succ])
            iterate 1 (first | (refine planZ_skip rfl ?_ ?_; (focus (rfl)); (try simp only [Act.put, List.setIfInBounds_toArray, List.set_cons_zero, List.set_cons_succ])) | (refine planZ_take (v := ?_) rfl ?_ (fun w hSw => ?_) ?_; rotate_left; (focus (rfl)); (focus (unfold X18 at hSw; (go_simp <;> with_reducible rfl))); (try simp only [Act.put, List.setIfInBounds_toArray, List.set_cons_zero, List.set_cons_succ])))
            have hI2 := HIB.out.see (chg_of_below hba _) (HIB.out.hr.keep hba) hrl
            have hY2 := hI2.hY
            obtain ⟨F, hyr⟩ := HIB.out.hrs
            have hrc := row_cons (S := fun k => W.heap.size + 2 ≤ k) (x := ⟨xk, xn, xs, xu, xao, xcap, xl⟩) (y := ⟨yk, yn, ys, yu, yao, ycap, yl⟩) HYL.out HXR.out.1 HXR.out.2 HIB.out.hf hyr
            have hI3 := hI2.put (te' := ⟨7, 0, ⟨#[]⟩, ⟨#[]⟩, some ⟨WD.heap.size, 0, none⟩, 2, [⟨xk, xn, xs, xu, xao, xcap, xl⟩, ⟨yk, yn, ys, yu, yao, ycap, yl⟩].map TE.t⟩) (d' := rebuild (L.drop m) D) hrl (by
              rw [drop_cons HLM.out, rebuild, ← HIB.out.ht]
              rfl) ⟨by simp, by simp, Nat.zero_le _, Nat.zero_le _⟩ hrc
            refine planZ_run rfl ?_ (fun K hK => ?_)
            focus (rfl)
            refine wp_store_row 25 (.tmp 4) (.tmp 58) rfl (W.heap.size + 1) #[.int .i8 7, .int .i64 0, .string ⟨#[]⟩, .string ⟨#[]⟩, .slice (some ⟨WD.heap.size, 0, none⟩) 2 2] rfl rfl 25 _ hY2 (infoTM' _ rfl) (by simp [TE.cells]) (by simp [Value.oneCell']) ?_
            refine hK.out _ _ (fun h => absurd rfl h) ?_
            clear hK K
            (try simp only [Act.put, List.setIfInBounds_toArray, List.set_cons_zero, List.set_cons_succ])
            refine planZ_done ?_
            have HF := Lib.hid hI3
            clear hba hSa hI2 hY2 hyr hrc hI3 hS
            go_wp2_with fail
            go_roundw
            case rel => exact ⟨m, _, by omega, rfl, HF⟩
            case measure => simp [intOf]
          · obtain rfl : j = 0 := by omega
            have hX := HI.out.hX
            have hY := HI.out.hY
            have hcs := chg_setRow wr W.heap.size te.cells.toArray
            have HXF := Lib.hid (setRow_heap wr W.heap.size _ te.cells.toArray _ _ hX)
            have HFIN : Hid (TrP W r s (i + (wrC t.l).length + 1) (b + (bg t - 1)) (nT t) t (.returned (.tuple #[.agg te.cells.toArray, .int .i64 0])) (wr.setRow W.heap.size te.cells.toArray)) := Lib.hid (by
              obtain ⟨F, hF⟩ := HI.out.hrs
              have ht := HI.out.ht
              rw [List.drop_zero, hRB.out] at ht
              refine ⟨te, rfl, ht, HI.out.hf, HI.out.hc.grow hcs (fun k hk e => by have e : k = W.heap.size := e; omega), ?_, ?_⟩
              · have h1 := hcs.heap HI.out.hr (fun e => by have e : r = W.heap.size := e; omega)
                rw [HBE.out, HWL.out]
                rw [if_neg h6, if_neg h6, List.length_cons, show i + ((wrL L).length + ((tx D).length + 1)) + 1 = i + (wrL L).length + 1 + (tx D).length + 1 from by omega, show b + (bgL L + bg D) = b + bgL L + bg D from by omega]
                exact h1
              · refine RowS.nT (f := F) (hF.chg hcs (fun k hk _ e => ?_) (fun k hk _ => ?_) (Nat.le_refl _)) ht
                · have e : k = W.heap.size := e
                  have hk : W.heap.size + 2 ≤ k := hk
                  omega
                · have hk : W.heap.size + 2 ≤ k := hk
                  show W.heap.size ≤ k
                  omega)
            have HX := Lib.hid hX
            have HY := Lib.hid hY
            obtain ⟨yk, yn, ys, yu, yao, ycap, yl⟩ := te
            simp only [TE.cells] at *
            clear hX hY hcs
            go_wp2_with (with_reducible refine stop_op (o := ⟨_, .load 25 (.tmp 4), _, _, _, _⟩) ?_)
            refine Lib.hid ?_
            refine wpList_load_row (o := ⟨_, _, _, _, _, _⟩) rfl 25 (.tmp 4) rfl (W.heap.size + 1) rfl 25 #[.int .i8 yk, .int .i64 yn, .string ys, .string yu, .slice yao yl.length ycap] (0, 0) _ HY.out Tryd.underlying25 rfl (infoTM' _ rfl) ?_
            go_wp2_with (with_reducible refine stop_op (o := ⟨_, .store 25 (.tmp 2) (.tmp 59), _, _, _, _⟩) ?_)
            refine Lib.hid ?_
            refine wpList_store_row (o := ⟨none, _, _, _, _, _⟩) rfl 25 (.tmp 2) (.tmp 59) rfl W.heap.size #[.int .i8 yk, .int .i64 yn, .string ys, .string yu, .slice yao yl.length ycap] rfl rfl 25 zT HX.out (infoTM' _ rfl) rfl (by simp [Value.oneCell']) ?_
            go_wp2_with fail
            exact ret_row HXF.out rfl Tryd.underlying25 rfl (infoTM' _ rfl) rfl rfl HFIN.out
      · exact absurd ⟨_, rfl⟩ hf
    · have h6 : D.k = 6 := by
        by_cases h : D.k = 6
        · exact h
        · exfalso
          rw [if_neg h] at hpre
          exact hpre ⟨_, rfl⟩
      rw [if_pos h6, List.nil_append] at HR1
      have hD0 : D = .mk 6 0 ⟨#[]⟩ ⟨#[]⟩ [] := by
        obtain ⟨k, n, s', u, l'⟩ := D
        have h6' : k = 6 := h6
        obtain ⟨rfl, rfl, rfl, rfl⟩ := okT_nil HDE.out.2 h6'
        subst h6'
        rfl
      have hLS5 := HLS.out.see hc5 hr5 hrl
      rw [← hD0] at hLS5
      have HLS5 := Lib.hid hLS5
      have HSEE2 := Lib.hid (see_any W5 r s _ _ _ [93] hr5 HR1.out hs (by simp))
      clear hc5 hr5 hpre HLS HSEE hLS5 hD0
      go_wp2_with fail
      refine HSEE2.out.mono ?_
      rintro e W8 ⟨hc8, (⟨-, rfl, hr8⟩ | ⟨hf, -⟩)⟩
      · have HLS8 := Lib.hid (HLS5.out.see hc8 hr8 hrl)
        clear hc8 hr8 HSEE2 HLS5
        go_wp2_with fail
        have HLX : Hid (∃ te, LsI W r s (i + (wrL L).length + 1) (b + bgL L) N L (.slice ao L.length cap) E D te W8) := Lib.hid ⟨_, HLS8.out⟩
        clear HLS8
        have hEl : E.length = L.length := by
          obtain ⟨te, h⟩ := HLX.out
          have := congrArg List.length h.map
          simpa using this
        have HEL := Lib.hid hEl
        clear hEl
        go_loopw [7] (fun iv wr => ∃ (j : Nat) (te : TE), j ≤ L.length ∧ iv = .int .i64 ((j : Int) - 1) ∧ Hid (LsI W r s (i + (wrL L).length + 1) (b + bgL L) N L (.slice ao L.length cap) E (rebuild (L.drop j) D) te wr)) (fun iv _ => (intOf iv + 1).toNat)
        case atStart =>
          obtain ⟨te, h⟩ := HLX.out
          exact ⟨L.length, te, Nat.le_refl _, rfl, Lib.hid (by rw [List.drop_length]; exact h)⟩
        case round =>
          clear HLX
          obtain ⟨j, te, hj, rfl, HI⟩ := hrel
          by_cases hj0 : 1 ≤ j
          · obtain ⟨m, rfl⟩ : ∃ m, j = m + 1 := ⟨j - 1, by omega⟩
            have e0 : (((m + 1 : Nat) : Int) - 1) = m := by omega
            rw [e0]
            obtain ⟨x, hx⟩ : ∃ x, E[m]? = some x := ⟨E[m]'(by have := HEL.out; omega), List.getElem?_eq_getElem _⟩
            obtain ⟨g, rfl, hg, hxc⟩ := HI.out.row.elem hx
            have hxm := List.mem_of_getElem? hx
            have hxr := HI.out.row.2 x hxm
            have hLm : L[m]? = some x.t := by rw [← HI.out.map, List.getElem?_map, hx]; rfl
            have hdr := (Below.refl wr.heap.size wr).drew
            have hIb := HI.out.see (chg_of_below hdr _) (HI.out.hr.keep hdr) hrl
            obtain ⟨xk, xn, xs, xu, xao, xcap, xl⟩ := x
            obtain ⟨yk, yn, ys, yu, yao, ycap, yl⟩ := te
            have hS : X18 g (m * 5) (W.heap.size + 1) xk xn xs xu (.slice xao xl.length xcap) yk yn ys yu (.slice yao yl.length ycap) wr.drew := by
              have hy := hIb.hY
              exact ⟨keep_cell (hxc 0 _ rfl) hdr, keep_cell (hxc 1 _ rfl) hdr, keep_cell (hxc 2 _ rfl) hdr, keep_cell (hxc 3 _ rfl) hdr, keep_cell (hxc 4 _ rfl) hdr, (cells_at hy 0 _ rfl).1, (cells_at hy 1 _ rfl).1, (cells_at hy 2 _ rfl).1, (cells_at hy 3 _ rfl).1, (cells_at hy 4 _ rfl).1⟩
            have hxr2 : fields xk xn xs xu ∧ RowS (fun k => W.heap.size + 2 ≤ k) N wr.drew (.slice xao xl.length xcap) xl := ⟨hxr.1, hxr.2.chg (chg_of_below hdr (fun _ => False)) (fun _ _ _ h => h) (fun k hk _ => hk.1) (Nat.le_refl _)⟩
            have HXR := Lib.hid hxr2
            have HIB := Lib.hid hIb
            have HLM := Lib.hid hLm
            have hw := HI.out.hc.size
            have hYl := heap_lt HI.out.hY
            have HYL : Hid (W.heap.size + 2 ≤ wr.drew.heap.size) := Lib.hid (show W.heap.size + 2 ≤ wr.heap.size by omega)
            clear hx hxc hxm hxr hLm hdr hIb hxr2 HI hg hw hYl e0 hj0
            have hmL : m < L.length := by omega
            go_wp2_with fail
            refine region_planZ 7 (X18 g (m * 5) (W.heap.size + 1) xk xn xs xu (.slice xao xl.length xcap) yk yn ys yu (.slice yao yl.length ycap)) [(0, 0), (1, 0), (2, 0), (3, 0), (4, 0), (5, 1), (6, 0), (7, 1)] (by kernel_rfl) (by kernel_rfl) (by kernel_rfl) hS ?_
            generalize wr.drew = WD at *
            iterate 5 (first | (refine planZ_skip rfl ?_ ?_; (focus (rfl)); (try simp only [Act.put, List.setIfInBounds_toArray, List.set_cons_zero, List.set_cons_succ])) | (refine planZ_take (v := ?_) rfl ?_ (fun w hSw => ?_) ?_; rotate_left; (focus (rfl)); (focus (unfold X18 at hSw; (go_simp <;> with_reducible rfl))); (try simp only [Act.put, List.setIfInBounds_toArray, List.set_cons_zero, List.set_cons_succ])))
            have hba := (Below.refl WD.heap.size WD).alloc (Nat.le_refl _) (.cells #[.int .i8 xk, .int .i64 xn, .string xs, .string xu, .slice xao xl.length xcap, .int .i8 yk, .int .i64 yn, .string ys, .string yu, .slice yao yl.length ycap] 25)
            have hSa := hS.keep hba
            refine planZ_run rfl ?_ (fun K hK => ?_)
            focus (rfl)
            go_simp
            refine hK.out _ _ (fun _ => hSa) ?_
            clear hK K
            (try simp only [Act.put, List.setIfInBounds_toArray, List.set_cons_zero, List.set_cons_succ])
            iterate 1 (first | (refine planZ_skip rfl ?_ ?_; (focus (rfl)); (try simp only [Act.put, List.setIfInBounds_toArray, List.set_cons_zero, List.set_cons_succ])) | (refine planZ_take (v := ?_) rfl ?_ (fun w hSw => ?_) ?_; rotate_left; (focus (rfl)); (focus (unfold X18 at hSw; (go_simp <;> with_reducible rfl))); (try simp only [Act.put, List.setIfInBounds_toArray, List.set_cons_zero, List.set_cons_succ])))
            have hI2 := HIB.out.see (chg_of_below hba _) (HIB.out.hr.keep hba) hrl
            have hY2 := hI2.hY
            obtain ⟨F, hyr⟩ := HIB.out.hrs
            have hrc := row_cons (S := fun k => W.heap.size + 2 ≤ k) (x := ⟨xk, xn, xs, xu, xao, xcap, xl⟩) (y := ⟨yk, yn, ys, yu, yao, ycap, yl⟩) HYL.out HXR.out.1 HXR.out.2 HIB.out.hf hyr
            have hI3 := hI2.put (te' := ⟨7, 0, ⟨#[]⟩, ⟨#[]⟩, some ⟨WD.heap.size, 0, none⟩, 2, [⟨xk, xn, xs, xu, xao, xcap, xl⟩, ⟨yk, yn, ys, yu, yao, ycap, yl⟩].map TE.t⟩) (d' := rebuild (L.drop m) D) hrl (by
              rw [drop_cons HLM.out, rebuild, ← HIB.out.ht]
              rfl) ⟨by simp, by simp, Nat.zero_le _, Nat.zero_le _⟩ hrc
            refine planZ_run rfl ?_ (fun K hK => ?_)
            focus (rfl)
            refine wp_store_row 25 (.tmp 4) (.tmp 58) rfl (W.heap.size + 1) #[.int .i8 7, .int .i64 0, .string ⟨#[]⟩, .string ⟨#[]⟩, .slice (some ⟨WD.heap.size, 0, none⟩) 2 2] rfl rfl 25 _ hY2 (infoTM' _ rfl) (by simp [TE.cells]) (by simp [Value.oneCell']) ?_
            refine hK.out _ _ (fun h => absurd rfl h) ?_
            clear hK K
            (try simp only [Act.put, List.setIfInBounds_toArray, List.set_cons_zero, List.set_cons_succ])
            refine planZ_done ?_
            have HF := Lib.hid hI3
            clear hba hSa hI2 hY2 hyr hrc hI3 hS
            go_wp2_with fail
            go_roundw
            case rel => exact ⟨m, _, by omega, rfl, HF⟩
            case measure => simp [intOf]
          · obtain rfl : j = 0 := by omega
            have hX := HI.out.hX
            have hY := HI.out.hY
            have hcs := chg_setRow wr W.heap.size te.cells.toArray
            have HXF := Lib.hid (setRow_heap wr W.heap.size _ te.cells.toArray _ _ hX)
            have HFIN : Hid (TrP W r s (i + (wrC t.l).length + 1) (b + (bg t - 1)) (nT t) t (.returned (.tuple #[.agg te.cells.toArray, .int .i64 0])) (wr.setRow W.heap.size te.cells.toArray)) := Lib.hid (by
              obtain ⟨F, hF⟩ := HI.out.hrs
              have ht := HI.out.ht
              rw [List.drop_zero, hRB.out] at ht
              refine ⟨te, rfl, ht, HI.out.hf, HI.out.hc.grow hcs (fun k hk e => by have e : k = W.heap.size := e; omega), ?_, ?_⟩
              · have h1 := hcs.heap HI.out.hr (fun e => by have e : r = W.heap.size := e; omega)
                rw [HBE.out, HWL.out]
                rw [if_pos h6, if_pos h6, List.length_nil, show i + ((wrL L).length + 0) + 1 = i + (wrL L).length + 1 from by omega, show b + (bgL L + 0) = b + bgL L from by omega]
                exact h1
              · refine RowS.nT (f := F) (hF.chg hcs (fun k hk _ e => ?_) (fun k hk _ => ?_) (Nat.le_refl _)) ht
                · have e : k = W.heap.size := e
                  have hk : W.heap.size + 2 ≤ k := hk
                  omega
                · have hk : W.heap.size + 2 ≤ k := hk
                  show W.heap.size ≤ k
                  omega)
            have HX := Lib.hid hX
            have HY := Lib.hid hY
            obtain ⟨yk, yn, ys, yu, yao, ycap, yl⟩ := te
            simp only [TE.cells] at *
            clear hX hY hcs
            go_wp2_with (with_reducible refine stop_op (o := ⟨_, .load 25 (.tmp 4), _, _, _, _⟩) ?_)
            refine Lib.hid ?_
            refine wpList_load_row (o := ⟨_, _, _, _, _, _⟩) rfl 25 (.tmp 4) rfl (W.heap.size + 1) rfl 25 #[.int .i8 yk, .int .i64 yn, .string ys, .string yu, .slice yao yl.length ycap] (0, 0) _ HY.out Tryd.underlying25 rfl (infoTM' _ rfl) ?_
            go_wp2_with (with_reducible refine stop_op (o := ⟨_, .store 25 (.tmp 2) (.tmp 59), _, _, _, _⟩) ?_)
            refine Lib.hid ?_
            refine wpList_store_row (o := ⟨none, _, _, _, _, _⟩) rfl 25 (.tmp 2) (.tmp 59) rfl W.heap.size #[.int .i8 yk, .int .i64 yn, .string ys, .string yu, .slice yao yl.length ycap] rfl rfl 25 zT HX.out (infoTM' _ rfl) rfl (by simp [Value.oneCell']) ?_
            go_wp2_with fail
            exact ret_row HXF.out rfl Tryd.underlying25 rfl (infoTM' _ rfl) rfl rfl HFIN.out
      · exact absurd ⟨_, rfl⟩ hf
end Go.Proofs.YtaomakhhkjflaaaDoor
