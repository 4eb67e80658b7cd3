/- the reader: row. Conditions: the reader reads; the table of letters reads as laid; terms are read. -/
import Derived.Test.YtaomakhhkjflaaaDoorXp
import Derived.Test.YtaomakhhkjflaaaDoorJz
namespace Go.Proofs.YtaomakhhkjflaaaDoor
open Go.ChangeShapes Go.WideShapes Go.ChangeAt Go.RowKit
set_option linter.unusedVariables false
set_option maxRecDepth 100000
theorem infoTM2 : ∃ i z, Tryd.prog.info? 25 = some i ∧ i.zero = some z ∧ i.size = 5 ∧ i.bytes = 72 ∧ z.cells.size = 5 := by
  have h : (Tryd.prog.info? 25).map (fun i => (i.zero.map (fun z => z.cells.size), i.size, i.bytes)) = some (some 5, 5, 72) := by kernel_rfl
  cases hi : Tryd.prog.info? 25 with
  | none => rw [hi] at h; cases h
  | some i =>
    rw [hi] at h
    simp only [Option.map_some, Option.some.injEq, Prod.mk.injEq] at h
    obtain ⟨h1, h2, h3⟩ := h
    cases hz : i.zero with
    | none => rw [hz] at h1; cases h1
    | some z =>
      rw [hz] at h1
      exact ⟨i, z, rfl, hz, h2, h3, by simpa using h1⟩
/-- a term is read -/
def TrP (W : World) (r : Nat) (s : ByteArray) (i b F : Nat) (t : Tm) (e : Ending) (W' : World) : Prop :=
  ∃ te : TE, e = .returned (.tuple #[.agg te.cells.toArray, .int .i64 0]) ∧ te.t = t ∧ fields te.k te.n te.s te.u ∧ Chg (fun k => k = r) W W' ∧ RdAt W' r s i b ∧ RowS (fun k => W.heap.size ≤ k) F W' te.lv te.l
def TermRd (N : Nat) : Prop := ∀ (t : Tm), nT t ≤ N → okT t → ∀ (W : World) (r : Nat) (s : ByteArray) (i b : Nat) (l : List UInt8), RdAt W r s i b → Cells W 0 letL → 0 ≠ r → s.size ≤ 1099511627776 → Rest s i (tx t ++ l) → Foll l → b + bg t ≤ 256 →
  Calls Tryd.prog 26 #[.pointer (some ⟨r, 0, none⟩)] W (TrP W r s (i + (tx t).length) (b + bg t) (nT t) t)
def RowP (W : World) (r : Nat) (s : ByteArray) (i b F : Nat) (L : List Tm) (e : Ending) (W' : World) : Prop :=
  ∃ (ao : Option Addr) (cap : Nat) (E : List TE), e = .returned (.tuple #[.slice ao L.length cap, .int .i64 0]) ∧ E.map TE.t = L ∧ Chg (fun k => k = r) W W' ∧ RdAt W' r s i b ∧ TRow (fun k => W.heap.size ≤ k) F W' W.heap.size (.slice ao L.length cap) E
def lenOf : Value → Nat
  | .slice _ n _ => n
  | _ => 0
/-- so far the row is read -/
structure RwI (W : World) (r : Nat) (s : ByteArray) (i b N : Nat) (L : List Tm) (l : List UInt8) (k : Nat) (lv : Value) (E : List TE) (p : Nat) (wr' : World) : Prop where
  hc : Chg (fun k => k = r) W wr'
  hr : RdAt wr' r s p (b + bgL (L.take k))
  rest : Rest s p (wrL (L.drop k) ++ l)
  pos : p + (wrL (L.drop k)).length = i + (wrL L).length
  row : TRow (fun k => W.heap.size ≤ k) N wr' W.heap.size lv E
  map : E.map TE.t = L.take k
theorem bgL_app : ∀ l m : List Tm, bgL (l ++ m) = bgL l + bgL m
  | [], m => by simp [bgL]
  | a :: l, m => by
    rw [List.cons_append, bgL, bgL, bgL_app l m]
    omega
theorem bgL_take (L : List Tm) (k : Nat) : bgL L = bgL (L.take k) + bgL (L.drop k) := by
  rw [← bgL_app, List.take_append_drop]
set_option maxHeartbeats 16000000 in
theorem row_any (N : Nat) (ih : TermRd N) (L : List Tm) (hL1 : 1 ≤ L.length) (hL2 : L.length ≤ 1000) (hok : ∀ t ∈ L, okT t ∧ nT t ≤ N) (W : World) (r : Nat) (s : ByteArray) (i b : Nat) (l : List UInt8) (h : RdAt W r s i b) (hcl : Cells W 0 letL) (hlv : 0 ≠ r)
    (hs : s.size ≤ 1099511627776) (hrest : Rest s i (wrL L ++ l)) (hf : Foll l) (hne : ∀ c l', l = c :: l' → c ≠ 44) (hb : b + bgL L ≤ 256) : Calls Tryd.prog 41 #[.pointer (some ⟨r, 0, none⟩)] W (RowP W r s (i + (wrL L).length) (b + bgL L) N L) := by
  have hrl := heap_lt h
  have HI0 : Hid (RwI W r s i b N L l 0 (.slice none 0 0) [] i W) := Lib.hid ⟨Chg.refl _ _, by simpa [bgL] using h, by simpa using hrest, by simp, ⟨World.ownsRow_nil _ _ _ _, fun x hx => by cases hx⟩, by simp⟩
  have HCL := Lib.hid hcl
  have HOK := Lib.hid hok
  have HF := Lib.hid hf
  have HNE := Lib.hid hne
  have HIH := Lib.hid ih
  clear h hcl hok hrest hf hne ih
  go_enter Tryd.func41, Tryd.ntmps41
  go_wp2_with fail
  go_loopw [2] (fun lv wr' => ∃ (k : Nat) (E : List TE) (p : Nat), k < L.length ∧ E.length = k ∧ lenOf lv = k ∧ Hid (RwI W r s i b N L l k lv E p wr')) (fun lv _ => L.length - lenOf lv)
  case atStart => exact ⟨0, [], i, by omega, rfl, rfl, HI0⟩
  case round =>
    clear HI0
    obtain ⟨k, E, p, hk, hE, hlen, HI⟩ := hrel
    have HEL := Lib.hid hE
    clear hE
    obtain ⟨t, ht⟩ : ∃ t, L[k]? = some t := ⟨L[k], by simp [hk]⟩
    have hdrop := drop_cons ht
    have hmem := HOK.out t (List.mem_of_getElem? ht)
    have hr1 := HI.out.rest
    rw [hdrop, wrL_cons, List.append_assoc] at hr1
    have hbk := bgL_take L k
    have hbk1 : bgL (L.drop k) = bg t + bgL (L.drop (k + 1)) := by rw [hdrop, bgL]
    have hfol : Foll (wrM (L.drop (k + 1)) ++ l) := by
      cases hd : L.drop (k + 1) with
      | nil => rw [wrM]; exact HF.out
      | cons a m => rw [wrM]; exact foll_one (.inl rfl)
    have hcall := HIH.out t hmem.2 hmem.1 _ r s p (b + bgL (L.take k)) _ HI.out.hr (cells_chg HCL.out HI.out.hc hlv) hlv hs hr1 hfol (by omega)
    have hrest2 := (hr1.app).2.1
    have hpos := HI.out.pos
    rw [hdrop, wrL_cons, List.length_append] at hpos
    have htk : bgL (L.take k) + bg t = bgL (L.take (k + 1)) := by
      rw [List.take_add_one, ht, bgL_app]
      simp [bgL]
    rw [Nat.add_assoc, htk] at hcall
    have HCALL := Lib.hid hcall
    have HREST := Lib.hid hrest2
    have HPOS := Lib.hid hpos
    have HT := Lib.hid ht
    have HNT := Lib.hid hmem.2
    clear hdrop hmem hr1 hbk hbk1 hfol hcall hrest2 hpos htk ht
    go_wp2_with fail
    refine HCALL.out.mono ?_
    rintro e w2 ⟨te, rfl, hte, hfe, hc2, hr2, hrs2⟩
    obtain ⟨gk, gn, gs, gu, gao, gcap, gl⟩ := te
    have hsz := HI.out.hc.size
    have hob := own_lt HI.out.row.1 (Nat.le_refl _)
    have hba0 := own_base HI.out.row.1
    have hrow2 := HI.out.row.chg hc2 (fun k e hk => by have e : k = r := e; omega) (fun k e => by have e : k = r := e; omega)
    have hb3 := (Below.refl w2.heap.size w2).alloc (Nat.le_refl _) (.cells #[.int .i8 gk, .int .i64 gn, .string gs, .string gu, .slice gao gl.length gcap] 25)
    have hn3 := heap_new w2 (.cells #[.int .i8 gk, .int .i64 gn, .string gs, .string gu, .slice gao gl.length gcap] 25)
    have hs3 : (w2.alloc (.cells #[.int .i8 gk, .int .i64 gn, .string gs, .string gu, .slice gao gl.length gcap] 25)).heap.size = w2.heap.size + 1 := by simp
    have hb4 := hb3.alloc hb3.size (.cells #[.int .i8 gk, .int .i64 gn, .string gs, .string gu, .slice gao gl.length gcap] 25)
    have hn4 := heap_new (w2.alloc (.cells #[.int .i8 gk, .int .i64 gn, .string gs, .string gu, .slice gao gl.length gcap] 25)) (.cells #[.int .i8 gk, .int .i64 gn, .string gs, .string gu, .slice gao gl.length gcap] 25)
    rw [hs3] at hn4
    have hrow4 : TRow (fun k => W.heap.size ≤ k) N ((w2.alloc (.cells #[.int .i8 gk, .int .i64 gn, .string gs, .string gu, .slice gao gl.length gcap] 25)).alloc (.cells #[.int .i8 gk, .int .i64 gn, .string gs, .string gu, .slice gao gl.length gcap] 25)) W.heap.size _ E :=
      hrow2.chg (chg_of_below hb4 (fun _ => False)) (fun _ h => h.elim) (fun _ h => h.elim)
    have hrs4 := hrs2.chg (S' := fun k => wr.heap.size ≤ k) (chg_of_below hb4 (fun _ => False)) (fun _ _ _ h => h) (fun _ h _ => h) HNT.out
    have hc4 := (HI.out.hc.trans hc2).trans (chg_of_below hb4 _)
    have hr4 := hr2.keep hb4
    obtain ⟨y0, -⟩ := cells_at hn3 0 _ rfl
    obtain ⟨y1, -⟩ := cells_at hn3 1 _ rfl
    obtain ⟨y2, -⟩ := cells_at hn3 2 _ rfl
    obtain ⟨y3, -⟩ := cells_at hn3 3 _ rfl
    obtain ⟨y4, -⟩ := cells_at hn3 4 _ rfl
    have hw2s := hc2.size
    have HROW4 := Lib.hid hrow4
    have HRS4 := Lib.hid hrs4
    have HC4 := Lib.hid hc4
    have HR4 := Lib.hid hr4
    have HN4 := Lib.hid hn4
    have HTE := Lib.hid hte
    have HFE := Lib.hid hfe
    have HOB := Lib.hid hob
    have HBA := Lib.hid hba0
    have hw4 : W.heap.size ≤ ((w2.alloc (.cells #[.int .i8 gk, .int .i64 gn, .string gs, .string gu, .slice gao gl.length gcap] 25)).alloc (.cells #[.int .i8 gk, .int .i64 gn, .string gs, .string gu, .slice gao gl.length gcap] 25)).heap.size := hc4.size
    have HW4 := Lib.hid hw4
    clear hrow2 hb3 hn3 hb4 hn4 hrow4 hrs4 hc4 hr4 hte hfe hc2 hr2 hrs2 hob hba0 hw4 HCALL
    simp only [TE.cells]
    go_wp2_with (with_reducible refine stop_op (o := ⟨_, .store 25 (.tmp 4) (.tmp 9), _, _, _, _⟩) ?_)
    refine Lib.hid ?_
    refine wpList_store_new (o := ⟨none, _, _, _, _, _⟩) rfl 25 (.tmp 4) (.tmp 9) rfl #[.int .i8 gk, .int .i64 gn, .string gs, .string gu, .slice gao gl.length gcap] rfl rfl (infoTM' _ rfl) rfl (by simp [Value.oneCell']) ?_
    obtain ⟨i0, z0, q1, q2, q3, q4, q5⟩ := infoTM2
    generalize w2.alloc (.cells #[.int .i8 gk, .int .i64 gn, .string gs, .string gu, .slice gao gl.length gcap] 25) = w3 at *
    go_wp2_with (at_builtin; refine stop_here ?_)
    refine Lib.hid ?_
    refine wpList_append_own2 rfl (.tmp 14) (.tmp 16) 23 rfl W.heap.size 25 i0 z0 5 72 Tryd.underlying23 q1 q2 q3 q4 q5 (by decide) _ E.length (tcs E) rfl HROW4.out.1 ⟨w2.heap.size + 1, 0, none⟩ 1 1 [.int .i8 gk, .int .i64 gn, .string gs, .string gu, .slice gao gl.length gcap] rfl rfl (fun q u hq => by
      rw [Addr.add_lit, Nat.zero_add]
      exact (cells_at HN4.out q u (by simpa using hq)).1) (by simp [Value.oneCell']) (by have := HEL.out; unfold maxLen; omega) (by have := HEL.out; omega) HW4.out ?_
    intro v5 W5 hown5 hg5 hwh5
    have he1 : E.length + 1 = k + 1 := by rw [HEL.out]
    obtain ⟨vo, vc, rfl⟩ := own_slice hown5
    have hpush := HROW4.out.push (te := ⟨gk, gn, gs, gu, gao, gcap, gl⟩) HFE.out (HRS4.out.chg (Chg.refl (fun _ => False) _) (fun _ _ _ h => h) (fun k hk _ => ⟨by have hk : wr.heap.size ≤ k := hk; omega, fun e => by have := HOB.out k e; have hk : wr.heap.size ≤ k := hk; omega⟩) (Nat.le_refl _)) hown5 hg5 hwh5
    rw [he1] at hpush
    rw [he1]
    clear he1
    have hc5 := chg_grown hg5
    have hC5 := HC4.out.grow hc5 (fun k hk e => by have := HBA.out k e.symm; omega)
    have hR5 := hc5.heap HR4.out (fun e => by have := HBA.out r e.symm; omega)
    have hmap5 : (E ++ [(⟨gk, gn, gs, gu, gao, gcap, gl⟩ : TE)]).map TE.t = L.take (k + 1) := by
      rw [List.map_append, HI.out.map, List.take_add_one, HT.out]
      simp [HTE.out]
    have HPUSH := Lib.hid hpush
    have HC5 := Lib.hid hC5
    have HR5 : Hid (RdAt W5 r s (p + (tx t).length) (b + bgL (L.take (k + 1)))) := Lib.hid hR5
    have HMAP := Lib.hid hmap5
    have HSEE := Lib.hid (see_any W5 r s (p + (tx t).length) (b + bgL (L.take (k + 1))) _ [44] HR5.out HREST.out hs (by simp))
    clear hpush hc5 hC5 hR5 hmap5 hown5 hg5 hwh5 y0 y1 y2 y3 y4 HROW4 HRS4 HC4 HR4 HN4
    go_wp2_with fail
    refine HSEE.out.mono ?_
    rintro e W6 ⟨hc6, (⟨hpre, rfl, hr6⟩ | ⟨hpre, rfl, hr6⟩)⟩
    · have hk1 : k + 1 < L.length := by
        rcases Nat.lt_or_ge (k + 1) L.length with h | h
        · exact h
        · exfalso
          rw [List.drop_eq_nil_of_le h, wrM, List.nil_append] at hpre
          obtain ⟨l', e⟩ := hpre
          exact HNE.out 44 l' e.symm rfl
      obtain ⟨t2, ht2⟩ : ∃ t2, L[k + 1]? = some t2 := ⟨L[k + 1], by simp [hk1]⟩
      have hd2 := drop_cons ht2
      have hM : wrM (L.drop (k + 1)) = 44 :: wrL (L.drop (k + 1)) := by rw [hd2, wrM, wrL_cons]
      have hrest3 : Rest s (p + (tx t).length + 1) (wrL (L.drop (k + 1)) ++ l) := by
        have h := HREST.out
        rw [hM] at h
        exact (Rest.app (a := [44]) h).2.1
      have HFIN : Hid (RwI W r s i b N L l (k + 1) (.slice vo (k + 1) vc) (E ++ [(⟨gk, gn, gs, gu, gao, gcap, gl⟩ : TE)]) (p + (tx t).length + 1) W6) := Lib.hid
        ⟨HC5.out.trans hc6, hr6, hrest3, by
          have h1 := HPOS.out
          rw [hM, List.length_cons] at h1
          omega, HPUSH.out.chg hc6 (fun k e hk => by have e : k = r := e; omega) (fun k e => by have e : k = r := e; omega), HMAP.out⟩
      clear hd2 hM hrest3 hc6 hr6 ht2 hpre
      go_wp2_with fail
      go_roundw
      case rel => exact ⟨k + 1, _, _, hk1, by simp [HEL.out], rfl, HFIN⟩
      case measure => simp [lenOf] at hlen ⊢; omega
    · have hk1 : k + 1 = L.length := by
        rcases Nat.lt_or_ge (k + 1) L.length with h | h
        · exfalso
          obtain ⟨t2, ht2⟩ : ∃ t2, L[k + 1]? = some t2 := ⟨L[k + 1], by simp [h]⟩
          rw [drop_cons ht2, wrM] at hpre
          exact hpre ⟨_, rfl⟩
        · omega
      have HFIN : Hid (RowP W r s (i + (wrL L).length) (b + bgL L) N L (.returned (.tuple #[.slice vo (k + 1) vc, .int .i64 0])) W6) := Lib.hid (by
        have hEl : k + 1 = L.length := by omega
        refine ⟨vo, vc, E ++ [⟨gk, gn, gs, gu, gao, gcap, gl⟩], by rw [hEl], ?_, HC5.out.trans hc6, ?_, ?_⟩
        · rw [HMAP.out, hk1, List.take_length]
        · have h1 := HPOS.out
          rw [hk1, List.drop_length, wrM] at h1
          rw [hk1, List.take_length] at hr6
          have h2 : p + (tx t).length = i + (wrL L).length := by simpa using h1
          rw [h2] at hr6
          exact hr6
        · have h3 := HPUSH.out.chg hc6 (fun k e hk => by have e : k = r := e; omega) (fun k e => by have e : k = r := e; omega)
          rw [hEl] at h3
          exact h3)
      clear hc6 hr6 hpre hk1
      go_wp2_with fail
      go_ret2
      exact HFIN.out
end Go.Proofs.YtaomakhhkjflaaaDoor
