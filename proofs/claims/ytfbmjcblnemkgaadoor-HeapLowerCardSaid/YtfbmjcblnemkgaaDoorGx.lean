/- the reference's Size and Tuple, walked. Conditions: the terms read and may be. -/
import Derived.Test.YtfbmjcblnemkgaaDoorGs
namespace Go.Proofs.YtfbmjcblnemkgaaDoor
open Go.ChangeShapes Go.WideShapes Go.ChangeAt Go.RowKit
set_option linter.unusedVariables false
set_option maxRecDepth 100000
theorem rsizeT_any (f : Nat) (t : Tm) (v : Value) (w : World) (hv : TermV f w v t) : Calls Tryd.prog 15 #[v] w (IntPost w (siz t 257)) := by
  have hle := siz_le t 257 (by omega)
  obtain ⟨k, n, s, u, l, ao, cap, rfl, rfl, hf, hl, hcap, hrow⟩ := hv.mk'
  have hB := (Below.refl w.heap.size w).alloc (Nat.le_refl _) (.cells #[.int .i8 k, .int .i64 n, .string s, .string u, .slice ao l.length cap] 31)
  have hn := heap_new w (.cells #[.int .i8 k, .int .i64 n, .string s, .string u, .slice ao l.length cap] 31)
  have HC := Lib.hid (size_any f _ _ _ 257 (hv.keep hB) (by omega) (by omega))
  obtain ⟨x0, -⟩ := cells_at hn 0 _ rfl
  obtain ⟨x1, -⟩ := cells_at hn 1 _ rfl
  obtain ⟨x2, -⟩ := cells_at hn 2 _ rfl
  obtain ⟨x3, -⟩ := cells_at hn 3 _ rfl
  obtain ⟨x4, -⟩ := cells_at hn 4 _ rfl
  have HB := Lib.hid hB
  clear hv hrow hn hB
  generalize siz (.mk k n s u l) 257 = r at *
  have hmin : min r 257 = r := by omega
  go_enter Tryd.func15, Tryd.ntmps15
  go_wp2_with fail
  refine HC.out.mono ?_
  rintro e w1 ⟨rfl, hb1⟩
  have HB1 := Lib.hid (HB.out.trans (hb1.mono HB.out.size))
  clear hb1 x0 x1 x2 x3 x4
  go_wp2_with fail
  go_ret
  exact ⟨rfl, HB1.out⟩
theorem tcs_split {L : List TE} {k : Nat} {u : Value} (h : (tcs L)[k]? = some u) : ∃ x, L[k / 5]? = some x ∧ x.cells[k % 5]? = some u := by
  have hk := (List.getElem?_eq_some_iff.1 h).1
  rw [tcs_len] at hk
  have hi : k / 5 < L.length := by omega
  refine ⟨L[k / 5], by simp [hi], ?_⟩
  rw [← tcs_at L (k / 5) (k % 5) L[k / 5] (by simp [hi]) (by omega), ← h]
  congr 1
  omega
theorem tcs_one {L : List TE} : ∀ u ∈ tcs L, u.oneCell' = true := by
  intro u hu
  obtain ⟨j, hj⟩ := List.getElem?_of_mem hu
  obtain ⟨x, h1, h2⟩ := tcs_split hj
  have : j % 5 < 5 := by omega
  revert h2
  generalize j % 5 = i at *
  match i, this with
  | 0, _ => intro h; simp [TE.cells] at h; subst h; rfl
  | 1, _ => intro h; simp [TE.cells] at h; subst h; rfl
  | 2, _ => intro h; simp [TE.cells] at h; subst h; rfl
  | 3, _ => intro h; simp [TE.cells] at h; subst h; rfl
  | 4, _ => intro h; simp [TE.cells] at h; subst h; rfl
/-- a row that reads, as its elements -/
theorem Row.elems {f : Nat} {w : World} {b o cap : Nat} {L : List Tm} (h : Row (f + 1) w (.slice (some ⟨b, o, none⟩) L.length cap) L) :
    ∃ E : List TE, E.length = L.length ∧ E.map TE.t = L ∧ (∀ x ∈ E, fields x.k x.n x.s x.u ∧ Row f w x.lv x.l) ∧ ∀ (j : Nat) (u : Value), (tcs E)[j]? = some u → w.cell? ((⟨b, o, none⟩ : Addr).add j) = some u := by
  have key : ∀ i, i < L.length → ∃ x : TE, L[i]? = some x.t ∧ (fields x.k x.n x.s x.u ∧ Row f w x.lv x.l) ∧ ∀ (j : Nat) (u : Value), x.cells[j]? = some u → w.cell? ⟨b, o + i * 5 + j, none⟩ = some u := by
    intro i hi
    obtain ⟨b', off, f', lv, e, hf, ⟨c0, c1, c2, c3, c4⟩, hfd, lv2, e2, hr⟩ := h.elem (i := i) (t := L[i]) (by simp [hi])
    injection e with e
    injection e with e3 e4
    subst e3 e4
    obtain rfl : f' = f := by omega
    have e5 : lv = lv2 := by simpa using e2
    subst e5
    obtain ⟨ao, lc, rfl, h5, h6, h7⟩ := id hr
    refine ⟨⟨L[i].k, L[i].n, L[i].s, L[i].u, ao, lc, L[i].l⟩, ?_, ⟨hfd, hr⟩, fun j u hj => ?_⟩
    · rw [List.getElem?_eq_getElem hi]
      obtain ⟨k, n, s, u, l⟩ := L[i]
      rfl
    · simp only [TE.cells] at hj
      match j, hj with
      | 0, hj => simp at hj; subst hj; exact c0
      | 1, hj => simp at hj; subst hj; exact c1
      | 2, hj => simp at hj; subst hj; exact c2
      | 3, hj => simp at hj; subst hj; exact c3
      | 4, hj => simp at hj; subst hj; exact c4
  obtain ⟨E, hE1, hE2⟩ := list_choose L.length key
  refine ⟨E, hE1, List.ext_getElem? fun i => ?_, fun x hx => ?_, fun j u hj => ?_⟩
  · rw [List.getElem?_map]
    cases hx : E[i]? with
    | none =>
      have := List.getElem?_eq_none_iff.1 hx
      rw [List.getElem?_eq_none_iff.2 (by omega)]
      rfl
    | some x => rw [(hE2 i x hx).1]; rfl
  · obtain ⟨i, hi⟩ := List.getElem?_of_mem hx
    exact (hE2 i x hi).2.1
  · obtain ⟨x, h1, h2⟩ := tcs_split hj
    have := (hE2 _ x h1).2.2 _ _ h2
    rw [Addr.add_lit, ← this]
    congr 2
    omega
theorem Row.of_elems {f : Nat} {w : World} {b o cap : Nat} {E : List TE} (hl : E.length ≤ cap) (hcap : cap ≤ 9223372036854775807) (hel : ∀ x ∈ E, fields x.k x.n x.s x.u ∧ Row f w x.lv x.l)
    (hcl : ∀ (j : Nat) (u : Value), (tcs E)[j]? = some u → w.cell? ((⟨b, o, none⟩ : Addr).add j) = some u) : Row (f + 1) w (.slice (some ⟨b, o, none⟩) E.length cap) (E.map TE.t) := by
  refine ⟨some ⟨b, o, none⟩, cap, by simp, by simpa using hl, hcap, fun i t hi => ⟨b, o, rfl, ?_⟩⟩
  rw [List.getElem?_map] at hi
  obtain ⟨x, hx, rfl⟩ := Option.map_eq_some_iff.1 hi
  obtain ⟨h1, h2⟩ := hel x (List.mem_of_getElem? hx)
  have key : ∀ j u, x.cells[j]? = some u → w.cell? ⟨b, o + i * 5 + j, none⟩ = some u := fun j u hj => by
    have hj5 : j < 5 := by have := (List.getElem?_eq_some_iff.1 hj).1; simpa [TE.cells] using this
    have := hcl (i * 5 + j) u (by rw [tcs_at E i j x hx hj5]; exact hj)
    rw [Addr.add_lit] at this
    rw [← this]
    congr 2
    omega
  exact At.shut h1 ⟨key 0 _ rfl, key 1 _ rfl, key 2 _ rfl, key 3 _ rfl, key 4 _ rfl⟩ h2
def MadeP (n0 : Nat) (w : World) (f : Nat) (L : List Tm) (e : Ending) (w' : World) : Prop :=
  Below w.heap.size w w' ∧ ((siz (.mk 5 0 ⟨#[]⟩ ⟨#[]⟩ L) 257 ≤ 256 ∧ ∃ te : TE, e = .returned (.tuple #[.agg #[.int .i8 te.k, .int .i64 te.n, .string te.s, .string te.u, .slice te.ao te.l.length te.cap], .int .i64 0]) ∧ te.t = .mk 5 0 ⟨#[]⟩ ⟨#[]⟩ L ∧ RowS (fun b => b < n0 ∨ w.heap.size < b) f w' te.lv te.l) ∨
    (256 < siz (.mk 5 0 ⟨#[]⟩ ⟨#[]⟩ L) 257 ∧ e = .returned (.tuple #[.agg zT, .int .i64 11])))
theorem te_val {f : Nat} {w : World} {S : Nat → Prop} {te : TE} {L : List Tm} (h : te.t = .mk 5 0 ⟨#[]⟩ ⟨#[]⟩ L) (hr : RowS S f w te.lv te.l) : TermV f w (.agg #[.int .i8 te.k, .int .i64 te.n, .string te.s, .string te.u, .slice te.ao te.l.length te.cap]) (.mk 5 0 ⟨#[]⟩ ⟨#[]⟩ L) := by
  obtain ⟨k, n, s, u, ao, cap, l⟩ := te
  simp only [TE.t, Tm.mk.injEq] at h
  obtain ⟨rfl, rfl, rfl, rfl, rfl⟩ := h
  exact ⟨⟨by simp [Tm.k], by simp [Tm.n], Nat.zero_le _, Nat.zero_le _⟩, _, rfl, hr.row⟩
set_option maxHeartbeats 8000000 in
theorem made_any (w0 : World) (f : Nat) (E : List TE) (b o cap : Nat) (w : World) (h0 : Below w0.heap.size w0 w) (hlc : E.length ≤ cap) (hcap : cap ≤ 9223372036854775807) (hE3 : ∀ x ∈ E, fields x.k x.n x.s x.u ∧ Row f w0 x.lv x.l)
    (hE4 : ∀ (j : Nat) (u : Value), (tcs E)[j]? = some u → w.cell? ((⟨b, o, none⟩ : Addr).add j) = some u) (hn : E.length ≤ 255) (hc : ∀ x ∈ E, rcheckN x.t = 0) : Calls Tryd.prog 29 #[.int .i8 5, .slice (some ⟨b, o, none⟩) E.length cap] w (MadeP w0.heap.size w (f + 1) (E.map TE.t)) := by
  have hr := Row.of_elems hlc hcap (fun x hx => ⟨(hE3 x hx).1, (hE3 x hx).2.keep h0⟩) hE4
  have HE3' := Lib.hid hE3
  have HE4' := Lib.hid hE4
  have hc : ∀ t ∈ E.map TE.t, rcheckN t = 0 := fun t ht => by
    obtain ⟨x, hx, rfl⟩ := List.mem_map.1 ht
    exact hc x hx
  have hE1 : E.length = (E.map TE.t).length := by simp
  have hE2 : E.map TE.t = E.map TE.t := rfl
  rw [hE1] at hr hn hlc
  have HEE := Lib.hid hE1
  clear hE2 hE3 hE4
  rw [hE1]
  clear hE1
  generalize hLL : E.map TE.t = L at *
  have HLL := Lib.hid hLL
  clear hLL
  have H0 := Lib.hid h0
  have h0s := h0.size
  have hX0 := heap_new w (.cells zT 31)
  have hb0 := (Below.refl w.heap.size w).alloc (Nat.le_refl _) (.cells zT 31)
  have HX0 := Lib.hid hX0
  have HB0 := Lib.hid hb0
  have HR := Lib.hid hr
  have HC := Lib.hid hc
  clear hX0 hb0 hr hc h0
  go_enter Tryd.func29, Tryd.ntmps29
  go_wp2_with fail
  generalize w.alloc (.cells zT 31) = W0 at *
  go_loopw [6] (fun iv wr => ∃ (i : Nat), i ≤ L.length ∧ iv = .int .i64 i ∧ Hid (Below w.heap.size w wr ∧ wr.heap[w.heap.size]? = some (.cells zT 31 (0, 0))))
    (fun iv _ => L.length - (intOf iv).toNat)
  case atStart => exact ⟨0, by omega, rfl, Lib.hid ⟨HB0.out, HX0.out⟩⟩
  case round =>
    clear HB0 HX0
    obtain ⟨i, hi, rfl, HI⟩ := hrel
    by_cases hlt : i < L.length
    · obtain ⟨t, ht⟩ : ∃ t, L[i]? = some t := ⟨L[i], by simp [hlt]⟩
      obtain ⟨b', off, f', lv, e, hf', ⟨c0, c1, c2, c3, c4⟩, htv⟩ := (HR.out.keep HI.out.1).elem ht
      injection e with e
      injection e with e3 e4
      subst e3 e4
      have hcall := rcheck_any f' t _ wr htv
      rw [HC.out t (List.mem_of_getElem? ht)] at hcall
      have HCALL := Lib.hid hcall
      clear hcall htv ht
      go_wp2_with fail
      refine HCALL.out.mono ?_
      rintro e w2 ⟨rfl, hb2⟩
      have HF := Lib.hid (show Below w.heap.size w w2 ∧ w2.heap[w.heap.size]? = some (.cells zT 31 (0, 0)) from ⟨HI.out.1.trans (hb2.mono HI.out.1.size), keep_heap HI.out.2 hb2⟩)
      clear hb2 c0 c1 c2 c3 c4
      go_wp2_with fail
      go_roundw
      case rel => exact ⟨i + 1, by omega, by go_num, HF⟩
      case measure => simp [intOf]; omega
    · obtain rfl : i = L.length := by omega
      have hE1 := HEE.out
      have hE2 := HLL.out
      have hE3 := HE3'.out
      have hE4 := HE4'.out
      go_wp2_with (with_reducible refine stop_op (o := ⟨_, .store 31 (.tmp 7) (.tmp 22), _, _, _, _⟩) ?_)
      refine Lib.hid ?_
      refine wpList_store_new (o := ⟨none, _, _, _, _, _⟩) rfl 31 (.tmp 7) (.tmp 22) rfl #[.int .i8 5, .int .i64 0, .string ⟨#[]⟩, .string ⟨#[]⟩, .slice none 0 0] rfl rfl (infoTM' _ rfl) rfl (by simp [Value.oneCell']) ?_
      have hb1 := (Below.refl wr.heap.size wr).alloc (Nat.le_refl _) (.cells #[.int .i8 5, .int .i64 0, .string ⟨#[]⟩, .string ⟨#[]⟩, .slice none 0 0] 31)
      have hY := heap_new wr (.cells #[.int .i8 5, .int .i64 0, .string ⟨#[]⟩, .string ⟨#[]⟩, .slice none 0 0] 31)
      have hX := keep_heap HI.out.2 hb1
      have hB1 := HI.out.1.trans (hb1.mono HI.out.1.size)
      obtain ⟨y4, y4f⟩ := cells_at hY 4 _ rfl
      have hs1 : (wr.alloc (.cells #[.int .i8 5, .int .i64 0, .string ⟨#[]⟩, .string ⟨#[]⟩, .slice none 0 0] 31)).heap.size = wr.heap.size + 1 := by simp
      have HY := Lib.hid hY
      have HX := Lib.hid hX
      have HB1 := Lib.hid hB1
      have HE3 : Hid (∀ x ∈ E, fields x.k x.n x.s x.u ∧ RowS (· < w0.heap.size) f (wr.alloc (.cells #[.int .i8 5, .int .i64 0, .string ⟨#[]⟩, .string ⟨#[]⟩, .slice none 0 0] 31)) x.lv x.l) := Lib.hid (fun x hx => ⟨(hE3 x hx).1, (hE3 x hx).2.toS.chg (chg_of_below (H0.out.trans (HB1.out.mono h0s)) (fun _ => False)) (fun _ _ _ h => h) (fun _ h _ => h) (Nat.le_refl _)⟩)
      have HE4 := Lib.hid (fun (j : Nat) (u : Value) hj => keep_cell (hE4 j u hj) HB1.out)
      have hxw := heap_lt HI.out.2
      clear hb1 hX hY hB1 hE3 hE4 HR HI HE3' HE4'
      generalize wr.alloc (.cells #[.int .i8 5, .int .i64 0, .string ⟨#[]⟩, .string ⟨#[]⟩, .slice none 0 0] 31) = W1 at *
      obtain ⟨i0, z0, q1, q2, q3, q4, q5⟩ := infoTM2
      go_wp2_with (at_builtin; refine stop_here ?_)
      refine Lib.hid ?_
      refine wpList_append_own2 rfl (.tmp 24) (.tmp 25) 22 rfl W1.heap.size 31 i0 z0 5 72 Tryd.underlying22 q1 q2 q3 q4 q5 (by decide) _ 0 [] rfl (World.ownsRow_nil _ _ _ _) ⟨b, o, none⟩ L.length cap (tcs E) rfl (by rw [tcs_len, hE1]) HE4.out tcs_one (by unfold maxLen; omega) (by omega) (Nat.le_refl _) ?_
      intro v2 W2 hown2 hg2 hwh2
      obtain ⟨lo, lc, rfl⟩ := own_slice hown2
      rw [List.nil_append, Nat.zero_add] at hown2
      simp only [Nat.zero_add]
      have hb2 := grown_below hg2
      have hY2 := keep_heap HY.out hb2
      have hX2 := keep_heap HX.out hb2
      have hB2 := HB1.out.trans (hb2.mono HB1.out.size)
      obtain ⟨y4, y4f⟩ := cells_at hY2 4 _ rfl
      have hc2 := chg_grown hg2
      have hcs := chg_set (w := W2) (p := ⟨wr.heap.size, 4, none⟩) (.slice lo L.length lc)
      have hY3 := set_at (i := 4) hY2 (.slice lo L.length lc)
      have hX3 := hcs.heap hX2 (fun e => by have e : w.heap.size = wr.heap.size := e; omega)
      have hB3 := hB2.trans (hcs.below hB2.size (fun k e => by have e : k = wr.heap.size := e; omega))
      have hob := own_base hown2
      have hT3 : TRow (fun b => b < w0.heap.size ∨ W1.heap.size ≤ b) f (W2.setCell ⟨wr.heap.size, 4, none⟩ (.slice lo L.length lc)) W1.heap.size (.slice lo L.length lc) E := by
        refine ⟨?_, fun x hx => ⟨(HE3.out x hx).1, ?_⟩⟩
        · rw [hE1]
          exact own_chg hown2 hcs (fun g hg e => by have := hob g hg; have e : g = wr.heap.size := e; omega)
        · have h1 := (HE3.out x hx).2.chg (S' := (· < w0.heap.size)) hc2 (fun k _ _ e => by cases e) (fun _ h _ => h) (Nat.le_refl _)
          refine h1.chg hcs (fun k hk _ e => by have e : k = wr.heap.size := e; have hk : k < w0.heap.size := hk; omega) (fun k hk _ => ⟨.inl hk, fun e => ?_⟩) (Nat.le_refl _)
          have := hob k e
          have hk : k < w0.heap.size := hk
          omega
      have hrow3 := hT3.row (fun k hk => .inr hk)
      rw [hE2] at hrow3
      have HRS3 := Lib.hid hrow3
      have htv3 : TermV (f + 1) (W2.setCell ⟨wr.heap.size, 4, none⟩ (.slice lo L.length lc)) (.agg #[.int .i8 5, .int .i64 0, .string ⟨#[]⟩, .string ⟨#[]⟩, .slice lo L.length lc]) (.mk 5 0 ⟨#[]⟩ ⟨#[]⟩ L) := ⟨⟨by simp [Tm.k], by simp [Tm.n], Nat.zero_le _, Nat.zero_le _⟩, _, rfl, hrow3.row⟩
      have HS := Lib.hid (rsizeT_any _ _ _ _ htv3)
      have HX3 := Lib.hid hX3
      have HY3 : Hid ((W2.setCell ⟨wr.heap.size, 4, none⟩ (.slice lo L.length lc)).heap[wr.heap.size]? = some (.cells #[.int .i8 5, .int .i64 0, .string ⟨#[]⟩, .string ⟨#[]⟩, .slice lo L.length lc] 31 (0, 0))) := Lib.hid hY3
      have HB3 := Lib.hid hB3
      have hy2 := heap_lt hY2
      clear hown2 hg2 hwh2 hb2 hc2 hcs hT3 hrow3 htv3 hX3 hY3 hB3 hob hX2 hB2 hY2 HE3 HE4 HX HY HB1 hE1 hE2
      generalize hsz : siz (.mk 5 0 ⟨#[]⟩ ⟨#[]⟩ L) 257 = r at *
      have HSZ := Lib.hid hsz
      clear hsz
      go_wp2_with (with_reducible refine stop_op (o := ⟨_, .load 31 (.tmp 7), _, _, _, _⟩) ?_)
      refine Lib.hid ?_
      generalize W2.setCell ⟨wr.heap.size, 4, none⟩ (.slice lo L.length lc) = W3 at *
      refine wpList_load_row (o := ⟨_, _, _, _, _, _⟩) rfl 31 (.tmp 7) rfl wr.heap.size rfl 31 #[.int .i8 5, .int .i64 0, .string ⟨#[]⟩, .string ⟨#[]⟩, .slice lo L.length lc] (0, 0) _ HY3.out Tryd.underlying31 rfl (infoTM' _ rfl) ?_
      go_wp2_with fail
      refine HS.out.mono ?_
      rintro e W4 ⟨rfl, hb4⟩
      have HX4 := Lib.hid (keep_heap HX3.out hb4)
      have HY4 := Lib.hid (keep_heap HY3.out hb4)
      have HB4 := Lib.hid (HB3.out.trans (hb4.mono HB3.out.size))
      have HRS4 := Lib.hid (HRS3.out.chg (chg_of_below hb4 (fun _ => False)) (fun _ _ _ h => h) (fun _ h _ => h) (Nat.le_refl _))
      clear hb4 HX3 HY3 HB3 HRS3 HS
      by_cases h256 : 256 < r
      · have hd : decide (256 < r) = true := by simpa using h256
        have HR6 : Hid (256 < siz (.mk 5 0 ⟨#[]⟩ ⟨#[]⟩ L) 257) := Lib.hid (by rw [HSZ.out]; exact h256)
        go_wp2_with (with_reducible refine stop_op (o := ⟨_, .store 31 (.tmp 4) (.tmp 31), _, _, _, _⟩) ?_)
        refine Lib.hid ?_
        refine wpList_store_row (o := ⟨none, _, _, _, _, _⟩) rfl 31 (.tmp 4) (.tmp 31) rfl w.heap.size zT rfl rfl 31 zT HX4.out (infoTM' _ rfl) rfl (by simp [Value.oneCell']) ?_
        rw [setRow_self _ _ _ _ _ HX4.out]
        go_wp2_with fail
        exact ret_row HX4.out rfl Tryd.underlying31 rfl (infoTM' _ rfl) rfl rfl ⟨HB4.out, .inr ⟨HR6.out, rfl⟩⟩
      · have hd : decide (256 < r) = false := by simpa using h256
        have HR6 : Hid (siz (.mk 5 0 ⟨#[]⟩ ⟨#[]⟩ L) 257 ≤ 256) := Lib.hid (by rw [HSZ.out]; omega)
        go_wp2_with (with_reducible refine stop_op (o := ⟨_, .load 31 (.tmp 7), _, _, _, _⟩) ?_)
        refine Lib.hid ?_
        refine wpList_load_row (o := ⟨_, _, _, _, _, _⟩) rfl 31 (.tmp 7) rfl wr.heap.size rfl 31 #[.int .i8 5, .int .i64 0, .string ⟨#[]⟩, .string ⟨#[]⟩, .slice lo L.length lc] (0, 0) _ HY4.out Tryd.underlying31 rfl (infoTM' _ rfl) ?_
        go_wp2_with (with_reducible refine stop_op (o := ⟨_, .store 31 (.tmp 4) (.tmp 32), _, _, _, _⟩) ?_)
        refine Lib.hid ?_
        refine wpList_store_row (o := ⟨none, _, _, _, _, _⟩) rfl 31 (.tmp 4) (.tmp 32) rfl w.heap.size #[.int .i8 5, .int .i64 0, .string ⟨#[]⟩, .string ⟨#[]⟩, .slice lo L.length lc] rfl rfl 31 zT HX4.out (infoTM' _ rfl) rfl (by simp [Value.oneCell']) ?_
        have HX5 := Lib.hid (setRow_heap _ w.heap.size _ #[.int .i8 5, .int .i64 0, .string ⟨#[]⟩, .string ⟨#[]⟩, .slice lo L.length lc] _ _ HX4.out)
        have hcs := chg_setRow W4 w.heap.size #[.int .i8 5, .int .i64 0, .string ⟨#[]⟩, .string ⟨#[]⟩, .slice lo L.length lc]
        have HFIN : Hid (MadeP w0.heap.size w (f + 1) L (.returned (.tuple #[.agg #[.int .i8 5, .int .i64 0, .string ⟨#[]⟩, .string ⟨#[]⟩, .slice lo L.length lc], .int .i64 0])) (W4.setRow w.heap.size #[.int .i8 5, .int .i64 0, .string ⟨#[]⟩, .string ⟨#[]⟩, .slice lo L.length lc])) := Lib.hid
          ⟨HB4.out.trans (hcs.below HB4.out.size (fun k e => by have e : k = w.heap.size := e; omega)), .inl ⟨HR6.out, ⟨5, 0, ⟨#[]⟩, ⟨#[]⟩, lo, lc, L⟩, rfl, rfl, HRS4.out.chg hcs (fun k hk _ e => by
            have e : k = w.heap.size := e
            have hk : k < w0.heap.size ∨ W1.heap.size ≤ k := hk
            omega) (fun k hk _ => by
            have hk : k < w0.heap.size ∨ W1.heap.size ≤ k := hk
            show k < w0.heap.size ∨ w.heap.size < k
            omega) (Nat.le_refl _)⟩⟩
        clear hcs
        generalize W4.setRow w.heap.size #[.int .i8 5, .int .i64 0, .string ⟨#[]⟩, .string ⟨#[]⟩, .slice lo L.length lc] = W5 at *
        go_wp2_with fail
        exact ret_row HX5.out rfl Tryd.underlying31 rfl (infoTM' _ rfl) rfl rfl HFIN.out
theorem tuple_any (w0 : World) (f : Nat) (E : List TE) (b o cap : Nat) (w : World) (h0 : Below w0.heap.size w0 w) (hlc : E.length ≤ cap) (hcap : cap ≤ 9223372036854775807) (hE3 : ∀ x ∈ E, fields x.k x.n x.s x.u ∧ Row f w0 x.lv x.l)
    (hE4 : ∀ (j : Nat) (u : Value), (tcs E)[j]? = some u → w.cell? ((⟨b, o, none⟩ : Addr).add j) = some u) (hn : E.length ≤ 255) (hc : ∀ x ∈ E, rcheckN x.t = 0) : Calls Tryd.prog 11 #[.slice (some ⟨b, o, none⟩) E.length cap] w (MadeP w0.heap.size w (f + 1) (E.map TE.t)) := by
  have h0s := h0.size
  have hX0 := heap_new w (.cells zT 31)
  have hb0 := (Below.refl w.heap.size w).alloc (Nat.le_refl _) (.cells zT 31)
  have hs0 : (w.alloc (.cells zT 31)).heap.size = w.heap.size + 1 := by simp
  have HM := Lib.hid (made_any w0 f E b o cap _ (h0.trans (hb0.mono h0s)) hlc hcap hE3 (fun j u hj => keep_cell (hE4 j u hj) hb0) hn hc)
  clear hE3 hE4 h0
  have HX0 := Lib.hid hX0
  have HB0 := Lib.hid hb0
  clear hX0 hb0 hc
  generalize E.map TE.t = L at *
  go_enter Tryd.func11, Tryd.ntmps11
  go_wp2_with fail
  generalize w.alloc (.cells zT 31) = W0 at *
  refine HM.out.mono ?_
  rintro e W2 ⟨hb2, (⟨h1, te, rfl, hte, hrs⟩ | ⟨h1, rfl⟩)⟩
  · have hX2 := keep_heap HX0.out hb2
    have hB2 := HB0.out.trans (hb2.mono HB0.out.size)
    obtain ⟨tk, tn, ts, tu, tao, tcap, tl⟩ := te
    simp only [TE.lv] at hrs
    have hcs := chg_setRow W2 w.heap.size #[.int .i8 tk, .int .i64 tn, .string ts, .string tu, .slice tao tl.length tcap]
    have HX3 := Lib.hid (setRow_heap _ w.heap.size _ #[.int .i8 tk, .int .i64 tn, .string ts, .string tu, .slice tao tl.length tcap] _ _ hX2)
    have HFIN : Hid (MadeP w0.heap.size w (f + 1) L (.returned (.tuple #[.agg #[.int .i8 tk, .int .i64 tn, .string ts, .string tu, .slice tao tl.length tcap], .int .i64 0])) (W2.setRow w.heap.size #[.int .i8 tk, .int .i64 tn, .string ts, .string tu, .slice tao tl.length tcap])) := Lib.hid
      ⟨hB2.trans (hcs.below hB2.size (fun k e => by have e : k = w.heap.size := e; omega)), .inl ⟨h1, ⟨tk, tn, ts, tu, tao, tcap, tl⟩, rfl, hte, hrs.chg hcs (fun k hk _ e => by
        have e : k = w.heap.size := e
        have hk : k < w0.heap.size ∨ W0.heap.size < k := hk
        omega) (fun k hk _ => by
        have hk : k < w0.heap.size ∨ W0.heap.size < k := hk
        show k < w0.heap.size ∨ w.heap.size < k
        omega) (Nat.le_refl _)⟩⟩
    clear hcs hrs hte hb2 hB2
    simp only
    go_wp2_with (with_reducible refine stop_op (o := ⟨_, .store 31 (.tmp 2) (.tmp 6), _, _, _, _⟩) ?_)
    refine Lib.hid ?_
    refine wpList_store_row (o := ⟨none, _, _, _, _, _⟩) rfl 31 (.tmp 2) (.tmp 6) rfl w.heap.size #[.int .i8 tk, .int .i64 tn, .string ts, .string tu, .slice tao tl.length tcap] rfl rfl 31 zT hX2 (infoTM' _ rfl) rfl (by simp [Value.oneCell']) ?_
    generalize W2.setRow w.heap.size #[.int .i8 tk, .int .i64 tn, .string ts, .string tu, .slice tao tl.length tcap] = W5 at *
    go_wp2_with fail
    exact ret_row HX3.out rfl Tryd.underlying31 rfl (infoTM' _ rfl) rfl rfl HFIN.out
  · have HX2 := Lib.hid (keep_heap HX0.out hb2)
    have HB2 := Lib.hid (HB0.out.trans (hb2.mono HB0.out.size))
    have HR := Lib.hid h1
    clear hb2 h1
    go_wp2_with (with_reducible refine stop_op (o := ⟨_, .store 31 (.tmp 2) (.tmp 6), _, _, _, _⟩) ?_)
    refine Lib.hid ?_
    refine wpList_store_row (o := ⟨none, _, _, _, _, _⟩) rfl 31 (.tmp 2) (.tmp 6) rfl w.heap.size zT rfl rfl 31 zT HX2.out (infoTM' _ rfl) rfl (by simp [Value.oneCell']) ?_
    rw [setRow_self _ _ _ _ _ HX2.out]
    go_wp2_with fail
    exact ret_row HX2.out rfl Tryd.underlying31 rfl (infoTM' _ rfl) rfl rfl ⟨HB2.out, .inr ⟨HR.out, rfl⟩⟩
end Go.Proofs.YtfbmjcblnemkgaaDoor
