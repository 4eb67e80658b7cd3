/- collect: what went where; words moved. Conditions: what comes reads. -/
import Derived.Test.YtfbohajojaaiaaaDoorHj
namespace Go.Proofs.YtfbohajojaaiaaaDoor
open Go.ChangeShapes Go.WideShapes Go.ChangeAt Go.RowKit
open Go.Maps (Keyed)
set_option linter.unusedVariables false
set_option maxRecDepth 100000
def cellA (n : Int) : Array Value := #[.bool true, .int .i64 n, .int .i8 0, .int .i64 0, .string ⟨#[]⟩, .string ⟨#[]⟩, .slice none 0 0]
def cellW (n : Nat) : Wd := ⟨true, n, 0, 0, ⟨#[]⟩, ⟨#[]⟩, none, 0, []⟩
open Classical in
/-- how a word in the map reads: a cell's word by its number, no word by -1 -/
noncomputable def RW (v : Value) : Option (DataW Unit × List MemPlace) :=
  if v = .agg wzC then some (.lit (.int .i64 (-1)), []) else if h : ∃ n : Nat, v = .agg (wcC n) then some (.lit (.int .i64 (Classical.choose h : Nat)), []) else none
theorem wcC_inj {n m : Nat} (h : Value.agg (wcC n) = .agg (wcC m)) : n = m := by
  have : (n : Int) = m := by simpa [wcC] using h
  omega
theorem RW_zero : RW (.agg wzC) = some (.lit (.int .i64 (-1)), []) := by
  unfold RW
  rw [if_pos rfl]
theorem wc_ne (n : Nat) : Value.agg (wcC n) ≠ .agg wzC := by
  intro h
  simp [wcC] at h
theorem RW_cell (n : Nat) : RW (.agg (wcC n)) = some (.lit (.int .i64 (n : Nat)), []) := by
  unfold RW
  have h : ∃ m : Nat, Value.agg (wcC n) = .agg (wcC m) := ⟨n, rfl⟩
  rw [if_neg (wc_ne n), dif_pos h, ← wcC_inj (Classical.choose_spec h)]
theorem RW_inv {v : Value} {n : Nat} {ps : List MemPlace} (h : RW v = some (.lit (.int .i64 (n : Nat)), ps)) : v = .agg (wcC n) := by
  unfold RW at h
  split at h
  · simp at h
  · split at h
    · rename_i h1
      have h2 := Classical.choose_spec h1
      simp only [Option.some.injEq, Prod.mk.injEq, DataW.lit.injEq, Lit.int.injEq] at h
      have : Classical.choose h1 = n := by omega
      rw [← this]
      exact h2
    · cases h
theorem RW_inv0 {v : Value} {ps : List MemPlace} (h : RW v = some (.lit (.int .i64 (-1)), ps)) : v = .agg wzC := by
  unfold RW at h
  split at h
  · assumption
  · split at h
    · simp only [Option.some.injEq, Prod.mk.injEq, DataW.lit.injEq, Lit.int.injEq] at h
      omega
    · cases h
def look (g : List (Int × Nat)) (p : Int) : Option Nat := g.foldl (fun r x => if p = x.1 then some x.2 else r) none
theorem look_snoc (g : List (Int × Nat)) (k p : Int) (n : Nat) : look (g ++ [(k, n)]) p = if p = k then some n else look g p := by simp [look]
def goM (g : List (Int × Nat)) : DataW Unit := g.foldl (fun D p => D.put (ikey p.1) (.lit (.int .i64 (p.2 : Nat)))) (.map [])
theorem goM_snoc (g : List (Int × Nat)) (k : Int) (n : Nat) : goM (g ++ [(k, n)]) = (goM g).put (ikey k) (.lit (.int .i64 (n : Nat))) := by simp [goM]
theorem goM_isMap (g : List (Int × Nat)) : Maps.IsMap (goM g) := by
  induction g using snoc_ind with
  | h0 => exact Maps.isMap_empty
  | h1 l a ih => rw [show a = (a.1, a.2) from rfl, goM_snoc]; exact ih.put _ _
theorem goM_at (g : List (Int × Nat)) (p : Int) : (goM g).atKey (ikey p) (.lit (.int .i64 (-1))) = .lit (.int .i64 (match look g p with | some n => (n : Int) | none => -1)) ∧ Maps.has (goM g) (ikey p) = (look g p).isSome := by
  induction g using snoc_ind with
  | h0 => exact ⟨rfl, rfl⟩
  | h1 l a ih =>
    obtain ⟨k, n⟩ := a
    rw [goM_snoc, look_snoc]
    by_cases h : p = k
    · subst h
      rw [Maps.atKey_put_same (goM_isMap l) (show WideAt.IsKeyLit (ikey p) from trivial), Maps.has_put_same (goM_isMap l) (show WideAt.IsKeyLit (ikey p) from trivial), if_pos rfl]
      exact ⟨rfl, rfl⟩
    · rw [Maps.atKey_put_other (ikey_ne h), Maps.has_put_other (ikey_ne h), if_neg h]
      exact ih
/-- a word, moved -/
def mv (g : List (Int × Nat)) (x : Wd) : Wd := if x.c then (match look g x.a with | some n => cellW n | none => x) else x
theorem zWD (w : World) : (zeroValue 58).run Tryd.prog w = .ok (.agg wzC) w := by kernel_rfl
theorem look_go {w : World} {b n : Nat} {g : List (Int × Nat)} (h : w.ownsMap Tryd.prog 3 RW b n (goM g)) (p : Int) (h1 : -9223372036854775808 ≤ p) (h2 : p ≤ 9223372036854775807) :
    (Instr.lookup 74 (.map (some b)) (.int .i64 p) true).run Tryd.prog w = .ok (.tuple #[.agg (match look g p with | some n => wcC n | none => wzC), .bool (look g p).isSome]) w := by
  obtain ⟨v, ps, hr, hv⟩ := h.look_ok kI Tryd.underlying74 (zWD w) RW_zero (Go.Maps.keyOf_int_mk Tryd.underlying3 (WalkArith.wf_i64 ⟨h1, h2⟩))
  have h3 := goM_at g p
  unfold ikey at h3
  rw [h3.1] at hv
  rw [hr, h3.2]
  cases hl : look g p with
  | none =>
    rw [hl] at hv
    rw [RW_inv0 hv]
  | some n =>
    rw [hl] at hv
    rw [RW_inv hv]
def MovedP (w : World) (g : List (Int × Nat)) (L : List Wd) (e : Ending) (w' : World) : Prop :=
  Below w.heap.size w w' ∧ ∃ ao cap, e = .returned (.slice ao L.length cap) ∧ w'.ownsRow w.heap.size 58 7 (.slice ao L.length cap) L.length (wcs (L.map (mv g)))
set_option maxHeartbeats 4000000 in
theorem moved_any (w : World) (q mb n : Nat) (g : List (Int × Nat)) (L : List Wd) (ao : Option Addr) (cap : Nat) (hq : w.cell? ⟨q, 0, none⟩ = some (.map (some mb))) (hm : w.ownsMap Tryd.prog 3 RW mb n (goM g)) (hr : WRow w ao L)
    (hbd : ∀ x ∈ L, -9223372036854775808 ≤ x.a ∧ x.a ≤ 9223372036854775807) (hn : L.length ≤ 1099511627776) :
    Calls Tryd.prog 28 #[.slice ao L.length cap, .pointer (some ⟨q, 0, none⟩)] w (MovedP w g L) := by
  obtain ⟨i0, z0, hi, hz0, hz1, hz2, hz3⟩ := infoWD2
  have HQ := Lib.hid hq
  have HMP := Lib.hid hm
  have HR := Lib.hid hr
  have HBD := Lib.hid hbd
  clear hq hm hr hbd
  go_enter Tryd.func28, Tryd.ntmps28
  go_wp2_with fail
  go_loopw [4, 11] (fun ov iv wr => ∃ (i : Nat), i ≤ L.length ∧ iv = .int .i64 i ∧
      Hid (Below w.heap.size w wr ∧ wr.ownsRow w.heap.size 58 7 ov i (wcs ((L.take i).map (mv g)))))
    (fun _ iv _ => L.length - (intOf iv).toNat)
  case atStart => exact ⟨0, by omega, rfl, Lib.hid ⟨Below.refl _ _, World.ownsRow_nil _ _ _ _⟩⟩
  case round =>
    obtain ⟨i, hi', rfl, HI⟩ := hrel
    by_cases hlt : i < L.length
    · obtain ⟨x, hx⟩ : ∃ x, L[i]? = some x := ⟨L[i], by simp [hlt]⟩
      have hxm := List.mem_of_getElem? hx
      have HIX := Lib.hid hx
      obtain ⟨hx1, hx2⟩ := HBD.out x hxm
      obtain ⟨b', off, rfl, hbs, hcx⟩ := HR.out.keep HI.out.1 i x hx
      have c0 := hcx 0 _ rfl
      have c1 := hcx 1 _ rfl
      have c2 := hcx 2 _ rfl
      have c3 := hcx 3 _ rfl
      have c4 := hcx 4 _ rfl
      have c5 := hcx 5 _ rfl
      have c6 := hcx 6 _ rfl
      clear hcx
      obtain ⟨xc, xa, xk, xn, xs, xu, xao, xcap, xl⟩ := x
      dsimp only at c0 c1 c2 c3 c4 c5 c6 hx1 hx2
      simp only [Nat.add_zero] at c0
      have hbx := (Below.refl wr.heap.size wr).alloc (Nat.le_refl _) (.cells #[.bool xc, .int .i64 xa, .int .i8 xk, .int .i64 xn, .string xs, .string xu, .slice xao xl.length xcap] 58)
      have hbw := HI.out.1.trans (hbx.mono HI.out.1.size)
      have hq1 := keep_cell HQ.out hbw
      have hlk := look_go (map_chg HMP.out (chg_of_below hbw (fun _ => False)) (fun h => h)) xa hx1 hx2
      have HX1 := Lib.hid (heap_new wr (.cells #[.bool xc, .int .i64 xa, .int .i8 xk, .int .i64 xn, .string xs, .string xu, .slice xao xl.length xcap] 58))
      have hb1 := (cells_at HX1.out 1 _ rfl).1
      have hb0 := (cells_at HX1.out 0 _ rfl).1
      have HBW := Lib.hid hbw
      clear hbx hbw
      cases hlo : look g xa with
      | none =>
        rw [hlo] at hlk
        simp only [Option.isSome_none] at hlk
        have hb0' := keep_cell hb0 ((Below.refl _ _).alloc (Nat.le_refl _) (.cells wzC 58))
        go_wp2_with (with_reducible refine stop_op (o := ⟨_, .store 58 (.tmp 6) (.tmp 14), _, _, _, _⟩) ?_)
        refine Lib.hid ?_
        refine wpList_store_new (o := ⟨none, _, _, _, _, _⟩) rfl 58 (.tmp 6) (.tmp 14) rfl #[.bool xc, .int .i64 xa, .int .i8 xk, .int .i64 xn, .string xs, .string xu, .slice xao xl.length xcap] rfl rfl (infoWD _ rfl) rfl (by simp [Value.oneCell']) ?_
        go_wp2_with (with_reducible refine stop_op (o := ⟨_, .store 58 (.tmp 7) (.tmp 20), _, _, _, _⟩) ?_)
        refine Lib.hid ?_
        refine wpList_store_new (o := ⟨none, _, _, _, _, _⟩) rfl 58 (.tmp 7) (.tmp 20) rfl wzC (by rw [World.size_alloc]; rfl) rfl (infoWD _ rfl) rfl (by simp [Value.oneCell']) ?_
        have HY := Lib.hid (heap_old HX1.out (.cells wzC 58))
        have HBY := Lib.hid (((Below.refl wr.heap.size wr).alloc (Nat.le_refl _) (.cells #[.bool xc, .int .i64 xa, .int .i8 xk, .int .i64 xn, .string xs, .string xu, .slice xao xl.length xcap] 58)).alloc (by simp) (.cells wzC 58))
        have HLO := Lib.hid hlo
        generalize ((wr.alloc (.cells #[.bool xc, .int .i64 xa, .int .i8 xk, .int .i64 xn, .string xs, .string xu, .slice xao xl.length xcap] 58)).alloc (.cells wzC 58)) = WY at *
        clear hlk hlo hq1 hb0 hb1 HX1
        go_wp2_with (with_reducible refine stop_op (o := ⟨_, .load 58 (.tmp 6), _, _, _, _⟩) ?_)
        refine Lib.hid ?_
        refine wpList_load_row (o := ⟨_, _, _, _, _, _⟩) rfl 58 (.tmp 6) rfl wr.heap.size rfl 58 #[.bool xc, .int .i64 xa, .int .i8 xk, .int .i64 xn, .string xs, .string xu, .slice xao xl.length xcap] (0, 0) _ HY.out Tryd.underlying58 rfl (infoWD _ rfl) ?_
        go_wp2_with (at_builtin; refine stop_here ?_)
        refine Lib.hid ?_
        refine wpList_append_own2 rfl (.tmp 28) (.tmp 30) 26 rfl w.heap.size 58 i0 z0 7 88 Tryd.underlying26 hi hz0 hz1 hz2 hz3 (by decide) _ i (wcs ((L.take i).map (mv g))) rfl ((own_keep HI.out.2 HBY.out).alloc _) ⟨WY.heap.size, 0, none⟩ 1 1 (#[.bool xc, .int .i64 xa, .int .i8 xk, .int .i64 xn, .string xs, .string xu, .slice xao xl.length xcap]).toList rfl rfl (fun j u hj => by
          rw [Addr.add_lit, Nat.zero_add]
          exact (cells_at (heap_new WY (.cells #[.bool xc, .int .i64 xa, .int .i8 xk, .int .i64 xn, .string xs, .string xu, .slice xao xl.length xcap] 58)) j u (by simpa using hj)).1) (by simp [wcC, Value.oneCell']) (by unfold maxLen; omega) (by omega) (by have := (HI.out.1.trans (HBY.out.mono HI.out.1.size)).size; simp; omega) ?_
        intro v3 W3 hown3 hg3 hwh3
        obtain ⟨vo, vc, rfl⟩ := own_slice hown3
        have HFIN : Hid (Below w.heap.size w W3 ∧ W3.ownsRow w.heap.size 58 7 (.slice vo (i + 1) vc) (i + 1) (wcs ((L.take (i + 1)).map (mv g)))) := Lib.hid (by
          have hb1 := HI.out.1.trans (HBY.out.mono HI.out.1.size)
          have hb2 := hb1.alloc hb1.size (.cells #[.bool xc, .int .i64 xa, .int .i8 xk, .int .i64 xn, .string xs, .string xu, .slice xao xl.length xcap] 58)
          refine ⟨hb2.trans ((chg_grown hg3).below hb2.size (fun k h => own_base HI.out.2 k h.symm)), ?_⟩
          rw [List.take_add_one, HIX.out, List.map_append, wcs, List.flatMap_append]
          have e : List.flatMap Wd.cells (List.map (mv g) (some (⟨xc, xa, xk, xn, xs, xu, xao, xcap, xl⟩ : Wd)).toList) = (#[.bool xc, .int .i64 xa, .int .i8 xk, .int .i64 xn, .string xs, .string xu, .slice xao xl.length xcap]).toList := by
            simp [mv, HLO.out, Wd.cells, cellW, wcC]
          rw [e]
          exact hown3)
        clear hown3 hg3 hwh3
        go_wp2_with fail
        go_roundw
        case rel => exact ⟨i + 1, by omega, by go_num, HFIN⟩
        case measure => simp [intOf]; omega
      | some k =>
        rw [hlo] at hlk
        simp only [Option.isSome_some] at hlk
        have hb0' := keep_cell hb0 ((Below.refl _ _).alloc (Nat.le_refl _) (.cells (wcC k) 58))
        go_wp2_with (with_reducible refine stop_op (o := ⟨_, .store 58 (.tmp 6) (.tmp 14), _, _, _, _⟩) ?_)
        refine Lib.hid ?_
        refine wpList_store_new (o := ⟨none, _, _, _, _, _⟩) rfl 58 (.tmp 6) (.tmp 14) rfl #[.bool xc, .int .i64 xa, .int .i8 xk, .int .i64 xn, .string xs, .string xu, .slice xao xl.length xcap] rfl rfl (infoWD _ rfl) rfl (by simp [Value.oneCell']) ?_
        go_wp2_with (with_reducible refine stop_op (o := ⟨_, .store 58 (.tmp 7) (.tmp 20), _, _, _, _⟩) ?_)
        refine Lib.hid ?_
        refine wpList_store_new (o := ⟨none, _, _, _, _, _⟩) rfl 58 (.tmp 7) (.tmp 20) rfl (wcC k) (by rw [World.size_alloc]; rfl) rfl (infoWD _ rfl) rfl (by simp [wcC, Value.oneCell']) ?_
        have HY := Lib.hid (heap_old HX1.out (.cells (wcC k) 58))
        have HZ := Lib.hid (heap_new (wr.alloc (.cells #[.bool xc, .int .i64 xa, .int .i8 xk, .int .i64 xn, .string xs, .string xu, .slice xao xl.length xcap] 58)) (.cells (wcC k) 58))
        have HBY := Lib.hid (((Below.refl wr.heap.size wr).alloc (Nat.le_refl _) (.cells #[.bool xc, .int .i64 xa, .int .i8 xk, .int .i64 xn, .string xs, .string xu, .slice xao xl.length xcap] 58)).alloc (by simp) (.cells (wcC k) 58))
        have HLO := Lib.hid hlo
        simp only [World.size_alloc] at HZ
        simp only [World.size_alloc]
        generalize ((wr.alloc (.cells #[.bool xc, .int .i64 xa, .int .i8 xk, .int .i64 xn, .string xs, .string xu, .slice xao xl.length xcap] 58)).alloc (.cells (wcC k) 58)) = WY at *
        clear hlk hlo hq1 hb0 hb1 HX1
        cases xc
        · skip
          go_wp2_with (with_reducible refine stop_op (o := ⟨_, .load 58 (.tmp 6), _, _, _, _⟩) ?_)
          refine Lib.hid ?_
          refine wpList_load_row (o := ⟨_, _, _, _, _, _⟩) rfl 58 (.tmp 6) rfl wr.heap.size rfl 58 #[.bool false, .int .i64 xa, .int .i8 xk, .int .i64 xn, .string xs, .string xu, .slice xao xl.length xcap] (0, 0) _ HY.out Tryd.underlying58 rfl (infoWD _ rfl) ?_
          go_wp2_with (at_builtin; refine stop_here ?_)
          refine Lib.hid ?_
          refine wpList_append_own2 rfl (.tmp 28) (.tmp 30) 26 rfl w.heap.size 58 i0 z0 7 88 Tryd.underlying26 hi hz0 hz1 hz2 hz3 (by decide) _ i (wcs ((L.take i).map (mv g))) rfl ((own_keep HI.out.2 HBY.out).alloc _) ⟨WY.heap.size, 0, none⟩ 1 1 (#[.bool false, .int .i64 xa, .int .i8 xk, .int .i64 xn, .string xs, .string xu, .slice xao xl.length xcap]).toList rfl rfl (fun j u hj => by
            rw [Addr.add_lit, Nat.zero_add]
            exact (cells_at (heap_new WY (.cells #[.bool false, .int .i64 xa, .int .i8 xk, .int .i64 xn, .string xs, .string xu, .slice xao xl.length xcap] 58)) j u (by simpa using hj)).1) (by simp [wcC, Value.oneCell']) (by unfold maxLen; omega) (by omega) (by have := (HI.out.1.trans (HBY.out.mono HI.out.1.size)).size; simp; omega) ?_
          intro v3 W3 hown3 hg3 hwh3
          obtain ⟨vo, vc, rfl⟩ := own_slice hown3
          have HFIN : Hid (Below w.heap.size w W3 ∧ W3.ownsRow w.heap.size 58 7 (.slice vo (i + 1) vc) (i + 1) (wcs ((L.take (i + 1)).map (mv g)))) := Lib.hid (by
            have hb1 := HI.out.1.trans (HBY.out.mono HI.out.1.size)
            have hb2 := hb1.alloc hb1.size (.cells #[.bool false, .int .i64 xa, .int .i8 xk, .int .i64 xn, .string xs, .string xu, .slice xao xl.length xcap] 58)
            refine ⟨hb2.trans ((chg_grown hg3).below hb2.size (fun k h => own_base HI.out.2 k h.symm)), ?_⟩
            rw [List.take_add_one, HIX.out, List.map_append, wcs, List.flatMap_append]
            have e : List.flatMap Wd.cells (List.map (mv g) (some (⟨false, xa, xk, xn, xs, xu, xao, xcap, xl⟩ : Wd)).toList) = (#[.bool false, .int .i64 xa, .int .i8 xk, .int .i64 xn, .string xs, .string xu, .slice xao xl.length xcap]).toList := by
              simp [mv, HLO.out, Wd.cells, cellW, wcC]
            rw [e]
            exact hown3)
          clear hown3 hg3 hwh3
          go_wp2_with fail
          go_roundw
          case rel => exact ⟨i + 1, by omega, by go_num, HFIN⟩
          case measure => simp [intOf]; omega
        · go_wp2_with (with_reducible refine stop_op (o := ⟨_, .load 58 (.tmp 7), _, _, _, _⟩) ?_)
          refine Lib.hid ?_
          refine wpList_load_row (o := ⟨_, _, _, _, _, _⟩) rfl 58 (.tmp 7) rfl (wr.heap.size + 1) rfl 58 (wcC k) (0, 0) _ HZ.out Tryd.underlying58 rfl (infoWD _ rfl) ?_
          go_wp2_with (with_reducible refine stop_op (o := ⟨_, .store 58 (.tmp 6) (.tmp 27), _, _, _, _⟩) ?_)
          refine Lib.hid ?_
          refine wpList_store_row (o := ⟨none, _, _, _, _, _⟩) rfl 58 (.tmp 6) (.tmp 27) rfl wr.heap.size (wcC k) rfl rfl 58 _ HY.out (infoWD _ rfl) rfl (by simp [wcC, Value.oneCell']) ?_
          have HY := Lib.hid (setRow_heap _ wr.heap.size _ (wcC k) _ _ HY.out)
          have HBY := Lib.hid (bel_setRow HBY.out HBY.out.size (Nat.le_refl _) (wcC k))
          generalize WY.setRow wr.heap.size (wcC k) = WY at *
          clear hb0'
          unfold wcC at HY
          go_wp2_with (with_reducible refine stop_op (o := ⟨_, .load 58 (.tmp 6), _, _, _, _⟩) ?_)
          refine Lib.hid ?_
          refine wpList_load_row (o := ⟨_, _, _, _, _, _⟩) rfl 58 (.tmp 6) rfl wr.heap.size rfl 58 #[.bool true, .int .i64 (k : Nat), .int .i8 0, .int .i64 0, .string ⟨#[]⟩, .string ⟨#[]⟩, .slice none 0 0] (0, 0) _ HY.out Tryd.underlying58 rfl (infoWD _ rfl) ?_
          go_wp2_with (at_builtin; refine stop_here ?_)
          refine Lib.hid ?_
          refine wpList_append_own2 rfl (.tmp 28) (.tmp 30) 26 rfl w.heap.size 58 i0 z0 7 88 Tryd.underlying26 hi hz0 hz1 hz2 hz3 (by decide) _ i (wcs ((L.take i).map (mv g))) rfl ((own_keep HI.out.2 HBY.out).alloc _) ⟨WY.heap.size, 0, none⟩ 1 1 (#[.bool true, .int .i64 (k : Nat), .int .i8 0, .int .i64 0, .string ⟨#[]⟩, .string ⟨#[]⟩, .slice none 0 0]).toList rfl rfl (fun j u hj => by
            rw [Addr.add_lit, Nat.zero_add]
            exact (cells_at (heap_new WY (.cells #[.bool true, .int .i64 (k : Nat), .int .i8 0, .int .i64 0, .string ⟨#[]⟩, .string ⟨#[]⟩, .slice none 0 0] 58)) j u (by simpa using hj)).1) (by simp [wcC, Value.oneCell']) (by unfold maxLen; omega) (by omega) (by have := (HI.out.1.trans (HBY.out.mono HI.out.1.size)).size; simp; omega) ?_
          intro v3 W3 hown3 hg3 hwh3
          obtain ⟨vo, vc, rfl⟩ := own_slice hown3
          have HFIN : Hid (Below w.heap.size w W3 ∧ W3.ownsRow w.heap.size 58 7 (.slice vo (i + 1) vc) (i + 1) (wcs ((L.take (i + 1)).map (mv g)))) := Lib.hid (by
            have hb1 := HI.out.1.trans (HBY.out.mono HI.out.1.size)
            have hb2 := hb1.alloc hb1.size (.cells #[.bool true, .int .i64 (k : Nat), .int .i8 0, .int .i64 0, .string ⟨#[]⟩, .string ⟨#[]⟩, .slice none 0 0] 58)
            refine ⟨hb2.trans ((chg_grown hg3).below hb2.size (fun k h => own_base HI.out.2 k h.symm)), ?_⟩
            rw [List.take_add_one, HIX.out, List.map_append, wcs, List.flatMap_append]
            have e : List.flatMap Wd.cells (List.map (mv g) (some (⟨true, xa, xk, xn, xs, xu, xao, xcap, xl⟩ : Wd)).toList) = (#[.bool true, .int .i64 (k : Nat), .int .i8 0, .int .i64 0, .string ⟨#[]⟩, .string ⟨#[]⟩, .slice none 0 0]).toList := by
              simp [mv, HLO.out, Wd.cells, cellW, wcC]
            rw [e]
            exact hown3)
          clear hown3 hg3 hwh3
          go_wp2_with fail
          go_roundw
          case rel => exact ⟨i + 1, by omega, by go_num, HFIN⟩
          case measure => simp [intOf]; omega
    · have hil : i = L.length := by omega
      subst hil
      obtain ⟨ao', cap', rfl⟩ := own_slice HI.out.2
      have HI' := HI
      rw [List.take_length] at HI'
      go_wp2_with fail
      go_ret
      exact ⟨HI'.out.1, _, _, rfl, HI'.out.2⟩
end Go.Proofs.YtfbohajojaaiaaaDoor
