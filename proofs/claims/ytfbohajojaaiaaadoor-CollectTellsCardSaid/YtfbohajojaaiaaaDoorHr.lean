/- the law's wakes, walked. Conditions: the table of letters reads as laid. -/
import Derived.Test.YtfbohajojaaiaaaDoorHq
namespace Go.Proofs.YtfbohajojaaiaaaDoor
open Go.ChangeShapes Go.WideShapes Go.ChangeAt Go.RowKit
set_option linter.unusedVariables false
set_option maxRecDepth 100000
theorem wok_leaf (f : Nat) (w : World) (k : Int) (hk : 0 ≤ k ∧ k ≤ 1) : WOk f w (leafW k) :=
  ⟨⟨by simp only [leafW]; omega, by simp only [leafW]; omega⟩, ⟨by simp [leafW], by simp only [leafW]; omega, Nat.zero_le _, Nat.zero_le _⟩, none, 0, rfl, by simp [leafW], by omega, fun i t h => by simp [leafW] at h⟩
theorem wrow_one (w : World) (x : Wd) (cs : Array Value) (h : x.cells = cs.toList) : WRow (w.alloc (.cells cs 58)) (some ⟨w.heap.size, 0, none⟩) [x] := by
  intro i y hi
  match i, hi with
  | 0, hi =>
    simp at hi
    subst hi
    refine ⟨w.heap.size, 0, rfl, by simp, fun j u hj => ?_⟩
    simp only [Nat.zero_add, Nat.zero_mul]
    exact (cells_at (heap_new w (.cells cs 58)) j u (by rw [h] at hj; simpa using hj)).1
theorem mk_one (w0 : World) (B : Nat) (v : Value) (C : List HC) (W : World) (k : Int) (x : Wd) (cs : Array Value) (hB : Below w0.heap.size w0 W) (hL : Cells w0 0 letL) (hp : Hp W B B v C) (hwB : w0.heap.size ≤ B) (hx : x.cells = cs.toList) (hok : makeN C k [x] = 0) (how : ∀ W, WOk 0 W x) :
    Calls Tryd.prog 25 #[.pointer (some ⟨B, 0, none⟩), .int .i8 k, .slice (some ⟨W.heap.size, 0, none⟩) 1 1] (W.alloc (.cells cs 58)) fun e W' => ∃ v' lo lc, e = .returned (.tuple #[.agg (wcC C.length), .int .i64 0]) ∧ Hp W' B B v' (C ++ [⟨k, sizeW C [x], lo, lc, [x]⟩]) ∧ Below w0.heap.size w0 W' := by
  have hb := (Below.refl W.heap.size W).alloc (Nat.le_refl _) (.cells cs 58)
  have hb0 := hB.trans (hb.mono hB.size)
  refine (make_any 0 _ B B v C k [x] (some ⟨W.heap.size, 0, none⟩) 1 (hp.keep hb) (keep_letters hL hb0) (wrow_one W x cs hx) (fun y hy => by obtain rfl := List.mem_singleton.1 hy; exact how _) (by simp) (fun e => by cases e)).mono ?_
  rintro e W' (⟨-, v', lo, lc, rfl, hp', hc, -, -⟩ | ⟨h1, -⟩)
  · refine ⟨v', lo, lc, rfl, hp', hb0.trans (hc.below hb0.size (fun j hj => ?_))⟩
    rcases hj with rfl | hj
    · exact hwB
    · exact Nat.le_trans hwB (own_base hp.2.2.1.1 j hj)
  · exact absurd hok h1
abbrev wk3 (lo3 lo5 lo7 : Option Addr) (lc3 lc5 lc7 : Nat) : List HC := [⟨5, 2, lo3, lc3, [leafW 0]⟩, ⟨5, 2, lo5, lc5, [leafW 1]⟩, ⟨5, sizeW [⟨5, 2, lo3, lc3, [leafW 0]⟩, ⟨5, 2, lo5, lc5, [leafW 1]⟩] [cellW 0], lo7, lc7, [cellW 0]⟩]
theorem wakes_made (lo3 lo5 lo7 : Option Addr) (lc3 lc5 lc7 : Nat) : Made (wk3 lo3 lo5 lo7 lc3 lc5 lc7) := by
  have h1 := Made.nil.snoc (lo := lo3) (lc := lc3) (leaf_make [] 0 (by omega) (by simp)).1
  rw [(leaf_make [] 0 (by omega) (by simp)).2] at h1
  have h2 := h1.snoc (lo := lo5) (lc := lc5) (leaf_make _ 1 (by omega) (by simp)).1
  rw [(leaf_make _ 1 (by omega) (by simp)).2] at h2
  exact h2.snoc (lo := lo7) (lc := lc7) (cell_make _ _ rfl rfl (by simp))
set_option maxHeartbeats 4000000 in
theorem wakes_any (w : World) (hL : Cells w 0 letL) : Calls Tryd.prog 8 #[] w fun e w' => e = .returned (.bool true) ∧ Below w.heap.size w w' := by
  have HL := Lib.hid hL
  clear hL
  go_enter Tryd.func8, Tryd.ntmps8
  go_wp2_with fail
  refine (new_any _).mono ?_
  rintro e w1 ⟨rfl, hp1, hb1⟩
  have HB1 := Lib.hid hb1
  have HP1 := Lib.hid hp1
  clear hb1 hp1
  go_wp2_with fail
  refine (leaf_any _ _).mono ?_
  rintro e w2 ⟨rfl, hb2⟩
  have HB2 := Lib.hid (HB1.out.trans (hb2.mono HB1.out.size))
  have HP2 := Lib.hid (HP1.out.keep hb2)
  clear hb2
  simp only [leafC]
  go_wp2_with fail
  refine (mk_one w w.heap.size _ [] w2 5 (leafW 0) _ HB2.out HL.out HP2.out (Nat.le_refl _) rfl (leaf_make [] 0 (by omega) (by simp)).1 (fun W => wok_leaf 0 W 0 (by omega))).mono ?_
  rintro e w3 ⟨v3, lo3, lc3, rfl, hp3, hb3⟩
  rw [(leaf_make [] 0 (by omega) (by simp)).2] at hp3
  have HP3 := Lib.hid hp3
  have HB3 := Lib.hid hb3
  clear hp3 hb3 HP1 HP2 HB1 HB2
  simp only [List.length_nil, List.length_cons, List.length_append, List.nil_append, List.cons_append, Nat.zero_add, Nat.reduceAdd]
  go_wp2_with (with_reducible refine stop_op (o := ⟨_, .store 58 (.tmp 2) (.tmp 19), _, _, _, _⟩) ?_)
  refine Lib.hid ?_
  refine wpList_store_new (o := ⟨none, _, _, _, _, _⟩) rfl 58 (.tmp 2) (.tmp 19) rfl (wcC 0) rfl rfl (infoWD _ rfl) rfl (by simp [wcC, Value.oneCell']) ?_
  have HP3 := Lib.hid (HP3.out.keep ((Below.refl w3.heap.size w3).alloc (Nat.le_refl _) (.cells (wcC 0) 58)))
  have HB3 := Lib.hid (HB3.out.alloc HB3.out.size (.cells (wcC 0) 58))
  generalize w3.alloc (.cells (wcC 0) 58) = w3 at *
  go_wp2_with fail
  refine (leaf_any _ _).mono ?_
  rintro e w4 ⟨rfl, hb4⟩
  have HB4 := Lib.hid (HB3.out.trans (hb4.mono HB3.out.size))
  have HP4 := Lib.hid (HP3.out.keep hb4)
  clear hb4 HB3 HP3
  simp only [leafC]
  go_wp2_with fail
  refine (mk_one w w.heap.size _ _ w4 5 (leafW 1) _ HB4.out HL.out HP4.out (Nat.le_refl _) rfl (leaf_make _ 1 (by omega) (by simp)).1 (fun W => wok_leaf 0 W 1 (by omega))).mono ?_
  rintro e w5 ⟨v5, lo5, lc5, rfl, hp5, hb5⟩
  rw [(leaf_make _ 1 (by omega) (by simp)).2] at hp5
  have HP5 := Lib.hid hp5
  have HB5 := Lib.hid hb5
  clear hp5 hb5 HP4 HB4
  simp only [List.length_nil, List.length_cons, List.length_append, List.nil_append, List.cons_append, Nat.zero_add, Nat.reduceAdd]
  go_wp2_with (with_reducible refine stop_op (o := ⟨_, .store 58 (.tmp 4) (.tmp 26), _, _, _, _⟩) ?_)
  refine Lib.hid ?_
  refine wpList_store_new (o := ⟨none, _, _, _, _, _⟩) rfl 58 (.tmp 4) (.tmp 26) rfl (wcC 1) rfl rfl (infoWD _ rfl) rfl (by simp [wcC, Value.oneCell']) ?_
  have HP5 := Lib.hid (HP5.out.keep ((Below.refl w5.heap.size w5).alloc (Nat.le_refl _) (.cells (wcC 1) 58)))
  have HB5 := Lib.hid (HB5.out.alloc HB5.out.size (.cells (wcC 1) 58))
  generalize w5.alloc (.cells (wcC 1) 58) = w5 at *
  go_wp2_with fail
  refine (cellw_any _ _).mono ?_
  rintro e w6 ⟨rfl, hb6⟩
  have HB6 := Lib.hid (HB5.out.trans (hb6.mono HB5.out.size))
  have HP6 := Lib.hid (HP5.out.keep hb6)
  clear hb6 HB5 HP5
  simp only [cellA]
  go_wp2_with fail
  refine (mk_one w w.heap.size _ _ w6 5 (cellW 0) _ HB6.out HL.out HP6.out (Nat.le_refl _) rfl (cell_make _ _ rfl rfl (by simp)) (fun W => wok_cell 0 W 0 (by omega))).mono ?_
  rintro e w7 ⟨v7, lo7, lc7, rfl, hp7, hb7⟩
  have HP7 := Lib.hid hp7
  have HB7 := Lib.hid hb7
  clear hp7 hb7 HP6 HB6
  simp only [List.length_nil, List.length_cons, List.length_append, List.nil_append, List.cons_append, Nat.zero_add, Nat.reduceAdd]
  go_wp2_with (with_reducible refine stop_op (o := ⟨_, .store 58 (.tmp 6) (.tmp 33), _, _, _, _⟩) ?_)
  refine Lib.hid ?_
  refine wpList_store_new (o := ⟨none, _, _, _, _, _⟩) rfl 58 (.tmp 6) (.tmp 33) rfl (wcC 2) rfl rfl (infoWD _ rfl) rfl (by simp [wcC, Value.oneCell']) ?_
  have HP7 := Lib.hid (HP7.out.keep ((Below.refl w7.heap.size w7).alloc (Nat.le_refl _) (.cells (wcC 2) 58)))
  have HB7 := Lib.hid (HB7.out.alloc HB7.out.size (.cells (wcC 2) 58))
  generalize w7.alloc (.cells (wcC 2) 58) = w7 at *
  go_wp2_with fail
  refine (cellw_any _ _).mono ?_
  rintro e w8 ⟨rfl, hb8⟩
  have HB8 := Lib.hid (HB7.out.trans (hb8.mono HB7.out.size))
  have HP8 := Lib.hid (HP7.out.keep hb8)
  clear hb8 HB7 HP7
  simp only [cellA]
  go_wp2_with fail
  have hb9 := (Below.refl w8.heap.size w8).alloc (Nat.le_refl _) (.cells (cellA 2) 58)
  have hB9 := HB8.out.trans (hb9.mono HB8.out.size)
  refine (run_any (w8.alloc (.cells (cellA 2) 58)) 0 w.heap.size w.heap.size v7 (wk3 lo3 lo5 lo7 lc3 lc5 lc7) (some ⟨w8.heap.size, 0, none⟩) 1 [cellW 2] (HP8.out.keep hb9) (wakes_made _ _ _ _ _ _) (fun c hc x hx => ?_) (keep_letters HL.out hB9) (wrow_one w8 (cellW 2) _ rfl) (fun y hy => by obtain rfl := List.mem_singleton.1 hy; exact wok_cell _ _ _ (by omega)) (by simp)).mono ?_
  · simp only [wk3, List.mem_cons, List.not_mem_nil, or_false] at hc
    rcases hc with rfl | rfl | rfl <;> obtain rfl := List.mem_singleton.1 hx
    · exact wok_leaf _ _ _ (by omega)
    · exact wok_leaf _ _ _ (by omega)
    · exact wok_cell _ _ _ (by omega)
  rintro e w9 ⟨hb10, (⟨hbad, -⟩ | ⟨-, s, bs, v9, C9, ao9, cap9, hbs, hs, hran, -, hp9, rfl, hown9⟩)⟩
  · simp [mayW, cellW, empty] at hbad
  have hk : outL 3 s = [0, 2] := wakes_keys (fun x => (hs x).trans (wakes_reach rfl rfl rfl x))
  have hk' : outL (wk3 lo3 lo5 lo7 lc3 lc5 lc7).length s = [0, 2] := hk
  rw [hk'] at hran hown9
  rw [wakes_moved] at hown9
  have hl9 : C9.length = 2 := hran.len
  have HP9 := Lib.hid hp9
  have HB9 := Lib.hid (hB9.trans (hb10.mono hB9.size))
  have HH9 := Lib.hid ((HP8.out.keep hb9).keep hb10)
  obtain ⟨ao', cap', e', -, -, hrw, -⟩ := own_wrow (L := [cellW 1]) hown9
  injection e' with e1 e2 e3
  subst e1 e3
  obtain ⟨b9, o9, rfl, hbl, hc9⟩ := hrw 0 _ rfl
  have d1 := hc9 1 _ rfl
  clear hb9 hB9 hb10 hs hran hp9 hown9 hrw hc9 hk hk' HP8 HB8
  simp only [List.length_cons, List.length_nil, Nat.zero_add, Nat.reduceAdd]
  simp only [Nat.zero_mul, Nat.add_zero] at d1
  go_wp2_with fail
  refine (len_any _ _ _ _ _ HP9.out).mono ?_
  rintro e w' ⟨rfl, rfl⟩
  rw [hl9]
  go_wp2_with fail
  refine (len_any _ _ _ _ _ HH9.out).mono ?_
  rintro e w' ⟨rfl, rfl⟩
  go_wp2_with fail
  go_ret
  exact ⟨rfl, HB9.out⟩
end Go.Proofs.YtfbohajojaaiaaaDoor
