/- the law's wakes, walked. Conditions: the table of letters reads as laid. -/
import Derived.Test.YtfbmjcblnemkgaaDoorGt
import Derived.Test.YtfbmjcblnemkgaaDoorGu
namespace Go.Proofs.YtfbmjcblnemkgaaDoor
open Go.ChangeShapes Go.WideShapes Go.ChangeAt Go.RowKit
set_option linter.unusedVariables false
set_option maxRecDepth 100000
abbrev oneW (n : Int) : Wd := ⟨false, 0, 0, n, ⟨#[]⟩, ⟨#[]⟩, none, 0, []⟩
theorem wok_one (f : Nat) (w : World) (k : Int) (hk : 0 ≤ k ∧ k ≤ 1) : WOk f w (oneW k) :=
  ⟨⟨by simp only; omega, by simp only; omega⟩, ⟨by simp, by simp only; omega, Nat.zero_le _, Nat.zero_le _⟩, none, 0, rfl, by simp, by omega, fun i t h => by simp at h⟩
theorem wrow_new (w : World) (L : List Wd) (cs : Array Value) (h : wcs L = cs.toList) : WRow (w.alloc (.cells cs 33)) (some ⟨w.heap.size, 0, none⟩) L := by
  intro i y hi
  refine ⟨w.heap.size, 0, rfl, by simp, fun j u hj => ?_⟩
  have hj7 : j < 7 := by have := (List.getElem?_eq_some_iff.1 hj).1; simpa [Wd.cells] using this
  rw [Nat.zero_add]
  refine (cells_at (heap_new w (.cells cs 33)) (i * 7 + j) u ?_).1
  rw [← hj, ← wcs_at L i j y hi hj7, h]
  simp
theorem mk_row (w0 : World) (B : Nat) (v : Value) (C : List HC) (W : World) (k : Int) (L : List Wd) (n : Nat) (hn : n = L.length) (cs : Array Value) (hB : Below w0.heap.size w0 W) (hL : Cells w0 0 letL) (hp : Hp W B B v C) (hwB : w0.heap.size ≤ B) (hx : wcs L = cs.toList) (hok : makeN C k L = 0) (hlen : L.length ≤ 255) (how : ∀ W, ∀ y ∈ L, WOk 0 W y) :
    Calls Tryd.prog 10 #[.pointer (some ⟨B, 0, none⟩), .int .i8 k, .slice (some ⟨W.heap.size, 0, none⟩) n n] (W.alloc (.cells cs 33)) fun e W' => ∃ v' lo lc, e = .returned (.tuple #[.agg (wcC C.length), .int .i64 0]) ∧ Hp W' B B v' (C ++ [⟨k, sizeW C L, lo, lc, L⟩]) ∧ Below w0.heap.size w0 W' ∧ Below B (W.alloc (.cells cs 33)) W' ∧ Chg (heapS B v) W W' := by
  subst hn
  have hb := (Below.refl W.heap.size W).alloc (Nat.le_refl _) (.cells cs 33)
  have hb0 := hB.trans (hb.mono hB.size)
  refine (make_any 0 _ B B v C k L (some ⟨W.heap.size, 0, none⟩) L.length (hp.keep hb) (keep_let hL hb0) (wrow_new W L cs hx) (fun y hy => how _ y hy) (by omega) (fun e => by cases e)).mono ?_
  rintro e W' (⟨-, v', lo, lc, rfl, hp', hc, -, -⟩ | ⟨h1, -⟩)
  · have hS : ∀ j, heapS B v j → B ≤ j := fun j hj => heapS_base hp hj
    refine ⟨v', lo, lc, rfl, hp', hb0.trans (hc.below hb0.size (fun j hj => Nat.le_trans hwB (hS j hj))), hc.below (by have := heap_lt hp.1; simp; omega) hS, Chg.trans (chg_of_below hb _) hc⟩
  · exact absurd hok h1
theorem wakes_sizes (lo : Option Addr) (lc : Nat) : makeN [] 5 [oneW 1] = 0 ∧ sizeW [] [oneW 1] = 2 ∧ makeN [⟨5, 2, lo, lc, [oneW 1]⟩] 5 [cellX 0, cellX 0] = 0 ∧ sizeW [⟨5, 2, lo, lc, [oneW 1]⟩] [cellX 0, cellX 0] = 5 := by
  have h0 : checkN (oneW 1).t = 0 := by decide +kernel
  have m0 : mayW 0 (oneW 1) = true := by
    unfold mayW
    rw [if_neg (by simp), h0]
    decide +kernel
  have m1 : mayW 1 (cellX 0) = true := by decide +kernel
  have s1 : sizeW [] [oneW 1] = 2 := by decide +kernel
  have s2 : sizeW [⟨5, 2, lo, lc, [oneW 1]⟩] [cellX 0, cellX 0] = 5 := by rfl
  refine ⟨?_, s1, ?_, s2⟩
  · unfold makeN
    have e2 : ([oneW 1].any fun x => !mayW ([] : List HC).length x) = false := by
      rw [List.any_eq_false]
      intro x hx
      obtain rfl := List.mem_singleton.1 hx
      simp only [List.length_nil, m0]
      decide
    rw [e2, s1]
    decide +kernel
  · unfold makeN
    have e2 : ([cellX 0, cellX 0].any fun x => !mayW ([⟨5, 2, lo, lc, [oneW 1]⟩] : List HC).length x) = false := by
      rw [List.any_eq_false]
      intro x hx
      simp only [List.mem_cons, List.not_mem_nil, or_false, or_self] at hx
      subst hx
      simp only [List.length_singleton, m1]
      decide
    rw [e2, s2]
    rfl
theorem wakes_tk (lo lo2 : Option Addr) (lc lc2 : Nat) : tkN [⟨5, 2, lo, lc, [oneW 1]⟩, ⟨5, 5, lo2, lc2, [cellX 0, cellX 0]⟩] 2 (cellX 1) = tmT := by
  rfl
set_option maxHeartbeats 4000000 in
theorem wakes_any (w : World) (hL : Cells w 0 letL) : Calls Tryd.prog 6 #[] w (IsPost w true) := by
  have HL := Lib.hid hL
  clear hL
  go_enter Tryd.func6, Tryd.ntmps6
  go_wp2_with fail
  refine (new_any _).mono ?_
  rintro e w1 ⟨rfl, hp1, hb1⟩
  have HB1 := Lib.hid hb1
  have HP1 := Lib.hid hp1
  clear hb1 hp1
  go_wp2_with fail
  refine (one1_any _ _).mono ?_
  rintro e w2 ⟨rfl, hb2⟩
  have HB2 := Lib.hid (HB1.out.trans (hb2.mono HB1.out.size))
  have HP2 := Lib.hid (HP1.out.keep hb2)
  clear hb2 HB1 HP1
  simp only [oneC]
  go_wp2_with fail
  refine (mk_row w w.heap.size _ [] w2 5 [oneW 1] 1 rfl _ HB2.out HL.out HP2.out (Nat.le_refl _) rfl (wakes_sizes none 0).1 (by simp) (fun W y hy => by obtain rfl := List.mem_singleton.1 hy; exact wok_one 0 W 1 (by omega))).mono ?_
  rintro e w3 ⟨v3, lo3, lc3, rfl, hp3, hb3, -, -⟩
  rw [(wakes_sizes none 0).2.1] at hp3
  have HP3 := Lib.hid hp3
  have HB3 := Lib.hid hb3
  clear hp3 hb3 HP2 HB2
  rw [show wcC ([] : List HC).length = #[.bool true, .int .i64 0, .int .i8 0, .int .i64 0, .string ⟨#[]⟩, .string ⟨#[]⟩, .slice none 0 0] from rfl]
  simp only [List.nil_append] at HP3
  go_wp2_with (with_reducible refine stop_op (o := ⟨_, .store 33 (.tmp 2) (.tmp 16), _, _, _, _⟩) ?_)
  refine Lib.hid ?_
  refine wpList_store_new (o := ⟨none, _, _, _, _, _⟩) rfl 33 (.tmp 2) (.tmp 16) rfl #[.bool true, .int .i64 0, .int .i8 0, .int .i64 0, .string ⟨#[]⟩, .string ⟨#[]⟩, .slice none 0 0] rfl rfl (infoWD _ rfl) rfl (by simp [Value.oneCell']) ?_
  have hba := (Below.refl w3.heap.size w3).alloc (Nat.le_refl _) (.cells #[.bool true, .int .i64 0, .int .i8 0, .int .i64 0, .string ⟨#[]⟩, .string ⟨#[]⟩, .slice none 0 0] 33)
  have hna := heap_new w3 (.cells #[.bool true, .int .i64 0, .int .i8 0, .int .i64 0, .string ⟨#[]⟩, .string ⟨#[]⟩, .slice none 0 0] 33)
  have HP4 := Lib.hid (HP3.out.keep hba)
  have HB4 := Lib.hid (HB3.out.trans (hba.mono HB3.out.size))
  have hl4 := heap_lt hna
  obtain ⟨y0, -⟩ := cells_at hna 0 _ rfl
  obtain ⟨y1, -⟩ := cells_at hna 1 _ rfl
  obtain ⟨y2, -⟩ := cells_at hna 2 _ rfl
  obtain ⟨y3, -⟩ := cells_at hna 3 _ rfl
  obtain ⟨y4, -⟩ := cells_at hna 4 _ rfl
  obtain ⟨y5, -⟩ := cells_at hna 5 _ rfl
  obtain ⟨y6, -⟩ := cells_at hna 6 _ rfl
  clear hba hna HB3 HP3
  generalize w3.alloc (.cells #[.bool true, .int .i64 0, .int .i8 0, .int .i64 0, .string ⟨#[]⟩, .string ⟨#[]⟩, .slice none 0 0] 33) = w4 at *
  go_wp2_with fail
  refine (mk_row w w.heap.size _ _ w4 5 [cellX 0, cellX 0] 2 rfl _ HB4.out HL.out HP4.out (Nat.le_refl _) rfl (wakes_sizes lo3 lc3).2.2.1 (by simp) (fun W y hy => by
    simp only [List.mem_cons, List.not_mem_nil, or_false, or_self] at hy
    subst hy
    exact wokX 0 W 0 (by omega))).mono ?_
  rintro e w5 ⟨v5, lo5, lc5, rfl, hp5, hb5, -, -⟩
  rw [(wakes_sizes lo3 lc3).2.2.2] at hp5
  have HP5 := Lib.hid hp5
  have HB5 := Lib.hid hb5
  clear hp5 hb5 HP4 HB4 y0 y1 y2 y3 y4 y5 y6
  rw [show wcC ([⟨5, 2, lo3, lc3, [oneW 1]⟩] : List HC).length = #[.bool true, .int .i64 1, .int .i8 0, .int .i64 0, .string ⟨#[]⟩, .string ⟨#[]⟩, .slice none 0 0] from rfl]
  go_wp2_with (with_reducible refine stop_op (o := ⟨_, .store 33 (.tmp 4) (.tmp 24), _, _, _, _⟩) ?_)
  refine Lib.hid ?_
  refine wpList_store_new (o := ⟨none, _, _, _, _, _⟩) rfl 33 (.tmp 4) (.tmp 24) rfl #[.bool true, .int .i64 1, .int .i8 0, .int .i64 0, .string ⟨#[]⟩, .string ⟨#[]⟩, .slice none 0 0] rfl rfl (infoWD _ rfl) rfl (by simp [Value.oneCell']) ?_
  have hba := (Below.refl w5.heap.size w5).alloc (Nat.le_refl _) (.cells #[.bool true, .int .i64 1, .int .i8 0, .int .i64 0, .string ⟨#[]⟩, .string ⟨#[]⟩, .slice none 0 0] 33)
  have hna := heap_new w5 (.cells #[.bool true, .int .i64 1, .int .i8 0, .int .i64 0, .string ⟨#[]⟩, .string ⟨#[]⟩, .slice none 0 0] 33)
  have HP6 := Lib.hid (HP5.out.keep hba)
  have HB6 := Lib.hid (HB5.out.trans (hba.mono HB5.out.size))
  have hl4 := heap_lt hna
  have HN6 := Lib.hid hna
  obtain ⟨y0, -⟩ := cells_at hna 0 _ rfl
  obtain ⟨y1, -⟩ := cells_at hna 1 _ rfl
  obtain ⟨y2, -⟩ := cells_at hna 2 _ rfl
  obtain ⟨y3, -⟩ := cells_at hna 3 _ rfl
  obtain ⟨y4, -⟩ := cells_at hna 4 _ rfl
  obtain ⟨y5, -⟩ := cells_at hna 5 _ rfl
  obtain ⟨y6, -⟩ := cells_at hna 6 _ rfl
  clear hba hna HB5 HP5
  generalize w5.alloc (.cells #[.bool true, .int .i64 1, .int .i8 0, .int .i64 0, .string ⟨#[]⟩, .string ⟨#[]⟩, .slice none 0 0] 33) = w6 at *
  have HS := Lib.hid (sizeH_any 0 w6 w.heap.size w.heap.size v5 _ (cellX 1) HP6.out (keep_let HL.out HB6.out) (wokX 0 w6 1 (by omega)))
  go_wp2_with fail
  refine HS.out.mono ?_
  rintro e w7 ⟨hb7, (⟨-, rfl⟩ | ⟨hm, -⟩)⟩
  · have e5 : nodesW ([⟨5, 2, lo3, lc3, [oneW 1]⟩] ++ [⟨5, 5, lo5, lc5, [cellX 0, cellX 0]⟩]) (cellX 1) = 5 := rfl
    rw [e5]
    have HB7 := Lib.hid (HB6.out.trans (hb7.mono HB6.out.size))
    have HP7 := Lib.hid (HP6.out.keep hb7)
    have hna := keep_heap HN6.out hb7
    obtain ⟨y0, -⟩ := cells_at hna 0 _ rfl
    obtain ⟨y1, -⟩ := cells_at hna 1 _ rfl
    obtain ⟨y2, -⟩ := cells_at hna 2 _ rfl
    obtain ⟨y3, -⟩ := cells_at hna 3 _ rfl
    obtain ⟨y4, -⟩ := cells_at hna 4 _ rfl
    obtain ⟨y5, -⟩ := cells_at hna 5 _ rfl
    obtain ⟨y6, -⟩ := cells_at hna 6 _ rfl
    clear hb7 hna HS
    go_wp2_with fail
    refine (take_any w7 0 w.heap.size w.heap.size v5 _ (cellX 1) w7 (fun c hc y hy => ?_) HP7.out (keep_let HL.out HB7.out) (wokX 0 w7 1 (by omega)) (Below.refl _ _)).mono ?_
    · simp only [List.cons_append, List.nil_append, List.mem_cons, List.not_mem_nil, or_false] at hc
      rcases hc with rfl | rfl
      · obtain rfl := List.mem_singleton.1 hy
        exact wok_one 0 w7 1 (by omega)
      · simp only [List.mem_cons, List.not_mem_nil, or_false, or_self] at hy
        subst hy
        exact wokX 0 w7 0 (by omega)
    rintro e w8 ⟨hb8, (⟨-, te, rfl, hte, hfe, hre⟩ | ⟨hm, -⟩)⟩
    · rw [show tkN ([⟨5, 2, lo3, lc3, [oneW 1]⟩] ++ [⟨5, 5, lo5, lc5, [cellX 0, cellX 0]⟩]) ([⟨5, 2, lo3, lc3, [oneW 1]⟩] ++ [⟨5, 5, lo5, lc5, [cellX 0, cellX 0]⟩] : List HC).length (cellX 1) = tmT from rfl] at hte
      have HB8 := Lib.hid (HB7.out.trans (hb8.mono HB7.out.size))
      have HP8 := Lib.hid (HP7.out.keep hb8)
      have HTV : Hid (TermV 2 w8 (.agg #[.int .i8 te.k, .int .i64 te.n, .string te.s, .string te.u, .slice te.ao te.l.length te.cap]) tmT) := Lib.hid (by
        rw [← hte]
        exact ⟨hfe, _, rfl, hre.row⟩)
      obtain ⟨tk, tn, ts, tu, tao, tcap, tl⟩ := te
      clear hb8 y0 y1 y2 y3 y4 y5 y6 hte hfe hre
      simp only at HTV
      go_wp2_with (with_reducible refine stop_op (o := ⟨_, .store 31 (.tmp 8) (.tmp 36), _, _, _, _⟩) ?_)
      refine Lib.hid ?_
      refine wpList_store_new (o := ⟨none, _, _, _, _, _⟩) rfl 31 (.tmp 8) (.tmp 36) rfl #[.int .i8 tk, .int .i64 tn, .string ts, .string tu, .slice tao tl.length tcap] rfl rfl (infoTM' _ rfl) rfl (by simp [Value.oneCell']) ?_
      have hba := (Below.refl w8.heap.size w8).alloc (Nat.le_refl _) (.cells #[.int .i8 tk, .int .i64 tn, .string ts, .string tu, .slice tao tl.length tcap] 31)
      have hna := heap_new w8 (.cells #[.int .i8 tk, .int .i64 tn, .string ts, .string tu, .slice tao tl.length tcap] 31)
      have HP9 := Lib.hid (HP8.out.keep hba)
      have HB9 := Lib.hid (HB8.out.trans (hba.mono HB8.out.size))
      have HT9 := Lib.hid (HTV.out.keep hba)
      obtain ⟨y0, -⟩ := cells_at hna 0 _ rfl
      obtain ⟨y1, -⟩ := cells_at hna 1 _ rfl
      obtain ⟨y2, -⟩ := cells_at hna 2 _ rfl
      obtain ⟨y3, -⟩ := cells_at hna 3 _ rfl
      obtain ⟨y4, -⟩ := cells_at hna 4 _ rfl
      clear hba hna HB8 HP8 HTV
      generalize w8.alloc (.cells #[.int .i8 tk, .int .i64 tn, .string ts, .string tu, .slice tao tl.length tcap] 31) = w9 at *
      go_wp2_with fail
      refine (rtext_two 0 _ w9 HT9.out).mono ?_
      rintro e w10 ⟨rfl, hb10⟩
      have HP10 := Lib.hid (HP9.out.keep hb10)
      have HB10 := Lib.hid (HB9.out.trans (hb10.mono HB9.out.size))
      clear hb10 y0 y1 y2 y3 y4
      go_wp2_with fail
      refine (len_any _ _ _ _ _ HP10.out).mono ?_
      rintro e w' ⟨rfl, rfl⟩
      go_wp2_with fail
      refine (wordsH_any _ _ _ _ _ HP10.out).mono ?_
      rintro e w' ⟨rfl, rfl⟩
      rw [show wordsN ([⟨5, 2, lo3, lc3, [oneW 1]⟩] ++ [⟨5, 5, lo5, lc5, [cellX 0, cellX 0]⟩]) = 5 from rfl]
      go_wp2_with fail
      go_ret
      exact ⟨rfl, HB10.out⟩
    · exact absurd hm (by simp [mayW, empty])
  · exact absurd hm (by simp [mayW, empty])
end Go.Proofs.YtfbmjcblnemkgaaDoor
