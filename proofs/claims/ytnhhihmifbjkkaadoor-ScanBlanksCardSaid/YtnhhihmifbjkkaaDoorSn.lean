/- scan: wakes; the law ScanNext, walked. Conditions: lengths fit; the tables read as laid. -/
import Derived.Test.YtnhhihmifbjkkaaDoorSm
import Derived.Test.YtnhhihmifbjkkaaDoorSk
namespace Go.Proofs.YtnhhihmifbjkkaaDoor
open Go.ChangeShapes Go.WideShapes Go.ChangeAt Go.RowKit
set_option linter.unusedVariables false
/-- the cells of a row of the call's own, whatever its things' size -/
theorem own_cells {w : World} {base e size n : Nat} {v : Value} {xs : List Value} (h : w.ownsRow base e size v n xs) (hn : 0 < n) :
    ∃ g cap, v = .slice (some ⟨g, 0, none⟩) n cap ∧ base ≤ g ∧ g < w.heap.size ∧ n ≤ cap ∧ cap ≤ 9223372036854775807 ∧ ∀ j u, xs[j]? = some u → w.cell? ⟨g, j, none⟩ = some u := by
  obtain ⟨hl, h2⟩ := h
  rcases h2 with ⟨_, h0⟩ | ⟨g, cap, cur, hv, hg, hh, h3, h4, h5, h6⟩
  · omega
  · refine ⟨g, cap, hv, hg, heap_lt hh, h3, by unfold maxLen at h4; omega, fun j u hj => ?_⟩
    rw [← h6] at hj
    have hj' : cur[j]? = some u := by
      rw [List.getElem?_take] at hj
      split at hj
      · simpa using hj
      · cases hj
    simp [World.cell?, hh, hj']
def sw1 : ByteArray := ⟨#[102, 40, 88, 41, 45, 62, 49, 50, 46]⟩
def sw2 : ByteArray := ⟨#[97, 61, 60, 98, 32, 37, 32, 99]⟩
theorem sw1_scan : scanR sw1 = ([(0, 0, [102], 0), (3, 0, [40], 1), (1, 0, [88], 2), (3, 0, [41], 3), (3, 0, [45, 62], 4), (2, 12, [], 6), (4, 0, [], 8)], (0, 0)) := by decide +kernel
theorem sw2_scan : scanR sw2 = ([(0, 0, [97], 0), (3, 0, [61, 60], 1), (0, 0, [98], 3)], (0, 0)) := by decide +kernel
set_option maxHeartbeats 2000000 in
theorem wakes_any (w : World) (hT : Tabs w) : Calls Tryd.prog 6 #[] w (IsPost w true) := by
  have HT := Lib.hid hT
  clear hT
  go_enter Tryd.func6, Tryd.ntmps6
  go_wp2_with fail
  refine (scan_any sw1 (by decide) w HT.out).mono ?_
  rintro e w1 ⟨v1, he, hb1, ho1, _⟩
  rw [sw1_scan] at he ho1
  have ho1 := ho1 rfl
  obtain ⟨g1, cap1, rfl, hg1, hg2, hg3, hg4, hc1⟩ := own_cells ho1 (by decide)
  subst he
  have HT1 := Lib.hid (HT.out.keep hb1)
  have HB1 := Lib.hid hb1
  have HC1 := Lib.hid hc1
  clear hb1 ho1 hc1
  go_wp2_with fail
  refine (scan_any sw2 (by decide) _ (HT1.out.keep ((Below.refl _ _).alloc (Nat.le_refl _) _))).mono ?_
  rintro e w2 ⟨v2, he, hb2, ho2, _⟩
  rw [sw2_scan] at he ho2
  have ho2 := ho2 rfl
  obtain ⟨g2, cap2, rfl, hg5, hg6, hg7, hg8, hc2⟩ := own_cells ho2 (by decide)
  subst he
  have hB : Below w.heap.size w (w1.alloc (.cells #[.int .i64 0, .int .i64 0] 28)) := HB1.out.alloc HB1.out.size _
  have hB2 := hB.trans (hb2.mono hB.size)
  have hk : ∀ {p : Addr} {v : Value}, w1.cell? p = some v → w2.cell? p = some v := fun h => keep_cell (keep_cell h ((Below.refl _ _).alloc (Nat.le_refl _) _)) hb2
  have a0 := keep_cell (cells_at (heap_new w1 (.cells #[.int .i64 0, .int .i64 0] 28)) 0 _ rfl).1 hb2
  have a16 : w2.cell? ⟨g1, 16, none⟩ = some (.int .i8 3) := hk (HC1.out 16 _ rfl)
  have a17 : w2.cell? ⟨g1, 17, none⟩ = some (.int .i64 0) := hk (HC1.out 17 _ rfl)
  have a18 : w2.cell? ⟨g1, 18, none⟩ = some (.string ⟨#[45, 62]⟩) := hk (HC1.out 18 _ rfl)
  have a19 : w2.cell? ⟨g1, 19, none⟩ = some (.int .i64 4) := hk (HC1.out 19 _ rfl)
  have a24 : w2.cell? ⟨g1, 24, none⟩ = some (.int .i8 4) := hk (HC1.out 24 _ rfl)
  have a25 : w2.cell? ⟨g1, 25, none⟩ = some (.int .i64 0) := hk (HC1.out 25 _ rfl)
  have a26 : w2.cell? ⟨g1, 26, none⟩ = some (.string ⟨#[]⟩) := hk (HC1.out 26 _ rfl)
  have a27 : w2.cell? ⟨g1, 27, none⟩ = some (.int .i64 8) := hk (HC1.out 27 _ rfl)
  have b6 : w2.cell? ⟨g2, 6, none⟩ = some (.string ⟨#[61, 60]⟩) := hc2 6 _ rfl
  have h1 := heap_lt (keep_heap (heap_new w1 (.cells #[.int .i64 0, .int .i64 0] 28)) hb2)
  have HB2 := Lib.hid hB2
  have hg9 : g1 < w2.heap.size := World.block_lt_of_cell? w2 _ a16
  clear hB hB2 hb2 hk ho2 hc2
  go_wp2_with fail
  go_ret
  exact ⟨rfl, HB2.out.alloc HB2.out.size _⟩
set_option maxHeartbeats 2000000 in
theorem law_next (s : ByteArray) (hs : s.size ≤ 9223372036854775807) (a : Int) (ha : a ≤ 9223372036854775807) (w : World) (hT : Tabs w) : Calls Tryd.prog 3 #[.string s, .int .i64 a] w (IsPost w true) := by
  have HT := Lib.hid hT
  clear hT
  by_cases hbig : 20000 < s.size
  · go_enter Tryd.func3, Tryd.ntmps3
    go_wp2_with fail
    refine (wakes_any w HT.out).mono ?_
    rintro e w1 ⟨rfl, hb1⟩
    go_wp2_with fail
    go_ret
    exact ⟨rfl, hb1⟩
  · have hs' : s.size ≤ 1099511627776 := by omega
    obtain ⟨⟨⟨k, n, t, b⟩, e2, ⟨e, f⟩⟩, hx⟩ : ∃ x, x = nextV s a := ⟨_, rfl⟩
    have HX := Lib.hid (next_any s hs' a w HT.out)
    have HY := Lib.hid (fun W => rnext_any s hs' a W)
    rw [← hx] at HX HY
    clear hx
    obtain ⟨m, hm⟩ : ∃ m, m = blankN s a := ⟨_, rfl⟩
    have HM := Lib.hid (fun W => blank_any s hs' a W)
    have HN := Lib.hid (fun W => rblank_any s hs' a ha W)
    rw [← hm] at HM HN
    clear hm
    go_enter Tryd.func3, Tryd.ntmps3
    go_wp2_with fail
    refine HX.out.mono ?_
    rintro e w1 ⟨rfl, hb1⟩
    have HB1 := Lib.hid hb1
    clear hb1
    go_wp2_with fail
    refine (HY.out _).mono ?_
    rintro e w2 ⟨rfl, hb2⟩
    have z0 := heap_old (heap_new w1 (.cells #[.int .i8 k, .int .i64 n, .string t, .int .i64 b] 25)) (.cells #[.int .i64 e, .int .i64 f] 28)
    have z1 := heap_new (w1.alloc (.cells #[.int .i8 k, .int .i64 n, .string t, .int .i64 b] 25)) (.cells #[.int .i64 e, .int .i64 f] 28)
    have hB := (HB1.out.alloc HB1.out.size (.cells #[.int .i8 k, .int .i64 n, .string t, .int .i64 b] 25))
    have hB' := hB.alloc hB.size (.cells #[.int .i64 e, .int .i64 f] 28)
    have HB2 := Lib.hid (hB'.trans (hb2.mono hB'.size))
    have k0 := keep_heap z0 hb2
    have k1 := keep_heap z1 hb2
    have hs0 := heap_lt k0
    have hs1 := heap_lt k1
    obtain ⟨x0, y0⟩ := cells_at k0 0 _ rfl
    obtain ⟨x1, y1⟩ := cells_at k0 1 _ rfl
    obtain ⟨x2, y2⟩ := cells_at k0 2 _ rfl
    obtain ⟨x3, y3⟩ := cells_at k0 3 _ rfl
    obtain ⟨x4, y4⟩ := cells_at k1 0 _ rfl
    obtain ⟨x5, y5⟩ := cells_at k1 1 _ rfl
    rw [World.size_alloc] at k1 x4 x5 hs1
    clear z0 z1 k0 k1 hB hB' hb2 y0 y1 y2 y3 y4 y5
    go_wp2_with fail
    refine (HM.out _).mono ?_
    rintro e w3 ⟨rfl, rfl⟩
    go_wp2_with fail
    refine (HN.out _).mono ?_
    rintro e w4 ⟨rfl, rfl⟩
    go_wp2_with fail
    have hB3 := (HB2.out.alloc HB2.out.size (.cells #[.int .i8 k, .int .i64 n, .string t, .int .i64 b] 25))
    have hB4 := hB3.alloc hB3.size (.cells #[.int .i64 e, .int .i64 f] 28)
    refine (wakes_any _ (HT.out.keep hB4)).mono ?_
    rintro e w5 ⟨rfl, hb5⟩
    have HB5 := Lib.hid (hB4.trans (hb5.mono hB4.size))
    clear hB3 hB4 hb5
    go_wp2_with fail
    go_ret
    exact ⟨rfl, HB5.out⟩
end Go.Proofs.YtnhhihmifbjkkaaDoor
