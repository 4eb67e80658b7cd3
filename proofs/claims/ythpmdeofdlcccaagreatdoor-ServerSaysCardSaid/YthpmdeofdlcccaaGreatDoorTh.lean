/- terms: the reference's one. Conditions: lengths fit. -/
import Derived.Test.YthpmdeofdlcccaaGreatDoorTg
namespace Go.Proofs.YthpmdeofdlcccaaGreatDoor
open Go.ChangeShapes Go.WideShapes Go.ChangeAt Go.RowKit
set_option linter.unusedVariables false
theorem rone_0_f (w : World) (N : Int) (S U : ByteArray) (hS : S.size ≤ 9223372036854775807) (hU : U.size ≤ 9223372036854775807) (ao : Option Addr) (len cap : Nat) (hb : bareB true false false false N S U len = false) :
    Calls Tryz.prog 96 #[.agg #[.int .i8 0, .int .i64 N, .string S, .string U, .slice ao len cap]] w (IsPost w (false)) := by
  have hB := (Below.refl w.heap.size w).alloc (Nat.le_refl _) (.cells #[.int .i8 0, .int .i64 N, .string S, .string U, .slice ao len cap] 25)
  have hh : (w.alloc (.cells #[.int .i8 0, .int .i64 N, .string S, .string U, .slice ao len cap] 25)).heap[w.heap.size]? = some (.cells #[.int .i8 0, .int .i64 N, .string S, .string U, .slice ao len cap] 25 (0, 0)) := (MapKept.heap_alloc w _).1
  have HR := bare_tfff (w.alloc (.cells #[.int .i8 0, .int .i64 N, .string S, .string U, .slice ao len cap] 25)) 0 N S U ao len cap
  rw [hb] at HR
  have HC := Lib.hid HR
  have HH := Lib.hid hh
  clear HR hh hb
  go_enter Tryz.func96, Tryz.ntmps96
  go_wp2_with fail
  refine HC.out.mono ?_
  rintro e w1 ⟨rfl, hb1⟩
  have hB1 := hB.trans (hb1.mono (by simp))
  have hh1 := keep_heap HH.out hb1
  have c1 := (cells_at hh1 1 _ rfl).1
  have c2 := (cells_at hh1 2 _ rfl).1
  have c3 := (cells_at hh1 3 _ rfl).1
  have c4 := (cells_at hh1 4 _ rfl).1
  have HH1 := Lib.hid hh1
  clear hh1 hb1 hB HC HH
  go_wp2_with fail
  go_ret
  exact ⟨rfl, hB1⟩
theorem rone_0_t (w : World) (N : Int) (S U : ByteArray) (hS : S.size ≤ 9223372036854775807) (hU : U.size ≤ 9223372036854775807) (ao : Option Addr) (len cap : Nat) (hb : bareB true false false false N S U len = true) :
    Calls Tryz.prog 96 #[.agg #[.int .i8 0, .int .i64 N, .string S, .string U, .slice ao len cap]] w (IsPost w (mayI N)) := by
  have hB := (Below.refl w.heap.size w).alloc (Nat.le_refl _) (.cells #[.int .i8 0, .int .i64 N, .string S, .string U, .slice ao len cap] 25)
  have hh : (w.alloc (.cells #[.int .i8 0, .int .i64 N, .string S, .string U, .slice ao len cap] 25)).heap[w.heap.size]? = some (.cells #[.int .i8 0, .int .i64 N, .string S, .string U, .slice ao len cap] 25 (0, 0)) := (MapKept.heap_alloc w _).1
  have HR := bare_tfff (w.alloc (.cells #[.int .i8 0, .int .i64 N, .string S, .string U, .slice ao len cap] 25)) 0 N S U ao len cap
  rw [hb] at HR
  have HC := Lib.hid HR
  have HH := Lib.hid hh
  clear HR hh hb
  go_enter Tryz.func96, Tryz.ntmps96
  go_wp2_with fail
  refine HC.out.mono ?_
  rintro e w1 ⟨rfl, hb1⟩
  have hB1 := hB.trans (hb1.mono (by simp))
  have hh1 := keep_heap HH.out hb1
  have c1 := (cells_at hh1 1 _ rfl).1
  have c2 := (cells_at hh1 2 _ rfl).1
  have c3 := (cells_at hh1 3 _ rfl).1
  have c4 := (cells_at hh1 4 _ rfl).1
  have HH1 := Lib.hid hh1
  clear hh1 hb1 hB HC HH
  go_wp2_with fail
  refine (rimay_any _ _).mono ?_
  rintro e w2 ⟨rfl, rfl⟩
  go_wp2_with fail
  go_ret
  exact ⟨rfl, hB1⟩
theorem rone_2_f (w : World) (N : Int) (S U : ByteArray) (hS : S.size ≤ 9223372036854775807) (hU : U.size ≤ 9223372036854775807) (ao : Option Addr) (len cap : Nat) (hb : bareB true false false false N S U len = false) :
    Calls Tryz.prog 96 #[.agg #[.int .i8 2, .int .i64 N, .string S, .string U, .slice ao len cap]] w (IsPost w (false)) := by
  have hB := (Below.refl w.heap.size w).alloc (Nat.le_refl _) (.cells #[.int .i8 2, .int .i64 N, .string S, .string U, .slice ao len cap] 25)
  have hh : (w.alloc (.cells #[.int .i8 2, .int .i64 N, .string S, .string U, .slice ao len cap] 25)).heap[w.heap.size]? = some (.cells #[.int .i8 2, .int .i64 N, .string S, .string U, .slice ao len cap] 25 (0, 0)) := (MapKept.heap_alloc w _).1
  have HR := bare_tfff (w.alloc (.cells #[.int .i8 2, .int .i64 N, .string S, .string U, .slice ao len cap] 25)) 2 N S U ao len cap
  rw [hb] at HR
  have HC := Lib.hid HR
  have HH := Lib.hid hh
  clear HR hh hb
  go_enter Tryz.func96, Tryz.ntmps96
  go_wp2_with fail
  refine HC.out.mono ?_
  rintro e w1 ⟨rfl, hb1⟩
  have hB1 := hB.trans (hb1.mono (by simp))
  have hh1 := keep_heap HH.out hb1
  have c1 := (cells_at hh1 1 _ rfl).1
  have c2 := (cells_at hh1 2 _ rfl).1
  have c3 := (cells_at hh1 3 _ rfl).1
  have c4 := (cells_at hh1 4 _ rfl).1
  have HH1 := Lib.hid hh1
  clear hh1 hb1 hB HC HH
  go_wp2_with fail
  go_ret
  exact ⟨rfl, hB1⟩
theorem rone_2_t (w : World) (N : Int) (S U : ByteArray) (hS : S.size ≤ 9223372036854775807) (hU : U.size ≤ 9223372036854775807) (ao : Option Addr) (len cap : Nat) (hb : bareB true false false false N S U len = true) :
    Calls Tryz.prog 96 #[.agg #[.int .i8 2, .int .i64 N, .string S, .string U, .slice ao len cap]] w (IsPost w (decide (0 ≤ N) && decide (N ≤ 576460752303423487))) := by
  by_cases h1 : 0 ≤ N
  · by_cases h2 : N ≤ 576460752303423487
    · have e : (decide (0 ≤ N) && decide (N ≤ 576460752303423487)) = true := by simp [h1, h2]
      rw [e]
      clear e
      have d1 : decide (0 ≤ N) = true := by simpa using h1
      have d2 : decide (N ≤ 576460752303423487) = true := by simpa using h2
      have hB := (Below.refl w.heap.size w).alloc (Nat.le_refl _) (.cells #[.int .i8 2, .int .i64 N, .string S, .string U, .slice ao len cap] 25)
      have hh : (w.alloc (.cells #[.int .i8 2, .int .i64 N, .string S, .string U, .slice ao len cap] 25)).heap[w.heap.size]? = some (.cells #[.int .i8 2, .int .i64 N, .string S, .string U, .slice ao len cap] 25 (0, 0)) := (MapKept.heap_alloc w _).1
      have HR := bare_tfff (w.alloc (.cells #[.int .i8 2, .int .i64 N, .string S, .string U, .slice ao len cap] 25)) 2 N S U ao len cap
      rw [hb] at HR
      have HC := Lib.hid HR
      have HH := Lib.hid hh
      clear HR hh hb
      go_enter Tryz.func96, Tryz.ntmps96
      go_wp2_with fail
      refine HC.out.mono ?_
      rintro e w1 ⟨rfl, hb1⟩
      have hB1 := hB.trans (hb1.mono (by simp))
      have hh1 := keep_heap HH.out hb1
      have c1 := (cells_at hh1 1 _ rfl).1
      have c2 := (cells_at hh1 2 _ rfl).1
      have c3 := (cells_at hh1 3 _ rfl).1
      have c4 := (cells_at hh1 4 _ rfl).1
      have HH1 := Lib.hid hh1
      clear hh1 hb1 hB HC HH
      go_wp2_with fail
      go_ret
      exact ⟨rfl, hB1⟩
    · have e : (decide (0 ≤ N) && decide (N ≤ 576460752303423487)) = false := by simp [h2]
      rw [e]
      clear e
      have d1 : decide (0 ≤ N) = true := by simpa using h1
      have d2 : decide (N ≤ 576460752303423487) = false := by simpa using h2
      have hB := (Below.refl w.heap.size w).alloc (Nat.le_refl _) (.cells #[.int .i8 2, .int .i64 N, .string S, .string U, .slice ao len cap] 25)
      have hh : (w.alloc (.cells #[.int .i8 2, .int .i64 N, .string S, .string U, .slice ao len cap] 25)).heap[w.heap.size]? = some (.cells #[.int .i8 2, .int .i64 N, .string S, .string U, .slice ao len cap] 25 (0, 0)) := (MapKept.heap_alloc w _).1
      have HR := bare_tfff (w.alloc (.cells #[.int .i8 2, .int .i64 N, .string S, .string U, .slice ao len cap] 25)) 2 N S U ao len cap
      rw [hb] at HR
      have HC := Lib.hid HR
      have HH := Lib.hid hh
      clear HR hh hb
      go_enter Tryz.func96, Tryz.ntmps96
      go_wp2_with fail
      refine HC.out.mono ?_
      rintro e w1 ⟨rfl, hb1⟩
      have hB1 := hB.trans (hb1.mono (by simp))
      have hh1 := keep_heap HH.out hb1
      have c1 := (cells_at hh1 1 _ rfl).1
      have c2 := (cells_at hh1 2 _ rfl).1
      have c3 := (cells_at hh1 3 _ rfl).1
      have c4 := (cells_at hh1 4 _ rfl).1
      have HH1 := Lib.hid hh1
      clear hh1 hb1 hB HC HH
      go_wp2_with fail
      go_ret
      exact ⟨rfl, hB1⟩
  · have e : (decide (0 ≤ N) && decide (N ≤ 576460752303423487)) = false := by simp [h1]
    rw [e]
    clear e
    have d1 : decide (0 ≤ N) = false := by simpa using h1
    have hB := (Below.refl w.heap.size w).alloc (Nat.le_refl _) (.cells #[.int .i8 2, .int .i64 N, .string S, .string U, .slice ao len cap] 25)
    have hh : (w.alloc (.cells #[.int .i8 2, .int .i64 N, .string S, .string U, .slice ao len cap] 25)).heap[w.heap.size]? = some (.cells #[.int .i8 2, .int .i64 N, .string S, .string U, .slice ao len cap] 25 (0, 0)) := (MapKept.heap_alloc w _).1
    have HR := bare_tfff (w.alloc (.cells #[.int .i8 2, .int .i64 N, .string S, .string U, .slice ao len cap] 25)) 2 N S U ao len cap
    rw [hb] at HR
    have HC := Lib.hid HR
    have HH := Lib.hid hh
    clear HR hh hb
    go_enter Tryz.func96, Tryz.ntmps96
    go_wp2_with fail
    refine HC.out.mono ?_
    rintro e w1 ⟨rfl, hb1⟩
    have hB1 := hB.trans (hb1.mono (by simp))
    have hh1 := keep_heap HH.out hb1
    have c1 := (cells_at hh1 1 _ rfl).1
    have c2 := (cells_at hh1 2 _ rfl).1
    have c3 := (cells_at hh1 3 _ rfl).1
    have c4 := (cells_at hh1 4 _ rfl).1
    have HH1 := Lib.hid hh1
    clear hh1 hb1 hB HC HH
    go_wp2_with fail
    go_ret
    exact ⟨rfl, hB1⟩
theorem rone_4_f (w : World) (N : Int) (S U : ByteArray) (hS : S.size ≤ 9223372036854775807) (hU : U.size ≤ 9223372036854775807) (ao : Option Addr) (len cap : Nat) (hb : bareB true false false false N S U len = false) :
    Calls Tryz.prog 96 #[.agg #[.int .i8 4, .int .i64 N, .string S, .string U, .slice ao len cap]] w (IsPost w (false)) := by
  have hB := (Below.refl w.heap.size w).alloc (Nat.le_refl _) (.cells #[.int .i8 4, .int .i64 N, .string S, .string U, .slice ao len cap] 25)
  have hh : (w.alloc (.cells #[.int .i8 4, .int .i64 N, .string S, .string U, .slice ao len cap] 25)).heap[w.heap.size]? = some (.cells #[.int .i8 4, .int .i64 N, .string S, .string U, .slice ao len cap] 25 (0, 0)) := (MapKept.heap_alloc w _).1
  have HR := bare_tfff (w.alloc (.cells #[.int .i8 4, .int .i64 N, .string S, .string U, .slice ao len cap] 25)) 4 N S U ao len cap
  rw [hb] at HR
  have HC := Lib.hid HR
  have HH := Lib.hid hh
  clear HR hh hb
  go_enter Tryz.func96, Tryz.ntmps96
  go_wp2_with fail
  refine HC.out.mono ?_
  rintro e w1 ⟨rfl, hb1⟩
  have hB1 := hB.trans (hb1.mono (by simp))
  have hh1 := keep_heap HH.out hb1
  have c1 := (cells_at hh1 1 _ rfl).1
  have c2 := (cells_at hh1 2 _ rfl).1
  have c3 := (cells_at hh1 3 _ rfl).1
  have c4 := (cells_at hh1 4 _ rfl).1
  have HH1 := Lib.hid hh1
  clear hh1 hb1 hB HC HH
  go_wp2_with fail
  go_ret
  exact ⟨rfl, hB1⟩
theorem rone_4_t (w : World) (N : Int) (S U : ByteArray) (hS : S.size ≤ 9223372036854775807) (hU : U.size ≤ 9223372036854775807) (ao : Option Addr) (len cap : Nat) (hb : bareB true false false false N S U len = true) :
    Calls Tryz.prog 96 #[.agg #[.int .i8 4, .int .i64 N, .string S, .string U, .slice ao len cap]] w (IsPost w (decide (0 ≤ N) && decide (N ≤ 576460752303423487))) := by
  by_cases h1 : 0 ≤ N
  · by_cases h2 : N ≤ 576460752303423487
    · have e : (decide (0 ≤ N) && decide (N ≤ 576460752303423487)) = true := by simp [h1, h2]
      rw [e]
      clear e
      have d1 : decide (0 ≤ N) = true := by simpa using h1
      have d2 : decide (N ≤ 576460752303423487) = true := by simpa using h2
      have hB := (Below.refl w.heap.size w).alloc (Nat.le_refl _) (.cells #[.int .i8 4, .int .i64 N, .string S, .string U, .slice ao len cap] 25)
      have hh : (w.alloc (.cells #[.int .i8 4, .int .i64 N, .string S, .string U, .slice ao len cap] 25)).heap[w.heap.size]? = some (.cells #[.int .i8 4, .int .i64 N, .string S, .string U, .slice ao len cap] 25 (0, 0)) := (MapKept.heap_alloc w _).1
      have HR := bare_tfff (w.alloc (.cells #[.int .i8 4, .int .i64 N, .string S, .string U, .slice ao len cap] 25)) 4 N S U ao len cap
      rw [hb] at HR
      have HC := Lib.hid HR
      have HH := Lib.hid hh
      clear HR hh hb
      go_enter Tryz.func96, Tryz.ntmps96
      go_wp2_with fail
      refine HC.out.mono ?_
      rintro e w1 ⟨rfl, hb1⟩
      have hB1 := hB.trans (hb1.mono (by simp))
      have hh1 := keep_heap HH.out hb1
      have c1 := (cells_at hh1 1 _ rfl).1
      have c2 := (cells_at hh1 2 _ rfl).1
      have c3 := (cells_at hh1 3 _ rfl).1
      have c4 := (cells_at hh1 4 _ rfl).1
      have HH1 := Lib.hid hh1
      clear hh1 hb1 hB HC HH
      go_wp2_with fail
      go_ret
      exact ⟨rfl, hB1⟩
    · have e : (decide (0 ≤ N) && decide (N ≤ 576460752303423487)) = false := by simp [h2]
      rw [e]
      clear e
      have d1 : decide (0 ≤ N) = true := by simpa using h1
      have d2 : decide (N ≤ 576460752303423487) = false := by simpa using h2
      have hB := (Below.refl w.heap.size w).alloc (Nat.le_refl _) (.cells #[.int .i8 4, .int .i64 N, .string S, .string U, .slice ao len cap] 25)
      have hh : (w.alloc (.cells #[.int .i8 4, .int .i64 N, .string S, .string U, .slice ao len cap] 25)).heap[w.heap.size]? = some (.cells #[.int .i8 4, .int .i64 N, .string S, .string U, .slice ao len cap] 25 (0, 0)) := (MapKept.heap_alloc w _).1
      have HR := bare_tfff (w.alloc (.cells #[.int .i8 4, .int .i64 N, .string S, .string U, .slice ao len cap] 25)) 4 N S U ao len cap
      rw [hb] at HR
      have HC := Lib.hid HR
      have HH := Lib.hid hh
      clear HR hh hb
      go_enter Tryz.func96, Tryz.ntmps96
      go_wp2_with fail
      refine HC.out.mono ?_
      rintro e w1 ⟨rfl, hb1⟩
      have hB1 := hB.trans (hb1.mono (by simp))
      have hh1 := keep_heap HH.out hb1
      have c1 := (cells_at hh1 1 _ rfl).1
      have c2 := (cells_at hh1 2 _ rfl).1
      have c3 := (cells_at hh1 3 _ rfl).1
      have c4 := (cells_at hh1 4 _ rfl).1
      have HH1 := Lib.hid hh1
      clear hh1 hb1 hB HC HH
      go_wp2_with fail
      go_ret
      exact ⟨rfl, hB1⟩
  · have e : (decide (0 ≤ N) && decide (N ≤ 576460752303423487)) = false := by simp [h1]
    rw [e]
    clear e
    have d1 : decide (0 ≤ N) = false := by simpa using h1
    have hB := (Below.refl w.heap.size w).alloc (Nat.le_refl _) (.cells #[.int .i8 4, .int .i64 N, .string S, .string U, .slice ao len cap] 25)
    have hh : (w.alloc (.cells #[.int .i8 4, .int .i64 N, .string S, .string U, .slice ao len cap] 25)).heap[w.heap.size]? = some (.cells #[.int .i8 4, .int .i64 N, .string S, .string U, .slice ao len cap] 25 (0, 0)) := (MapKept.heap_alloc w _).1
    have HR := bare_tfff (w.alloc (.cells #[.int .i8 4, .int .i64 N, .string S, .string U, .slice ao len cap] 25)) 4 N S U ao len cap
    rw [hb] at HR
    have HC := Lib.hid HR
    have HH := Lib.hid hh
    clear HR hh hb
    go_enter Tryz.func96, Tryz.ntmps96
    go_wp2_with fail
    refine HC.out.mono ?_
    rintro e w1 ⟨rfl, hb1⟩
    have hB1 := hB.trans (hb1.mono (by simp))
    have hh1 := keep_heap HH.out hb1
    have c1 := (cells_at hh1 1 _ rfl).1
    have c2 := (cells_at hh1 2 _ rfl).1
    have c3 := (cells_at hh1 3 _ rfl).1
    have c4 := (cells_at hh1 4 _ rfl).1
    have HH1 := Lib.hid hh1
    clear hh1 hb1 hB HC HH
    go_wp2_with fail
    go_ret
    exact ⟨rfl, hB1⟩
theorem rone_1_f (w : World) (N : Int) (S U : ByteArray) (hS : S.size ≤ 9223372036854775807) (hU : U.size ≤ 9223372036854775807) (ao : Option Addr) (len cap : Nat) (hb : bareB false true false false N S U len = false) :
    Calls Tryz.prog 96 #[.agg #[.int .i8 1, .int .i64 N, .string S, .string U, .slice ao len cap]] w (IsPost w (false)) := by
  have hB := (Below.refl w.heap.size w).alloc (Nat.le_refl _) (.cells #[.int .i8 1, .int .i64 N, .string S, .string U, .slice ao len cap] 25)
  have hh : (w.alloc (.cells #[.int .i8 1, .int .i64 N, .string S, .string U, .slice ao len cap] 25)).heap[w.heap.size]? = some (.cells #[.int .i8 1, .int .i64 N, .string S, .string U, .slice ao len cap] 25 (0, 0)) := (MapKept.heap_alloc w _).1
  have HR := bare_ftff (w.alloc (.cells #[.int .i8 1, .int .i64 N, .string S, .string U, .slice ao len cap] 25)) 1 N S U ao len cap
  rw [hb] at HR
  have HC := Lib.hid HR
  have HH := Lib.hid hh
  clear HR hh hb
  go_enter Tryz.func96, Tryz.ntmps96
  go_wp2_with fail
  refine HC.out.mono ?_
  rintro e w1 ⟨rfl, hb1⟩
  have hB1 := hB.trans (hb1.mono (by simp))
  have hh1 := keep_heap HH.out hb1
  have c1 := (cells_at hh1 1 _ rfl).1
  have c2 := (cells_at hh1 2 _ rfl).1
  have c3 := (cells_at hh1 3 _ rfl).1
  have c4 := (cells_at hh1 4 _ rfl).1
  have HH1 := Lib.hid hh1
  clear hh1 hb1 hB HC HH
  go_wp2_with fail
  go_ret
  exact ⟨rfl, hB1⟩
theorem rone_1_t (w : World) (N : Int) (S U : ByteArray) (hS : S.size ≤ 9223372036854775807) (hU : U.size ≤ 9223372036854775807) (ao : Option Addr) (len cap : Nat) (hb : bareB false true false false N S U len = true) :
    Calls Tryz.prog 96 #[.agg #[.int .i8 1, .int .i64 N, .string S, .string U, .slice ao len cap]] w (IsPost w (mayS S)) := by
  have hB := (Below.refl w.heap.size w).alloc (Nat.le_refl _) (.cells #[.int .i8 1, .int .i64 N, .string S, .string U, .slice ao len cap] 25)
  have hh : (w.alloc (.cells #[.int .i8 1, .int .i64 N, .string S, .string U, .slice ao len cap] 25)).heap[w.heap.size]? = some (.cells #[.int .i8 1, .int .i64 N, .string S, .string U, .slice ao len cap] 25 (0, 0)) := (MapKept.heap_alloc w _).1
  have HR := bare_ftff (w.alloc (.cells #[.int .i8 1, .int .i64 N, .string S, .string U, .slice ao len cap] 25)) 1 N S U ao len cap
  rw [hb] at HR
  have HC := Lib.hid HR
  have HH := Lib.hid hh
  clear HR hh hb
  go_enter Tryz.func96, Tryz.ntmps96
  go_wp2_with fail
  refine HC.out.mono ?_
  rintro e w1 ⟨rfl, hb1⟩
  have hB1 := hB.trans (hb1.mono (by simp))
  have hh1 := keep_heap HH.out hb1
  have c1 := (cells_at hh1 1 _ rfl).1
  have c2 := (cells_at hh1 2 _ rfl).1
  have c3 := (cells_at hh1 3 _ rfl).1
  have c4 := (cells_at hh1 4 _ rfl).1
  have HH1 := Lib.hid hh1
  clear hh1 hb1 hB HC HH
  go_wp2_with fail
  refine (refmay8 S hS _).mono ?_
  rintro e w2 ⟨rfl, hb2⟩
  go_wp2_with fail
  go_ret
  exact ⟨rfl, hB1.trans (hb2.mono hB1.size)⟩
theorem rone_3_f (w : World) (N : Int) (S U : ByteArray) (hS : S.size ≤ 9223372036854775807) (hU : U.size ≤ 9223372036854775807) (ao : Option Addr) (len cap : Nat) (hb : bareB true true true false N S U len = false) :
    Calls Tryz.prog 96 #[.agg #[.int .i8 3, .int .i64 N, .string S, .string U, .slice ao len cap]] w (IsPost w (false)) := by
  have hB := (Below.refl w.heap.size w).alloc (Nat.le_refl _) (.cells #[.int .i8 3, .int .i64 N, .string S, .string U, .slice ao len cap] 25)
  have hh : (w.alloc (.cells #[.int .i8 3, .int .i64 N, .string S, .string U, .slice ao len cap] 25)).heap[w.heap.size]? = some (.cells #[.int .i8 3, .int .i64 N, .string S, .string U, .slice ao len cap] 25 (0, 0)) := (MapKept.heap_alloc w _).1
  have HR := bare_tttf (w.alloc (.cells #[.int .i8 3, .int .i64 N, .string S, .string U, .slice ao len cap] 25)) 3 N S U ao len cap
  rw [hb] at HR
  have HC := Lib.hid HR
  have HH := Lib.hid hh
  clear HR hh hb
  go_enter Tryz.func96, Tryz.ntmps96
  go_wp2_with fail
  refine HC.out.mono ?_
  rintro e w1 ⟨rfl, hb1⟩
  have hB1 := hB.trans (hb1.mono (by simp))
  have hh1 := keep_heap HH.out hb1
  have c1 := (cells_at hh1 1 _ rfl).1
  have c2 := (cells_at hh1 2 _ rfl).1
  have c3 := (cells_at hh1 3 _ rfl).1
  have c4 := (cells_at hh1 4 _ rfl).1
  have HH1 := Lib.hid hh1
  clear hh1 hb1 hB HC HH
  go_wp2_with fail
  go_ret
  exact ⟨rfl, hB1⟩
theorem rone_3_t (w : World) (N : Int) (S U : ByteArray) (hS : S.size ≤ 9223372036854775807) (hU : U.size ≤ 9223372036854775807) (ao : Option Addr) (len cap : Nat) (hb : bareB true true true false N S U len = true) :
    Calls Tryz.prog 96 #[.agg #[.int .i8 3, .int .i64 N, .string S, .string U, .slice ao len cap]] w (IsPost w (mayS S && (mayS U && (decide (0 ≤ N) && decide (N ≤ 8))))) := by
  cases hmS : mayS S
  · have e : (false && (mayS U && (decide (0 ≤ N) && decide (N ≤ 8)))) = false := rfl
    rw [e]
    clear e
    have HMS := Lib.hid hmS
    clear hmS
    have hB := (Below.refl w.heap.size w).alloc (Nat.le_refl _) (.cells #[.int .i8 3, .int .i64 N, .string S, .string U, .slice ao len cap] 25)
    have hh : (w.alloc (.cells #[.int .i8 3, .int .i64 N, .string S, .string U, .slice ao len cap] 25)).heap[w.heap.size]? = some (.cells #[.int .i8 3, .int .i64 N, .string S, .string U, .slice ao len cap] 25 (0, 0)) := (MapKept.heap_alloc w _).1
    have HR := bare_tttf (w.alloc (.cells #[.int .i8 3, .int .i64 N, .string S, .string U, .slice ao len cap] 25)) 3 N S U ao len cap
    rw [hb] at HR
    have HC := Lib.hid HR
    have HH := Lib.hid hh
    clear HR hh hb
    go_enter Tryz.func96, Tryz.ntmps96
    go_wp2_with fail
    refine HC.out.mono ?_
    rintro e w1 ⟨rfl, hb1⟩
    have hB1 := hB.trans (hb1.mono (by simp))
    have hh1 := keep_heap HH.out hb1
    have c1 := (cells_at hh1 1 _ rfl).1
    have c2 := (cells_at hh1 2 _ rfl).1
    have c3 := (cells_at hh1 3 _ rfl).1
    have c4 := (cells_at hh1 4 _ rfl).1
    have HH1 := Lib.hid hh1
    clear hh1 hb1 hB HC HH
    go_wp2_with fail
    refine (refmay8 S hS _).mono ?_
    rw [HMS.out]
    rintro e w2 ⟨rfl, hb2⟩
    have f3 := keep_cell c3 hb2
    have f1 := keep_cell c1 hb2
    have hB2 := hB1.trans (hb2.mono hB1.size)
    clear c1 c2 c3 c4 hb2 hB1
    go_wp2_with fail
    go_ret
    exact ⟨rfl, hB2⟩
  · have HMS := Lib.hid hmS
    clear hmS
    cases hmU : mayS U
    · have e : (true && (false && (decide (0 ≤ N) && decide (N ≤ 8)))) = false := rfl
      rw [e]
      clear e
      have HMU := Lib.hid hmU
      clear hmU
      have hB := (Below.refl w.heap.size w).alloc (Nat.le_refl _) (.cells #[.int .i8 3, .int .i64 N, .string S, .string U, .slice ao len cap] 25)
      have hh : (w.alloc (.cells #[.int .i8 3, .int .i64 N, .string S, .string U, .slice ao len cap] 25)).heap[w.heap.size]? = some (.cells #[.int .i8 3, .int .i64 N, .string S, .string U, .slice ao len cap] 25 (0, 0)) := (MapKept.heap_alloc w _).1
      have HR := bare_tttf (w.alloc (.cells #[.int .i8 3, .int .i64 N, .string S, .string U, .slice ao len cap] 25)) 3 N S U ao len cap
      rw [hb] at HR
      have HC := Lib.hid HR
      have HH := Lib.hid hh
      clear HR hh hb
      go_enter Tryz.func96, Tryz.ntmps96
      go_wp2_with fail
      refine HC.out.mono ?_
      rintro e w1 ⟨rfl, hb1⟩
      have hB1 := hB.trans (hb1.mono (by simp))
      have hh1 := keep_heap HH.out hb1
      have c1 := (cells_at hh1 1 _ rfl).1
      have c2 := (cells_at hh1 2 _ rfl).1
      have c3 := (cells_at hh1 3 _ rfl).1
      have c4 := (cells_at hh1 4 _ rfl).1
      have HH1 := Lib.hid hh1
      clear hh1 hb1 hB HC HH
      go_wp2_with fail
      refine (refmay8 S hS _).mono ?_
      rw [HMS.out]
      rintro e w2 ⟨rfl, hb2⟩
      have f3 := keep_cell c3 hb2
      have f1 := keep_cell c1 hb2
      have hB2 := hB1.trans (hb2.mono hB1.size)
      clear c1 c2 c3 c4 hb2 hB1
      go_wp2_with fail
      refine (refmay8 U hU _).mono ?_
      rw [HMU.out]
      rintro e w3 ⟨rfl, hb3⟩
      have g1 := keep_cell f1 hb3
      have hB3 := hB2.trans (hb3.mono hB2.size)
      clear f1 f3 hb3 hB2
      go_wp2_with fail
      go_ret
      exact ⟨rfl, hB3⟩
    · have HMU := Lib.hid hmU
      clear hmU
      by_cases h1 : 0 ≤ N
      · by_cases h2 : N ≤ 8
        · have e : (true && (true && (decide (0 ≤ N) && decide (N ≤ 8)))) = true := by simp [h1, h2]
          rw [e]
          clear e
          have d1 : decide (0 ≤ N) = true := by simpa using h1
          have d2 : decide (N ≤ 8) = true := by simpa using h2
          have hB := (Below.refl w.heap.size w).alloc (Nat.le_refl _) (.cells #[.int .i8 3, .int .i64 N, .string S, .string U, .slice ao len cap] 25)
          have hh : (w.alloc (.cells #[.int .i8 3, .int .i64 N, .string S, .string U, .slice ao len cap] 25)).heap[w.heap.size]? = some (.cells #[.int .i8 3, .int .i64 N, .string S, .string U, .slice ao len cap] 25 (0, 0)) := (MapKept.heap_alloc w _).1
          have HR := bare_tttf (w.alloc (.cells #[.int .i8 3, .int .i64 N, .string S, .string U, .slice ao len cap] 25)) 3 N S U ao len cap
          rw [hb] at HR
          have HC := Lib.hid HR
          have HH := Lib.hid hh
          clear HR hh hb
          go_enter Tryz.func96, Tryz.ntmps96
          go_wp2_with fail
          refine HC.out.mono ?_
          rintro e w1 ⟨rfl, hb1⟩
          have hB1 := hB.trans (hb1.mono (by simp))
          have hh1 := keep_heap HH.out hb1
          have c1 := (cells_at hh1 1 _ rfl).1
          have c2 := (cells_at hh1 2 _ rfl).1
          have c3 := (cells_at hh1 3 _ rfl).1
          have c4 := (cells_at hh1 4 _ rfl).1
          have HH1 := Lib.hid hh1
          clear hh1 hb1 hB HC HH
          go_wp2_with fail
          refine (refmay8 S hS _).mono ?_
          rw [HMS.out]
          rintro e w2 ⟨rfl, hb2⟩
          have f3 := keep_cell c3 hb2
          have f1 := keep_cell c1 hb2
          have hB2 := hB1.trans (hb2.mono hB1.size)
          clear c1 c2 c3 c4 hb2 hB1
          go_wp2_with fail
          refine (refmay8 U hU _).mono ?_
          rw [HMU.out]
          rintro e w3 ⟨rfl, hb3⟩
          have g1 := keep_cell f1 hb3
          have hB3 := hB2.trans (hb3.mono hB2.size)
          clear f1 f3 hb3 hB2
          go_wp2_with fail
          go_ret
          exact ⟨rfl, hB3⟩
        · have e : (true && (true && (decide (0 ≤ N) && decide (N ≤ 8)))) = false := by simp [h2]
          rw [e]
          clear e
          have d1 : decide (0 ≤ N) = true := by simpa using h1
          have d2 : decide (N ≤ 8) = false := by simpa using h2
          have hB := (Below.refl w.heap.size w).alloc (Nat.le_refl _) (.cells #[.int .i8 3, .int .i64 N, .string S, .string U, .slice ao len cap] 25)
          have hh : (w.alloc (.cells #[.int .i8 3, .int .i64 N, .string S, .string U, .slice ao len cap] 25)).heap[w.heap.size]? = some (.cells #[.int .i8 3, .int .i64 N, .string S, .string U, .slice ao len cap] 25 (0, 0)) := (MapKept.heap_alloc w _).1
          have HR := bare_tttf (w.alloc (.cells #[.int .i8 3, .int .i64 N, .string S, .string U, .slice ao len cap] 25)) 3 N S U ao len cap
          rw [hb] at HR
          have HC := Lib.hid HR
          have HH := Lib.hid hh
          clear HR hh hb
          go_enter Tryz.func96, Tryz.ntmps96
          go_wp2_with fail
          refine HC.out.mono ?_
          rintro e w1 ⟨rfl, hb1⟩
          have hB1 := hB.trans (hb1.mono (by simp))
          have hh1 := keep_heap HH.out hb1
          have c1 := (cells_at hh1 1 _ rfl).1
          have c2 := (cells_at hh1 2 _ rfl).1
          have c3 := (cells_at hh1 3 _ rfl).1
          have c4 := (cells_at hh1 4 _ rfl).1
          have HH1 := Lib.hid hh1
          clear hh1 hb1 hB HC HH
          go_wp2_with fail
          refine (refmay8 S hS _).mono ?_
          rw [HMS.out]
          rintro e w2 ⟨rfl, hb2⟩
          have f3 := keep_cell c3 hb2
          have f1 := keep_cell c1 hb2
          have hB2 := hB1.trans (hb2.mono hB1.size)
          clear c1 c2 c3 c4 hb2 hB1
          go_wp2_with fail
          refine (refmay8 U hU _).mono ?_
          rw [HMU.out]
          rintro e w3 ⟨rfl, hb3⟩
          have g1 := keep_cell f1 hb3
          have hB3 := hB2.trans (hb3.mono hB2.size)
          clear f1 f3 hb3 hB2
          go_wp2_with fail
          go_ret
          exact ⟨rfl, hB3⟩
      · have e : (true && (true && (decide (0 ≤ N) && decide (N ≤ 8)))) = false := by simp [h1]
        rw [e]
        clear e
        have d1 : decide (0 ≤ N) = false := by simpa using h1
        have hB := (Below.refl w.heap.size w).alloc (Nat.le_refl _) (.cells #[.int .i8 3, .int .i64 N, .string S, .string U, .slice ao len cap] 25)
        have hh : (w.alloc (.cells #[.int .i8 3, .int .i64 N, .string S, .string U, .slice ao len cap] 25)).heap[w.heap.size]? = some (.cells #[.int .i8 3, .int .i64 N, .string S, .string U, .slice ao len cap] 25 (0, 0)) := (MapKept.heap_alloc w _).1
        have HR := bare_tttf (w.alloc (.cells #[.int .i8 3, .int .i64 N, .string S, .string U, .slice ao len cap] 25)) 3 N S U ao len cap
        rw [hb] at HR
        have HC := Lib.hid HR
        have HH := Lib.hid hh
        clear HR hh hb
        go_enter Tryz.func96, Tryz.ntmps96
        go_wp2_with fail
        refine HC.out.mono ?_
        rintro e w1 ⟨rfl, hb1⟩
        have hB1 := hB.trans (hb1.mono (by simp))
        have hh1 := keep_heap HH.out hb1
        have c1 := (cells_at hh1 1 _ rfl).1
        have c2 := (cells_at hh1 2 _ rfl).1
        have c3 := (cells_at hh1 3 _ rfl).1
        have c4 := (cells_at hh1 4 _ rfl).1
        have HH1 := Lib.hid hh1
        clear hh1 hb1 hB HC HH
        go_wp2_with fail
        refine (refmay8 S hS _).mono ?_
        rw [HMS.out]
        rintro e w2 ⟨rfl, hb2⟩
        have f3 := keep_cell c3 hb2
        have f1 := keep_cell c1 hb2
        have hB2 := hB1.trans (hb2.mono hB1.size)
        clear c1 c2 c3 c4 hb2 hB1
        go_wp2_with fail
        refine (refmay8 U hU _).mono ?_
        rw [HMU.out]
        rintro e w3 ⟨rfl, hb3⟩
        have g1 := keep_cell f1 hb3
        have hB3 := hB2.trans (hb3.mono hB2.size)
        clear f1 f3 hb3 hB2
        go_wp2_with fail
        go_ret
        exact ⟨rfl, hB3⟩
theorem rone_5_f (w : World) (N : Int) (S U : ByteArray) (hS : S.size ≤ 9223372036854775807) (hU : U.size ≤ 9223372036854775807) (ao : Option Addr) (len cap : Nat) (hb : bareB false false false true N S U len = false) :
    Calls Tryz.prog 96 #[.agg #[.int .i8 5, .int .i64 N, .string S, .string U, .slice ao len cap]] w (IsPost w (false)) := by
  have hB := (Below.refl w.heap.size w).alloc (Nat.le_refl _) (.cells #[.int .i8 5, .int .i64 N, .string S, .string U, .slice ao len cap] 25)
  have hh : (w.alloc (.cells #[.int .i8 5, .int .i64 N, .string S, .string U, .slice ao len cap] 25)).heap[w.heap.size]? = some (.cells #[.int .i8 5, .int .i64 N, .string S, .string U, .slice ao len cap] 25 (0, 0)) := (MapKept.heap_alloc w _).1
  have HR := bare_ffft (w.alloc (.cells #[.int .i8 5, .int .i64 N, .string S, .string U, .slice ao len cap] 25)) 5 N S U ao len cap
  rw [hb] at HR
  have HC := Lib.hid HR
  have HH := Lib.hid hh
  clear HR hh hb
  go_enter Tryz.func96, Tryz.ntmps96
  go_wp2_with fail
  refine HC.out.mono ?_
  rintro e w1 ⟨rfl, hb1⟩
  have hB1 := hB.trans (hb1.mono (by simp))
  have hh1 := keep_heap HH.out hb1
  have c1 := (cells_at hh1 1 _ rfl).1
  have c2 := (cells_at hh1 2 _ rfl).1
  have c3 := (cells_at hh1 3 _ rfl).1
  have c4 := (cells_at hh1 4 _ rfl).1
  have HH1 := Lib.hid hh1
  clear hh1 hb1 hB HC HH
  go_wp2_with fail
  go_ret
  exact ⟨rfl, hB1⟩
theorem rone_5_t (w : World) (N : Int) (S U : ByteArray) (hS : S.size ≤ 9223372036854775807) (hU : U.size ≤ 9223372036854775807) (ao : Option Addr) (len cap : Nat) (hb : bareB false false false true N S U len = true) :
    Calls Tryz.prog 96 #[.agg #[.int .i8 5, .int .i64 N, .string S, .string U, .slice ao len cap]] w (IsPost w (true)) := by
  have hB := (Below.refl w.heap.size w).alloc (Nat.le_refl _) (.cells #[.int .i8 5, .int .i64 N, .string S, .string U, .slice ao len cap] 25)
  have hh : (w.alloc (.cells #[.int .i8 5, .int .i64 N, .string S, .string U, .slice ao len cap] 25)).heap[w.heap.size]? = some (.cells #[.int .i8 5, .int .i64 N, .string S, .string U, .slice ao len cap] 25 (0, 0)) := (MapKept.heap_alloc w _).1
  have HR := bare_ffft (w.alloc (.cells #[.int .i8 5, .int .i64 N, .string S, .string U, .slice ao len cap] 25)) 5 N S U ao len cap
  rw [hb] at HR
  have HC := Lib.hid HR
  have HH := Lib.hid hh
  clear HR hh hb
  go_enter Tryz.func96, Tryz.ntmps96
  go_wp2_with fail
  refine HC.out.mono ?_
  rintro e w1 ⟨rfl, hb1⟩
  have hB1 := hB.trans (hb1.mono (by simp))
  have hh1 := keep_heap HH.out hb1
  have c1 := (cells_at hh1 1 _ rfl).1
  have c2 := (cells_at hh1 2 _ rfl).1
  have c3 := (cells_at hh1 3 _ rfl).1
  have c4 := (cells_at hh1 4 _ rfl).1
  have HH1 := Lib.hid hh1
  clear hh1 hb1 hB HC HH
  go_wp2_with fail
  go_ret
  exact ⟨rfl, hB1⟩
theorem rone_6_f (w : World) (N : Int) (S U : ByteArray) (hS : S.size ≤ 9223372036854775807) (hU : U.size ≤ 9223372036854775807) (ao : Option Addr) (len cap : Nat) (hb : bareB false false false false N S U len = false) :
    Calls Tryz.prog 96 #[.agg #[.int .i8 6, .int .i64 N, .string S, .string U, .slice ao len cap]] w (IsPost w (false)) := by
  have hB := (Below.refl w.heap.size w).alloc (Nat.le_refl _) (.cells #[.int .i8 6, .int .i64 N, .string S, .string U, .slice ao len cap] 25)
  have hh : (w.alloc (.cells #[.int .i8 6, .int .i64 N, .string S, .string U, .slice ao len cap] 25)).heap[w.heap.size]? = some (.cells #[.int .i8 6, .int .i64 N, .string S, .string U, .slice ao len cap] 25 (0, 0)) := (MapKept.heap_alloc w _).1
  have HR := bare_ffff (w.alloc (.cells #[.int .i8 6, .int .i64 N, .string S, .string U, .slice ao len cap] 25)) 6 N S U ao len cap
  rw [hb] at HR
  have HC := Lib.hid HR
  have HH := Lib.hid hh
  clear HR hh hb
  go_enter Tryz.func96, Tryz.ntmps96
  go_wp2_with fail
  refine HC.out.mono ?_
  rintro e w1 ⟨rfl, hb1⟩
  have hB1 := hB.trans (hb1.mono (by simp))
  have hh1 := keep_heap HH.out hb1
  have c1 := (cells_at hh1 1 _ rfl).1
  have c2 := (cells_at hh1 2 _ rfl).1
  have c3 := (cells_at hh1 3 _ rfl).1
  have c4 := (cells_at hh1 4 _ rfl).1
  have HH1 := Lib.hid hh1
  clear hh1 hb1 hB HC HH
  go_wp2_with fail
  go_ret
  exact ⟨rfl, hB1⟩
theorem rone_6_t (w : World) (N : Int) (S U : ByteArray) (hS : S.size ≤ 9223372036854775807) (hU : U.size ≤ 9223372036854775807) (ao : Option Addr) (len cap : Nat) (hb : bareB false false false false N S U len = true) :
    Calls Tryz.prog 96 #[.agg #[.int .i8 6, .int .i64 N, .string S, .string U, .slice ao len cap]] w (IsPost w (true)) := by
  have hB := (Below.refl w.heap.size w).alloc (Nat.le_refl _) (.cells #[.int .i8 6, .int .i64 N, .string S, .string U, .slice ao len cap] 25)
  have hh : (w.alloc (.cells #[.int .i8 6, .int .i64 N, .string S, .string U, .slice ao len cap] 25)).heap[w.heap.size]? = some (.cells #[.int .i8 6, .int .i64 N, .string S, .string U, .slice ao len cap] 25 (0, 0)) := (MapKept.heap_alloc w _).1
  have HR := bare_ffff (w.alloc (.cells #[.int .i8 6, .int .i64 N, .string S, .string U, .slice ao len cap] 25)) 6 N S U ao len cap
  rw [hb] at HR
  have HC := Lib.hid HR
  have HH := Lib.hid hh
  clear HR hh hb
  go_enter Tryz.func96, Tryz.ntmps96
  go_wp2_with fail
  refine HC.out.mono ?_
  rintro e w1 ⟨rfl, hb1⟩
  have hB1 := hB.trans (hb1.mono (by simp))
  have hh1 := keep_heap HH.out hb1
  have c1 := (cells_at hh1 1 _ rfl).1
  have c2 := (cells_at hh1 2 _ rfl).1
  have c3 := (cells_at hh1 3 _ rfl).1
  have c4 := (cells_at hh1 4 _ rfl).1
  have HH1 := Lib.hid hh1
  clear hh1 hb1 hB HC HH
  go_wp2_with fail
  go_ret
  exact ⟨rfl, hB1⟩
theorem rone_7_f (w : World) (N : Int) (S U : ByteArray) (hS : S.size ≤ 9223372036854775807) (hU : U.size ≤ 9223372036854775807) (ao : Option Addr) (len cap : Nat) (hb : bareB false false false true N S U len = false) :
    Calls Tryz.prog 96 #[.agg #[.int .i8 7, .int .i64 N, .string S, .string U, .slice ao len cap]] w (IsPost w (false)) := by
  have hB := (Below.refl w.heap.size w).alloc (Nat.le_refl _) (.cells #[.int .i8 7, .int .i64 N, .string S, .string U, .slice ao len cap] 25)
  have hh : (w.alloc (.cells #[.int .i8 7, .int .i64 N, .string S, .string U, .slice ao len cap] 25)).heap[w.heap.size]? = some (.cells #[.int .i8 7, .int .i64 N, .string S, .string U, .slice ao len cap] 25 (0, 0)) := (MapKept.heap_alloc w _).1
  have HR := bare_ffft (w.alloc (.cells #[.int .i8 7, .int .i64 N, .string S, .string U, .slice ao len cap] 25)) 7 N S U ao len cap
  rw [hb] at HR
  have HC := Lib.hid HR
  have HH := Lib.hid hh
  clear HR hh hb
  go_enter Tryz.func96, Tryz.ntmps96
  go_wp2_with fail
  refine HC.out.mono ?_
  rintro e w1 ⟨rfl, hb1⟩
  have hB1 := hB.trans (hb1.mono (by simp))
  have hh1 := keep_heap HH.out hb1
  have c1 := (cells_at hh1 1 _ rfl).1
  have c2 := (cells_at hh1 2 _ rfl).1
  have c3 := (cells_at hh1 3 _ rfl).1
  have c4 := (cells_at hh1 4 _ rfl).1
  have HH1 := Lib.hid hh1
  clear hh1 hb1 hB HC HH
  go_wp2_with fail
  go_ret
  exact ⟨rfl, hB1⟩
theorem rone_7_t (w : World) (N : Int) (S U : ByteArray) (hS : S.size ≤ 9223372036854775807) (hU : U.size ≤ 9223372036854775807) (ao : Option Addr) (len cap : Nat) (hb : bareB false false false true N S U len = true) :
    Calls Tryz.prog 96 #[.agg #[.int .i8 7, .int .i64 N, .string S, .string U, .slice ao len cap]] w (IsPost w (decide (len = 2))) := by
  by_cases hl : len = 2
  · have e : decide (len = 2) = true := by simp [hl]
    rw [e]
    have d1 : ((len : Int) == 2) = true := by simp; omega
    clear hl e
    have hB := (Below.refl w.heap.size w).alloc (Nat.le_refl _) (.cells #[.int .i8 7, .int .i64 N, .string S, .string U, .slice ao len cap] 25)
    have hh : (w.alloc (.cells #[.int .i8 7, .int .i64 N, .string S, .string U, .slice ao len cap] 25)).heap[w.heap.size]? = some (.cells #[.int .i8 7, .int .i64 N, .string S, .string U, .slice ao len cap] 25 (0, 0)) := (MapKept.heap_alloc w _).1
    have HR := bare_ffft (w.alloc (.cells #[.int .i8 7, .int .i64 N, .string S, .string U, .slice ao len cap] 25)) 7 N S U ao len cap
    rw [hb] at HR
    have HC := Lib.hid HR
    have HH := Lib.hid hh
    clear HR hh hb
    go_enter Tryz.func96, Tryz.ntmps96
    go_wp2_with fail
    refine HC.out.mono ?_
    rintro e w1 ⟨rfl, hb1⟩
    have hB1 := hB.trans (hb1.mono (by simp))
    have hh1 := keep_heap HH.out hb1
    have c1 := (cells_at hh1 1 _ rfl).1
    have c2 := (cells_at hh1 2 _ rfl).1
    have c3 := (cells_at hh1 3 _ rfl).1
    have c4 := (cells_at hh1 4 _ rfl).1
    have HH1 := Lib.hid hh1
    clear hh1 hb1 hB HC HH
    go_wp2_with fail
    go_ret
    exact ⟨rfl, hB1⟩
  · have e : decide (len = 2) = false := by simp [hl]
    rw [e]
    have d1 : ((len : Int) == 2) = false := by simp; omega
    clear hl e
    have hB := (Below.refl w.heap.size w).alloc (Nat.le_refl _) (.cells #[.int .i8 7, .int .i64 N, .string S, .string U, .slice ao len cap] 25)
    have hh : (w.alloc (.cells #[.int .i8 7, .int .i64 N, .string S, .string U, .slice ao len cap] 25)).heap[w.heap.size]? = some (.cells #[.int .i8 7, .int .i64 N, .string S, .string U, .slice ao len cap] 25 (0, 0)) := (MapKept.heap_alloc w _).1
    have HR := bare_ffft (w.alloc (.cells #[.int .i8 7, .int .i64 N, .string S, .string U, .slice ao len cap] 25)) 7 N S U ao len cap
    rw [hb] at HR
    have HC := Lib.hid HR
    have HH := Lib.hid hh
    clear HR hh hb
    go_enter Tryz.func96, Tryz.ntmps96
    go_wp2_with fail
    refine HC.out.mono ?_
    rintro e w1 ⟨rfl, hb1⟩
    have hB1 := hB.trans (hb1.mono (by simp))
    have hh1 := keep_heap HH.out hb1
    have c1 := (cells_at hh1 1 _ rfl).1
    have c2 := (cells_at hh1 2 _ rfl).1
    have c3 := (cells_at hh1 3 _ rfl).1
    have c4 := (cells_at hh1 4 _ rfl).1
    have HH1 := Lib.hid hh1
    clear hh1 hb1 hB HC HH
    go_wp2_with fail
    go_ret
    exact ⟨rfl, hB1⟩
theorem rone_x (w : World) (k N : Int) (S U : ByteArray) (ao : Option Addr) (len cap : Nat) (hk : k < 0 ∨ 7 < k) :
    Calls Tryz.prog 96 #[.agg #[.int .i8 k, .int .i64 N, .string S, .string U, .slice ao len cap]] w (IsPost w false) := by
  have hB := (Below.refl w.heap.size w).alloc (Nat.le_refl _) (.cells #[.int .i8 k, .int .i64 N, .string S, .string U, .slice ao len cap] 25)
  have k0 : (k == 0) = false := by simp; omega
  have k1 : (k == 1) = false := by simp; omega
  have k2 : (k == 2) = false := by simp; omega
  have k3 : (k == 3) = false := by simp; omega
  have k4 : (k == 4) = false := by simp; omega
  have k5 : (k == 5) = false := by simp; omega
  have k6 : (k == 6) = false := by simp; omega
  have k7 : (k == 7) = false := by simp; omega
  clear hk
  go_enter Tryz.func96, Tryz.ntmps96
  go_wp2_with fail
  go_ret
  exact ⟨rfl, hB⟩
theorem rone_any (w : World) (k N : Int) (S U : ByteArray) (hS : S.size ≤ 9223372036854775807) (hU : U.size ≤ 9223372036854775807) (ao : Option Addr) (len cap : Nat) :
    Calls Tryz.prog 96 #[.agg #[.int .i8 k, .int .i64 N, .string S, .string U, .slice ao len cap]] w (IsPost w (oneB k N S U len)) := by
  by_cases hk0 : k = 0
  · subst hk0
    cases hbare : bareB true false false false N S U len
    · have e : oneB 0 N S U len = false := by simp [oneB, hbare]
      rw [e]
      exact rone_0_f w N S U hS hU ao len cap hbare
    · have e : oneB 0 N S U len = mayI N := by simp [oneB, hbare]
      rw [e]
      exact rone_0_t w N S U hS hU ao len cap hbare
  by_cases hk1 : k = 1
  · subst hk1
    cases hbare : bareB false true false false N S U len
    · have e : oneB 1 N S U len = false := by simp [oneB, hbare]
      rw [e]
      exact rone_1_f w N S U hS hU ao len cap hbare
    · have e : oneB 1 N S U len = mayS S := by simp [oneB, hbare]
      rw [e]
      exact rone_1_t w N S U hS hU ao len cap hbare
  by_cases hk2 : k = 2
  · subst hk2
    cases hbare : bareB true false false false N S U len
    · have e : oneB 2 N S U len = false := by simp [oneB, hbare]
      rw [e]
      exact rone_2_f w N S U hS hU ao len cap hbare
    · have e : oneB 2 N S U len = (decide (0 ≤ N) && decide (N ≤ 576460752303423487)) := by simp [oneB, hbare]
      rw [e]
      exact rone_2_t w N S U hS hU ao len cap hbare
  by_cases hk3 : k = 3
  · subst hk3
    cases hbare : bareB true true true false N S U len
    · have e : oneB 3 N S U len = false := by simp [oneB, hbare]
      rw [e]
      exact rone_3_f w N S U hS hU ao len cap hbare
    · have e : oneB 3 N S U len = (mayS S && (mayS U && (decide (0 ≤ N) && decide (N ≤ 8)))) := by simp [oneB, hbare]
      rw [e]
      exact rone_3_t w N S U hS hU ao len cap hbare
  by_cases hk4 : k = 4
  · subst hk4
    cases hbare : bareB true false false false N S U len
    · have e : oneB 4 N S U len = false := by simp [oneB, hbare]
      rw [e]
      exact rone_4_f w N S U hS hU ao len cap hbare
    · have e : oneB 4 N S U len = (decide (0 ≤ N) && decide (N ≤ 576460752303423487)) := by simp [oneB, hbare]
      rw [e]
      exact rone_4_t w N S U hS hU ao len cap hbare
  by_cases hk5 : k = 5
  · subst hk5
    cases hbare : bareB false false false true N S U len
    · have e : oneB 5 N S U len = false := by simp [oneB, hbare]
      rw [e]
      exact rone_5_f w N S U hS hU ao len cap hbare
    · have e : oneB 5 N S U len = true := by simp [oneB, hbare]
      rw [e]
      exact rone_5_t w N S U hS hU ao len cap hbare
  by_cases hk6 : k = 6
  · subst hk6
    cases hbare : bareB false false false false N S U len
    · have e : oneB 6 N S U len = false := by simp [oneB, hbare]
      rw [e]
      exact rone_6_f w N S U hS hU ao len cap hbare
    · have e : oneB 6 N S U len = true := by simp [oneB, hbare]
      rw [e]
      exact rone_6_t w N S U hS hU ao len cap hbare
  by_cases hk7 : k = 7
  · subst hk7
    cases hbare : bareB false false false true N S U len
    · have e : oneB 7 N S U len = false := by simp [oneB, hbare]
      rw [e]
      exact rone_7_f w N S U hS hU ao len cap hbare
    · have e : oneB 7 N S U len = decide (len = 2) := by simp [oneB, hbare]
      rw [e]
      exact rone_7_t w N S U hS hU ao len cap hbare
  have e : oneB k N S U len = false := by simp [oneB, hk0, hk1, hk2, hk3, hk4, hk5, hk6, hk7]
  rw [e]
  exact rone_x w k N S U ao len cap (by omega)
end Go.Proofs.YthpmdeofdlcccaaGreatDoor
