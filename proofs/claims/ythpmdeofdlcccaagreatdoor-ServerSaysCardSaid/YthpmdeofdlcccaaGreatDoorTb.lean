/- terms: kind, one. Conditions: the table of letters reads as laid; lengths fit. -/
import Derived.Test.YthpmdeofdlcccaaGreatDoorTa
namespace Go.Proofs.YthpmdeofdlcccaaGreatDoor
open Go.ChangeShapes Go.WideShapes Go.ChangeAt Go.RowKit
set_option linter.unusedVariables false
def KindPost (w : World) (v : Value) (e : Ending) (w' : World) : Prop := e = .returned v ∧ Below w.heap.size w w'
def NodeS (w0 : World) (pb b o : Nat) (k N : Int) (S U : ByteArray) (lv : Value) (w : World) : Prop := w.cell? ⟨pb, 0, none⟩ = some (.pointer (some ⟨b, o, none⟩)) ∧ Node w b o k N S U lv ∧ Below w0.heap.size w0 w

theorem kind_0_t (w : World) (b o : Nat) {N : Int} {S U : ByteArray} {ao : Option Addr} {len cap : Nat} (h : Node w b o 0 N S U (.slice ao len cap)) (hb : bareB true false false false N S U len = true) :
    Calls Tryz.prog 93 #[.pointer (some ⟨b, o, none⟩)] w (KindPost w (.iface 128 (.agg #[.int .i64 N]))) := by
  have hB := (Below.refl w.heap.size w).alloc (Nat.le_refl _) (.cells #[.pointer (some ⟨b, o, none⟩)] 114)
  have hN := h.keep hB
  have hp : (w.alloc (.cells #[.pointer (some ⟨b, o, none⟩)] 114)).cell? ⟨w.heap.size, 0, none⟩ = some (.pointer (some ⟨b, o, none⟩)) := by simp [go_sem]
  have HNM := names_tfff _ _ _ _ hp hN
  rw [hb] at HNM
  have HC := Lib.hid HNM
  obtain ⟨c0, c1, c2, c3, c4⟩ := h
  have hlt : b < w.heap.size := World.block_lt_of_cell? w _ c0
  clear HNM hb
  go_enter Tryz.func93, Tryz.ntmps93
  go_wp2_with fail
  refine HC.out.mono ?_
  rintro e w1 ⟨rfl, rfl⟩
  go_wp2_with fail
  go_ret
  exact ⟨rfl, hB⟩
theorem kind_0_f (w : World) (b o : Nat) {N : Int} {S U : ByteArray} {ao : Option Addr} {len cap : Nat} (h : Node w b o 0 N S U (.slice ao len cap)) (hb : bareB true false false false N S U len = false) :
    Calls Tryz.prog 93 #[.pointer (some ⟨b, o, none⟩)] w (KindPost w (.nilIface)) := by
  have hB := (Below.refl w.heap.size w).alloc (Nat.le_refl _) (.cells #[.pointer (some ⟨b, o, none⟩)] 114)
  have hN := h.keep hB
  have hp : (w.alloc (.cells #[.pointer (some ⟨b, o, none⟩)] 114)).cell? ⟨w.heap.size, 0, none⟩ = some (.pointer (some ⟨b, o, none⟩)) := by simp [go_sem]
  have HNM := names_tfff _ _ _ _ hp hN
  rw [hb] at HNM
  have HC := Lib.hid HNM
  obtain ⟨c0, c1, c2, c3, c4⟩ := h
  have hlt : b < w.heap.size := World.block_lt_of_cell? w _ c0
  clear HNM hb
  go_enter Tryz.func93, Tryz.ntmps93
  go_wp2_with fail
  refine HC.out.mono ?_
  rintro e w1 ⟨rfl, rfl⟩
  go_wp2_with fail
  go_ret
  exact ⟨rfl, hB⟩
theorem kind_2_t (w : World) (b o : Nat) {N : Int} {S U : ByteArray} {ao : Option Addr} {len cap : Nat} (h : Node w b o 2 N S U (.slice ao len cap)) (hb : bareB true false false false N S U len = true) :
    Calls Tryz.prog 93 #[.pointer (some ⟨b, o, none⟩)] w (KindPost w (.iface 129 (.agg #[.int .i64 N]))) := by
  have hB := (Below.refl w.heap.size w).alloc (Nat.le_refl _) (.cells #[.pointer (some ⟨b, o, none⟩)] 114)
  have hN := h.keep hB
  have hp : (w.alloc (.cells #[.pointer (some ⟨b, o, none⟩)] 114)).cell? ⟨w.heap.size, 0, none⟩ = some (.pointer (some ⟨b, o, none⟩)) := by simp [go_sem]
  have HNM := names_tfff _ _ _ _ hp hN
  rw [hb] at HNM
  have HC := Lib.hid HNM
  obtain ⟨c0, c1, c2, c3, c4⟩ := h
  have hlt : b < w.heap.size := World.block_lt_of_cell? w _ c0
  clear HNM hb
  go_enter Tryz.func93, Tryz.ntmps93
  go_wp2_with fail
  refine HC.out.mono ?_
  rintro e w1 ⟨rfl, rfl⟩
  go_wp2_with fail
  go_ret
  exact ⟨rfl, hB⟩
theorem kind_2_f (w : World) (b o : Nat) {N : Int} {S U : ByteArray} {ao : Option Addr} {len cap : Nat} (h : Node w b o 2 N S U (.slice ao len cap)) (hb : bareB true false false false N S U len = false) :
    Calls Tryz.prog 93 #[.pointer (some ⟨b, o, none⟩)] w (KindPost w (.nilIface)) := by
  have hB := (Below.refl w.heap.size w).alloc (Nat.le_refl _) (.cells #[.pointer (some ⟨b, o, none⟩)] 114)
  have hN := h.keep hB
  have hp : (w.alloc (.cells #[.pointer (some ⟨b, o, none⟩)] 114)).cell? ⟨w.heap.size, 0, none⟩ = some (.pointer (some ⟨b, o, none⟩)) := by simp [go_sem]
  have HNM := names_tfff _ _ _ _ hp hN
  rw [hb] at HNM
  have HC := Lib.hid HNM
  obtain ⟨c0, c1, c2, c3, c4⟩ := h
  have hlt : b < w.heap.size := World.block_lt_of_cell? w _ c0
  clear HNM hb
  go_enter Tryz.func93, Tryz.ntmps93
  go_wp2_with fail
  refine HC.out.mono ?_
  rintro e w1 ⟨rfl, rfl⟩
  go_wp2_with fail
  go_ret
  exact ⟨rfl, hB⟩
theorem kind_4_t (w : World) (b o : Nat) {N : Int} {S U : ByteArray} {ao : Option Addr} {len cap : Nat} (h : Node w b o 4 N S U (.slice ao len cap)) (hb : bareB true false false false N S U len = true) :
    Calls Tryz.prog 93 #[.pointer (some ⟨b, o, none⟩)] w (KindPost w (.iface 129 (.agg #[.int .i64 N]))) := by
  have hB := (Below.refl w.heap.size w).alloc (Nat.le_refl _) (.cells #[.pointer (some ⟨b, o, none⟩)] 114)
  have hN := h.keep hB
  have hp : (w.alloc (.cells #[.pointer (some ⟨b, o, none⟩)] 114)).cell? ⟨w.heap.size, 0, none⟩ = some (.pointer (some ⟨b, o, none⟩)) := by simp [go_sem]
  have HNM := names_tfff _ _ _ _ hp hN
  rw [hb] at HNM
  have HC := Lib.hid HNM
  obtain ⟨c0, c1, c2, c3, c4⟩ := h
  have hlt : b < w.heap.size := World.block_lt_of_cell? w _ c0
  clear HNM hb
  go_enter Tryz.func93, Tryz.ntmps93
  go_wp2_with fail
  refine HC.out.mono ?_
  rintro e w1 ⟨rfl, rfl⟩
  go_wp2_with fail
  go_ret
  exact ⟨rfl, hB⟩
theorem kind_4_f (w : World) (b o : Nat) {N : Int} {S U : ByteArray} {ao : Option Addr} {len cap : Nat} (h : Node w b o 4 N S U (.slice ao len cap)) (hb : bareB true false false false N S U len = false) :
    Calls Tryz.prog 93 #[.pointer (some ⟨b, o, none⟩)] w (KindPost w (.nilIface)) := by
  have hB := (Below.refl w.heap.size w).alloc (Nat.le_refl _) (.cells #[.pointer (some ⟨b, o, none⟩)] 114)
  have hN := h.keep hB
  have hp : (w.alloc (.cells #[.pointer (some ⟨b, o, none⟩)] 114)).cell? ⟨w.heap.size, 0, none⟩ = some (.pointer (some ⟨b, o, none⟩)) := by simp [go_sem]
  have HNM := names_tfff _ _ _ _ hp hN
  rw [hb] at HNM
  have HC := Lib.hid HNM
  obtain ⟨c0, c1, c2, c3, c4⟩ := h
  have hlt : b < w.heap.size := World.block_lt_of_cell? w _ c0
  clear HNM hb
  go_enter Tryz.func93, Tryz.ntmps93
  go_wp2_with fail
  refine HC.out.mono ?_
  rintro e w1 ⟨rfl, rfl⟩
  go_wp2_with fail
  go_ret
  exact ⟨rfl, hB⟩
theorem kind_1_t (w : World) (b o : Nat) {N : Int} {S U : ByteArray} {ao : Option Addr} {len cap : Nat} (h : Node w b o 1 N S U (.slice ao len cap)) (hb : bareB false true false false N S U len = true) :
    Calls Tryz.prog 93 #[.pointer (some ⟨b, o, none⟩)] w (KindPost w (.iface 131 (.agg #[.string S]))) := by
  have hB := (Below.refl w.heap.size w).alloc (Nat.le_refl _) (.cells #[.pointer (some ⟨b, o, none⟩)] 114)
  have hN := h.keep hB
  have hp : (w.alloc (.cells #[.pointer (some ⟨b, o, none⟩)] 114)).cell? ⟨w.heap.size, 0, none⟩ = some (.pointer (some ⟨b, o, none⟩)) := by simp [go_sem]
  have HNM := names_ftff _ _ _ _ hp hN
  rw [hb] at HNM
  have HC := Lib.hid HNM
  obtain ⟨c0, c1, c2, c3, c4⟩ := h
  have hlt : b < w.heap.size := World.block_lt_of_cell? w _ c0
  clear HNM hb
  go_enter Tryz.func93, Tryz.ntmps93
  go_wp2_with fail
  refine HC.out.mono ?_
  rintro e w1 ⟨rfl, rfl⟩
  go_wp2_with fail
  go_ret
  exact ⟨rfl, hB⟩
theorem kind_1_f (w : World) (b o : Nat) {N : Int} {S U : ByteArray} {ao : Option Addr} {len cap : Nat} (h : Node w b o 1 N S U (.slice ao len cap)) (hb : bareB false true false false N S U len = false) :
    Calls Tryz.prog 93 #[.pointer (some ⟨b, o, none⟩)] w (KindPost w (.nilIface)) := by
  have hB := (Below.refl w.heap.size w).alloc (Nat.le_refl _) (.cells #[.pointer (some ⟨b, o, none⟩)] 114)
  have hN := h.keep hB
  have hp : (w.alloc (.cells #[.pointer (some ⟨b, o, none⟩)] 114)).cell? ⟨w.heap.size, 0, none⟩ = some (.pointer (some ⟨b, o, none⟩)) := by simp [go_sem]
  have HNM := names_ftff _ _ _ _ hp hN
  rw [hb] at HNM
  have HC := Lib.hid HNM
  obtain ⟨c0, c1, c2, c3, c4⟩ := h
  have hlt : b < w.heap.size := World.block_lt_of_cell? w _ c0
  clear HNM hb
  go_enter Tryz.func93, Tryz.ntmps93
  go_wp2_with fail
  refine HC.out.mono ?_
  rintro e w1 ⟨rfl, rfl⟩
  go_wp2_with fail
  go_ret
  exact ⟨rfl, hB⟩
theorem kind_3_t (w : World) (b o : Nat) {N : Int} {S U : ByteArray} {ao : Option Addr} {len cap : Nat} (h : Node w b o 3 N S U (.slice ao len cap)) (hb : bareB true true true false N S U len = true) :
    Calls Tryz.prog 93 #[.pointer (some ⟨b, o, none⟩)] w (KindPost w (.iface 133 (.agg #[.string S, .string U, .int .i64 N]))) := by
  have hB := (Below.refl w.heap.size w).alloc (Nat.le_refl _) (.cells #[.pointer (some ⟨b, o, none⟩)] 114)
  have hN := h.keep hB
  have hp : (w.alloc (.cells #[.pointer (some ⟨b, o, none⟩)] 114)).cell? ⟨w.heap.size, 0, none⟩ = some (.pointer (some ⟨b, o, none⟩)) := by simp [go_sem]
  have HNM := names_tttf _ _ _ _ hp hN
  rw [hb] at HNM
  have HC := Lib.hid HNM
  obtain ⟨c0, c1, c2, c3, c4⟩ := h
  have hlt : b < w.heap.size := World.block_lt_of_cell? w _ c0
  clear HNM hb
  go_enter Tryz.func93, Tryz.ntmps93
  go_wp2_with fail
  refine HC.out.mono ?_
  rintro e w1 ⟨rfl, rfl⟩
  go_wp2_with fail
  go_quiet (fail)
  go_wp2_with fail
  go_ret
  exact ⟨rfl, below_drewN hB _⟩
theorem kind_3_f (w : World) (b o : Nat) {N : Int} {S U : ByteArray} {ao : Option Addr} {len cap : Nat} (h : Node w b o 3 N S U (.slice ao len cap)) (hb : bareB true true true false N S U len = false) :
    Calls Tryz.prog 93 #[.pointer (some ⟨b, o, none⟩)] w (KindPost w (.nilIface)) := by
  have hB := (Below.refl w.heap.size w).alloc (Nat.le_refl _) (.cells #[.pointer (some ⟨b, o, none⟩)] 114)
  have hN := h.keep hB
  have hp : (w.alloc (.cells #[.pointer (some ⟨b, o, none⟩)] 114)).cell? ⟨w.heap.size, 0, none⟩ = some (.pointer (some ⟨b, o, none⟩)) := by simp [go_sem]
  have HNM := names_tttf _ _ _ _ hp hN
  rw [hb] at HNM
  have HC := Lib.hid HNM
  obtain ⟨c0, c1, c2, c3, c4⟩ := h
  have hlt : b < w.heap.size := World.block_lt_of_cell? w _ c0
  clear HNM hb
  go_enter Tryz.func93, Tryz.ntmps93
  go_wp2_with fail
  refine HC.out.mono ?_
  rintro e w1 ⟨rfl, rfl⟩
  go_wp2_with fail
  go_ret
  exact ⟨rfl, hB⟩
theorem kind_5_t (w : World) (b o : Nat) {N : Int} {S U : ByteArray} {ao : Option Addr} {len cap : Nat} (h : Node w b o 5 N S U (.slice ao len cap)) (hb : bareB false false false true N S U len = true) :
    Calls Tryz.prog 93 #[.pointer (some ⟨b, o, none⟩)] w (KindPost w (.iface 135 (.agg #[.slice ao len cap, .int .i64 (-1)]))) := by
  have hB := (Below.refl w.heap.size w).alloc (Nat.le_refl _) (.cells #[.pointer (some ⟨b, o, none⟩)] 114)
  have hN := h.keep hB
  have hp : (w.alloc (.cells #[.pointer (some ⟨b, o, none⟩)] 114)).cell? ⟨w.heap.size, 0, none⟩ = some (.pointer (some ⟨b, o, none⟩)) := by simp [go_sem]
  have HNM := names_ffft _ _ _ _ hp hN
  rw [hb] at HNM
  have HC := Lib.hid HNM
  obtain ⟨c0, c1, c2, c3, c4⟩ := h
  have hlt : b < w.heap.size := World.block_lt_of_cell? w _ c0
  clear HNM hb
  go_enter Tryz.func93, Tryz.ntmps93
  go_wp2_with fail
  refine HC.out.mono ?_
  rintro e w1 ⟨rfl, rfl⟩
  go_wp2_with fail
  go_ret
  exact ⟨rfl, hB⟩
theorem kind_5_f (w : World) (b o : Nat) {N : Int} {S U : ByteArray} {ao : Option Addr} {len cap : Nat} (h : Node w b o 5 N S U (.slice ao len cap)) (hb : bareB false false false true N S U len = false) :
    Calls Tryz.prog 93 #[.pointer (some ⟨b, o, none⟩)] w (KindPost w (.nilIface)) := by
  have hB := (Below.refl w.heap.size w).alloc (Nat.le_refl _) (.cells #[.pointer (some ⟨b, o, none⟩)] 114)
  have hN := h.keep hB
  have hp : (w.alloc (.cells #[.pointer (some ⟨b, o, none⟩)] 114)).cell? ⟨w.heap.size, 0, none⟩ = some (.pointer (some ⟨b, o, none⟩)) := by simp [go_sem]
  have HNM := names_ffft _ _ _ _ hp hN
  rw [hb] at HNM
  have HC := Lib.hid HNM
  obtain ⟨c0, c1, c2, c3, c4⟩ := h
  have hlt : b < w.heap.size := World.block_lt_of_cell? w _ c0
  clear HNM hb
  go_enter Tryz.func93, Tryz.ntmps93
  go_wp2_with fail
  refine HC.out.mono ?_
  rintro e w1 ⟨rfl, rfl⟩
  go_wp2_with fail
  go_ret
  exact ⟨rfl, hB⟩
theorem kind_6_t (w : World) (b o : Nat) {N : Int} {S U : ByteArray} {ao : Option Addr} {len cap : Nat} (h : Node w b o 6 N S U (.slice ao len cap)) (hb : bareB false false false false N S U len = true) :
    Calls Tryz.prog 93 #[.pointer (some ⟨b, o, none⟩)] w (KindPost w (.iface 135 (.agg #[.slice none 0 0, .int .i64 0]))) := by
  have hB := (Below.refl w.heap.size w).alloc (Nat.le_refl _) (.cells #[.pointer (some ⟨b, o, none⟩)] 114)
  have hN := h.keep hB
  have hp : (w.alloc (.cells #[.pointer (some ⟨b, o, none⟩)] 114)).cell? ⟨w.heap.size, 0, none⟩ = some (.pointer (some ⟨b, o, none⟩)) := by simp [go_sem]
  have HNM := names_ffff _ _ _ _ hp hN
  rw [hb] at HNM
  have HC := Lib.hid HNM
  obtain ⟨c0, c1, c2, c3, c4⟩ := h
  have hlt : b < w.heap.size := World.block_lt_of_cell? w _ c0
  clear HNM hb
  go_enter Tryz.func93, Tryz.ntmps93
  go_wp2_with fail
  refine HC.out.mono ?_
  rintro e w1 ⟨rfl, rfl⟩
  go_wp2_with fail
  go_ret
  exact ⟨rfl, hB⟩
theorem kind_6_f (w : World) (b o : Nat) {N : Int} {S U : ByteArray} {ao : Option Addr} {len cap : Nat} (h : Node w b o 6 N S U (.slice ao len cap)) (hb : bareB false false false false N S U len = false) :
    Calls Tryz.prog 93 #[.pointer (some ⟨b, o, none⟩)] w (KindPost w (.nilIface)) := by
  have hB := (Below.refl w.heap.size w).alloc (Nat.le_refl _) (.cells #[.pointer (some ⟨b, o, none⟩)] 114)
  have hN := h.keep hB
  have hp : (w.alloc (.cells #[.pointer (some ⟨b, o, none⟩)] 114)).cell? ⟨w.heap.size, 0, none⟩ = some (.pointer (some ⟨b, o, none⟩)) := by simp [go_sem]
  have HNM := names_ffff _ _ _ _ hp hN
  rw [hb] at HNM
  have HC := Lib.hid HNM
  obtain ⟨c0, c1, c2, c3, c4⟩ := h
  have hlt : b < w.heap.size := World.block_lt_of_cell? w _ c0
  clear HNM hb
  go_enter Tryz.func93, Tryz.ntmps93
  go_wp2_with fail
  refine HC.out.mono ?_
  rintro e w1 ⟨rfl, rfl⟩
  go_wp2_with fail
  go_ret
  exact ⟨rfl, hB⟩
theorem kind_7_t (w : World) (b o : Nat) {N : Int} {S U : ByteArray} {ao : Option Addr} {len cap : Nat} (h : Node w b o 7 N S U (.slice ao len cap)) (hb : bareB false false false true N S U len = true) :
    Calls Tryz.prog 93 #[.pointer (some ⟨b, o, none⟩)] w (KindPost w (.iface 135 (.agg #[.slice ao len cap, .int .i64 2]))) := by
  have hB := (Below.refl w.heap.size w).alloc (Nat.le_refl _) (.cells #[.pointer (some ⟨b, o, none⟩)] 114)
  have hN := h.keep hB
  have hp : (w.alloc (.cells #[.pointer (some ⟨b, o, none⟩)] 114)).cell? ⟨w.heap.size, 0, none⟩ = some (.pointer (some ⟨b, o, none⟩)) := by simp [go_sem]
  have HNM := names_ffft _ _ _ _ hp hN
  rw [hb] at HNM
  have HC := Lib.hid HNM
  obtain ⟨c0, c1, c2, c3, c4⟩ := h
  have hlt : b < w.heap.size := World.block_lt_of_cell? w _ c0
  clear HNM hb
  go_enter Tryz.func93, Tryz.ntmps93
  go_wp2_with fail
  refine HC.out.mono ?_
  rintro e w1 ⟨rfl, rfl⟩
  go_wp2_with fail
  go_ret
  exact ⟨rfl, hB⟩
theorem kind_7_f (w : World) (b o : Nat) {N : Int} {S U : ByteArray} {ao : Option Addr} {len cap : Nat} (h : Node w b o 7 N S U (.slice ao len cap)) (hb : bareB false false false true N S U len = false) :
    Calls Tryz.prog 93 #[.pointer (some ⟨b, o, none⟩)] w (KindPost w (.nilIface)) := by
  have hB := (Below.refl w.heap.size w).alloc (Nat.le_refl _) (.cells #[.pointer (some ⟨b, o, none⟩)] 114)
  have hN := h.keep hB
  have hp : (w.alloc (.cells #[.pointer (some ⟨b, o, none⟩)] 114)).cell? ⟨w.heap.size, 0, none⟩ = some (.pointer (some ⟨b, o, none⟩)) := by simp [go_sem]
  have HNM := names_ffft _ _ _ _ hp hN
  rw [hb] at HNM
  have HC := Lib.hid HNM
  obtain ⟨c0, c1, c2, c3, c4⟩ := h
  have hlt : b < w.heap.size := World.block_lt_of_cell? w _ c0
  clear HNM hb
  go_enter Tryz.func93, Tryz.ntmps93
  go_wp2_with fail
  refine HC.out.mono ?_
  rintro e w1 ⟨rfl, rfl⟩
  go_wp2_with fail
  go_ret
  exact ⟨rfl, hB⟩
theorem kind_x (w : World) (b o : Nat) {k N : Int} {S U : ByteArray} {ao : Option Addr} {len cap : Nat} (h : Node w b o k N S U (.slice ao len cap)) (hk : k < 0 ∨ 7 < k) :
    Calls Tryz.prog 93 #[.pointer (some ⟨b, o, none⟩)] w (KindPost w .nilIface) := by
  have hB := (Below.refl w.heap.size w).alloc (Nat.le_refl _) (.cells #[.pointer (some ⟨b, o, none⟩)] 114)
  obtain ⟨c0, c1, c2, c3, c4⟩ := h
  have hlt : b < w.heap.size := World.block_lt_of_cell? w _ c0
  have k0 : (k == 0) = false := by simp; omega
  have k1 : (k == 1) = false := by simp; omega
  have k2 : (k == 2) = false := by simp; omega
  have k3 : (k == 3) = false := by simp; omega
  have k4 : (k == 4) = false := by simp; omega
  have k5 : (k == 5) = false := by simp; omega
  have k6 : (k == 6) = false := by simp; omega
  have k7 : (k == 7) = false := by simp; omega
  clear hk
  go_enter Tryz.func93, Tryz.ntmps93
  go_wp2_with fail
  go_ret
  exact ⟨rfl, hB⟩
end Go.Proofs.YthpmdeofdlcccaaGreatDoor
