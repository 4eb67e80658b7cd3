/- terms: one. Conditions: the table of letters reads as laid; lengths fit. -/
import Derived.Test.YthpmdeofdlcccaaGreatDoorTb
namespace Go.Proofs.YthpmdeofdlcccaaGreatDoor
open Go.ChangeShapes Go.WideShapes Go.ChangeAt Go.RowKit
set_option linter.unusedVariables false
def mayI (n : Int) : Bool := decide (-576460752303423488 ≤ n) && decide (n ≤ 576460752303423487)
theorem mayI_iff (n : Int) : mayI n = true ↔ -576460752303423488 ≤ n ∧ n ≤ 576460752303423487 := by simp [mayI]
theorem imay_any (n : Int) (w : World) : Calls Tryz.prog 94 #[.int .i64 n] w (SameB w (mayI n)) := by
  by_cases h1 : -576460752303423488 ≤ n
  · by_cases h2 : n ≤ 576460752303423487
    · have : mayI n = true := (mayI_iff n).2 ⟨h1, h2⟩
      rw [this]
      go_enter Tryz.func94, Tryz.ntmps94
      go_wp2_with fail
      go_ret
      exact ⟨rfl, rfl⟩
    · have : mayI n = false := by simp [mayI]; omega
      rw [this]
      have hd : decide (n ≤ 576460752303423487) = false := by simpa using h2
      go_enter Tryz.func94, Tryz.ntmps94
      go_wp2_with fail
      go_ret
      exact ⟨rfl, rfl⟩
  · have : mayI n = false := by simp [mayI]; omega
    rw [this]
    have hd : decide (-576460752303423488 ≤ n) = false := by simpa using h1
    go_enter Tryz.func94, Tryz.ntmps94
    go_wp2_with fail
    go_ret
    exact ⟨rfl, rfl⟩
theorem ta_number (w : World) (v : Value) : (Instr.typeAssert (.iface 128 v) 20 128 true).run Tryz.prog w = .ok (.tuple #[v, .bool true]) w := by kernel_rfl
theorem tn_number (w : World) : (Instr.typeAssert .nilIface 20 128 true).run Tryz.prog w = .ok (.tuple #[.agg #[.int .i64 0], .bool false]) w := by kernel_rfl
theorem ta_named_number (w : World) (v : Value) : (Instr.typeAssert (.iface 129 v) 20 128 true).run Tryz.prog w = .ok (.tuple #[.agg #[.int .i64 0], .bool false]) w := by kernel_rfl
theorem ta_atom_number (w : World) (v : Value) : (Instr.typeAssert (.iface 131 v) 20 128 true).run Tryz.prog w = .ok (.tuple #[.agg #[.int .i64 0], .bool false]) w := by kernel_rfl
theorem ta_fun_number (w : World) (v : Value) : (Instr.typeAssert (.iface 133 v) 20 128 true).run Tryz.prog w = .ok (.tuple #[.agg #[.int .i64 0], .bool false]) w := by kernel_rfl
theorem ta_parts_number (w : World) (v : Value) : (Instr.typeAssert (.iface 135 v) 20 128 true).run Tryz.prog w = .ok (.tuple #[.agg #[.int .i64 0], .bool false]) w := by kernel_rfl
theorem ta_named (w : World) (v : Value) : (Instr.typeAssert (.iface 129 v) 20 129 true).run Tryz.prog w = .ok (.tuple #[v, .bool true]) w := by kernel_rfl
theorem tn_named (w : World) : (Instr.typeAssert .nilIface 20 129 true).run Tryz.prog w = .ok (.tuple #[.agg #[.int .i64 0], .bool false]) w := by kernel_rfl
theorem ta_atom_named (w : World) (v : Value) : (Instr.typeAssert (.iface 131 v) 20 129 true).run Tryz.prog w = .ok (.tuple #[.agg #[.int .i64 0], .bool false]) w := by kernel_rfl
theorem ta_fun_named (w : World) (v : Value) : (Instr.typeAssert (.iface 133 v) 20 129 true).run Tryz.prog w = .ok (.tuple #[.agg #[.int .i64 0], .bool false]) w := by kernel_rfl
theorem ta_parts_named (w : World) (v : Value) : (Instr.typeAssert (.iface 135 v) 20 129 true).run Tryz.prog w = .ok (.tuple #[.agg #[.int .i64 0], .bool false]) w := by kernel_rfl
theorem ta_atom (w : World) (v : Value) : (Instr.typeAssert (.iface 131 v) 20 131 true).run Tryz.prog w = .ok (.tuple #[v, .bool true]) w := by kernel_rfl
theorem tn_atom (w : World) : (Instr.typeAssert .nilIface 20 131 true).run Tryz.prog w = .ok (.tuple #[.agg #[.string ⟨#[]⟩], .bool false]) w := by kernel_rfl
theorem ta_fun_atom (w : World) (v : Value) : (Instr.typeAssert (.iface 133 v) 20 131 true).run Tryz.prog w = .ok (.tuple #[.agg #[.string ⟨#[]⟩], .bool false]) w := by kernel_rfl
theorem ta_parts_atom (w : World) (v : Value) : (Instr.typeAssert (.iface 135 v) 20 131 true).run Tryz.prog w = .ok (.tuple #[.agg #[.string ⟨#[]⟩], .bool false]) w := by kernel_rfl
theorem ta_fun (w : World) (v : Value) : (Instr.typeAssert (.iface 133 v) 20 133 true).run Tryz.prog w = .ok (.tuple #[v, .bool true]) w := by kernel_rfl
theorem tn_fun (w : World) : (Instr.typeAssert .nilIface 20 133 true).run Tryz.prog w = .ok (.tuple #[.agg #[.string ⟨#[]⟩, .string ⟨#[]⟩, .int .i64 0], .bool false]) w := by kernel_rfl
theorem ta_parts_fun (w : World) (v : Value) : (Instr.typeAssert (.iface 135 v) 20 133 true).run Tryz.prog w = .ok (.tuple #[.agg #[.string ⟨#[]⟩, .string ⟨#[]⟩, .int .i64 0], .bool false]) w := by kernel_rfl
theorem ta_parts (w : World) (v : Value) : (Instr.typeAssert (.iface 135 v) 20 135 true).run Tryz.prog w = .ok (.tuple #[v, .bool true]) w := by kernel_rfl
theorem tn_parts (w : World) : (Instr.typeAssert .nilIface 20 135 true).run Tryz.prog w = .ok (.tuple #[.agg #[.slice none 0 0, .int .i64 0], .bool false]) w := by kernel_rfl
def oneB (k N : Int) (S U : ByteArray) (len : Nat) : Bool :=
  if k = 0 then bareB true false false false N S U len && mayI N
  else if k = 1 then bareB false true false false N S U len && mayS S
  else if k = 2 ∨ k = 4 then bareB true false false false N S U len && (decide (0 ≤ N) && decide (N ≤ 576460752303423487))
  else if k = 3 then bareB true true true false N S U len && (mayS S && (mayS U && (decide (0 ≤ N) && decide (N ≤ 8))))
  else if k = 5 then bareB false false false true N S U len
  else if k = 6 then bareB false false false false N S U len
  else if k = 7 then bareB false false false true N S U len && decide (len = 2)
  else false

theorem one_0_f (w : World) (hw : Cells w 0 letL) (b o : Nat) {N : Int} {S U : ByteArray} {ao : Option Addr} {len cap : Nat} (hS : S.size ≤ 9223372036854775807) (hU : U.size ≤ 9223372036854775807) (h : Node w b o 0 N S U (.slice ao len cap)) (hbare : bareB true false false false N S U len = false):
    Calls Tryz.prog 81 #[.pointer (some ⟨b, o, none⟩)] w (IsPost w (false)) := by
  have HK := Lib.hid (kind_0_f w b o h hbare)
  clear h hbare hw
  have a0 := @tn_number
  have a1 := @tn_named
  have a2 := @tn_atom
  have a3 := @tn_fun
  have a4 := @tn_parts
  go_enter Tryz.func81, Tryz.ntmps81
  go_wp2_with fail
  refine HK.out.mono ?_
  rintro e w1 ⟨rfl, hb1⟩
  clear HK
  go_wp2_with fail
  go_ret
  exact ⟨rfl, hb1⟩
theorem one_0_t (w : World) (hw : Cells w 0 letL) (b o : Nat) {N : Int} {S U : ByteArray} {ao : Option Addr} {len cap : Nat} (hS : S.size ≤ 9223372036854775807) (hU : U.size ≤ 9223372036854775807) (h : Node w b o 0 N S U (.slice ao len cap)) (hbare : bareB true false false false N S U len = true):
    Calls Tryz.prog 81 #[.pointer (some ⟨b, o, none⟩)] w (IsPost w (mayI N)) := by
  have HK := Lib.hid (kind_0_t w b o h hbare)
  clear h hbare hw
  have a0 := @ta_number
  go_enter Tryz.func81, Tryz.ntmps81
  go_wp2_with fail
  refine HK.out.mono ?_
  rintro e w1 ⟨rfl, hb1⟩
  clear HK
  go_wp2_with fail
  refine (imay_any _ _).mono ?_
  rintro e w2 ⟨rfl, rfl⟩
  go_wp2_with fail
  go_ret
  exact ⟨rfl, (hb1.alloc hb1.size _)⟩
theorem one_2_f (w : World) (hw : Cells w 0 letL) (b o : Nat) {N : Int} {S U : ByteArray} {ao : Option Addr} {len cap : Nat} (hS : S.size ≤ 9223372036854775807) (hU : U.size ≤ 9223372036854775807) (h : Node w b o 2 N S U (.slice ao len cap)) (hbare : bareB true false false false N S U len = false):
    Calls Tryz.prog 81 #[.pointer (some ⟨b, o, none⟩)] w (IsPost w (false)) := by
  have HK := Lib.hid (kind_2_f w b o h hbare)
  clear h hbare hw
  have a0 := @tn_number
  have a1 := @tn_named
  have a2 := @tn_atom
  have a3 := @tn_fun
  have a4 := @tn_parts
  go_enter Tryz.func81, Tryz.ntmps81
  go_wp2_with fail
  refine HK.out.mono ?_
  rintro e w1 ⟨rfl, hb1⟩
  clear HK
  go_wp2_with fail
  go_ret
  exact ⟨rfl, hb1⟩
theorem one_2_t (w : World) (hw : Cells w 0 letL) (b o : Nat) {N : Int} {S U : ByteArray} {ao : Option Addr} {len cap : Nat} (hS : S.size ≤ 9223372036854775807) (hU : U.size ≤ 9223372036854775807) (h : Node w b o 2 N S U (.slice ao len cap)) (hbare : bareB true false false false N S U len = true):
    Calls Tryz.prog 81 #[.pointer (some ⟨b, o, none⟩)] w (IsPost w (decide (0 ≤ N) && decide (N ≤ 576460752303423487))) := by
  by_cases h1 : 0 ≤ N
  · by_cases h2 : N ≤ 576460752303423487
    · have e : (decide (0 ≤ N) && decide (N ≤ 576460752303423487)) = true := by simp [h1, h2]
      rw [e]
      clear e
      have d1 : decide (0 ≤ N) = true := by simpa using h1
      have d2 : decide (N ≤ 576460752303423487) = true := by simpa using h2
      have HK := Lib.hid (kind_2_t w b o h hbare)
      clear h hbare hw
      have a0 := @ta_named_number
      have a1 := @ta_named
      go_enter Tryz.func81, Tryz.ntmps81
      go_wp2_with fail
      refine HK.out.mono ?_
      rintro e w1 ⟨rfl, hb1⟩
      clear HK
      go_wp2_with fail
      go_ret
      exact ⟨rfl, (hb1.alloc hb1.size _)⟩
    · have e : (decide (0 ≤ N) && decide (N ≤ 576460752303423487)) = false := by simp [h2]
      rw [e]
      clear e
      have d1 : decide (0 ≤ N) = true := by simpa using h1
      have d2 : decide (N ≤ 576460752303423487) = false := by simpa using h2
      have HK := Lib.hid (kind_2_t w b o h hbare)
      clear h hbare hw
      have a0 := @ta_named_number
      have a1 := @ta_named
      go_enter Tryz.func81, Tryz.ntmps81
      go_wp2_with fail
      refine HK.out.mono ?_
      rintro e w1 ⟨rfl, hb1⟩
      clear HK
      go_wp2_with fail
      go_ret
      exact ⟨rfl, (hb1.alloc hb1.size _)⟩
  · have e : (decide (0 ≤ N) && decide (N ≤ 576460752303423487)) = false := by simp [h1]
    rw [e]
    clear e
    have d1 : decide (0 ≤ N) = false := by simpa using h1
    have HK := Lib.hid (kind_2_t w b o h hbare)
    clear h hbare hw
    have a0 := @ta_named_number
    have a1 := @ta_named
    go_enter Tryz.func81, Tryz.ntmps81
    go_wp2_with fail
    refine HK.out.mono ?_
    rintro e w1 ⟨rfl, hb1⟩
    clear HK
    go_wp2_with fail
    go_ret
    exact ⟨rfl, (hb1.alloc hb1.size _)⟩
theorem one_4_f (w : World) (hw : Cells w 0 letL) (b o : Nat) {N : Int} {S U : ByteArray} {ao : Option Addr} {len cap : Nat} (hS : S.size ≤ 9223372036854775807) (hU : U.size ≤ 9223372036854775807) (h : Node w b o 4 N S U (.slice ao len cap)) (hbare : bareB true false false false N S U len = false):
    Calls Tryz.prog 81 #[.pointer (some ⟨b, o, none⟩)] w (IsPost w (false)) := by
  have HK := Lib.hid (kind_4_f w b o h hbare)
  clear h hbare hw
  have a0 := @tn_number
  have a1 := @tn_named
  have a2 := @tn_atom
  have a3 := @tn_fun
  have a4 := @tn_parts
  go_enter Tryz.func81, Tryz.ntmps81
  go_wp2_with fail
  refine HK.out.mono ?_
  rintro e w1 ⟨rfl, hb1⟩
  clear HK
  go_wp2_with fail
  go_ret
  exact ⟨rfl, hb1⟩
theorem one_4_t (w : World) (hw : Cells w 0 letL) (b o : Nat) {N : Int} {S U : ByteArray} {ao : Option Addr} {len cap : Nat} (hS : S.size ≤ 9223372036854775807) (hU : U.size ≤ 9223372036854775807) (h : Node w b o 4 N S U (.slice ao len cap)) (hbare : bareB true false false false N S U len = true):
    Calls Tryz.prog 81 #[.pointer (some ⟨b, o, none⟩)] w (IsPost w (decide (0 ≤ N) && decide (N ≤ 576460752303423487))) := by
  by_cases h1 : 0 ≤ N
  · by_cases h2 : N ≤ 576460752303423487
    · have e : (decide (0 ≤ N) && decide (N ≤ 576460752303423487)) = true := by simp [h1, h2]
      rw [e]
      clear e
      have d1 : decide (0 ≤ N) = true := by simpa using h1
      have d2 : decide (N ≤ 576460752303423487) = true := by simpa using h2
      have HK := Lib.hid (kind_4_t w b o h hbare)
      clear h hbare hw
      have a0 := @ta_named_number
      have a1 := @ta_named
      go_enter Tryz.func81, Tryz.ntmps81
      go_wp2_with fail
      refine HK.out.mono ?_
      rintro e w1 ⟨rfl, hb1⟩
      clear HK
      go_wp2_with fail
      go_ret
      exact ⟨rfl, (hb1.alloc hb1.size _)⟩
    · have e : (decide (0 ≤ N) && decide (N ≤ 576460752303423487)) = false := by simp [h2]
      rw [e]
      clear e
      have d1 : decide (0 ≤ N) = true := by simpa using h1
      have d2 : decide (N ≤ 576460752303423487) = false := by simpa using h2
      have HK := Lib.hid (kind_4_t w b o h hbare)
      clear h hbare hw
      have a0 := @ta_named_number
      have a1 := @ta_named
      go_enter Tryz.func81, Tryz.ntmps81
      go_wp2_with fail
      refine HK.out.mono ?_
      rintro e w1 ⟨rfl, hb1⟩
      clear HK
      go_wp2_with fail
      go_ret
      exact ⟨rfl, (hb1.alloc hb1.size _)⟩
  · have e : (decide (0 ≤ N) && decide (N ≤ 576460752303423487)) = false := by simp [h1]
    rw [e]
    clear e
    have d1 : decide (0 ≤ N) = false := by simpa using h1
    have HK := Lib.hid (kind_4_t w b o h hbare)
    clear h hbare hw
    have a0 := @ta_named_number
    have a1 := @ta_named
    go_enter Tryz.func81, Tryz.ntmps81
    go_wp2_with fail
    refine HK.out.mono ?_
    rintro e w1 ⟨rfl, hb1⟩
    clear HK
    go_wp2_with fail
    go_ret
    exact ⟨rfl, (hb1.alloc hb1.size _)⟩
theorem one_1_f (w : World) (hw : Cells w 0 letL) (b o : Nat) {N : Int} {S U : ByteArray} {ao : Option Addr} {len cap : Nat} (hS : S.size ≤ 9223372036854775807) (hU : U.size ≤ 9223372036854775807) (h : Node w b o 1 N S U (.slice ao len cap)) (hbare : bareB false true false false N S U len = false):
    Calls Tryz.prog 81 #[.pointer (some ⟨b, o, none⟩)] w (IsPost w (false)) := by
  have HK := Lib.hid (kind_1_f w b o h hbare)
  clear h hbare hw
  have a0 := @tn_number
  have a1 := @tn_named
  have a2 := @tn_atom
  have a3 := @tn_fun
  have a4 := @tn_parts
  go_enter Tryz.func81, Tryz.ntmps81
  go_wp2_with fail
  refine HK.out.mono ?_
  rintro e w1 ⟨rfl, hb1⟩
  clear HK
  go_wp2_with fail
  go_ret
  exact ⟨rfl, hb1⟩
theorem one_1_t (w : World) (hw : Cells w 0 letL) (b o : Nat) {N : Int} {S U : ByteArray} {ao : Option Addr} {len cap : Nat} (hS : S.size ≤ 9223372036854775807) (hU : U.size ≤ 9223372036854775807) (h : Node w b o 1 N S U (.slice ao len cap)) (hbare : bareB false true false false N S U len = true):
    Calls Tryz.prog 81 #[.pointer (some ⟨b, o, none⟩)] w (IsPost w (mayS S)) := by
  have HW := Lib.hid (fun (W : World) (hb : Below w.heap.size w W) => keepCells hw hb)
  have HK := Lib.hid (kind_1_t w b o h hbare)
  clear h hbare hw
  have a0 := @ta_atom_number
  have a1 := @ta_atom_named
  have a2 := @ta_atom
  go_enter Tryz.func81, Tryz.ntmps81
  go_wp2_with fail
  refine HK.out.mono ?_
  rintro e w1 ⟨rfl, hb1⟩
  clear HK
  go_wp2_with fail
  refine (may7 S hS _ (HW.out _ (by first | exact (hb1.alloc hb1.size _) | exact ((hb1.alloc hb1.size _).setCell (by exact hb1.size) _)))).mono ?_
  rintro e w2 ⟨rfl, hb2⟩
  go_wp2_with fail
  go_ret
  exact ⟨rfl, keep_below (hb1.alloc hb1.size _) (by have := hb1.size; simp; omega) (hb2.mono (by simp))⟩
theorem one_3_f (w : World) (hw : Cells w 0 letL) (b o : Nat) {N : Int} {S U : ByteArray} {ao : Option Addr} {len cap : Nat} (hS : S.size ≤ 9223372036854775807) (hU : U.size ≤ 9223372036854775807) (h : Node w b o 3 N S U (.slice ao len cap)) (hbare : bareB true true true false N S U len = false):
    Calls Tryz.prog 81 #[.pointer (some ⟨b, o, none⟩)] w (IsPost w (false)) := by
  have HK := Lib.hid (kind_3_f w b o h hbare)
  clear h hbare hw
  have a0 := @tn_number
  have a1 := @tn_named
  have a2 := @tn_atom
  have a3 := @tn_fun
  have a4 := @tn_parts
  go_enter Tryz.func81, Tryz.ntmps81
  go_wp2_with fail
  refine HK.out.mono ?_
  rintro e w1 ⟨rfl, hb1⟩
  clear HK
  go_wp2_with fail
  go_ret
  exact ⟨rfl, hb1⟩
theorem one_3_t (w : World) (hw : Cells w 0 letL) (b o : Nat) {N : Int} {S U : ByteArray} {ao : Option Addr} {len cap : Nat} (hS : S.size ≤ 9223372036854775807) (hU : U.size ≤ 9223372036854775807) (h : Node w b o 3 N S U (.slice ao len cap)) (hbare : bareB true true true false N S U len = true):
    Calls Tryz.prog 81 #[.pointer (some ⟨b, o, none⟩)] w (IsPost w (mayS S && (mayS U && (decide (0 ≤ N) && decide (N ≤ 8))))) := by
  have HW := Lib.hid (fun (W : World) (hb : Below w.heap.size w W) => keepCells hw hb)
  cases hmS : mayS S
  · have e : (false && (mayS U && (decide (0 ≤ N) && decide (N ≤ 8)))) = false := rfl
    rw [e]
    clear e
    have HMS := Lib.hid hmS
    clear hmS
    have HK := Lib.hid (kind_3_t w b o h hbare)
    clear h hbare hw
    have a0 := @ta_fun_number
    have a1 := @ta_fun_named
    have a2 := @ta_fun_atom
    have a3 := @ta_fun
    go_enter Tryz.func81, Tryz.ntmps81
    go_wp2_with fail
    refine HK.out.mono ?_
    rintro e w1 ⟨rfl, hb1⟩
    clear HK
    go_wp2_with fail
    refine (may7 S hS _ (HW.out _ (by first | exact (hb1.alloc hb1.size _) | exact ((hb1.alloc hb1.size _).setCell (by exact hb1.size) _)))).mono ?_
    rw [HMS.out]
    rintro e w2 ⟨rfl, hb2⟩
    have hB2 : Below w.heap.size w w2 := keep_below (hb1.alloc hb1.size _) (by have := hb1.size; simp; omega) (hb2.mono (by simp))
    have hf : ∀ i v, (#[Value.string S, .string U, .int .i64 N] : Array Value)[i]? = some v → w2.cell? ⟨w1.heap.size, i, none⟩ = some v := by
      intro i v hv
      refine keep_cell ?_ hb2
      refine (cells_at (cs := #[Value.string S, .string U, .int .i64 N]) (e := 133) ?_ i v hv).1
      have := (MapKept.heap_alloc w1 (.cells #[.string S, .string U, .int .i64 N] 133)).1
      simpa using this
    have f1 := hf 1 _ rfl
    have f2 := hf 2 _ rfl
    clear hf hb1 hb2
    go_wp2_with fail
    go_ret
    exact ⟨rfl, hB2⟩
  · have HMS := Lib.hid hmS
    clear hmS
    cases hmU : mayS U
    · have e : (true && (false && (decide (0 ≤ N) && decide (N ≤ 8)))) = false := rfl
      rw [e]
      clear e
      have HMU := Lib.hid hmU
      clear hmU
      have HK := Lib.hid (kind_3_t w b o h hbare)
      clear h hbare hw
      have a0 := @ta_fun_number
      have a1 := @ta_fun_named
      have a2 := @ta_fun_atom
      have a3 := @ta_fun
      go_enter Tryz.func81, Tryz.ntmps81
      go_wp2_with fail
      refine HK.out.mono ?_
      rintro e w1 ⟨rfl, hb1⟩
      clear HK
      go_wp2_with fail
      refine (may7 S hS _ (HW.out _ (by first | exact (hb1.alloc hb1.size _) | exact ((hb1.alloc hb1.size _).setCell (by exact hb1.size) _)))).mono ?_
      rw [HMS.out]
      rintro e w2 ⟨rfl, hb2⟩
      have hB2 : Below w.heap.size w w2 := keep_below (hb1.alloc hb1.size _) (by have := hb1.size; simp; omega) (hb2.mono (by simp))
      have hf : ∀ i v, (#[Value.string S, .string U, .int .i64 N] : Array Value)[i]? = some v → w2.cell? ⟨w1.heap.size, i, none⟩ = some v := by
        intro i v hv
        refine keep_cell ?_ hb2
        refine (cells_at (cs := #[Value.string S, .string U, .int .i64 N]) (e := 133) ?_ i v hv).1
        have := (MapKept.heap_alloc w1 (.cells #[.string S, .string U, .int .i64 N] 133)).1
        simpa using this
      have f1 := hf 1 _ rfl
      have f2 := hf 2 _ rfl
      clear hf hb1 hb2
      go_wp2_with fail
      refine (may7 U hU _ (HW.out _ hB2)).mono ?_
      rw [HMU.out]
      rintro e w3 ⟨rfl, hb3⟩
      have f3 := keep_cell f2 hb3
      have hB3 := hB2.trans (hb3.mono hB2.size)
      clear hb3 hB2 f1 f2
      go_wp2_with fail
      go_ret
      exact ⟨rfl, hB3⟩
    · have HMU := Lib.hid hmU
      clear hmU
      by_cases h1 : 0 ≤ N
      · by_cases h2 : N ≤ 8
        · have e : (true && (true && (decide (0 ≤ N) && decide (N ≤ 8)))) = true := by simp [h1, h2]
          rw [e]
          clear e
          have d1 : decide (0 ≤ N) = true := by simpa using h1
          have d2 : decide (N ≤ 8) = true := by simpa using h2
          have HK := Lib.hid (kind_3_t w b o h hbare)
          clear h hbare hw
          have a0 := @ta_fun_number
          have a1 := @ta_fun_named
          have a2 := @ta_fun_atom
          have a3 := @ta_fun
          go_enter Tryz.func81, Tryz.ntmps81
          go_wp2_with fail
          refine HK.out.mono ?_
          rintro e w1 ⟨rfl, hb1⟩
          clear HK
          go_wp2_with fail
          refine (may7 S hS _ (HW.out _ (by first | exact (hb1.alloc hb1.size _) | exact ((hb1.alloc hb1.size _).setCell (by exact hb1.size) _)))).mono ?_
          rw [HMS.out]
          rintro e w2 ⟨rfl, hb2⟩
          have hB2 : Below w.heap.size w w2 := keep_below (hb1.alloc hb1.size _) (by have := hb1.size; simp; omega) (hb2.mono (by simp))
          have hf : ∀ i v, (#[Value.string S, .string U, .int .i64 N] : Array Value)[i]? = some v → w2.cell? ⟨w1.heap.size, i, none⟩ = some v := by
            intro i v hv
            refine keep_cell ?_ hb2
            refine (cells_at (cs := #[Value.string S, .string U, .int .i64 N]) (e := 133) ?_ i v hv).1
            have := (MapKept.heap_alloc w1 (.cells #[.string S, .string U, .int .i64 N] 133)).1
            simpa using this
          have f1 := hf 1 _ rfl
          have f2 := hf 2 _ rfl
          clear hf hb1 hb2
          go_wp2_with fail
          refine (may7 U hU _ (HW.out _ hB2)).mono ?_
          rw [HMU.out]
          rintro e w3 ⟨rfl, hb3⟩
          have f3 := keep_cell f2 hb3
          have hB3 := hB2.trans (hb3.mono hB2.size)
          clear hb3 hB2 f1 f2
          go_wp2_with fail
          go_ret
          exact ⟨rfl, hB3⟩
        · have e : (true && (true && (decide (0 ≤ N) && decide (N ≤ 8)))) = false := by simp [h2]
          rw [e]
          clear e
          have d1 : decide (0 ≤ N) = true := by simpa using h1
          have d2 : decide (N ≤ 8) = false := by simpa using h2
          have HK := Lib.hid (kind_3_t w b o h hbare)
          clear h hbare hw
          have a0 := @ta_fun_number
          have a1 := @ta_fun_named
          have a2 := @ta_fun_atom
          have a3 := @ta_fun
          go_enter Tryz.func81, Tryz.ntmps81
          go_wp2_with fail
          refine HK.out.mono ?_
          rintro e w1 ⟨rfl, hb1⟩
          clear HK
          go_wp2_with fail
          refine (may7 S hS _ (HW.out _ (by first | exact (hb1.alloc hb1.size _) | exact ((hb1.alloc hb1.size _).setCell (by exact hb1.size) _)))).mono ?_
          rw [HMS.out]
          rintro e w2 ⟨rfl, hb2⟩
          have hB2 : Below w.heap.size w w2 := keep_below (hb1.alloc hb1.size _) (by have := hb1.size; simp; omega) (hb2.mono (by simp))
          have hf : ∀ i v, (#[Value.string S, .string U, .int .i64 N] : Array Value)[i]? = some v → w2.cell? ⟨w1.heap.size, i, none⟩ = some v := by
            intro i v hv
            refine keep_cell ?_ hb2
            refine (cells_at (cs := #[Value.string S, .string U, .int .i64 N]) (e := 133) ?_ i v hv).1
            have := (MapKept.heap_alloc w1 (.cells #[.string S, .string U, .int .i64 N] 133)).1
            simpa using this
          have f1 := hf 1 _ rfl
          have f2 := hf 2 _ rfl
          clear hf hb1 hb2
          go_wp2_with fail
          refine (may7 U hU _ (HW.out _ hB2)).mono ?_
          rw [HMU.out]
          rintro e w3 ⟨rfl, hb3⟩
          have f3 := keep_cell f2 hb3
          have hB3 := hB2.trans (hb3.mono hB2.size)
          clear hb3 hB2 f1 f2
          go_wp2_with fail
          go_ret
          exact ⟨rfl, hB3⟩
      · have e : (true && (true && (decide (0 ≤ N) && decide (N ≤ 8)))) = false := by simp [h1]
        rw [e]
        clear e
        have d1 : decide (0 ≤ N) = false := by simpa using h1
        have HK := Lib.hid (kind_3_t w b o h hbare)
        clear h hbare hw
        have a0 := @ta_fun_number
        have a1 := @ta_fun_named
        have a2 := @ta_fun_atom
        have a3 := @ta_fun
        go_enter Tryz.func81, Tryz.ntmps81
        go_wp2_with fail
        refine HK.out.mono ?_
        rintro e w1 ⟨rfl, hb1⟩
        clear HK
        go_wp2_with fail
        refine (may7 S hS _ (HW.out _ (by first | exact (hb1.alloc hb1.size _) | exact ((hb1.alloc hb1.size _).setCell (by exact hb1.size) _)))).mono ?_
        rw [HMS.out]
        rintro e w2 ⟨rfl, hb2⟩
        have hB2 : Below w.heap.size w w2 := keep_below (hb1.alloc hb1.size _) (by have := hb1.size; simp; omega) (hb2.mono (by simp))
        have hf : ∀ i v, (#[Value.string S, .string U, .int .i64 N] : Array Value)[i]? = some v → w2.cell? ⟨w1.heap.size, i, none⟩ = some v := by
          intro i v hv
          refine keep_cell ?_ hb2
          refine (cells_at (cs := #[Value.string S, .string U, .int .i64 N]) (e := 133) ?_ i v hv).1
          have := (MapKept.heap_alloc w1 (.cells #[.string S, .string U, .int .i64 N] 133)).1
          simpa using this
        have f1 := hf 1 _ rfl
        have f2 := hf 2 _ rfl
        clear hf hb1 hb2
        go_wp2_with fail
        refine (may7 U hU _ (HW.out _ hB2)).mono ?_
        rw [HMU.out]
        rintro e w3 ⟨rfl, hb3⟩
        have f3 := keep_cell f2 hb3
        have hB3 := hB2.trans (hb3.mono hB2.size)
        clear hb3 hB2 f1 f2
        go_wp2_with fail
        go_ret
        exact ⟨rfl, hB3⟩
theorem one_5_f (w : World) (hw : Cells w 0 letL) (b o : Nat) {N : Int} {S U : ByteArray} {ao : Option Addr} {len cap : Nat} (hS : S.size ≤ 9223372036854775807) (hU : U.size ≤ 9223372036854775807) (h : Node w b o 5 N S U (.slice ao len cap)) (hbare : bareB false false false true N S U len = false):
    Calls Tryz.prog 81 #[.pointer (some ⟨b, o, none⟩)] w (IsPost w (false)) := by
  have HK := Lib.hid (kind_5_f w b o h hbare)
  clear h hbare hw
  have a0 := @tn_number
  have a1 := @tn_named
  have a2 := @tn_atom
  have a3 := @tn_fun
  have a4 := @tn_parts
  go_enter Tryz.func81, Tryz.ntmps81
  go_wp2_with fail
  refine HK.out.mono ?_
  rintro e w1 ⟨rfl, hb1⟩
  clear HK
  go_wp2_with fail
  go_ret
  exact ⟨rfl, hb1⟩
theorem one_5_t (w : World) (hw : Cells w 0 letL) (b o : Nat) {N : Int} {S U : ByteArray} {ao : Option Addr} {len cap : Nat} (hS : S.size ≤ 9223372036854775807) (hU : U.size ≤ 9223372036854775807) (h : Node w b o 5 N S U (.slice ao len cap)) (hbare : bareB false false false true N S U len = true):
    Calls Tryz.prog 81 #[.pointer (some ⟨b, o, none⟩)] w (IsPost w (true)) := by
  have HK := Lib.hid (kind_5_t w b o h hbare)
  clear h hbare hw
  have a0 := @ta_parts_number
  have a1 := @ta_parts_named
  have a2 := @ta_parts_atom
  have a3 := @ta_parts_fun
  have a4 := @ta_parts
  go_enter Tryz.func81, Tryz.ntmps81
  go_wp2_with fail
  refine HK.out.mono ?_
  rintro e w1 ⟨rfl, hb1⟩
  clear HK
  go_wp2_with fail
  go_ret
  exact ⟨rfl, (hb1.alloc hb1.size _)⟩
theorem one_6_f (w : World) (hw : Cells w 0 letL) (b o : Nat) {N : Int} {S U : ByteArray} {ao : Option Addr} {len cap : Nat} (hS : S.size ≤ 9223372036854775807) (hU : U.size ≤ 9223372036854775807) (h : Node w b o 6 N S U (.slice ao len cap)) (hbare : bareB false false false false N S U len = false):
    Calls Tryz.prog 81 #[.pointer (some ⟨b, o, none⟩)] w (IsPost w (false)) := by
  have HK := Lib.hid (kind_6_f w b o h hbare)
  clear h hbare hw
  have a0 := @tn_number
  have a1 := @tn_named
  have a2 := @tn_atom
  have a3 := @tn_fun
  have a4 := @tn_parts
  go_enter Tryz.func81, Tryz.ntmps81
  go_wp2_with fail
  refine HK.out.mono ?_
  rintro e w1 ⟨rfl, hb1⟩
  clear HK
  go_wp2_with fail
  go_ret
  exact ⟨rfl, hb1⟩
theorem one_6_t (w : World) (hw : Cells w 0 letL) (b o : Nat) {N : Int} {S U : ByteArray} {ao : Option Addr} {len cap : Nat} (hS : S.size ≤ 9223372036854775807) (hU : U.size ≤ 9223372036854775807) (h : Node w b o 6 N S U (.slice ao len cap)) (hbare : bareB false false false false N S U len = true):
    Calls Tryz.prog 81 #[.pointer (some ⟨b, o, none⟩)] w (IsPost w (true)) := by
  have HK := Lib.hid (kind_6_t w b o h hbare)
  clear h hbare hw
  have a0 := @ta_parts_number
  have a1 := @ta_parts_named
  have a2 := @ta_parts_atom
  have a3 := @ta_parts_fun
  have a4 := @ta_parts
  go_enter Tryz.func81, Tryz.ntmps81
  go_wp2_with fail
  refine HK.out.mono ?_
  rintro e w1 ⟨rfl, hb1⟩
  clear HK
  go_wp2_with fail
  go_ret
  exact ⟨rfl, (hb1.alloc hb1.size _)⟩
theorem one_7_f (w : World) (hw : Cells w 0 letL) (b o : Nat) {N : Int} {S U : ByteArray} {ao : Option Addr} {len cap : Nat} (hS : S.size ≤ 9223372036854775807) (hU : U.size ≤ 9223372036854775807) (h : Node w b o 7 N S U (.slice ao len cap)) (hbare : bareB false false false true N S U len = false):
    Calls Tryz.prog 81 #[.pointer (some ⟨b, o, none⟩)] w (IsPost w (false)) := by
  have HK := Lib.hid (kind_7_f w b o h hbare)
  clear h hbare hw
  have a0 := @tn_number
  have a1 := @tn_named
  have a2 := @tn_atom
  have a3 := @tn_fun
  have a4 := @tn_parts
  go_enter Tryz.func81, Tryz.ntmps81
  go_wp2_with fail
  refine HK.out.mono ?_
  rintro e w1 ⟨rfl, hb1⟩
  clear HK
  go_wp2_with fail
  go_ret
  exact ⟨rfl, hb1⟩
theorem one_7_t (w : World) (hw : Cells w 0 letL) (b o : Nat) {N : Int} {S U : ByteArray} {ao : Option Addr} {len cap : Nat} (hS : S.size ≤ 9223372036854775807) (hU : U.size ≤ 9223372036854775807) (h : Node w b o 7 N S U (.slice ao len cap)) (hbare : bareB false false false true N S U len = true):
    Calls Tryz.prog 81 #[.pointer (some ⟨b, o, none⟩)] w (IsPost w (decide (len = 2))) := by
  by_cases hl : len = 2
  · have e : decide (len = 2) = true := by simp [hl]
    rw [e]
    clear e
    have d1 : ((len : Int) == 2) = true := by simp; omega
    clear hl
    have HK := Lib.hid (kind_7_t w b o h hbare)
    clear h hbare hw
    have a0 := @ta_parts_number
    have a1 := @ta_parts_named
    have a2 := @ta_parts_atom
    have a3 := @ta_parts_fun
    have a4 := @ta_parts
    go_enter Tryz.func81, Tryz.ntmps81
    go_wp2_with fail
    refine HK.out.mono ?_
    rintro e w1 ⟨rfl, hb1⟩
    clear HK
    go_wp2_with fail
    go_ret
    exact ⟨rfl, (hb1.alloc hb1.size _)⟩
  · have e : decide (len = 2) = false := by simp [hl]
    rw [e]
    clear e
    have d1 : ((len : Int) == 2) = false := by simp; omega
    clear hl
    have HK := Lib.hid (kind_7_t w b o h hbare)
    clear h hbare hw
    have a0 := @ta_parts_number
    have a1 := @ta_parts_named
    have a2 := @ta_parts_atom
    have a3 := @ta_parts_fun
    have a4 := @ta_parts
    go_enter Tryz.func81, Tryz.ntmps81
    go_wp2_with fail
    refine HK.out.mono ?_
    rintro e w1 ⟨rfl, hb1⟩
    clear HK
    go_wp2_with fail
    go_ret
    exact ⟨rfl, (hb1.alloc hb1.size _)⟩
theorem one_x (w : World) (b o : Nat) {k N : Int} {S U : ByteArray} {ao : Option Addr} {len cap : Nat} (h : Node w b o k N S U (.slice ao len cap)) (hk : k < 0 ∨ 7 < k) :
    Calls Tryz.prog 81 #[.pointer (some ⟨b, o, none⟩)] w (IsPost w false) := by
  have HK := Lib.hid (kind_x w b o h hk)
  clear h hk
  have a0 := @tn_number
  have a1 := @tn_named
  have a2 := @tn_atom
  have a3 := @tn_fun
  have a4 := @tn_parts
  go_enter Tryz.func81, Tryz.ntmps81
  go_wp2_with fail
  refine HK.out.mono ?_
  rintro e w1 ⟨rfl, hb1⟩
  clear HK
  go_wp2_with fail
  go_ret
  exact ⟨rfl, hb1⟩
theorem one_any (w : World) (hw : Cells w 0 letL) (b o : Nat) {k N : Int} {S U : ByteArray} {ao : Option Addr} {len cap : Nat} (hS : S.size ≤ 9223372036854775807) (hU : U.size ≤ 9223372036854775807) (h : Node w b o k N S U (.slice ao len cap)) :
    Calls Tryz.prog 81 #[.pointer (some ⟨b, o, none⟩)] w (IsPost w (oneB k N S U len)) := by
  by_cases hk0 : k = 0
  · subst hk0
    cases hbare : bareB true false false false N S U len
    · have e : oneB 0 N S U len = false := by simp [oneB, hbare]
      rw [e]
      exact one_0_f w hw b o hS hU h hbare
    · have e : oneB 0 N S U len = mayI N := by simp [oneB, hbare]
      rw [e]
      exact one_0_t w hw b o hS hU h hbare
  by_cases hk1 : k = 1
  · subst hk1
    cases hbare : bareB false true false false N S U len
    · have e : oneB 1 N S U len = false := by simp [oneB, hbare]
      rw [e]
      exact one_1_f w hw b o hS hU h hbare
    · have e : oneB 1 N S U len = mayS S := by simp [oneB, hbare]
      rw [e]
      exact one_1_t w hw b o hS hU h hbare
  by_cases hk2 : k = 2
  · subst hk2
    cases hbare : bareB true false false false N S U len
    · have e : oneB 2 N S U len = false := by simp [oneB, hbare]
      rw [e]
      exact one_2_f w hw b o hS hU h hbare
    · have e : oneB 2 N S U len = (decide (0 ≤ N) && decide (N ≤ 576460752303423487)) := by simp [oneB, hbare]
      rw [e]
      exact one_2_t w hw b o hS hU h hbare
  by_cases hk3 : k = 3
  · subst hk3
    cases hbare : bareB true true true false N S U len
    · have e : oneB 3 N S U len = false := by simp [oneB, hbare]
      rw [e]
      exact one_3_f w hw b o hS hU h hbare
    · have e : oneB 3 N S U len = (mayS S && (mayS U && (decide (0 ≤ N) && decide (N ≤ 8)))) := by simp [oneB, hbare]
      rw [e]
      exact one_3_t w hw b o hS hU h hbare
  by_cases hk4 : k = 4
  · subst hk4
    cases hbare : bareB true false false false N S U len
    · have e : oneB 4 N S U len = false := by simp [oneB, hbare]
      rw [e]
      exact one_4_f w hw b o hS hU h hbare
    · have e : oneB 4 N S U len = (decide (0 ≤ N) && decide (N ≤ 576460752303423487)) := by simp [oneB, hbare]
      rw [e]
      exact one_4_t w hw b o hS hU h hbare
  by_cases hk5 : k = 5
  · subst hk5
    cases hbare : bareB false false false true N S U len
    · have e : oneB 5 N S U len = false := by simp [oneB, hbare]
      rw [e]
      exact one_5_f w hw b o hS hU h hbare
    · have e : oneB 5 N S U len = true := by simp [oneB, hbare]
      rw [e]
      exact one_5_t w hw b o hS hU h hbare
  by_cases hk6 : k = 6
  · subst hk6
    cases hbare : bareB false false false false N S U len
    · have e : oneB 6 N S U len = false := by simp [oneB, hbare]
      rw [e]
      exact one_6_f w hw b o hS hU h hbare
    · have e : oneB 6 N S U len = true := by simp [oneB, hbare]
      rw [e]
      exact one_6_t w hw b o hS hU h hbare
  by_cases hk7 : k = 7
  · subst hk7
    cases hbare : bareB false false false true N S U len
    · have e : oneB 7 N S U len = false := by simp [oneB, hbare]
      rw [e]
      exact one_7_f w hw b o hS hU h hbare
    · have e : oneB 7 N S U len = decide (len = 2) := by simp [oneB, hbare]
      rw [e]
      exact one_7_t w hw b o hS hU h hbare
  have e : oneB k N S U len = false := by simp [oneB, hk0, hk1, hk2, hk3, hk4, hk5, hk6, hk7]
  rw [e]
  exact one_x w b o h (by omega)
end Go.Proofs.YthpmdeofdlcccaaGreatDoor
