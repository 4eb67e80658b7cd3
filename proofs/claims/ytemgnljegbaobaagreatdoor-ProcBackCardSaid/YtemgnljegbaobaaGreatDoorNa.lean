/- rows in memory; slices.Clone at the rows of a process and of a frame. Conditions: the row reads and is not too long. -/
import Derived.Test.YtemgnljegbaobaaGreatDoorTz
import Derived.Test.YtemgnljegbaobaaGreatDoorKd
import Derived.Test.YtemgnljegbaobaaGreatDoorSh
namespace Go.Proofs.YtemgnljegbaobaaGreatDoor
open Go.ChangeShapes Go.WideShapes Go.ChangeAt Go.RowKit
set_option linter.unusedVariables false
set_option maxRecDepth 100000
/-- a slice of n things of so many cells, which hold xs -/
def Rw (w : World) (v : Value) (n size : Nat) (xs : List Value) : Prop :=
  xs.length = n * size ∧ (∀ u ∈ xs, u.oneCell' = true) ∧ ∃ ao c, v = .slice ao n c ∧ n ≤ c ∧ c ≤ 9223372036854775807 ∧
    (n = 0 ∨ ∃ b off, ao = some ⟨b, off, none⟩ ∧ ∀ (j : Nat) (u : Value), xs[j]? = some u → w.cell? ⟨b, off + j, none⟩ = some u)
theorem Rw.keep {w w' : World} {v : Value} {n size : Nat} {xs : List Value} (h : Rw w v n size xs) (hb : Below w.heap.size w w') : Rw w' v n size xs := by
  obtain ⟨h1, h2, ao, c, rfl, h3, h4, h5⟩ := h
  refine ⟨h1, h2, ao, c, rfl, h3, h4, h5.imp id ?_⟩
  rintro ⟨b, off, e, h⟩
  exact ⟨b, off, e, fun j u hj => keep_cell (h j u hj) hb⟩
theorem Rw.nil (w : World) (size : Nat) : Rw w (.slice none 0 0) 0 size [] := ⟨by simp, (by simp), none, 0, rfl, Nat.le_refl _, by omega, .inl rfl⟩
theorem Rw.slice {w : World} {v : Value} {n size : Nat} {xs : List Value} (h : Rw w v n size xs) : ∃ ao c, v = .slice ao n c ∧ n ≤ c ∧ c ≤ 9223372036854775807 := by
  obtain ⟨h1, h2, ao, c, rfl, h3, h4, h5⟩ := h
  exact ⟨ao, c, rfl, h3, h4⟩
theorem Rw.at {w : World} {ao : Option Addr} {m c n size : Nat} {xs : List Value} (h : Rw w (.slice ao m c) n size xs) (hn : 0 < n) : m = n ∧ ∃ b off, ao = some ⟨b, off, none⟩ ∧ ∀ (j : Nat) (u : Value), xs[j]? = some u → w.cell? ⟨b, off + j, none⟩ = some u := by
  obtain ⟨h1, h2, ao', c', e, h3, h4, h5⟩ := h
  injection e with e1 e2 e3
  subst e1 e2
  refine ⟨rfl, ?_⟩
  rcases h5 with h0 | h5
  · omega
  · exact h5
theorem Rw_own {w : World} {base e size n : Nat} {v : Value} {xs : List Value} (h : w.ownsRow base e size v n xs) (h1 : ∀ u ∈ xs, u.oneCell' = true) : Rw w v n size xs := by
  refine ⟨h.1, h1, ?_⟩
  obtain ⟨hl, ⟨rfl, rfl⟩ | ⟨g, cap, cur, rfl, hg, hh, h3, h4, h5, h6⟩⟩ := h
  · exact ⟨none, 0, rfl, Nat.le_refl _, by omega, .inl rfl⟩
  · refine ⟨_, cap, rfl, h3, (by unfold maxLen at h4; omega), .inr ⟨g, 0, rfl, fun j u hj => ?_⟩⟩
    rw [← h6] at hj
    have hj' : cur[j]? = some u := by
      rw [List.getElem?_take] at hj
      split at hj
      · simpa using hj
      · cases hj
    simp [World.cell?, hh, hj']
def lenS : Value → Nat
  | .slice _ n _ => n
  | _ => 0
theorem Rw.old {w : World} {v : Value} {n size : Nat} {xs : List Value} (h : Rw w v n size xs) (hz : 0 < size) {k : Nat} (hk : v.ownBlock = some k) (hw : w.heap.size ≤ k) : lenS v = 0 := by
  obtain ⟨h1, h2, ao, c, rfl, h3, h4, h0 | ⟨b, off, rfl, h⟩⟩ := h
  · exact h0
  · have hb : b = k := by simpa [Value.ownBlock] using hk
    show n = 0
    rcases Nat.eq_zero_or_pos n with h0 | h0
    · exact h0
    · have hp : 0 < xs.length := by rw [h1]; exact Nat.mul_pos h0 hz
      have := World.block_lt_of_cell? w _ (h 0 xs[0] (List.getElem?_eq_getElem hp))
      have h6 : b < w.heap.size := this
      omega
theorem Rw.chg {S : Nat → Prop} {w w' : World} {v : Value} {n size : Nat} {xs : List Value} (h : Rw w v n size xs) (hc : Chg S w w') (hs : ∀ k, v.ownBlock = some k → S k → lenS v = 0) : Rw w' v n size xs := by
  obtain ⟨h1, h2, ao, c, rfl, h3, h4, h5⟩ := h
  refine ⟨h1, h2, ao, c, rfl, h3, h4, h5.imp id ?_⟩
  rintro ⟨b, off, rfl, h⟩
  refine ⟨b, off, rfl, fun j u hj => ?_⟩
  by_cases hb : S b
  · have h0 : n = 0 := hs b rfl hb
    subst h0
    have : xs = [] := List.eq_nil_of_length_eq_zero (by omega)
    subst this
    simp at hj
  · exact hc.cell (h j u hj) hb
/-- a row is cloned -/
def CloneP (e : TypeId) (size n : Nat) (xs : List Value) (w : World) (x : Ending) (w' : World) : Prop := ∃ v', x = .returned v' ∧ w'.ownsRow w.heap.size e size v' n xs ∧ Below w.heap.size w w'
theorem info_of {P : Program} {e : TypeId} (k : Nat) (h : (P.info? e).map (fun i => (i.zero.map (fun z => z.cells.size), i.size, decide (i.bytes ≤ 1000))) = some (some k, k, true)) :
    ∃ i z, P.info? e = some i ∧ i.zero = some z ∧ i.size = k ∧ i.bytes ≤ 1000 ∧ z.cells.size = k := by
  cases hi : P.info? e with
  | none => rw [hi] at h; cases h
  | some i =>
    rw [hi] at h
    simp only [Option.map_some, Option.some.injEq, Prod.mk.injEq, decide_eq_true_eq] at h
    obtain ⟨h1, h2, h3⟩ := h
    cases hz : i.zero with
    | none => rw [hz] at h1; cases h1
    | some z =>
      rw [hz] at h1
      exact ⟨i, z, rfl, hz, h2, h3, by simpa using h1⟩
theorem le_bytes {n b : Nat} (hn : n ≤ 100000) (hb : b ≤ 1000) : n * b ≤ 140737488355328 :=
  Nat.le_trans (Nat.mul_le_mul hn hb) (by decide)
theorem cloneT_none (a : Addr) (c : Nat) (w : World) : Calls Tryz.prog 119 #[.slice (some a) 0 c] w (CloneP 31 5 0 [] w) := by
  obtain ⟨i, z, q1, q2, q3, q4, q5⟩ := info_of (P := Tryz.prog) (e := 31) 5 (by kernel_rfl)
  have qn : ∀ (w : World) (a : Option Addr) (n c n' c' : Nat), (binOp .eql 29 (.slice a n c) (.slice none n' c')).run Tryz.prog w = .ok (.bool a.isNone) w := fun w a n c n' c' => Lib.run_eql_slice_nil w _ _ a n c n' c' Tryz.underlying29
  go_enter Tryz.func119, Tryz.ntmps119
  go_wp2_with fail
  go_ret
  exact ⟨_, rfl, ⟨rfl, .inr ⟨w.heap.size, 0, #[], rfl, Nat.le_refl _, heap_new _ _, Nat.le_refl _, by decide, by simp, by simp⟩⟩, (Below.refl w.heap.size w).alloc (Nat.le_refl _) _⟩
theorem cloneT_any (v : Value) (n : Nat) (xs : List Value) (w : World) (h : Rw w v n 5 xs) (hn : n ≤ 100000) : Calls Tryz.prog 119 #[v] w (CloneP 31 5 n xs w) := by
  obtain ⟨i, z, q1, q2, q3, q4, q5⟩ := info_of (P := Tryz.prog) (e := 31) 5 (by kernel_rfl)
  obtain ⟨h1, h2, ao, c, rfl, h3, h4, h0⟩ := h
  cases ao with
  | none =>
    have hn0 : n = 0 := by
      rcases h0 with h0 | ⟨b, off, e, -⟩
      · exact h0
      · cases e
    subst hn0
    refine (AnyE.slices_Clone_nil Tryz.cloneTerm 0 c w).mono ?_
    rintro e w' ⟨rfl, rfl⟩
    have hx : xs = [] := List.eq_nil_of_length_eq_zero (by omega)
    subst hx
    exact ⟨_, rfl, ⟨rfl, .inl ⟨rfl, rfl⟩⟩, Below.refl _ _⟩
  | some a =>
    rcases h0 with rfl | ⟨b, off, e, h5⟩
    · have hx : xs = [] := List.eq_nil_of_length_eq_zero (by omega)
      subst hx
      exact cloneT_none a c w
    · injection e with e
      subst e
      refine (AnyE.slices_Clone Tryz.cloneTerm i z 5 i.bytes q1 q2 q3 rfl q5 (by decide) Tryz.sizeOf31 b off n c xs w h1 (by unfold maxLen; omega) (le_bytes hn q4) h5 h2).mono ?_
      rintro e w' ⟨v', rfl, h, -, hb⟩
      exact ⟨v', rfl, h, hb⟩
theorem cloneB_none (a : Addr) (c : Nat) (w : World) : Calls Tryz.prog 120 #[.slice (some a) 0 c] w (CloneP 4 1 0 [] w) := by
  obtain ⟨i, z, q1, q2, q3, q4, q5⟩ := info_of (P := Tryz.prog) (e := 4) 1 (by kernel_rfl)
  have qn : ∀ (w : World) (a : Option Addr) (n c n' c' : Nat), (binOp .eql 56 (.slice a n c) (.slice none n' c')).run Tryz.prog w = .ok (.bool a.isNone) w := fun w a n c n' c' => Lib.run_eql_slice_nil w _ _ a n c n' c' Tryz.underlying56
  go_enter Tryz.func120, Tryz.ntmps120
  go_wp2_with fail
  go_ret
  exact ⟨_, rfl, ⟨rfl, .inr ⟨w.heap.size, 0, #[], rfl, Nat.le_refl _, heap_new _ _, Nat.le_refl _, by decide, by simp, by simp⟩⟩, (Below.refl w.heap.size w).alloc (Nat.le_refl _) _⟩
theorem cloneB_any (v : Value) (n : Nat) (xs : List Value) (w : World) (h : Rw w v n 1 xs) (hn : n ≤ 100000) : Calls Tryz.prog 120 #[v] w (CloneP 4 1 n xs w) := by
  obtain ⟨i, z, q1, q2, q3, q4, q5⟩ := info_of (P := Tryz.prog) (e := 4) 1 (by kernel_rfl)
  obtain ⟨h1, h2, ao, c, rfl, h3, h4, h0⟩ := h
  cases ao with
  | none =>
    have hn0 : n = 0 := by
      rcases h0 with h0 | ⟨b, off, e, -⟩
      · exact h0
      · cases e
    subst hn0
    refine (AnyE.slices_Clone_nil Tryz.cloneBool 0 c w).mono ?_
    rintro e w' ⟨rfl, rfl⟩
    have hx : xs = [] := List.eq_nil_of_length_eq_zero (by omega)
    subst hx
    exact ⟨_, rfl, ⟨rfl, .inl ⟨rfl, rfl⟩⟩, Below.refl _ _⟩
  | some a =>
    rcases h0 with rfl | ⟨b, off, e, h5⟩
    · have hx : xs = [] := List.eq_nil_of_length_eq_zero (by omega)
      subst hx
      exact cloneB_none a c w
    · injection e with e
      subst e
      refine (AnyE.slices_Clone Tryz.cloneBool i z 1 i.bytes q1 q2 q3 rfl q5 (by decide) Tryz.sizeOf4 b off n c xs w h1 (by unfold maxLen; omega) (le_bytes hn q4) h5 h2).mono ?_
      rintro e w' ⟨v', rfl, h, -, hb⟩
      exact ⟨v', rfl, h, hb⟩
theorem cloneY_none (a : Addr) (c : Nat) (w : World) : Calls Tryz.prog 121 #[.slice (some a) 0 c] w (CloneP 101 2 0 [] w) := by
  obtain ⟨i, z, q1, q2, q3, q4, q5⟩ := info_of (P := Tryz.prog) (e := 101) 2 (by kernel_rfl)
  have qn : ∀ (w : World) (a : Option Addr) (n c n' c' : Nat), (binOp .eql 57 (.slice a n c) (.slice none n' c')).run Tryz.prog w = .ok (.bool a.isNone) w := fun w a n c n' c' => Lib.run_eql_slice_nil w _ _ a n c n' c' Tryz.underlying57
  go_enter Tryz.func121, Tryz.ntmps121
  go_wp2_with fail
  go_ret
  exact ⟨_, rfl, ⟨rfl, .inr ⟨w.heap.size, 0, #[], rfl, Nat.le_refl _, heap_new _ _, Nat.le_refl _, by decide, by simp, by simp⟩⟩, (Below.refl w.heap.size w).alloc (Nat.le_refl _) _⟩
theorem cloneY_any (v : Value) (n : Nat) (xs : List Value) (w : World) (h : Rw w v n 2 xs) (hn : n ≤ 100000) : Calls Tryz.prog 121 #[v] w (CloneP 101 2 n xs w) := by
  obtain ⟨i, z, q1, q2, q3, q4, q5⟩ := info_of (P := Tryz.prog) (e := 101) 2 (by kernel_rfl)
  obtain ⟨h1, h2, ao, c, rfl, h3, h4, h0⟩ := h
  cases ao with
  | none =>
    have hn0 : n = 0 := by
      rcases h0 with h0 | ⟨b, off, e, -⟩
      · exact h0
      · cases e
    subst hn0
    refine (AnyE.slices_Clone_nil Tryz.cloneTry 0 c w).mono ?_
    rintro e w' ⟨rfl, rfl⟩
    have hx : xs = [] := List.eq_nil_of_length_eq_zero (by omega)
    subst hx
    exact ⟨_, rfl, ⟨rfl, .inl ⟨rfl, rfl⟩⟩, Below.refl _ _⟩
  | some a =>
    rcases h0 with rfl | ⟨b, off, e, h5⟩
    · have hx : xs = [] := List.eq_nil_of_length_eq_zero (by omega)
      subst hx
      exact cloneY_none a c w
    · injection e with e
      subst e
      refine (AnyE.slices_Clone Tryz.cloneTry i z 2 i.bytes q1 q2 q3 rfl q5 (by decide) Tryz.sizeOf101 b off n c xs w h1 (by unfold maxLen; omega) (le_bytes hn q4) h5 h2).mono ?_
      rintro e w' ⟨v', rfl, h, -, hb⟩
      exact ⟨v', rfl, h, hb⟩
theorem cloneR_none (a : Addr) (c : Nat) (w : World) : Calls Tryz.prog 122 #[.slice (some a) 0 c] w (CloneP 176 13 0 [] w) := by
  obtain ⟨i, z, q1, q2, q3, q4, q5⟩ := info_of (P := Tryz.prog) (e := 176) 13 (by kernel_rfl)
  have qn : ∀ (w : World) (a : Option Addr) (n c n' c' : Nat), (binOp .eql 58 (.slice a n c) (.slice none n' c')).run Tryz.prog w = .ok (.bool a.isNone) w := fun w a n c n' c' => Lib.run_eql_slice_nil w _ _ a n c n' c' Tryz.underlying58
  go_enter Tryz.func122, Tryz.ntmps122
  go_wp2_with fail
  go_ret
  exact ⟨_, rfl, ⟨rfl, .inr ⟨w.heap.size, 0, #[], rfl, Nat.le_refl _, heap_new _ _, Nat.le_refl _, by decide, by simp, by simp⟩⟩, (Below.refl w.heap.size w).alloc (Nat.le_refl _) _⟩
theorem cloneR_any (v : Value) (n : Nat) (xs : List Value) (w : World) (h : Rw w v n 13 xs) (hn : n ≤ 100000) : Calls Tryz.prog 122 #[v] w (CloneP 176 13 n xs w) := by
  obtain ⟨i, z, q1, q2, q3, q4, q5⟩ := info_of (P := Tryz.prog) (e := 176) 13 (by kernel_rfl)
  obtain ⟨h1, h2, ao, c, rfl, h3, h4, h0⟩ := h
  cases ao with
  | none =>
    have hn0 : n = 0 := by
      rcases h0 with h0 | ⟨b, off, e, -⟩
      · exact h0
      · cases e
    subst hn0
    refine (AnyE.slices_Clone_nil Tryz.cloneRec 0 c w).mono ?_
    rintro e w' ⟨rfl, rfl⟩
    have hx : xs = [] := List.eq_nil_of_length_eq_zero (by omega)
    subst hx
    exact ⟨_, rfl, ⟨rfl, .inl ⟨rfl, rfl⟩⟩, Below.refl _ _⟩
  | some a =>
    rcases h0 with rfl | ⟨b, off, e, h5⟩
    · have hx : xs = [] := List.eq_nil_of_length_eq_zero (by omega)
      subst hx
      exact cloneR_none a c w
    · injection e with e
      subst e
      refine (AnyE.slices_Clone Tryz.cloneRec i z 13 i.bytes q1 q2 q3 rfl q5 (by decide) Tryz.sizeOf176 b off n c xs w h1 (by unfold maxLen; omega) (le_bytes hn q4) h5 h2).mono ?_
      rintro e w' ⟨v', rfl, h, -, hb⟩
      exact ⟨v', rfl, h, hb⟩
theorem cloneI_none (a : Addr) (c : Nat) (w : World) : Calls Tryz.prog 63 #[.slice (some a) 0 c] w (CloneP 3 1 0 [] w) := by
  obtain ⟨i, z, q1, q2, q3, q4, q5⟩ := info_of (P := Tryz.prog) (e := 3) 1 (by kernel_rfl)
  have qn : ∀ (w : World) (a : Option Addr) (n c n' c' : Nat), (binOp .eql 24 (.slice a n c) (.slice none n' c')).run Tryz.prog w = .ok (.bool a.isNone) w := fun w a n c n' c' => Lib.run_eql_slice_nil w _ _ a n c n' c' Tryz.underlying24
  go_enter Tryz.func63, Tryz.ntmps63
  go_wp2_with fail
  go_ret
  exact ⟨_, rfl, ⟨rfl, .inr ⟨w.heap.size, 0, #[], rfl, Nat.le_refl _, heap_new _ _, Nat.le_refl _, by decide, by simp, by simp⟩⟩, (Below.refl w.heap.size w).alloc (Nat.le_refl _) _⟩
theorem cloneI_any (v : Value) (n : Nat) (xs : List Value) (w : World) (h : Rw w v n 1 xs) (hn : n ≤ 100000) : Calls Tryz.prog 63 #[v] w (CloneP 3 1 n xs w) := by
  obtain ⟨i, z, q1, q2, q3, q4, q5⟩ := info_of (P := Tryz.prog) (e := 3) 1 (by kernel_rfl)
  obtain ⟨h1, h2, ao, c, rfl, h3, h4, h0⟩ := h
  cases ao with
  | none =>
    have hn0 : n = 0 := by
      rcases h0 with h0 | ⟨b, off, e, -⟩
      · exact h0
      · cases e
    subst hn0
    refine (AnyE.slices_Clone_nil Tryz.cloneInt 0 c w).mono ?_
    rintro e w' ⟨rfl, rfl⟩
    have hx : xs = [] := List.eq_nil_of_length_eq_zero (by omega)
    subst hx
    exact ⟨_, rfl, ⟨rfl, .inl ⟨rfl, rfl⟩⟩, Below.refl _ _⟩
  | some a =>
    rcases h0 with rfl | ⟨b, off, e, h5⟩
    · have hx : xs = [] := List.eq_nil_of_length_eq_zero (by omega)
      subst hx
      exact cloneI_none a c w
    · injection e with e
      subst e
      refine (AnyE.slices_Clone Tryz.cloneInt i z 1 i.bytes q1 q2 q3 rfl q5 (by decide) Tryz.sizeOf3 b off n c xs w h1 (by unfold maxLen; omega) (le_bytes hn q4) h5 h2).mono ?_
      rintro e w' ⟨v', rfl, h, -, hb⟩
      exact ⟨v', rfl, h, hb⟩
theorem cloneW_none (a : Addr) (c : Nat) (w : World) : Calls Tryz.prog 64 #[.slice (some a) 0 c] w (CloneP 81 2 0 [] w) := by
  obtain ⟨i, z, q1, q2, q3, q4, q5⟩ := info_of (P := Tryz.prog) (e := 81) 2 (by kernel_rfl)
  have qn : ∀ (w : World) (a : Option Addr) (n c n' c' : Nat), (binOp .eql 25 (.slice a n c) (.slice none n' c')).run Tryz.prog w = .ok (.bool a.isNone) w := fun w a n c n' c' => Lib.run_eql_slice_nil w _ _ a n c n' c' Tryz.underlying25
  go_enter Tryz.func64, Tryz.ntmps64
  go_wp2_with fail
  go_ret
  exact ⟨_, rfl, ⟨rfl, .inr ⟨w.heap.size, 0, #[], rfl, Nat.le_refl _, heap_new _ _, Nat.le_refl _, by decide, by simp, by simp⟩⟩, (Below.refl w.heap.size w).alloc (Nat.le_refl _) _⟩
theorem cloneW_any (v : Value) (n : Nat) (xs : List Value) (w : World) (h : Rw w v n 2 xs) (hn : n ≤ 100000) : Calls Tryz.prog 64 #[v] w (CloneP 81 2 n xs w) := by
  obtain ⟨i, z, q1, q2, q3, q4, q5⟩ := info_of (P := Tryz.prog) (e := 81) 2 (by kernel_rfl)
  obtain ⟨h1, h2, ao, c, rfl, h3, h4, h0⟩ := h
  cases ao with
  | none =>
    have hn0 : n = 0 := by
      rcases h0 with h0 | ⟨b, off, e, -⟩
      · exact h0
      · cases e
    subst hn0
    refine (AnyE.slices_Clone_nil Tryz.cloneWatch 0 c w).mono ?_
    rintro e w' ⟨rfl, rfl⟩
    have hx : xs = [] := List.eq_nil_of_length_eq_zero (by omega)
    subst hx
    exact ⟨_, rfl, ⟨rfl, .inl ⟨rfl, rfl⟩⟩, Below.refl _ _⟩
  | some a =>
    rcases h0 with rfl | ⟨b, off, e, h5⟩
    · have hx : xs = [] := List.eq_nil_of_length_eq_zero (by omega)
      subst hx
      exact cloneW_none a c w
    · injection e with e
      subst e
      refine (AnyE.slices_Clone Tryz.cloneWatch i z 2 i.bytes q1 q2 q3 rfl q5 (by decide) Tryz.sizeOf81 b off n c xs w h1 (by unfold maxLen; omega) (le_bytes hn q4) h5 h2).mono ?_
      rintro e w' ⟨v', rfl, h, -, hb⟩
      exact ⟨v', rfl, h, hb⟩
theorem cloneM_none (a : Addr) (c : Nat) (w : World) : Calls Tryz.prog 62 #[.slice (some a) 0 c] w (CloneP 33 6 0 [] w) := by
  obtain ⟨i, z, q1, q2, q3, q4, q5⟩ := info_of (P := Tryz.prog) (e := 33) 6 (by kernel_rfl)
  have qn : ∀ (w : World) (a : Option Addr) (n c n' c' : Nat), (binOp .eql 23 (.slice a n c) (.slice none n' c')).run Tryz.prog w = .ok (.bool a.isNone) w := fun w a n c n' c' => Lib.run_eql_slice_nil w _ _ a n c n' c' Tryz.underlying23
  go_enter Tryz.func62, Tryz.ntmps62
  go_wp2_with fail
  go_ret
  exact ⟨_, rfl, ⟨rfl, .inr ⟨w.heap.size, 0, #[], rfl, Nat.le_refl _, heap_new _ _, Nat.le_refl _, by decide, by simp, by simp⟩⟩, (Below.refl w.heap.size w).alloc (Nat.le_refl _) _⟩
theorem cloneM_any (v : Value) (n : Nat) (xs : List Value) (w : World) (h : Rw w v n 6 xs) (hn : n ≤ 100000) : Calls Tryz.prog 62 #[v] w (CloneP 33 6 n xs w) := by
  obtain ⟨i, z, q1, q2, q3, q4, q5⟩ := info_of (P := Tryz.prog) (e := 33) 6 (by kernel_rfl)
  obtain ⟨h1, h2, ao, c, rfl, h3, h4, h0⟩ := h
  cases ao with
  | none =>
    have hn0 : n = 0 := by
      rcases h0 with h0 | ⟨b, off, e, -⟩
      · exact h0
      · cases e
    subst hn0
    refine (AnyE.slices_Clone_nil Tryz.cloneItem 0 c w).mono ?_
    rintro e w' ⟨rfl, rfl⟩
    have hx : xs = [] := List.eq_nil_of_length_eq_zero (by omega)
    subst hx
    exact ⟨_, rfl, ⟨rfl, .inl ⟨rfl, rfl⟩⟩, Below.refl _ _⟩
  | some a =>
    rcases h0 with rfl | ⟨b, off, e, h5⟩
    · have hx : xs = [] := List.eq_nil_of_length_eq_zero (by omega)
      subst hx
      exact cloneM_none a c w
    · injection e with e
      subst e
      refine (AnyE.slices_Clone Tryz.cloneItem i z 6 i.bytes q1 q2 q3 rfl q5 (by decide) Tryz.sizeOf33 b off n c xs w h1 (by unfold maxLen; omega) (le_bytes hn q4) h5 h2).mono ?_
      rintro e w' ⟨v', rfl, h, -, hb⟩
      exact ⟨v', rfl, h, hb⟩
theorem cloneF_none (a : Addr) (c : Nat) (w : World) : Calls Tryz.prog 83 #[.slice (some a) 0 c] w (CloneP 65 35 0 [] w) := by
  obtain ⟨i, z, q1, q2, q3, q4, q5⟩ := info_of (P := Tryz.prog) (e := 65) 35 (by kernel_rfl)
  have qn : ∀ (w : World) (a : Option Addr) (n c n' c' : Nat), (binOp .eql 22 (.slice a n c) (.slice none n' c')).run Tryz.prog w = .ok (.bool a.isNone) w := fun w a n c n' c' => Lib.run_eql_slice_nil w _ _ a n c n' c' Tryz.underlying22
  go_enter Tryz.func83, Tryz.ntmps83
  go_wp2_with fail
  go_ret
  exact ⟨_, rfl, ⟨rfl, .inr ⟨w.heap.size, 0, #[], rfl, Nat.le_refl _, heap_new _ _, Nat.le_refl _, by decide, by simp, by simp⟩⟩, (Below.refl w.heap.size w).alloc (Nat.le_refl _) _⟩
theorem cloneF_any (v : Value) (n : Nat) (xs : List Value) (w : World) (h : Rw w v n 35 xs) (hn : n ≤ 100000) : Calls Tryz.prog 83 #[v] w (CloneP 65 35 n xs w) := by
  obtain ⟨i, z, q1, q2, q3, q4, q5⟩ := info_of (P := Tryz.prog) (e := 65) 35 (by kernel_rfl)
  obtain ⟨h1, h2, ao, c, rfl, h3, h4, h0⟩ := h
  cases ao with
  | none =>
    have hn0 : n = 0 := by
      rcases h0 with h0 | ⟨b, off, e, -⟩
      · exact h0
      · cases e
    subst hn0
    refine (AnyE.slices_Clone_nil Tryz.cloneFrame 0 c w).mono ?_
    rintro e w' ⟨rfl, rfl⟩
    have hx : xs = [] := List.eq_nil_of_length_eq_zero (by omega)
    subst hx
    exact ⟨_, rfl, ⟨rfl, .inl ⟨rfl, rfl⟩⟩, Below.refl _ _⟩
  | some a =>
    rcases h0 with rfl | ⟨b, off, e, h5⟩
    · have hx : xs = [] := List.eq_nil_of_length_eq_zero (by omega)
      subst hx
      exact cloneF_none a c w
    · injection e with e
      subst e
      refine (AnyE.slices_Clone Tryz.cloneFrame i z 35 i.bytes q1 q2 q3 rfl q5 (by decide) Tryz.sizeOf65 b off n c xs w h1 (by unfold maxLen; omega) (le_bytes hn q4) h5 h2).mono ?_
      rintro e w' ⟨v', rfl, h, -, hb⟩
      exact ⟨v', rfl, h, hb⟩
end Go.Proofs.YtemgnljegbaobaaGreatDoor
