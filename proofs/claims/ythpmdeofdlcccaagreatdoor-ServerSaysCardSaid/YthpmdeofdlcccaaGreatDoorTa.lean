/- terms: a node in memory; which nodes may be (kind, one). Conditions: the table of letters reads as laid; lengths fit. -/
import Derived.Test.YthpmdeofdlcccaaGreatDoorAa
import Derived.Test.YthpmdeofdlcccaaGreatDoorTx
namespace Go.Proofs.YthpmdeofdlcccaaGreatDoor
open Go.ChangeShapes Go.WideShapes Go.ChangeAt Go.RowKit
set_option linter.unusedVariables false
def empty (s : ByteArray) : Bool := s.toList.isEmpty
theorem empty_false {s : ByteArray} (h : empty s = false) : s.toList.isEmpty = false ∧ ¬ s.toList = [] := by
  unfold empty at h
  refine ⟨h, fun e => ?_⟩
  rw [e] at h; cases h
theorem empty_true {s : ByteArray} (h : empty s = true) : s = ⟨#[]⟩ := by
  unfold empty at h
  apply bytes_inj
  rw [ByteArray.toList_eq] at h
  simpa using h
/-- no field that the kind does not name -/
def bareB (n s u l : Bool) (N : Int) (S U : ByteArray) (len : Nat) : Bool := (n || (N == 0)) && ((s || empty S) && ((u || empty U) && (l || (len == 0))))
theorem names_tfff (w : World) (pb b o : Nat) {k N : Int} {S U : ByteArray} {ao : Option Addr} {len cap : Nat} (hp : w.cell? ⟨pb, 0, none⟩ = some (.pointer (some ⟨b, o, none⟩))) (h : Node w b o k N S U (.slice ao len cap)) :
    Calls Tryz.prog 101 #[.bool true, .bool false, .bool false, .bool false, .pointer (some ⟨pb, 0, none⟩)] w (SameB w (bareB true false false false N S U len)) := by
  obtain ⟨c0, c1, c2, c3, c4⟩ := h
  cases hS : empty S
  · obtain ⟨qS1, qS2⟩ := empty_false hS
    have e : bareB true false false false N S U len = false := by simp [bareB, *]
    rw [e]
    have E := trivial
    clear e
    clear hS
    go_enter Tryz.func101, Tryz.ntmps101
    go_wp2_with fail
    go_ret
    exact ⟨rfl, rfl⟩
  · obtain rfl := empty_true hS
    cases hU : empty U
    · obtain ⟨qU1, qU2⟩ := empty_false hU
      have e : bareB true false false false N ⟨#[]⟩ U len = false := by simp [bareB, *]
      rw [e]
      have E := trivial
      clear e
      clear hU
      go_enter Tryz.func101, Tryz.ntmps101
      go_wp2_with fail
      go_ret
      exact ⟨rfl, rfl⟩
    · obtain rfl := empty_true hU
      by_cases hl : len = 0
      · have hl' : ((len : Int) == 0) = true := by simp [hl]
        have hl2 : (len == 0) = true := by simp [hl]
        clear hl
        have e : bareB true false false false N ⟨#[]⟩ ⟨#[]⟩ len = true := by simp [bareB, *]
        rw [e]
        have E := trivial
        clear e
        clear hl2
        go_enter Tryz.func101, Tryz.ntmps101
        go_wp2_with fail
        go_ret
        exact ⟨rfl, rfl⟩
      · have hl' : ((len : Int) == 0) = false := by simp; omega
        have hl2 : (len == 0) = false := by simp [hl]
        clear hl
        have e : bareB true false false false N ⟨#[]⟩ ⟨#[]⟩ len = false := by simp [bareB, *]
        rw [e]
        have E := trivial
        clear e
        clear hl2
        go_enter Tryz.func101, Tryz.ntmps101
        go_wp2_with fail
        go_ret
        exact ⟨rfl, rfl⟩
theorem names_ftff (w : World) (pb b o : Nat) {k N : Int} {S U : ByteArray} {ao : Option Addr} {len cap : Nat} (hp : w.cell? ⟨pb, 0, none⟩ = some (.pointer (some ⟨b, o, none⟩))) (h : Node w b o k N S U (.slice ao len cap)) :
    Calls Tryz.prog 101 #[.bool false, .bool true, .bool false, .bool false, .pointer (some ⟨pb, 0, none⟩)] w (SameB w (bareB false true false false N S U len)) := by
  obtain ⟨c0, c1, c2, c3, c4⟩ := h
  by_cases hN : N = 0
  · have hN' : (N == 0) = true := by simp [hN]
    clear hN
    cases hU : empty U
    · obtain ⟨qU1, qU2⟩ := empty_false hU
      have e : bareB false true false false N S U len = false := by simp [bareB, *]
      rw [e]
      have E := trivial
      clear e
      clear hU
      go_enter Tryz.func101, Tryz.ntmps101
      go_wp2_with fail
      go_ret
      exact ⟨rfl, rfl⟩
    · obtain rfl := empty_true hU
      by_cases hl : len = 0
      · have hl' : ((len : Int) == 0) = true := by simp [hl]
        have hl2 : (len == 0) = true := by simp [hl]
        clear hl
        have e : bareB false true false false N S ⟨#[]⟩ len = true := by simp [bareB, *]
        rw [e]
        have E := trivial
        clear e
        clear hl2
        go_enter Tryz.func101, Tryz.ntmps101
        go_wp2_with fail
        go_ret
        exact ⟨rfl, rfl⟩
      · have hl' : ((len : Int) == 0) = false := by simp; omega
        have hl2 : (len == 0) = false := by simp [hl]
        clear hl
        have e : bareB false true false false N S ⟨#[]⟩ len = false := by simp [bareB, *]
        rw [e]
        have E := trivial
        clear e
        clear hl2
        go_enter Tryz.func101, Tryz.ntmps101
        go_wp2_with fail
        go_ret
        exact ⟨rfl, rfl⟩
  · have hN' : (N == 0) = false := by simp [hN]
    clear hN
    have e : bareB false true false false N S U len = false := by simp [bareB, *]
    rw [e]
    have E := trivial
    clear e
    go_enter Tryz.func101, Tryz.ntmps101
    go_wp2_with fail
    go_ret
    exact ⟨rfl, rfl⟩
theorem names_tttf (w : World) (pb b o : Nat) {k N : Int} {S U : ByteArray} {ao : Option Addr} {len cap : Nat} (hp : w.cell? ⟨pb, 0, none⟩ = some (.pointer (some ⟨b, o, none⟩))) (h : Node w b o k N S U (.slice ao len cap)) :
    Calls Tryz.prog 101 #[.bool true, .bool true, .bool true, .bool false, .pointer (some ⟨pb, 0, none⟩)] w (SameB w (bareB true true true false N S U len)) := by
  obtain ⟨c0, c1, c2, c3, c4⟩ := h
  by_cases hl : len = 0
  · have hl' : ((len : Int) == 0) = true := by simp [hl]
    have hl2 : (len == 0) = true := by simp [hl]
    clear hl
    have e : bareB true true true false N S U len = true := by simp [bareB, *]
    rw [e]
    have E := trivial
    clear e
    clear hl2
    go_enter Tryz.func101, Tryz.ntmps101
    go_wp2_with fail
    go_ret
    exact ⟨rfl, rfl⟩
  · have hl' : ((len : Int) == 0) = false := by simp; omega
    have hl2 : (len == 0) = false := by simp [hl]
    clear hl
    have e : bareB true true true false N S U len = false := by simp [bareB, *]
    rw [e]
    have E := trivial
    clear e
    clear hl2
    go_enter Tryz.func101, Tryz.ntmps101
    go_wp2_with fail
    go_ret
    exact ⟨rfl, rfl⟩
theorem names_ffft (w : World) (pb b o : Nat) {k N : Int} {S U : ByteArray} {ao : Option Addr} {len cap : Nat} (hp : w.cell? ⟨pb, 0, none⟩ = some (.pointer (some ⟨b, o, none⟩))) (h : Node w b o k N S U (.slice ao len cap)) :
    Calls Tryz.prog 101 #[.bool false, .bool false, .bool false, .bool true, .pointer (some ⟨pb, 0, none⟩)] w (SameB w (bareB false false false true N S U len)) := by
  obtain ⟨c0, c1, c2, c3, c4⟩ := h
  by_cases hN : N = 0
  · have hN' : (N == 0) = true := by simp [hN]
    clear hN
    cases hS : empty S
    · obtain ⟨qS1, qS2⟩ := empty_false hS
      have e : bareB false false false true N S U len = false := by simp [bareB, *]
      rw [e]
      have E := trivial
      clear e
      clear hS
      go_enter Tryz.func101, Tryz.ntmps101
      go_wp2_with fail
      go_ret
      exact ⟨rfl, rfl⟩
    · obtain rfl := empty_true hS
      cases hU : empty U
      · obtain ⟨qU1, qU2⟩ := empty_false hU
        have e : bareB false false false true N ⟨#[]⟩ U len = false := by simp [bareB, *]
        rw [e]
        have E := trivial
        clear e
        clear hU
        go_enter Tryz.func101, Tryz.ntmps101
        go_wp2_with fail
        go_ret
        exact ⟨rfl, rfl⟩
      · obtain rfl := empty_true hU
        have e : bareB false false false true N ⟨#[]⟩ ⟨#[]⟩ len = true := by simp [bareB, *]
        rw [e]
        have E := trivial
        clear e
        go_enter Tryz.func101, Tryz.ntmps101
        go_wp2_with fail
        go_ret
        exact ⟨rfl, rfl⟩
  · have hN' : (N == 0) = false := by simp [hN]
    clear hN
    have e : bareB false false false true N S U len = false := by simp [bareB, *]
    rw [e]
    have E := trivial
    clear e
    go_enter Tryz.func101, Tryz.ntmps101
    go_wp2_with fail
    go_ret
    exact ⟨rfl, rfl⟩
theorem names_ffff (w : World) (pb b o : Nat) {k N : Int} {S U : ByteArray} {ao : Option Addr} {len cap : Nat} (hp : w.cell? ⟨pb, 0, none⟩ = some (.pointer (some ⟨b, o, none⟩))) (h : Node w b o k N S U (.slice ao len cap)) :
    Calls Tryz.prog 101 #[.bool false, .bool false, .bool false, .bool false, .pointer (some ⟨pb, 0, none⟩)] w (SameB w (bareB false false false false N S U len)) := by
  obtain ⟨c0, c1, c2, c3, c4⟩ := h
  by_cases hN : N = 0
  · have hN' : (N == 0) = true := by simp [hN]
    clear hN
    cases hS : empty S
    · obtain ⟨qS1, qS2⟩ := empty_false hS
      have e : bareB false false false false N S U len = false := by simp [bareB, *]
      rw [e]
      have E := trivial
      clear e
      clear hS
      go_enter Tryz.func101, Tryz.ntmps101
      go_wp2_with fail
      go_ret
      exact ⟨rfl, rfl⟩
    · obtain rfl := empty_true hS
      cases hU : empty U
      · obtain ⟨qU1, qU2⟩ := empty_false hU
        have e : bareB false false false false N ⟨#[]⟩ U len = false := by simp [bareB, *]
        rw [e]
        have E := trivial
        clear e
        clear hU
        go_enter Tryz.func101, Tryz.ntmps101
        go_wp2_with fail
        go_ret
        exact ⟨rfl, rfl⟩
      · obtain rfl := empty_true hU
        by_cases hl : len = 0
        · have hl' : ((len : Int) == 0) = true := by simp [hl]
          have hl2 : (len == 0) = true := by simp [hl]
          clear hl
          have e : bareB false false false false N ⟨#[]⟩ ⟨#[]⟩ len = true := by simp [bareB, *]
          rw [e]
          have E := trivial
          clear e
          clear hl2
          go_enter Tryz.func101, Tryz.ntmps101
          go_wp2_with fail
          go_ret
          exact ⟨rfl, rfl⟩
        · have hl' : ((len : Int) == 0) = false := by simp; omega
          have hl2 : (len == 0) = false := by simp [hl]
          clear hl
          have e : bareB false false false false N ⟨#[]⟩ ⟨#[]⟩ len = false := by simp [bareB, *]
          rw [e]
          have E := trivial
          clear e
          clear hl2
          go_enter Tryz.func101, Tryz.ntmps101
          go_wp2_with fail
          go_ret
          exact ⟨rfl, rfl⟩
  · have hN' : (N == 0) = false := by simp [hN]
    clear hN
    have e : bareB false false false false N S U len = false := by simp [bareB, *]
    rw [e]
    have E := trivial
    clear e
    go_enter Tryz.func101, Tryz.ntmps101
    go_wp2_with fail
    go_ret
    exact ⟨rfl, rfl⟩
end Go.Proofs.YthpmdeofdlcccaaGreatDoor
