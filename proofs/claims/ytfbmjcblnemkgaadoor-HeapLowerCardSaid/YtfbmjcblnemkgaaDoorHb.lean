/- heap: May. Conditions: the table of letters reads as laid; what comes reads. -/
import Derived.Test.YtfbmjcblnemkgaaDoorHa
namespace Go.Proofs.YtfbmjcblnemkgaaDoor
open Go.ChangeShapes Go.WideShapes Go.ChangeAt Go.RowKit
set_option linter.unusedVariables false
theorem str_some {s : ByteArray} (h : empty s = false) : s.toList.isEmpty = false ∧ ¬ s.toList = [] := empty_false h
set_option maxHeartbeats 4000000 in
theorem may_cell (w : World) (base p : Nat) (v : Value) (C : List HC) (a k n : Int) (s u : ByteArray) (ao : Option Addr) (cap : Nat) (l : List Tm) (h : Hp w base p v C) (hl : l.length ≤ 9223372036854775807) :
    Calls Tryd.prog 17 #[.pointer (some ⟨p, 0, none⟩), Wd.V ⟨true, a, k, n, s, u, ao, cap, l⟩] w (IsPost w (mayW C.length ⟨true, a, k, n, s, u, ao, cap, l⟩)) := by
  obtain ⟨vo, vc, -, -, hcm, c1, -, -, -, hps, -⟩ := h.facts
  have hC : C.length ≤ 1048576 := h.2.2.2.1
  clear h
  by_cases h1 : 0 ≤ a
  · have d1 : decide (0 ≤ a) = true := by simpa using h1
    by_cases h2 : a < C.length
    · have d2 : decide (a < (C.length : Int)) = true := by simpa using h2
      by_cases h3 : k = 0
      · subst h3
        by_cases h4 : n = 0
        · subst h4
          cases h5 : empty s
          · obtain ⟨q1, q2⟩ := str_some h5
            have e : mayW C.length ⟨true, a, 0, 0, s, u, ao, cap, l⟩ = false := by simp [mayW, h5]
            clear h5
            rw [e]
            clear e
            go_enter Tryd.func17, Tryd.ntmps17
            simp only [Wd.V]
            go_wp2_with fail
            go_quiet (fail)
            go_wp2_with fail
            go_ret
            exact ⟨rfl, below_drewN (((Below.refl _ _).alloc (Nat.le_refl _) _).alloc (by simp) _) _⟩
          · obtain rfl := empty_true h5
            cases h6 : empty u
            · obtain ⟨q1, q2⟩ := str_some h6
              have e : mayW C.length ⟨true, a, 0, 0, ⟨#[]⟩, u, ao, cap, l⟩ = false := by simp [mayW, h6]
              clear h5 h6
              rw [e]
              clear e
              go_enter Tryd.func17, Tryd.ntmps17
              simp only [Wd.V]
              go_wp2_with fail
              go_quiet (fail)
              go_wp2_with fail
              go_ret
              exact ⟨rfl, below_drewN (((Below.refl _ _).alloc (Nat.le_refl _) _).alloc (by simp) _) _⟩
            · obtain rfl := empty_true h6
              cases l with
              | nil =>
                have e : mayW C.length ⟨true, a, 0, 0, ⟨#[]⟩, ⟨#[]⟩, ao, cap, []⟩ = true := by simp [mayW, h1, h2, h5]
                clear h5 h6
                simp only [List.length_nil] at *
                rw [e]
                clear e
                go_enter Tryd.func17, Tryd.ntmps17
                simp only [Wd.V]
                go_wp2_with fail
                go_quiet (fail)
                go_wp2_with fail
                go_ret
                exact ⟨rfl, below_drewN (((Below.refl _ _).alloc (Nat.le_refl _) _).alloc (by simp) _) _⟩
              | cons t l =>
                have e : mayW C.length ⟨true, a, 0, 0, ⟨#[]⟩, ⟨#[]⟩, ao, cap, t :: l⟩ = false := by simp [mayW]
                have d7 : (((t :: l).length : Int) == 0) = false := by simp; omega
                clear h5 h6
                generalize (t :: l).length = m at *
                rw [e]
                clear e
                go_enter Tryd.func17, Tryd.ntmps17
                simp only [Wd.V]
                go_wp2_with fail
                go_quiet (fail)
                go_wp2_with fail
                go_ret
                exact ⟨rfl, below_drewN (((Below.refl _ _).alloc (Nat.le_refl _) _).alloc (by simp) _) _⟩
        · have e : mayW C.length ⟨true, a, 0, n, s, u, ao, cap, l⟩ = false := by simp [mayW, h4]
          have d4 : (n == 0) = false := by simp [h4]
          clear h4
          rw [e]
          clear e
          go_enter Tryd.func17, Tryd.ntmps17
          simp only [Wd.V]
          go_wp2_with fail
          go_quiet (fail)
          go_wp2_with fail
          go_ret
          exact ⟨rfl, below_drewN (((Below.refl _ _).alloc (Nat.le_refl _) _).alloc (by simp) _) _⟩
      · have e : mayW C.length ⟨true, a, k, n, s, u, ao, cap, l⟩ = false := by simp [mayW, h3]
        have d4 : (k == 0) = false := by simp [h3]
        clear h3
        rw [e]
        clear e
        go_enter Tryd.func17, Tryd.ntmps17
        simp only [Wd.V]
        go_wp2_with fail
        go_quiet (fail)
        go_wp2_with fail
        go_ret
        exact ⟨rfl, below_drewN (((Below.refl _ _).alloc (Nat.le_refl _) _).alloc (by simp) _) _⟩
    · have d2 : decide (a < (C.length : Int)) = false := by simpa using h2
      have e : mayW C.length ⟨true, a, k, n, s, u, ao, cap, l⟩ = false := by simp [mayW, h2]
      clear h2
      rw [e]
      clear e
      go_enter Tryd.func17, Tryd.ntmps17
      simp only [Wd.V]
      go_wp2_with fail
      go_quiet (fail)
      go_wp2_with fail
      go_ret
      exact ⟨rfl, below_drewN (((Below.refl _ _).alloc (Nat.le_refl _) _).alloc (by simp) _) _⟩
  · have d1 : decide (0 ≤ a) = false := by simpa using h1
    have e : mayW C.length ⟨true, a, k, n, s, u, ao, cap, l⟩ = false := by simp [mayW, h1]
    clear h1
    rw [e]
    clear e
    go_enter Tryd.func17, Tryd.ntmps17
    simp only [Wd.V]
    go_wp2_with fail
    go_quiet (fail)
    go_wp2_with fail
    go_ret
    exact ⟨rfl, below_drewN (((Below.refl _ _).alloc (Nat.le_refl _) _).alloc (by simp) _) _⟩
set_option maxHeartbeats 4000000 in
theorem may_leaf (f : Nat) (w : World) (base p : Nat) (v : Value) (C : List HC) (a k n : Int) (s u : ByteArray) (ao : Option Addr) (cap : Nat) (l : List Tm) (h : Hp w base p v C) (hL : Cells w 0 letL) (hx : WOk f w ⟨false, a, k, n, s, u, ao, cap, l⟩) :
    Calls Tryd.prog 17 #[.pointer (some ⟨p, 0, none⟩), Wd.V ⟨false, a, k, n, s, u, ao, cap, l⟩] w (IsPost w (mayW C.length ⟨false, a, k, n, s, u, ao, cap, l⟩)) := by
  clear h
  by_cases h1 : a = 0
  · subst h1
    have hb := (Below.refl w.heap.size w).alloc (Nat.le_refl _) (.cells #[.bool false, .int .i64 0, .int .i8 k, .int .i64 n, .string s, .string u, .slice ao l.length cap] 33)
    have hC := check_any f (.mk k n s u l) (.agg #[.int .i8 k, .int .i64 n, .string s, .string u, .slice ao l.length cap]) (w.alloc (.cells #[.bool false, .int .i64 0, .int .i8 k, .int .i64 n, .string s, .string u, .slice ao l.length cap] 33)) (fun j r hj => ⟨keep_cell (hL j r hj).1 hb, keep_cell (hL j r hj).2 hb⟩) ⟨hx.2.1, _, rfl, hx.2.2.keep hb⟩
    have HCK := Lib.hid hC
    have HP := Lib.hid (parts_any (w.alloc (.cells #[.bool false, .int .i64 0, .int .i8 k, .int .i64 n, .string s, .string u, .slice ao l.length cap] 33)) k)
    have HB := Lib.hid hb
    clear hb hC hx hL
    cases h2 : partsB k
    · rw [h2] at HP
      have e : mayW C.length ⟨false, 0, k, n, s, u, ao, cap, l⟩ = decide (checkN (.mk k n s u l) = 0) := by
        show (decide ((0 : Int) = 0) && (!partsB k && decide (checkN (.mk k n s u l) = 0))) = decide _
        rw [h2]
        rfl
      rw [e]
      have d : (checkN (.mk k n s u l) == 0) = decide (checkN (.mk k n s u l) = 0) := rfl
      have HE := Lib.hid d
      generalize checkN (.mk k n s u l) = q at *
      clear h2 e d
      go_enter Tryd.func17, Tryd.ntmps17
      simp only [Wd.V]
      go_wp2_with fail
      refine HP.out.mono ?_
      rintro e w' ⟨rfl, rfl⟩
      go_wp2_with fail
      refine HCK.out.mono ?_
      rintro e w2 ⟨rfl, hb2⟩
      have HB2 := Lib.hid hb2
      clear hb2
      go_wp2_with fail
      go_ret
      exact ⟨rfl, HB.out.trans (HB2.out.mono HB.out.size)⟩
    · rw [h2] at HP
      have e : mayW C.length ⟨false, 0, k, n, s, u, ao, cap, l⟩ = false := by simp [mayW, h2]
      rw [e]
      clear h2 e HCK
      go_enter Tryd.func17, Tryd.ntmps17
      simp only [Wd.V]
      go_wp2_with fail
      refine HP.out.mono ?_
      rintro e w' ⟨rfl, rfl⟩
      go_wp2_with fail
      go_ret
      exact ⟨rfl, HB.out⟩
  · have e : mayW C.length ⟨false, a, k, n, s, u, ao, cap, l⟩ = false := by simp [mayW, h1]
    rw [e]
    have d : (a == 0) = false := by simp [h1]
    clear h1 e hx hL
    go_enter Tryd.func17, Tryd.ntmps17
    simp only [Wd.V]
    go_wp2_with fail
    go_ret
    exact ⟨rfl, (Below.refl _ _).alloc (Nat.le_refl _) _⟩
theorem may_any (f : Nat) (w : World) (base p : Nat) (v : Value) (C : List HC) (x : Wd) (h : Hp w base p v C) (hL : Cells w 0 letL) (hx : WOk f w x) :
    Calls Tryd.prog 17 #[.pointer (some ⟨p, 0, none⟩), x.V] w (IsPost w (mayW C.length x)) := by
  obtain ⟨c, a, k, n, s, u, ao, cap, l⟩ := x
  cases c
  · exact may_leaf f w base p v C a k n s u ao cap l h hL hx
  · obtain ⟨ao', cap', e, h1, h2, _⟩ := hx.2.2
    injection e with e1 e2 e3
    exact may_cell w base p v C a k n s u ao cap l h (by
      have e1 : l.length ≤ cap' := h1
      omega)
theorem may_nil (w : World) (x : Wd) : Calls Tryd.prog 17 #[.pointer none, x.V] w (IsPost w false) := by
  go_enter Tryd.func17, Tryd.ntmps17
  simp only [Wd.V]
  go_wp2_with fail
  go_ret
  exact ⟨rfl, (Below.refl _ _).alloc (Nat.le_refl _) _⟩
end Go.Proofs.YtfbmjcblnemkgaaDoor
