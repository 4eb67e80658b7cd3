/- the library's comparisons. No conditions. -/
import Derived.Test.YtaomakhhkjflaaaDoorK
namespace Go.Proofs.YtaomakhhkjflaaaDoor
open Go.ChangeShapes Go.WideShapes Go.ChangeAt Go.RowKit
set_option linter.unusedVariables false
def SameN (w : World) (v : Int) (e : Ending) (w' : World) : Prop := e = .returned (.int .i64 v) ∧ w = w'
def cmpI (a b : Int) : Int := if a < b then -1 else if b < a then 1 else 0
def cmpS (a b : ByteArray) : Int := if Op.bytesLess a.toList b.toList = true then -1 else if (a.toList == b.toList) = true then 0 else 1
def orL : List Int → Int
  | [] => 0
  | x :: l => if x = 0 then orL l else x
theorem nan8_any (w : World) (a : Int) : Calls Tryd.prog 52 #[.int .i8 a] w (SameB w false) := by
  have e : (a != a) = false := by simp
  go_enter Tryd.func52, Tryd.ntmps52
  go_wp2_with fail
  go_ret
  exact ⟨rfl, rfl⟩
theorem nani_any (w : World) (a : Int) : Calls Tryd.prog 53 #[.int .i64 a] w (SameB w false) := by
  have e : (a != a) = false := by simp
  go_enter Tryd.func53, Tryd.ntmps53
  go_wp2_with fail
  go_ret
  exact ⟨rfl, rfl⟩
theorem nans_any (w : World) (a : ByteArray) : Calls Tryd.prog 54 #[.string a] w (SameB w false) := by
  go_enter Tryd.func54, Tryd.ntmps54
  go_wp2_with fail
  go_ret
  exact ⟨rfl, rfl⟩
theorem cmp8_any (w : World) (a b : Int) : Calls Tryd.prog 33 #[.int .i8 a, .int .i8 b] w (SameN w (cmpI a b)) := by
  have H1 := Lib.hid (nan8_any w a)
  have H2 := Lib.hid (nan8_any w b)
  unfold cmpI
  by_cases h1 : a < b
  · have d1 : decide (a < b) = true := by simpa using h1
    rw [if_pos h1]
    clear h1
    go_enter Tryd.func33, Tryd.ntmps33
    go_wp2_with fail
    refine H1.out.mono ?_
    rintro e w' ⟨rfl, rfl⟩
    go_wp2_with fail
    refine H2.out.mono ?_
    rintro e w' ⟨rfl, rfl⟩
    go_wp2_with fail
    go_ret
    exact ⟨rfl, rfl⟩
  · have d1 : decide (a < b) = false := by simpa using h1
    rw [if_neg h1]
    by_cases h2 : b < a
    · have d2 : decide (b < a) = true := by simpa using h2
      rw [if_pos h2]
      clear h1 h2
      go_enter Tryd.func33, Tryd.ntmps33
      go_wp2_with fail
      refine H1.out.mono ?_
      rintro e w' ⟨rfl, rfl⟩
      go_wp2_with fail
      refine H2.out.mono ?_
      rintro e w' ⟨rfl, rfl⟩
      go_wp2_with fail
      go_ret
      exact ⟨rfl, rfl⟩
    · have d2 : decide (b < a) = false := by simpa using h2
      rw [if_neg h2]
      clear h1 h2
      go_enter Tryd.func33, Tryd.ntmps33
      go_wp2_with fail
      refine H1.out.mono ?_
      rintro e w' ⟨rfl, rfl⟩
      go_wp2_with fail
      refine H2.out.mono ?_
      rintro e w' ⟨rfl, rfl⟩
      go_wp2_with fail
      go_ret
      exact ⟨rfl, rfl⟩
theorem cmpi_any (w : World) (a b : Int) : Calls Tryd.prog 35 #[.int .i64 a, .int .i64 b] w (SameN w (cmpI a b)) := by
  have H1 := Lib.hid (nani_any w a)
  have H2 := Lib.hid (nani_any w b)
  unfold cmpI
  by_cases h1 : a < b
  · have d1 : decide (a < b) = true := by simpa using h1
    rw [if_pos h1]
    clear h1
    go_enter Tryd.func35, Tryd.ntmps35
    go_wp2_with fail
    refine H1.out.mono ?_
    rintro e w' ⟨rfl, rfl⟩
    go_wp2_with fail
    refine H2.out.mono ?_
    rintro e w' ⟨rfl, rfl⟩
    go_wp2_with fail
    go_ret
    exact ⟨rfl, rfl⟩
  · have d1 : decide (a < b) = false := by simpa using h1
    rw [if_neg h1]
    by_cases h2 : b < a
    · have d2 : decide (b < a) = true := by simpa using h2
      rw [if_pos h2]
      clear h1 h2
      go_enter Tryd.func35, Tryd.ntmps35
      go_wp2_with fail
      refine H1.out.mono ?_
      rintro e w' ⟨rfl, rfl⟩
      go_wp2_with fail
      refine H2.out.mono ?_
      rintro e w' ⟨rfl, rfl⟩
      go_wp2_with fail
      go_ret
      exact ⟨rfl, rfl⟩
    · have d2 : decide (b < a) = false := by simpa using h2
      rw [if_neg h2]
      clear h1 h2
      go_enter Tryd.func35, Tryd.ntmps35
      go_wp2_with fail
      refine H1.out.mono ?_
      rintro e w' ⟨rfl, rfl⟩
      go_wp2_with fail
      refine H2.out.mono ?_
      rintro e w' ⟨rfl, rfl⟩
      go_wp2_with fail
      go_ret
      exact ⟨rfl, rfl⟩
theorem cmps_any (w : World) (a b : ByteArray) : Calls Tryd.prog 36 #[.string a, .string b] w (SameN w (cmpS a b)) := by
  have H1 := Lib.hid (nans_any w a)
  have H2 := Lib.hid (nans_any w b)
  have HE : Hid ((cmpS a b = -1 ∧ Op.bytesLess a.toList b.toList = true) ∨ (cmpS a b = 0 ∧ Op.bytesLess a.toList b.toList = false ∧ (a.toList == b.toList) = true) ∨ (cmpS a b = 1 ∧ Op.bytesLess a.toList b.toList = false ∧ (a.toList == b.toList) = false)) := Lib.hid (by
    unfold cmpS
    cases h1 : Op.bytesLess a.toList b.toList <;> cases h2 : (a.toList == b.toList) <;> simp)
  generalize cmpS a b = r at *
  rcases HE.out with ⟨rfl, h1⟩ | ⟨rfl, h1, h2⟩ | ⟨rfl, h1, h2⟩
  all_goals
    clear HE
    go_enter Tryd.func36, Tryd.ntmps36
    go_wp2_with fail
    refine H1.out.mono ?_
    rintro e w' ⟨rfl, rfl⟩
    go_wp2_with fail
    refine H2.out.mono ?_
    rintro e w' ⟨rfl, rfl⟩
    go_wp2_with fail
    go_ret
    exact ⟨rfl, rfl⟩
theorem or_any (w : World) (l : List Int) (b off cap : Nat) (hc : ∀ j x, l[j]? = some x → w.cell? ⟨b, off + j, none⟩ = some (.int .i64 x)) (hb : b < w.heap.size) (hl : l.length ≤ 1099511627776) :
    Calls Tryd.prog 34 #[.slice (some ⟨b, off, none⟩) l.length cap] w (SameN w (orL l)) := by
  have HC := Lib.hid hc
  clear hc
  go_enter Tryd.func34, Tryd.ntmps34
  go_wp2_with fail
  go_loopw [8] (fun iv wr => ∃ (i : Nat), i ≤ l.length ∧ iv = .int .i64 i ∧ wr = w ∧ Hid (orL (l.drop i) = orL l)) (fun iv _ => l.length - (intOf iv).toNat)
  case atStart => exact ⟨0, by omega, rfl, rfl, Lib.hid rfl⟩
  case round =>
    obtain ⟨i, hi, rfl, rfl, HI⟩ := hrel
    by_cases hlt : i < l.length
    · obtain ⟨x, hx⟩ : ∃ x, l[i]? = some x := ⟨l[i], by simp [hlt]⟩
      have c0 := HC.out i x hx
      have hd : l.drop i = x :: l.drop (i + 1) := by
        rw [List.drop_eq_getElem_cons hlt]
        congr 1
        rw [List.getElem?_eq_getElem hlt] at hx
        exact Option.some.inj hx
      have hstep := HI.out
      rw [hd, orL] at hstep
      by_cases h0 : x = 0
      · rw [if_pos h0] at hstep
        have d0 : (x != 0) = false := by simp [h0]
        have HS := Lib.hid hstep
        clear hstep hd hx h0
        go_wp2_with fail
        go_roundw
        case rel => exact ⟨i + 1, by omega, by go_num, by trivial, HS⟩
        case measure => simp [intOf]; omega
      · rw [if_neg h0] at hstep
        have d0 : (x != 0) = true := by simp [h0]
        have HS := Lib.hid hstep
        clear hstep hd hx h0
        go_wp2_with fail
        go_ret
        exact ⟨by rw [← HS.out]; rfl, rfl⟩
    · have hil : i = l.length := by omega
      have HS : Hid (orL l = 0) := Lib.hid (by rw [← HI.out, hil, List.drop_length, orL])
      go_wp2_with fail
      go_ret
      exact ⟨by rw [HS.out]; rfl, rfl⟩
end Go.Proofs.YtaomakhhkjflaaaDoor
