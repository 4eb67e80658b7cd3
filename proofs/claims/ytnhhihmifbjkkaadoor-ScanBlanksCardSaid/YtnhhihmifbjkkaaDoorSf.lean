/- scan: Word, HasPrefix; the reference's Word and mark, walked (printed by gensf.py). Conditions: lengths fit; the table of words reads as laid. -/
import Derived.Test.YtnhhihmifbjkkaaDoorSx
namespace Go.Proofs.YtnhhihmifbjkkaaDoor
open Go.ChangeShapes Go.WideShapes Go.ChangeAt Go.RowKit
set_option linter.unusedVariables false
def SameB (w : World) (v : Bool) (e : Ending) (w' : World) : Prop := e = .returned (.bool v) ∧ w = w'
theorem str_of {s : ByteArray} {x : List UInt8} (h : s.data.toList = x) : s = ⟨x.toArray⟩ := by
  cases s; subst h; rfl
theorem bytes_ne {s t : ByteArray} (h : s.data.toList ≠ t.data.toList) : s ≠ t := fun e => h (by rw [e])
theorem wordB_hit {l x : List UInt8} {k : Nat} (h : wordsL[k]? = some x) (e : x = l) : wordB l = true := by
  unfold wordB
  rw [List.any_eq_true]
  exact ⟨x, List.mem_of_getElem? h, by simp [e]⟩
theorem wordB_miss {l : List UInt8} (h : ∀ j x, j < 13 → wordsL[j]? = some x → x ≠ l) : wordB l = false := by
  unfold wordB
  rw [List.any_eq_false]
  intro x hx
  obtain ⟨j, hj, e⟩ := List.getElem_of_mem hx
  have := h j x (by simpa [wordsL] using hj) (by rw [List.getElem?_eq_getElem hj, e])
  simpa using this
set_option maxHeartbeats 1000000 in
theorem word_any (s : ByteArray) (w : World) (hW : Strs w 2 wordsL) : Calls Tryd.prog 16 #[.string s] w (SameB w (wordB s.data.toList)) := by
  have HC := Lib.hid (hW.cells (cs := #[.string ⟨#[109, 111, 100, 117, 108, 101]⟩, .string ⟨#[119, 104, 101, 110]⟩, .string ⟨#[99, 97, 115, 101]⟩, .string ⟨#[111, 102]⟩, .string ⟨#[101, 110, 100]⟩, .string ⟨#[116, 114, 121]⟩, .string ⟨#[99, 97, 116, 99, 104]⟩, .string ⟨#[114, 101, 99, 101, 105, 118, 101]⟩, .string ⟨#[97, 102, 116, 101, 114]⟩, .string ⟨#[102, 117, 110]⟩, .string ⟨#[100, 105, 118]⟩, .string ⟨#[114, 101, 109]⟩, .string ⟨#[99, 111, 110, 102, 105, 103]⟩]) rfl)
  go_enter Tryd.func16, Tryd.ntmps16
  go_wp2_with (refine wpList_load_cells (o := ⟨some 5, _, _, _, _, _⟩) rfl 51 (.global 2) rfl 2 rfl #[.string ⟨#[109, 111, 100, 117, 108, 101]⟩, .string ⟨#[119, 104, 101, 110]⟩, .string ⟨#[99, 97, 115, 101]⟩, .string ⟨#[111, 102]⟩, .string ⟨#[101, 110, 100]⟩, .string ⟨#[116, 114, 121]⟩, .string ⟨#[99, 97, 116, 99, 104]⟩, .string ⟨#[114, 101, 99, 101, 105, 118, 101]⟩, .string ⟨#[97, 102, 116, 101, 114]⟩, .string ⟨#[102, 117, 110]⟩, .string ⟨#[100, 105, 118]⟩, .string ⟨#[114, 101, 109]⟩, .string ⟨#[99, 111, 110, 102, 105, 103]⟩] _ HC.out Tryd.underlying51 rfl (by kernel_rfl) ?_)
  go_loop [6] (fun iv => ∃ k : Nat, k ≤ 13 ∧ iv = .int .i64 k ∧ Hid (∀ j x, j < k → wordsL[j]? = some x → x ≠ s.data.toList)) (fun iv => 13 - (intOf iv).toNat)
  case atStart => exact ⟨0, by omega, rfl, Lib.hid (fun j x h => by omega)⟩
  case round =>
    obtain ⟨k, hk, rfl, HN⟩ := hrel
    by_cases hlt : k < 13
    · obtain ⟨x, hx⟩ : ∃ x, wordsL[k]? = some x := ⟨wordsL[k]'(by simpa [wordsL] using hlt), by simp⟩
      have hix := idx_words w k x hx
      by_cases h : s.data.toList = x
      · have HH := Lib.hid (wordB_hit hx h.symm)
        obtain rfl := str_of h
        clear h hx
        go_wp2_with fail
        go_ret
        exact ⟨by rw [HH.out]; rfl, rfl⟩
      · have hq2 : ¬ x = s.toList := fun e => h (by rw [e, ByteArray.toList_eq])
        have hq : (x == s.toList) = false := by rw [beq_eq_false_iff_ne]; exact hq2
        have HN2 : Hid (∀ j y, j < k + 1 → wordsL[j]? = some y → y ≠ s.data.toList) := Lib.hid (by
          intro j y hj hy
          rcases Nat.lt_or_ge j k with hj' | hj'
          · exact HN.out j y hj' hy
          · obtain rfl : j = k := by omega
            rw [hx] at hy
            cases hy
            exact fun e => h e.symm)
        clear h hx
        go_wp2_with fail
        refine ⟨⟨k + 1, by omega, by go_num, HN2⟩, ?_⟩
        simp [intOf]
        omega
    · have HH := Lib.hid (wordB_miss (l := s.data.toList) (fun j x hj hx => HN.out j x (by omega) hx))
      go_wp2_with fail
      go_ret
      exact ⟨by rw [HH.out]; rfl, rfl⟩
set_option maxHeartbeats 2000000 in
theorem rword_any (s : ByteArray) (w : World) : Calls Tryd.prog 21 #[.string s] w (SameB w (wordB s.data.toList)) := by
  by_cases h0 : s = ⟨#[109, 111, 100, 117, 108, 101]⟩
  · have HH := Lib.hid (show wordB s.data.toList = true by rw [h0]; decide)
    subst h0
    go_enter Tryd.func21, Tryd.ntmps21
    go_wp2_with fail
    go_ret
    exact ⟨by rw [HH.out]; rfl, rfl⟩
  have q0 := (str_ne_of (l := [109, 111, 100, 117, 108, 101]) h0).1
  by_cases h1 : s = ⟨#[119, 104, 101, 110]⟩
  · have HH := Lib.hid (show wordB s.data.toList = true by rw [h1]; decide)
    subst h1
    go_enter Tryd.func21, Tryd.ntmps21
    go_wp2_with fail
    go_ret
    exact ⟨by rw [HH.out]; rfl, rfl⟩
  have q1 := (str_ne_of (l := [119, 104, 101, 110]) h1).1
  by_cases h2 : s = ⟨#[99, 97, 115, 101]⟩
  · have HH := Lib.hid (show wordB s.data.toList = true by rw [h2]; decide)
    subst h2
    go_enter Tryd.func21, Tryd.ntmps21
    go_wp2_with fail
    go_ret
    exact ⟨by rw [HH.out]; rfl, rfl⟩
  have q2 := (str_ne_of (l := [99, 97, 115, 101]) h2).1
  by_cases h3 : s = ⟨#[111, 102]⟩
  · have HH := Lib.hid (show wordB s.data.toList = true by rw [h3]; decide)
    subst h3
    go_enter Tryd.func21, Tryd.ntmps21
    go_wp2_with fail
    go_ret
    exact ⟨by rw [HH.out]; rfl, rfl⟩
  have q3 := (str_ne_of (l := [111, 102]) h3).1
  by_cases h4 : s = ⟨#[101, 110, 100]⟩
  · have HH := Lib.hid (show wordB s.data.toList = true by rw [h4]; decide)
    subst h4
    go_enter Tryd.func21, Tryd.ntmps21
    go_wp2_with fail
    go_ret
    exact ⟨by rw [HH.out]; rfl, rfl⟩
  have q4 := (str_ne_of (l := [101, 110, 100]) h4).1
  by_cases h5 : s = ⟨#[116, 114, 121]⟩
  · have HH := Lib.hid (show wordB s.data.toList = true by rw [h5]; decide)
    subst h5
    go_enter Tryd.func21, Tryd.ntmps21
    go_wp2_with fail
    go_ret
    exact ⟨by rw [HH.out]; rfl, rfl⟩
  have q5 := (str_ne_of (l := [116, 114, 121]) h5).1
  by_cases h6 : s = ⟨#[99, 97, 116, 99, 104]⟩
  · have HH := Lib.hid (show wordB s.data.toList = true by rw [h6]; decide)
    subst h6
    go_enter Tryd.func21, Tryd.ntmps21
    go_wp2_with fail
    go_ret
    exact ⟨by rw [HH.out]; rfl, rfl⟩
  have q6 := (str_ne_of (l := [99, 97, 116, 99, 104]) h6).1
  by_cases h7 : s = ⟨#[114, 101, 99, 101, 105, 118, 101]⟩
  · have HH := Lib.hid (show wordB s.data.toList = true by rw [h7]; decide)
    subst h7
    go_enter Tryd.func21, Tryd.ntmps21
    go_wp2_with fail
    go_ret
    exact ⟨by rw [HH.out]; rfl, rfl⟩
  have q7 := (str_ne_of (l := [114, 101, 99, 101, 105, 118, 101]) h7).1
  by_cases h8 : s = ⟨#[97, 102, 116, 101, 114]⟩
  · have HH := Lib.hid (show wordB s.data.toList = true by rw [h8]; decide)
    subst h8
    go_enter Tryd.func21, Tryd.ntmps21
    go_wp2_with fail
    go_ret
    exact ⟨by rw [HH.out]; rfl, rfl⟩
  have q8 := (str_ne_of (l := [97, 102, 116, 101, 114]) h8).1
  by_cases h9 : s = ⟨#[102, 117, 110]⟩
  · have HH := Lib.hid (show wordB s.data.toList = true by rw [h9]; decide)
    subst h9
    go_enter Tryd.func21, Tryd.ntmps21
    go_wp2_with fail
    go_ret
    exact ⟨by rw [HH.out]; rfl, rfl⟩
  have q9 := (str_ne_of (l := [102, 117, 110]) h9).1
  by_cases h10 : s = ⟨#[100, 105, 118]⟩
  · have HH := Lib.hid (show wordB s.data.toList = true by rw [h10]; decide)
    subst h10
    go_enter Tryd.func21, Tryd.ntmps21
    go_wp2_with fail
    go_ret
    exact ⟨by rw [HH.out]; rfl, rfl⟩
  have q10 := (str_ne_of (l := [100, 105, 118]) h10).1
  by_cases h11 : s = ⟨#[114, 101, 109]⟩
  · have HH := Lib.hid (show wordB s.data.toList = true by rw [h11]; decide)
    subst h11
    go_enter Tryd.func21, Tryd.ntmps21
    go_wp2_with fail
    go_ret
    exact ⟨by rw [HH.out]; rfl, rfl⟩
  have q11 := (str_ne_of (l := [114, 101, 109]) h11).1
  by_cases h12 : s = ⟨#[99, 111, 110, 102, 105, 103]⟩
  · have HH := Lib.hid (show wordB s.data.toList = true by rw [h12]; decide)
    subst h12
    go_enter Tryd.func21, Tryd.ntmps21
    go_wp2_with fail
    go_ret
    exact ⟨by rw [HH.out]; rfl, rfl⟩
  have q12 := (str_ne_of (l := [99, 111, 110, 102, 105, 103]) h12).1
  have HH : Hid (wordB s.data.toList = false) := Lib.hid (wordB_miss (by
    intro j x hj hx e
    have hs := str_of e.symm
    match j, hj, hx with
    | 0, _, hx => cases hx; exact h0 hs
    | 1, _, hx => cases hx; exact h1 hs
    | 2, _, hx => cases hx; exact h2 hs
    | 3, _, hx => cases hx; exact h3 hs
    | 4, _, hx => cases hx; exact h4 hs
    | 5, _, hx => cases hx; exact h5 hs
    | 6, _, hx => cases hx; exact h6 hs
    | 7, _, hx => cases hx; exact h7 hs
    | 8, _, hx => cases hx; exact h8 hs
    | 9, _, hx => cases hx; exact h9 hs
    | 10, _, hx => cases hx; exact h10 hs
    | 11, _, hx => cases hx; exact h11 hs
    | 12, _, hx => cases hx; exact h12 hs
    ))
  clear h0 h1 h2 h3 h4 h5 h6 h7 h8 h9 h10 h11 h12
  go_enter Tryd.func21, Tryd.ntmps21
  go_wp2_with fail
  go_ret
  exact ⟨by rw [HH.out]; rfl, rfl⟩
theorem pref_take {m l : List UInt8} : m.isPrefixOf l = true ↔ l.take m.length = m := by
  rw [List.isPrefixOf_iff_prefix, List.prefix_iff_eq_take]
  exact eq_comm
theorem hasp_any (s t : ByteArray) (hs : s.size ≤ 1099511627776) (ht : t.size ≤ 1099511627776) (w : World) : Calls Tryd.prog 17 #[.string s, .string t] w (SameB w (t.data.toList.isPrefixOf s.data.toList)) := by
  have key : Calls Tryd.prog 26 #[.string s, .string t] w (SameB w (t.data.toList.isPrefixOf s.data.toList)) := by
    by_cases h : t.size ≤ s.size
    · by_cases h2 : s.extract 0 t.size = t
      · have HH : Hid (t.data.toList.isPrefixOf s.data.toList = true) := Lib.hid (pref_take.2 (by
          have := congrArg (fun b : ByteArray => b.data.toList) h2
          simpa using this))
        have hq : ((s.extract 0 t.size).toList == t.toList) = true := by rw [h2]; simp
        clear h2
        go_enter Tryd.func26, Tryd.ntmps26
        go_wp2_with fail
        go_ret
        exact ⟨by rw [HH.out]; rfl, rfl⟩
      · have HH : Hid (t.data.toList.isPrefixOf s.data.toList = false) := Lib.hid (by
          rw [← Bool.not_eq_true]
          intro hp
          apply h2
          have := pref_take.1 hp
          apply bytes_inj
          simpa using this)
        have hq : ((s.extract 0 t.size).toList == t.toList) = false := str_ne h2
        clear h2
        go_enter Tryd.func26, Tryd.ntmps26
        go_wp2_with fail
        go_ret
        exact ⟨by rw [HH.out]; rfl, rfl⟩
    · have HH : Hid (t.data.toList.isPrefixOf s.data.toList = false) := Lib.hid (by
        rw [← Bool.not_eq_true]
        intro hp
        have := congrArg List.length (pref_take.1 hp)
        simp at this
        omega)
      go_enter Tryd.func26, Tryd.ntmps26
      go_wp2_with fail
      go_ret
      exact ⟨by rw [HH.out]; rfl, rfl⟩
  have HK := Lib.hid key
  clear key
  generalize t.data.toList.isPrefixOf s.data.toList = b at *
  go_enter Tryd.func17, Tryd.ntmps17
  go_wp2_with fail
  refine HK.out.mono ?_
  rintro e w1 ⟨rfl, rfl⟩
  go_wp2_with fail
  go_ret
  exact ⟨rfl, rfl⟩
end Go.Proofs.YtnhhihmifbjkkaaDoor
