/- atoms: New, Text, Len, Put in one word; wakes. Conditions: the table of letters reads as laid; lengths fit. -/
import Derived.Test.YtaldnommgjnnkaaDoorAc
namespace Go.Proofs.YtaldnommgjnnkaaDoor
open Go.ChangeShapes Go.WideShapes Go.ChangeAt Go.RowKit
open Go.Maps (Keyed string_keyed)
set_option linter.unusedVariables false
def putN (most : Nat) (L : List ByteArray) (s : ByteArray) : Int := if mayS s = true then (if s ∈ L then (ix L s : Int) else if L.length = most then 0 else (L.length : Int)) else 0
def putE (most : Nat) (L : List ByteArray) (s : ByteArray) : Int := if mayS s = true then (if s ∈ L then 0 else if L.length = most then 20 else 0) else 2
def putL (most : Nat) (L : List ByteArray) (s : ByteArray) : List ByteArray := if mayS s = true then (if s ∈ L then L else if L.length = most then L else L ++ [s]) else L
def PutPost (w : World) (base p mb most : Nat) (rv : Value) (L : List ByteArray) (s : ByteArray) (x : Ending) (w' : World) : Prop :=
  ∃ rv', x = .returned (.tuple #[.int .i64 (putN most L s), .int .i64 (putE most L s)]) ∧ Tab w' base p mb rv' most (putL most L s) ∧ Chg (foot p mb rv) w w' ∧ (rv'.ownBlock = rv.ownBlock ∨ ∃ k, rv'.ownBlock = some k ∧ w.heap.size ≤ k)
theorem put_any (s : ByteArray) (hs : s.size ≤ 9223372036854775807) {base p mb most : Nat} {rv : Value} {L : List ByteArray} (w : World) (hw : Cells w 0 letL) (ht : Tab w base p mb rv most L) :
    Calls Tryd.prog 15 #[.pointer (some ⟨p, 0, none⟩), .string s] w (PutPost w base p mb most rv L s) := by
  have same : ∀ e w', Below w.heap.size w w' → putL most L s = L → e = .returned (.tuple #[.int .i64 (putN most L s), .int .i64 (putE most L s)]) → PutPost w base p mb most rv L s e w' := by
    intro e w' hb hl he
    refine ⟨rv, he, ?_, chg_of_below hb _, .inl rfl⟩
    rw [hl]
    exact ht.keep hb
  by_cases hm : mayS s = true
  · by_cases hL : s ∈ L
    · refine (put_found s hs w hw hm ht hL).mono ?_
      rintro e w' ⟨rfl, hb⟩
      exact same _ _ hb (by simp [putL, hm, hL]) (by simp [putN, putE, hm, hL])
    · by_cases hl : L.length = most
      · refine (put_full s hs w hw hm ht hL hl).mono ?_
        rintro e w' ⟨rfl, hb⟩
        exact same _ _ hb (by simp [putL, hm, hl]) (by simp [putN, putE, hm, hL, hl])
      · refine (put_new s hs w hw hm ht hL hl).mono ?_
        rintro e w' ⟨rv', rfl, h1, h2, h3⟩
        have e1 : putL most L s = L ++ [s] := by simp [putL, hm, hL, hl]
        have e2 : putN most L s = (L.length : Int) := by simp [putN, hm, hL, hl]
        have e3 : putE most L s = 0 := by simp [putE, hm, hL, hl]
        exact ⟨rv', by rw [e2, e3], by rw [e1]; exact h1, h2, h3⟩
  · have hm' : mayS s = false := by simpa using hm
    refine (put_no s hs p w hw hm').mono ?_
    rintro e w' ⟨rfl, hb⟩
    exact same _ _ hb (by simp [putL, hm]) (by simp [putN, putE, hm])
def NewPost (w : World) (most : Nat) (x : Ending) (w' : World) : Prop :=
  ∃ p mb, x = .returned (.tuple #[.pointer (some ⟨p, 0, none⟩), .int .i64 0]) ∧ Tab w' w.heap.size p mb (.slice none 0 0) most [] ∧ Below w.heap.size w w'
theorem new_ok (most : Nat) (h1 : 1 ≤ most) (h2 : most ≤ 65536) (w : World) (hw : 0 < w.heap.size) : Calls Tryd.prog 14 #[.int .i64 most] w (NewPost w most) := by
  have hmm := @run_makeMap Tryd.prog
  have d1 : decide ((most : Int) < 1) = false := by simp; omega
  have d2 : decide ((65536 : Int) < most) = false := by simp; omega
  go_enter Tryd.func14, Tryd.ntmps14
  go_wp2_with fail
  go_ret2
  have hA := (Below.refl w.heap.size w).alloc (Nat.le_refl _) (.map #[] 0)
  have hm := World.ownsMap_made (H := Unit) w Tryd.prog 9 (plainElem Tryd.prog 3)
  refine ⟨w.heap.size + 1, w.heap.size, rfl, ⟨hw, by omega, Nat.le_refl _, h2, by simp, by simp, by simp, ?_, ?_, World.ownsRow_nil _ _ _ _⟩, hA.alloc (by simp) _⟩
  · have := (MapKept.heap_alloc (w.alloc (.map #[] 0)) (.cells #[.int .i64 most, .map (some w.heap.size), .slice none 0 0] 56)).1
    simpa using this
  · exact map_chg hm (chg_alloc (fun _ => False) _ _) (fun h => h)
def AnyNew (w : World) (x : Ending) (w' : World) : Prop := x = .returned (.tuple #[.pointer none, .int .i64 2]) ∧ w = w'
theorem new_bad (most : Int) (h : most < 1 ∨ 65536 < most) (w : World) : Calls Tryd.prog 14 #[.int .i64 most] w (AnyNew w) := by
  by_cases h1 : most < 1
  · have d1 : decide (most < 1) = true := by simpa using h1
    go_enter Tryd.func14, Tryd.ntmps14
    go_wp2_with fail
    go_ret2
    exact ⟨rfl, rfl⟩
  · have d1 : decide (most < 1) = false := by simpa using h1
    have d2 : decide ((65536 : Int) < most) = true := by simp; omega
    go_enter Tryd.func14, Tryd.ntmps14
    go_wp2_with fail
    go_ret2
    exact ⟨rfl, rfl⟩
theorem tab_row {w : World} {base p mb most : Nat} {rv : Value} {L : List ByteArray} (h : Tab w base p mb rv most L) : SlV w rv (L.map Value.string) := by
  refine SlV_own h.2.2.2.2.2.2.2.2.2 (by simp)
def TextPost (w : World) (s : ByteArray) (n : Int) (x : Ending) (w' : World) : Prop := x = .returned (.tuple #[.string s, .int .i64 n]) ∧ w = w'
theorem text_ok {base p mb most : Nat} {rv : Value} {L : List ByteArray} (w : World) (ht : Tab w base p mb rv most L) (k : Nat) (s : ByteArray) (hk : L[k]? = some s) :
    Calls Tryd.prog 16 #[.pointer (some ⟨p, 0, none⟩), .int .i64 k] w (TextPost w s 0) := by
  have hr := tab_row ht
  obtain ⟨c0, c1, c2, c3, c4, ao, c, hrv, c5⟩ := ht.cells
  have hlt : k < L.length := (List.getElem?_eq_some_iff.1 hk).1
  subst hrv
  obtain ⟨b, off, rfl, hbs, hcell⟩ := hr.at (i := k) (u := .string s) (by simp [hk])
  have d1 : decide ((k : Int) < 0) = false := by simp
  have d2 : decide ((L.length : Int) ≤ (k : Int)) = false := by simp; omega
  clear c0 c1 c3 ht hr hk
  go_enter Tryd.func16, Tryd.ntmps16
  go_wp2_with fail
  go_ret2
  exact ⟨rfl, rfl⟩
theorem text_no {base p mb most : Nat} {rv : Value} {L : List ByteArray} (w : World) (ht : Tab w base p mb rv most L) (n : Int) (hn : n < 0 ∨ (L.length : Int) ≤ n) :
    Calls Tryd.prog 16 #[.pointer (some ⟨p, 0, none⟩), .int .i64 n] w (TextPost w ⟨#[]⟩ 4) := by
  obtain ⟨c0, c1, c2, c3, c4, ao, c, hrv, c5⟩ := ht.cells
  subst hrv
  clear c0 c1 c3 ht
  by_cases h1 : n < 0
  · have d1 : decide (n < 0) = true := by simpa using h1
    go_enter Tryd.func16, Tryd.ntmps16
    go_wp2_with fail
    go_ret2
    exact ⟨rfl, rfl⟩
  · have d1 : decide (n < 0) = false := by simpa using h1
    have d2 : decide ((L.length : Int) ≤ n) = true := by simp; omega
    go_enter Tryd.func16, Tryd.ntmps16
    go_wp2_with fail
    go_ret2
    exact ⟨rfl, rfl⟩
def LenPost (w : World) (n : Nat) (x : Ending) (w' : World) : Prop := x = .returned (.int .i64 n) ∧ w = w'
theorem len_any {base p mb most : Nat} {rv : Value} {L : List ByteArray} (w : World) (ht : Tab w base p mb rv most L) : Calls Tryd.prog 17 #[.pointer (some ⟨p, 0, none⟩)] w (LenPost w L.length) := by
  obtain ⟨c0, c1, c2, c3, c4, ao, c, hrv, c5⟩ := ht.cells
  subst hrv
  clear c0 c1 c3 ht
  go_enter Tryd.func17, Tryd.ntmps17
  go_wp2_with fail
  go_ret
  exact ⟨rfl, rfl⟩
def sA : ByteArray := ⟨#[97]⟩
def sB : ByteArray := ⟨#[98]⟩
def WB (w0 w : World) : Prop := Cells w 0 letL ∧ Below w0.heap.size w0 w
theorem tab_below {w w' : World} {base p mb most : Nat} {rv : Value} {L : List ByteArray} (h : Tab w base p mb rv most L) (hb : base ≤ w.heap.size) (hc : Chg (foot p mb rv) w w') : Below base w w' :=
  hc.below hb (by
    rintro k (rfl | rfl | hk)
    · exact h.2.1
    · exact h.2.2.1
    · exact own_base h.2.2.2.2.2.2.2.2.2 k hk)
set_option maxHeartbeats 1000000 in
theorem wakes_any (w : World) (hw : Cells w 0 letL) : Calls Tryd.prog 13 #[] w (IsPost w true) := by
  have h0 : 0 < w.heap.size := World.block_lt_of_cell? w _ (hw 0 _ rfl).1
  have k0 : ∀ W, Below w.heap.size w W → Cells W 0 letL := fun W hb => keepCells hw hb
  have HW := Lib.hid hw
  have HK := Lib.hid k0
  clear hw k0
  go_enter Tryd.func13, Tryd.ntmps13
  go_wp2_with fail
  refine (new_ok 9 (by decide) (by decide) w h0).mono ?_
  rintro e w1 ⟨p, mb, rfl, ht1, hb1⟩
  go_wp2_with fail
  refine (put_any sA (by decide) w1 (HK.out _ hb1) ht1).mono ?_
  rintro e w2 ⟨rv2, he2, ht2, hc2, _⟩
  have hb2 := hb1.trans (tab_below ht1 hb1.size hc2)
  have n2 : putN 9 [] sA = 0 := by decide +kernel
  have e2 : putE 9 [] sA = 0 := by decide +kernel
  have l2 : putL 9 [] sA = [sA] := by decide +kernel
  rw [n2, e2] at he2
  subst he2
  rw [l2] at ht2
  clear n2 e2 l2 ht1 hc2 hb1
  go_wp2_with fail
  refine (put_any sB (by decide) w2 (HK.out _ hb2) ht2).mono ?_
  rintro e w3 ⟨rv3, he3, ht3, hc3, _⟩
  have hb3 := hb2.trans (tab_below ht2 hb2.size hc3)
  have n2 : putN 9 [sA] sB = 1 := by decide +kernel
  have e2 : putE 9 [sA] sB = 0 := by decide +kernel
  have l2 : putL 9 [sA] sB = [sA, sB] := by decide +kernel
  rw [n2, e2] at he3
  subst he3
  rw [l2] at ht3
  clear n2 e2 l2 ht2 hc3 hb2
  go_wp2_with fail
  refine (put_any sA (by decide) w3 (HK.out _ hb3) ht3).mono ?_
  rintro e w4 ⟨rv4, he4, ht4, hc4, _⟩
  have hb4 := hb3.trans (tab_below ht3 hb3.size hc4)
  have n2 : putN 9 [sA, sB] sA = 0 := by decide +kernel
  have e2 : putE 9 [sA, sB] sA = 0 := by decide +kernel
  rw [n2, e2] at he4
  subst he4
  clear n2 e2 ht3 hc4 hb3 ht4
  go_wp2_with fail
  have m1 : mayS ⟨#[97, 95, 66, 49]⟩ = true := by decide +kernel
  refine (may7 _ (by decide) w4 (HK.out _ hb4)).mono ?_
  rw [m1]
  rintro e w5 ⟨rfl, hb⟩
  have hb5 := hb4.trans (hb.mono hb4.size)
  clear m1 hb hb4
  go_wp2_with fail
  have m1 : mayS ⟨#[66]⟩ = false := by decide +kernel
  refine (may7 _ (by decide) w5 (HK.out _ hb5)).mono ?_
  rw [m1]
  rintro e w6 ⟨rfl, hb⟩
  have hb6 := hb5.trans (hb.mono hb5.size)
  clear m1 hb hb5
  go_wp2_with fail
  have m1 : mayS ⟨#[]⟩ = false := by decide +kernel
  refine (may7 _ (by decide) w6 (HK.out _ hb6)).mono ?_
  rw [m1]
  rintro e w7 ⟨rfl, hb⟩
  have hb7 := hb6.trans (hb.mono hb6.size)
  clear m1 hb hb6
  go_wp2_with fail
  have m1 : nameS ⟨#[95]⟩ = true := by decide +kernel
  refine (name9 _ (by decide) w7 (HK.out _ hb7)).mono ?_
  rw [m1]
  rintro e w8 ⟨rfl, hb⟩
  have hb8 := hb7.trans (hb.mono hb7.size)
  clear m1 hb hb7
  go_wp2_with fail
  go_ret
  exact ⟨rfl, hb8⟩
end Go.Proofs.YtaldnommgjnnkaaDoor
