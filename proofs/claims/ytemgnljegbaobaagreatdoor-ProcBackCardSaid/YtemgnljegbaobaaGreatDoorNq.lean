/- slices.BinarySearchFunc at int; row.find. Conditions: the row reads, at most 1000 things. -/
import Derived.Test.YtemgnljegbaobaaGreatDoorNp
namespace Go.Proofs.YtemgnljegbaobaaGreatDoor
open Go.ChangeShapes Go.WideShapes Go.ChangeAt Go.RowKit
set_option linter.unusedVariables false
set_option linter.unusedSimpArgs false
set_option maxRecDepth 100000
def cmpI (a b : Int) : Int := if a < b then -1 else if b < a then 1 else 0
theorem nani_any (w : World) (a : Int) : Calls Tryz.prog 78 #[.int .i64 a] w (SameB w false) := by
  go_enter Tryz.func78, Tryz.ntmps78
  go_wp2_with fail
  go_ret
  exact ⟨by simp, rfl⟩
def IntSame (w : World) (n : Int) (e : Ending) (w' : World) : Prop := e = .returned (.int .i64 n) ∧ w = w'
theorem cmpi_any (w : World) (a b : Int) : Calls Tryz.prog 51 #[.int .i64 a, .int .i64 b] w (IntSame w (cmpI a b)) := by
  unfold cmpI
  by_cases h1 : a < b
  · have d1 : decide (a < b) = true := decide_eq_true h1
    rw [if_pos h1]
    clear h1
    go_enter Tryz.func51, Tryz.ntmps51
    go_wp2_with fail
    refine (nani_any w a).mono ?_
    rintro e w' ⟨rfl, rfl⟩
    go_wp2_with fail
    refine (nani_any _ b).mono ?_
    rintro e w' ⟨rfl, rfl⟩
    go_wp2_with fail
    go_ret
    exact ⟨rfl, rfl⟩
  · have d1 : decide (a < b) = false := decide_eq_false h1
    rw [if_neg h1]
    by_cases h2 : b < a
    · have d2 : decide (b < a) = true := decide_eq_true h2
      rw [if_pos h2]
      clear h1 h2
      go_enter Tryz.func51, Tryz.ntmps51
      go_wp2_with fail
      refine (nani_any w a).mono ?_
      rintro e w' ⟨rfl, rfl⟩
      go_wp2_with fail
      refine (nani_any _ b).mono ?_
      rintro e w' ⟨rfl, rfl⟩
      go_wp2_with fail
      go_ret
      exact ⟨rfl, rfl⟩
    · have d2 : decide (b < a) = false := decide_eq_false h2
      rw [if_neg h2]
      clear h1 h2
      go_enter Tryz.func51, Tryz.ntmps51
      go_wp2_with fail
      refine (nani_any w a).mono ?_
      rintro e w' ⟨rfl, rfl⟩
      go_wp2_with fail
      refine (nani_any _ b).mono ?_
      rintro e w' ⟨rfl, rfl⟩
      go_wp2_with fail
      go_ret
      exact ⟨rfl, rfl⟩
theorem cmpI_neg (a b : Int) : decide (cmpI a b < 0) = decide (a < b) := by
  unfold cmpI
  by_cases h : a < b
  · simp [h]
  · by_cases h2 : b < a <;> simp [h, h2]
theorem cmpI_zero (a b : Int) : (cmpI a b == 0) = decide (a = b) := by
  unfold cmpI
  by_cases h : a < b
  · have : a ≠ b := by omega
    simp [h, this]
  · by_cases h2 : b < a
    · have : a ≠ b := by omega
      simp [h, h2, this]
    · have : a = b := by omega
      simp [h, h2, this]
theorem find1_any (w : World) (rb : Nat) (x k : Int) (h : w.cell? ⟨rb, 1, none⟩ = some (.func (.func 48) #[] #[])) : Calls Tryz.prog 50 #[.int .i64 x, .int .i64 k, .pointer (some ⟨rb, 0, none⟩)] w (IntPost w (cmpI x k)) := by
  go_enter Tryz.func50, Tryz.ntmps50
  go_wp2_with fail
  refine (keyI_any w x).mono ?_
  rintro e w2 ⟨rfl, hb2⟩
  have HB := Lib.hid hb2
  clear hb2 h
  go_wp2_with fail
  refine (cmpi_any w2 x k).mono ?_
  rintro e w' ⟨rfl, rfl⟩
  go_wp2_with fail
  go_ret
  exact ⟨rfl, HB.out⟩
/-- does a row rise? -/
def Rises (ps : List Int) : Prop := ∀ (i j : Nat) (x y : Int), i < j → ps[i]? = some x → ps[j]? = some y → x < y
/-- what a search in halves tells: of a row that rises, whether it holds k -/
def BsP (ps : List Int) (k : Int) (w : World) (e : Ending) (w' : World) : Prop := ∃ (i : Int) (b : Bool), e = .returned (.tuple #[.int .i64 i, .bool b]) ∧ Below w.heap.size w w' ∧ (Rises ps → (b = true ↔ k ∈ ps))
set_option maxHeartbeats 8000000 in
theorem bs_any (w : World) (v : Value) (ps : List Int) (k : Int) (rb : Nat) (h : Rw w v ps.length 1 (iv ps)) (hn : ps.length ≤ 1000) (hk : w.cell? ⟨rb, 1, none⟩ = some (.func (.func 48) #[] #[])) :
    Calls Tryz.prog 49 #[v, .int .i64 k, .func (.func 50) #[] #[.pointer (some ⟨rb, 0, none⟩)]] w (BsP ps k w) := by
  obtain ⟨ao, c, rfl, hc1, hc2⟩ := h.slice
  have HR := Lib.hid h
  have HK := Lib.hid hk
  clear h hk
  go_enter Tryz.func49, Tryz.ntmps49
  go_wp2_with fail
  go_loopw [9, 10] (fun iw jw wr => ∃ i j : Nat, i ≤ j ∧ j ≤ ps.length ∧ iw = .int .i64 i ∧ jw = .int .i64 j ∧ Hid (Below w.heap.size w wr) ∧ Hid (Rises ps → (∀ a x, a < i → ps[a]? = some x → x < k) ∧ (∀ a x, j ≤ a → ps[a]? = some x → k ≤ x))) (fun iw jw _ => (intOf jw).toNat - (intOf iw).toNat)
  case atStart => exact ⟨0, ps.length, Nat.zero_le _, Nat.le_refl _, rfl, rfl, Lib.hid (Below.refl _ _), Lib.hid fun _ => ⟨fun a x h => absurd h (Nat.not_lt_zero _), fun a x h hx => by have := (List.getElem?_eq_some_iff.1 hx).1; omega⟩⟩
  case round =>
    obtain ⟨i, j, hij, hj, rfl, rfl, HI, HS⟩ := hrel
    by_cases hlt : i < j
    · have hd : decide ((i : Int) < (j : Int)) = true := decide_eq_true (by omega)
      have f1 : IntKind.i64.wrap ((i : Int) + (j : Int)) = (i : Int) + (j : Int) := by rw [IntKind.wrap_i64]; omega
      obtain ⟨-, b, off, rfl, hcell⟩ := (HR.out.keep HI.out).at (by omega)
      have hm : (i + j) / 2 < ps.length := by omega
      obtain ⟨x, hx⟩ : ∃ x, ps[(i + j) / 2]? = some x := ⟨ps[(i + j) / 2], List.getElem?_eq_getElem hm⟩
      have hc := hcell _ _ (iv_at hx)
      have HX := Lib.hid hx
      have HF1 := Lib.hid (find1_any wr rb x k (keep_cell HK.out HI.out))
      have hE := cmpI_neg x k
      clear hcell hx
      go_wp2_with fail
      refine HF1.out.mono ?_
      rintro e w2 ⟨rfl, hb2⟩
      have HI2 := Lib.hid (HI.out.trans (hb2.mono HI.out.size))
      clear hb2 hc HF1
      generalize cmpI x k = cx at *
      by_cases hxk : x < k
      · rw [decide_eq_true hxk] at hE
        have HS2 : Hid (Rises ps → (∀ a x, a < (i + j) / 2 + 1 → ps[a]? = some x → x < k) ∧ (∀ a x, j ≤ a → ps[a]? = some x → k ≤ x)) := Lib.hid fun hr => by
          refine ⟨fun a y ha hy => ?_, (HS.out hr).2⟩
          rcases Nat.lt_or_ge a ((i + j) / 2) with h | h
          · exact Int.lt_trans (hr a _ y x h hy HX.out) hxk
          · obtain rfl : a = (i + j) / 2 := by omega
            obtain rfl := Option.some.inj (HX.out.symm.trans hy)
            exact hxk
        have f2 : IntKind.i64.wrap (((i : Int) + (j : Int)) / 2 + 1) = ((i : Int) + (j : Int)) / 2 + 1 := by rw [IntKind.wrap_i64]; omega
        clear hxk
        go_wp2_with fail
        go_roundw
        case rel => exact ⟨(i + j) / 2 + 1, j, by omega, hj, by congr 1, rfl, HI2, HS2⟩
        case measure =>
          simp [intOf]
          omega
      · rw [decide_eq_false hxk] at hE
        have HS2 : Hid (Rises ps → (∀ a x, a < i → ps[a]? = some x → x < k) ∧ (∀ a x, (i + j) / 2 ≤ a → ps[a]? = some x → k ≤ x)) := Lib.hid fun hr => by
          refine ⟨(HS.out hr).1, fun a y ha hy => ?_⟩
          rcases Nat.lt_or_ge ((i + j) / 2) a with h | h
          · have := hr _ a x y h HX.out hy
            omega
          · obtain rfl : a = (i + j) / 2 := by omega
            obtain rfl := Option.some.inj (HX.out.symm.trans hy)
            omega
        clear hxk
        go_wp2_with fail
        go_roundw
        case rel => exact ⟨i, (i + j) / 2, by omega, by omega, rfl, by congr 1, HI2, HS2⟩
        case measure =>
          simp [intOf]
          omega
    · obtain rfl : i = j := by omega
      have hd : decide ((i : Int) < (i : Int)) = false := by simp
      by_cases hin : i < ps.length
      · have hd2 : decide ((i : Int) < (ps.length : Int)) = true := decide_eq_true (by omega)
        obtain ⟨-, b, off, rfl, hcell⟩ := (HR.out.keep HI.out).at (by omega)
        obtain ⟨x, hx⟩ : ∃ x, ps[i]? = some x := ⟨ps[i], List.getElem?_eq_getElem hin⟩
        have hc := hcell _ _ (iv_at hx)
        have HX := Lib.hid hx
        have HF1 := Lib.hid (find1_any wr rb x k (keep_cell HK.out HI.out))
        have hE := cmpI_zero x k
        clear hcell hx
        go_wp2_with fail
        refine HF1.out.mono ?_
        rintro e w2 ⟨rfl, hb2⟩
        have HI2 := Lib.hid (HI.out.trans (hb2.mono HI.out.size))
        have HE := Lib.hid hE
        clear hb2 hc HF1 hE
        generalize cmpI x k = cx at *
        go_wp2_with fail
        go_ret2
        refine ⟨i, _, rfl, HI2.out, fun hr => ?_⟩
        show (cx == 0) = true ↔ k ∈ ps
        rw [HE.out, decide_eq_true_eq]
        constructor
        · rintro rfl
          exact List.mem_of_getElem? HX.out
        · intro hmem
          obtain ⟨a, ha⟩ := List.getElem?_of_mem hmem
          rcases Nat.lt_trichotomy a i with h | h | h
          · have := (HS.out hr).1 a k h ha
            omega
          · subst h
            exact Option.some.inj (HX.out.symm.trans ha)
          · have h1 := hr i a x k h HX.out ha
            have h2 := (HS.out hr).2 i x (Nat.le_refl _) HX.out
            omega
      · have hd2 : decide ((i : Int) < (ps.length : Int)) = false := decide_eq_false (by omega)
        go_wp2_with fail
        go_ret2
        refine ⟨i, _, rfl, HI.out, fun hr => ⟨(fun h => by cases h), fun hmem => ?_⟩⟩
        obtain ⟨a, ha⟩ := List.getElem?_of_mem hmem
        have hal := (List.getElem?_eq_some_iff.1 ha).1
        have := (HS.out hr).1 a k (by omega) ha
        omega
set_option maxHeartbeats 4000000 in
theorem find_any (w : World) (v : Value) (ps : List Int) (k : Int) (h : Rw w v ps.length 1 (iv ps)) (hn : ps.length ≤ 1000) :
    Calls Tryz.prog 21 #[.agg #[v, .func (.func 48) #[] #[]], .int .i64 k] w (BsP ps k w) := by
  obtain ⟨ao, c, rfl, hc1, hc2⟩ := h.slice
  have hb := (Below.refl w.heap.size w).alloc (Nat.le_refl _) (.cells #[.slice ao ps.length c, .func (.func 48) #[] #[]] 72)
  have hx := heap_new w (.cells #[.slice ao ps.length c, .func (.func 48) #[] #[]] 72)
  have HB := Lib.hid hb
  obtain ⟨c0, -⟩ := cells_at hx 0 _ rfl
  have HI := Lib.hid (bs_any _ (.slice ao ps.length c) ps k w.heap.size (h.keep hb) hn (cells_at hx 1 _ rfl).1)
  clear h hb hx
  go_enter Tryz.func21, Tryz.ntmps21
  go_wp2_with fail
  refine HI.out.mono ?_
  rintro e w2 ⟨i, b, rfl, hb2, hr⟩
  have HB2 := Lib.hid (And.intro (HB.out.trans (hb2.mono HB.out.size)) hr)
  clear hb2 hr HI c0
  go_wp2_with fail
  go_ret2
  exact ⟨i, b, rfl, HB2.out.1, HB2.out.2⟩
theorem risesL_spec : ∀ (ps : List Int) (last : Int), risesL last ps = true ↔ (∀ x ∈ ps, last < x) ∧ Rises ps
  | [], last => by simp [risesL, Rises]
  | x :: l, last => by
    rw [risesL]
    by_cases h : x ≤ last
    · rw [if_pos h]
      constructor
      · intro h; cases h
      · intro h2
        have := h2.1 x List.mem_cons_self
        omega
    · rw [if_neg h, risesL_spec l x]
      constructor
      · rintro ⟨h1, h2⟩
        refine ⟨fun y hy => ?_, fun i j y z hij hy hz => ?_⟩
        · rcases List.mem_cons.1 hy with rfl | hy
          · omega
          · have := h1 y hy
            omega
        · cases j with
          | zero => omega
          | succ j =>
            cases i with
            | zero =>
              simp at hy hz
              subst hy
              exact h1 z (List.mem_of_getElem? hz)
            | succ i => exact h2 i j y z (by omega) (by simpa using hy) (by simpa using hz)
      · rintro ⟨h1, h2⟩
        refine ⟨fun y hy => ?_, fun i j y z hij hy hz => h2 (i + 1) (j + 1) y z (by omega) (by simpa using hy) (by simpa using hz)⟩
        obtain ⟨i, hi⟩ := List.getElem?_of_mem hy
        exact h2 0 (i + 1) x y (by omega) rfl (by simpa using hi)
end Go.Proofs.YtemgnljegbaobaaGreatDoor
