/- the reference's Text at tuples of tuples of 1. Conditions: the term reads. -/
import Derived.Test.YtfbmjcblnemkgaaDoorGs
namespace Go.Proofs.YtfbmjcblnemkgaaDoor
open Go.ChangeShapes Go.WideShapes Go.ChangeAt Go.RowKit
set_option linter.unusedVariables false
set_option maxRecDepth 100000
def StrPost (w : World) (s : ByteArray) (e : Ending) (w' : World) : Prop := e = .returned (.string s) ∧ Below w.heap.size w w'
theorem small_one (w : World) : Calls Tryd.prog 55 #[.int .i64 1] w fun e w' => e = .returned (.string ⟨#[49]⟩) ∧ w' = w := by
  go_enter Tryd.func55, Tryd.ntmps55
  go_wp2_with fail
  go_ret
  exact ⟨rfl, rfl⟩
theorem fint_one (w : World) : Calls Tryd.prog 52 #[.int .i64 1, .int .i64 10] w fun e w' => e = .returned (.string ⟨#[49]⟩) ∧ w' = w := by
  have h := small_one w
  go_enter Tryd.func52, Tryd.ntmps52
  go_wp2_with fail
  refine h.mono ?_
  rintro e w' ⟨rfl, rfl⟩
  go_wp2_with fail
  go_ret
  exact ⟨rfl, rfl⟩
theorem itoa_one (w : World) : Calls Tryd.prog 39 #[.int .i64 1] w fun e w' => e = .returned (.string ⟨#[49]⟩) ∧ w' = w := by
  have h : Calls Tryd.prog 47 #[.int .i64 1] w fun e w' => e = .returned (.string ⟨#[49]⟩) ∧ w' = w := by
    have h := fint_one w
    go_enter Tryd.func47, Tryd.ntmps47
    go_wp2_with fail
    refine h.mono ?_
    rintro e w' ⟨rfl, rfl⟩
    go_wp2_with fail
    go_ret
    exact ⟨rfl, rfl⟩
  go_enter Tryd.func39, Tryd.ntmps39
  go_wp2_with fail
  refine h.mono ?_
  rintro e w' ⟨rfl, rfl⟩
  go_wp2_with fail
  go_ret
  exact ⟨rfl, rfl⟩
theorem text_one (f : Nat) (v : Value) (w : World) (hv : TermV f w v (.mk 0 1 ⟨#[]⟩ ⟨#[]⟩ [])) : Calls Tryd.prog 35 #[v] w (StrPost w ⟨#[49]⟩) := by
  obtain ⟨k, n, s, u, l, ao, cap, e, rfl, hf, hl, hcap, hrow⟩ := hv.mk'
  injection e with e1 e2 e3 e4 e5
  subst e1 e2 e3 e4 e5
  have hB := (Below.refl w.heap.size w).alloc (Nat.le_refl _) (.cells #[.int .i8 0, .int .i64 1, .string ⟨#[]⟩, .string ⟨#[]⟩, .slice ao ([] : List Tm).length cap] 31)
  have hn := heap_new w (.cells #[.int .i8 0, .int .i64 1, .string ⟨#[]⟩, .string ⟨#[]⟩, .slice ao ([] : List Tm).length cap] 31)
  obtain ⟨x0, -⟩ := cells_at hn 0 _ rfl
  obtain ⟨x1, -⟩ := cells_at hn 1 _ rfl
  have HI := Lib.hid (itoa_one (w.alloc (.cells #[.int .i8 0, .int .i64 1, .string ⟨#[]⟩, .string ⟨#[]⟩, .slice ao ([] : List Tm).length cap] 31)))
  clear hv hrow hn
  go_enter Tryd.func35, Tryd.ntmps35
  go_wp2_with fail
  refine HI.out.mono ?_
  rintro e w' ⟨rfl, rfl⟩
  go_wp2_with fail
  go_ret
  exact ⟨rfl, hB⟩
/-- texts with commas between -/
def rowF (tx : Tm → ByteArray) : List Tm → Nat → ByteArray → ByteArray
  | [], _, s => s
  | t :: l, i, s => rowF tx l (i + 1) ((if 0 < i then s ++ ⟨#[44]⟩ else s) ++ tx t)
theorem row_any (f : Nat) (tx : Tm → ByteArray) (l : List Tm) (ao : Option Addr) (cap : Nat) (w : World) (hr : Row (f + 1) w (.slice ao l.length cap) l) (hl : l.length ≤ 255) (htx : ∀ t ∈ l, (tx t).size ≤ 1000) (h : ∀ t ∈ l, ∀ v w, TermV f w v t → Calls Tryd.prog 35 #[v] w (StrPost w (tx t))) : Calls Tryd.prog 40 #[.slice ao l.length cap] w (StrPost w (rowF tx l 0 ⟨#[]⟩)) := by
  have HR := Lib.hid hr
  have H := Lib.hid h
  have HTX := Lib.hid htx
  have HE0 : Hid (rowF tx l 0 ⟨#[]⟩ = rowF tx l 0 ⟨#[]⟩) := Lib.hid rfl
  clear hr h htx
  generalize hres : rowF tx l 0 ⟨#[]⟩ = res at *
  have HRES := Lib.hid hres
  clear hres HE0
  go_enter Tryd.func40, Tryd.ntmps40
  go_wp2_with fail
  go_loopw [3, 4] (fun sv iv wr => ∃ (i : Nat) (s : ByteArray), i ≤ l.length ∧ iv = .int .i64 i ∧ sv = .string s ∧ s.size ≤ 1001 * i ∧ Hid (Below w.heap.size w wr ∧ rowF tx (l.drop i) i s = res))
    (fun _ iv _ => l.length - (intOf iv).toNat)
  case atStart => exact ⟨0, _, by omega, rfl, rfl, Nat.zero_le _, Lib.hid ⟨Below.refl _ _, HRES.out⟩⟩
  case round =>
    obtain ⟨i, s, hi, rfl, rfl, hss, HI⟩ := hrel
    by_cases hlt : i < l.length
    · obtain ⟨t, ht⟩ : ∃ t, l[i]? = some t := ⟨l[i], by simp [hlt]⟩
      obtain ⟨b', off, f', lv, rfl, hf', hnode, htv⟩ := (HR.out.keep HI.out.1).elem ht
      obtain rfl : f' = f := by omega
      have HC := Lib.hid (H.out t (List.mem_of_getElem? ht) _ _ htv)
      have HD := Lib.hid (drop_cons ht)
      obtain ⟨c0, c1, c2, c3, c4⟩ := hnode
      have hts := HTX.out t (List.mem_of_getElem? ht)
      have hq1 : ¬ 9223372036854775807 < s.size + 1 := by omega
      have hq2 : ¬ 9223372036854775807 < s.size + 1 + (tx t).size := by omega
      have hq3 : ¬ 9223372036854775807 < s.size + (tx t).size := by omega
      have hq4 : s.size + 1 + (tx t).size ≤ 1001 * (i + 1) := by omega
      clear htv ht
      by_cases h0 : 0 < i
      · have hd : decide (0 < i) = true := by simpa using h0
        go_wp2_with fail
        refine HC.out.mono ?_
        rintro e w2 ⟨rfl, hb2⟩
        have HF : Hid (Below w.heap.size w w2 ∧ rowF tx (l.drop (i + 1)) (i + 1) ((s ++ ⟨#[44]⟩) ++ tx t) = res) := Lib.hid ⟨HI.out.1.trans (hb2.mono HI.out.1.size), by
          have := HI.out.2
          rw [HD.out, rowF, if_pos h0] at this
          exact this⟩
        clear hb2 c0 c1 c2 c3 c4
        go_wp2_with fail
        go_roundw
        case rel => exact ⟨i + 1, _, by omega, by go_num, rfl, by simp only [ByteArray.size_append', ByteArray.size_mk', List.size_toArray, List.length_cons, List.length_nil]; omega, HF⟩
        case measure => simp [intOf]; omega
      · obtain rfl : i = 0 := by omega
        simp only [Nat.zero_mul, Nat.add_zero] at c0 c1 c2 c3 c4
        go_wp2_with fail
        refine HC.out.mono ?_
        rintro e w2 ⟨rfl, hb2⟩
        have HF : Hid (Below w.heap.size w w2 ∧ rowF tx (l.drop (0 + 1)) (0 + 1) (s ++ tx t) = res) := Lib.hid ⟨HI.out.1.trans (hb2.mono HI.out.1.size), by
          have := HI.out.2
          rw [HD.out, rowF, if_neg h0] at this
          exact this⟩
        clear hb2 c0 c1 c2 c3 c4
        go_wp2_with fail
        go_roundw
        case rel => exact ⟨1, _, by omega, by go_num, rfl, by simp only [ByteArray.size_append', ByteArray.size_mk', List.size_toArray, List.length_cons, List.length_nil]; omega, HF⟩
        case measure => simp [intOf]; omega
    · have hil : i = l.length := by omega
      have HF : Hid (s = res) := Lib.hid (by have := HI.out.2; rw [hil, List.drop_length, rowF] at this; exact this)
      go_wp2_with fail
      go_ret
      exact ⟨by rw [HF.out]; rfl, HI.out.1⟩
theorem text_tuple (f : Nat) (tx : Tm → ByteArray) (l : List Tm) (v : Value) (w : World) (hv : TermV (f + 1) w v (.mk 5 0 ⟨#[]⟩ ⟨#[]⟩ l)) (hl : l.length ≤ 255) (htx : ∀ t ∈ l, (tx t).size ≤ 1000) (hs : (rowF tx l 0 ⟨#[]⟩).size ≤ 1000000) (h : ∀ t ∈ l, ∀ v w, TermV f w v t → Calls Tryd.prog 35 #[v] w (StrPost w (tx t))) : Calls Tryd.prog 35 #[v] w (StrPost w (⟨#[123]⟩ ++ rowF tx l 0 ⟨#[]⟩ ++ ⟨#[125]⟩)) := by
  obtain ⟨k, n, s, u, l, ao, cap, e, rfl, hf, hlc, hcap, hrow⟩ := hv.mk'
  injection e with e1 e2 e3 e4 e5
  subst e1 e2 e3 e4 e5
  have hB := (Below.refl w.heap.size w).alloc (Nat.le_refl _) (.cells #[.int .i8 5, .int .i64 0, .string ⟨#[]⟩, .string ⟨#[]⟩, .slice ao l.length cap] 31)
  have hn := heap_new w (.cells #[.int .i8 5, .int .i64 0, .string ⟨#[]⟩, .string ⟨#[]⟩, .slice ao l.length cap] 31)
  obtain ⟨x0, -⟩ := cells_at hn 0 _ rfl
  obtain ⟨x4, -⟩ := cells_at hn 4 _ rfl
  have HI := Lib.hid (row_any f tx l ao cap (w.alloc (.cells #[.int .i8 5, .int .i64 0, .string ⟨#[]⟩, .string ⟨#[]⟩, .slice ao l.length cap] 31)) (hrow.keep hB) hl htx h)
  have hq1 : ¬ 9223372036854775807 < 1 + (rowF tx l 0 ⟨#[]⟩).size := by omega
  have hq2 : ¬ 9223372036854775807 < 1 + (rowF tx l 0 ⟨#[]⟩).size + 1 := by omega
  clear hv hrow hn h htx
  generalize rowF tx l 0 ⟨#[]⟩ = rs at *
  go_enter Tryd.func35, Tryd.ntmps35
  go_wp2_with fail
  refine HI.out.mono ?_
  rintro e w' ⟨rfl, hb⟩
  go_wp2_with fail
  go_ret
  exact ⟨rfl, hB.trans (hb.mono hB.size)⟩
abbrev tm1 : Tm := .mk 0 1 ⟨#[]⟩ ⟨#[]⟩ []
abbrev tmT : Tm := .mk 5 0 ⟨#[]⟩ ⟨#[]⟩ [.mk 5 0 ⟨#[]⟩ ⟨#[]⟩ [tm1], .mk 5 0 ⟨#[]⟩ ⟨#[]⟩ [tm1]]
theorem text_two (f : Nat) (v : Value) (w : World) (hv : TermV (f + 2) w v tmT) : Calls Tryd.prog 35 #[v] w (StrPost w ⟨#[123, 123, 49, 125, 44, 123, 49, 125, 125]⟩) := by
  have h2 : ∀ v w, TermV (f + 1) w v (.mk 5 0 ⟨#[]⟩ ⟨#[]⟩ [tm1]) → Calls Tryd.prog 35 #[v] w (StrPost w ⟨#[123, 49, 125]⟩) := fun v w hv =>
    text_tuple f (fun _ => ⟨#[49]⟩) [tm1] v w hv (by simp) (fun _ _ => by decide) (by decide +kernel) (fun t ht v w hv => by obtain rfl := List.mem_singleton.1 ht; exact text_one f v w hv)
  exact text_tuple (f + 1) (fun _ => ⟨#[123, 49, 125]⟩) _ v w hv (by simp) (fun _ _ => by decide) (by decide +kernel) (fun t ht v w hv => by
    simp only [List.mem_cons, List.not_mem_nil, or_false, or_self] at ht
    subst ht
    exact h2 v w hv)
theorem rtext_two (f : Nat) (v : Value) (w : World) (hv : TermV (f + 2) w v tmT) : Calls Tryd.prog 23 #[v] w (StrPost w ⟨#[123, 123, 49, 125, 44, 123, 49, 125, 125]⟩) := by
  obtain ⟨k, n, s, u, l, ao, cap, e, rfl, hf, hlc, hcap, hrow⟩ := hv.mk'
  injection e with e1 e2 e3 e4 e5
  subst e1 e2 e3 e4 e5
  have hB := (Below.refl w.heap.size w).alloc (Nat.le_refl _) (.cells #[.int .i8 5, .int .i64 0, .string ⟨#[]⟩, .string ⟨#[]⟩, .slice ao 2 cap] 31)
  have hn := heap_new w (.cells #[.int .i8 5, .int .i64 0, .string ⟨#[]⟩, .string ⟨#[]⟩, .slice ao 2 cap] 31)
  have hc0 := rcheck_any (f + 2) tmT _ _ (hv.keep hB)
  have e0 : rcheckN tmT = 0 := by decide +kernel
  rw [e0] at hc0
  have HV := Lib.hid hv
  have HC := Lib.hid hc0
  have HN := Lib.hid hn
  have HB := Lib.hid hB
  obtain ⟨x0, -⟩ := cells_at hn 0 _ rfl
  obtain ⟨x1, -⟩ := cells_at hn 1 _ rfl
  obtain ⟨x2, -⟩ := cells_at hn 2 _ rfl
  obtain ⟨x3, -⟩ := cells_at hn 3 _ rfl
  obtain ⟨x4, -⟩ := cells_at hn 4 _ rfl
  clear hv hc0 hn hB hrow
  go_enter Tryd.func23, Tryd.ntmps23
  go_wp2_with fail
  refine HC.out.mono ?_
  rintro e w1 ⟨rfl, hb1⟩
  have HB1 := Lib.hid (HB.out.trans (hb1.mono HB.out.size))
  have hn1 := keep_heap HN.out hb1
  obtain ⟨y0, -⟩ := cells_at hn1 0 _ rfl
  obtain ⟨y1, -⟩ := cells_at hn1 1 _ rfl
  obtain ⟨y2, -⟩ := cells_at hn1 2 _ rfl
  obtain ⟨y3, -⟩ := cells_at hn1 3 _ rfl
  obtain ⟨y4, -⟩ := cells_at hn1 4 _ rfl
  clear hb1 hn1 x0 x1 x2 x3 x4
  go_wp2_with fail
  refine (text_two f _ w1 (HV.out.keep HB1.out)).mono ?_
  rintro e w2 ⟨rfl, hb2⟩
  have HB2 := Lib.hid (HB1.out.trans (hb2.mono HB1.out.size))
  clear hb2
  go_wp2_with fail
  go_ret
  exact ⟨rfl, HB2.out⟩
end Go.Proofs.YtfbmjcblnemkgaaDoor
