/- the reference's Text at the two tuples that wakes tells (after Gt). Conditions: the term reads. -/
/- the reference's Text at {ok,[]}, and at any pair whose parts' texts are known. Conditions: the term reads. -/
/- the reference's Text at {ok,[<7>]}. Conditions: the term reads. -/
import Derived.Test.YtepfmanbllegiaaDoorMt20
import Derived.Test.YtepfmanbllegiaaDoorMt8
namespace Go.Proofs.YtepfmanbllegiaaDoor
open Go.ChangeShapes Go.WideShapes Go.ChangeAt Go.RowKit
set_option linter.unusedVariables false
set_option maxRecDepth 100000
def StrPost (w : World) (s : ByteArray) (e : Ending) (w' : World) : Prop := e = .returned (.string s) ∧ Below w.heap.size w w'
theorem small_seven (w : World) : Calls Tryd.prog 87 #[.int .i64 7] w fun e w' => e = .returned (.string ⟨#[55]⟩) ∧ w' = w := by
  go_enter Tryd.func87, Tryd.ntmps87
  go_wp2_with fail
  go_ret
  exact ⟨rfl, rfl⟩
theorem fint_seven (w : World) : Calls Tryd.prog 80 #[.int .i64 7, .int .i64 10] w fun e w' => e = .returned (.string ⟨#[55]⟩) ∧ w' = w := by
  have h := small_seven w
  go_enter Tryd.func80, Tryd.ntmps80
  go_wp2_with fail
  refine h.mono ?_
  rintro e w' ⟨rfl, rfl⟩
  go_wp2_with fail
  go_ret
  exact ⟨rfl, rfl⟩
theorem itoa_seven (w : World) : Calls Tryd.prog 44 #[.int .i64 7] w fun e w' => e = .returned (.string ⟨#[55]⟩) ∧ w' = w := by
  have h : Calls Tryd.prog 64 #[.int .i64 7] w fun e w' => e = .returned (.string ⟨#[55]⟩) ∧ w' = w := by
    have h := fint_seven w
    go_enter Tryd.func64, Tryd.ntmps64
    go_wp2_with fail
    refine h.mono ?_
    rintro e w' ⟨rfl, rfl⟩
    go_wp2_with fail
    go_ret
    exact ⟨rfl, rfl⟩
  go_enter Tryd.func44, Tryd.ntmps44
  go_wp2_with fail
  refine h.mono ?_
  rintro e w' ⟨rfl, rfl⟩
  go_wp2_with fail
  go_ret
  exact ⟨rfl, rfl⟩
theorem text_pid (f : Nat) (v : Value) (w : World) (hv : TermV f w v (.mk 4 7 ⟨#[]⟩ ⟨#[]⟩ [])) : Calls Tryd.prog 29 #[v] w (StrPost w ⟨#[60, 55, 62]⟩) := by
  obtain ⟨k, n, s, u, l, ao, cap, e, rfl, hf, hl, hcap, hrow⟩ := hv.mk'
  injection e with e1 e2 e3 e4 e5
  subst e1 e2 e3 e4 e5
  have hB := (Below.refl w.heap.size w).alloc (Nat.le_refl _) (.cells #[.int .i8 4, .int .i64 7, .string ⟨#[]⟩, .string ⟨#[]⟩, .slice ao ([] : List Tm).length cap] 27)
  have hn := heap_new w (.cells #[.int .i8 4, .int .i64 7, .string ⟨#[]⟩, .string ⟨#[]⟩, .slice ao ([] : List Tm).length cap] 27)
  obtain ⟨x0, -⟩ := cells_at hn 0 _ rfl
  obtain ⟨x1, -⟩ := cells_at hn 1 _ rfl
  have HI := Lib.hid (itoa_seven (w.alloc (.cells #[.int .i8 4, .int .i64 7, .string ⟨#[]⟩, .string ⟨#[]⟩, .slice ao ([] : List Tm).length cap] 27)))
  clear hv hrow hn
  go_enter Tryd.func29, Tryd.ntmps29
  go_wp2_with fail
  refine HI.out.mono ?_
  rintro e w' ⟨rfl, rfl⟩
  go_wp2_with fail
  go_ret
  exact ⟨rfl, hB⟩
theorem text_at (f : Nat) (a : ByteArray) (v : Value) (w : World) (hv : TermV f w v (.mk 1 0 a ⟨#[]⟩ [])) : Calls Tryd.prog 29 #[v] w (StrPost w a) := by
  obtain ⟨k, n, s, u, l, ao, cap, e, rfl, hf, hl, hcap, hrow⟩ := hv.mk'
  injection e with e1 e2 e3 e4 e5
  subst e1 e2 e3 e4 e5
  have hB := (Below.refl w.heap.size w).alloc (Nat.le_refl _) (.cells #[.int .i8 1, .int .i64 0, .string a, .string ⟨#[]⟩, .slice ao ([] : List Tm).length cap] 27)
  have hn := heap_new w (.cells #[.int .i8 1, .int .i64 0, .string a, .string ⟨#[]⟩, .slice ao ([] : List Tm).length cap] 27)
  obtain ⟨x0, -⟩ := cells_at hn 0 _ rfl
  obtain ⟨x2, -⟩ := cells_at hn 2 _ rfl
  clear hv hrow hn
  go_enter Tryd.func29, Tryd.ntmps29
  go_wp2_with fail
  go_ret
  exact ⟨rfl, hB⟩
theorem text_nil (f : Nat) (v : Value) (w : World) (hv : TermV f w v (.mk 6 0 ⟨#[]⟩ ⟨#[]⟩ [])) : Calls Tryd.prog 29 #[v] w (StrPost w ⟨#[91, 93]⟩) := by
  obtain ⟨k, n, s, u, l, ao, cap, e, rfl, hf, hl, hcap, hrow⟩ := hv.mk'
  injection e with e1 e2 e3 e4 e5
  subst e1 e2 e3 e4 e5
  have hB := (Below.refl w.heap.size w).alloc (Nat.le_refl _) (.cells #[.int .i8 6, .int .i64 0, .string ⟨#[]⟩, .string ⟨#[]⟩, .slice ao ([] : List Tm).length cap] 27)
  have hn := heap_new w (.cells #[.int .i8 6, .int .i64 0, .string ⟨#[]⟩, .string ⟨#[]⟩, .slice ao ([] : List Tm).length cap] 27)
  obtain ⟨x0, -⟩ := cells_at hn 0 _ rfl
  clear hv hrow hn
  go_enter Tryd.func29, Tryd.ntmps29
  go_wp2_with fail
  go_ret
  exact ⟨rfl, hB⟩
/-- texts with commas between -/
def rowF (tx : Tm → ByteArray) : List Tm → Nat → ByteArray → ByteArray
  | [], _, s => s
  | t :: l, i, s => rowF tx l (i + 1) ((if 0 < i then s ++ ⟨#[44]⟩ else s) ++ tx t)
theorem row_any (f : Nat) (tx : Tm → ByteArray) (l : List Tm) (ao : Option Addr) (cap : Nat) (w : World) (hr : Row (f + 1) w (.slice ao l.length cap) l) (hl : l.length ≤ 255) (htx : ∀ t ∈ l, (tx t).size ≤ 1000) (h : ∀ t ∈ l, ∀ v w, TermV f w v t → Calls Tryd.prog 29 #[v] w (StrPost w (tx t))) : Calls Tryd.prog 45 #[.slice ao l.length cap] w (StrPost w (rowF tx l 0 ⟨#[]⟩)) := by
  have HR := Lib.hid hr
  have H := Lib.hid h
  have HTX := Lib.hid htx
  have HE0 : Hid (rowF tx l 0 ⟨#[]⟩ = rowF tx l 0 ⟨#[]⟩) := Lib.hid rfl
  clear hr h htx
  generalize hres : rowF tx l 0 ⟨#[]⟩ = res at *
  have HRES := Lib.hid hres
  clear hres HE0
  go_enter Tryd.func45, Tryd.ntmps45
  go_wp2_with fail
  go_loopw [3, 4] (fun sv iv wr => ∃ (i : Nat) (s : ByteArray), i ≤ l.length ∧ iv = .int .i64 i ∧ sv = .string s ∧ s.size ≤ 1001 * i ∧ Hid (Below w.heap.size w wr ∧ rowF tx (l.drop i) i s = res))
    (fun _ iv _ => l.length - (intOf iv).toNat)
  case atStart => exact ⟨0, _, by omega, rfl, rfl, Nat.zero_le _, Lib.hid ⟨Below.refl _ _, HRES.out⟩⟩
  case round =>
    obtain ⟨i, s, hi, rfl, rfl, hss, HI⟩ := hrel
    by_cases hlt : i < l.length
    · obtain ⟨t, ht⟩ : ∃ t, l[i]? = some t := ⟨l[i], by simp [hlt]⟩
      obtain ⟨b', off, f', lv, rfl, hf', hnode, htv⟩ := (HR.out.keep HI.out.1).elem ht
      obtain rfl : f' = f := by omega
      have HC := Lib.hid (H.out t (List.mem_of_getElem? ht) _ _ htv)
      have HD := Lib.hid (drop_cons ht)
      obtain ⟨c0, c1, c2, c3, c4⟩ := hnode
      have hts := HTX.out t (List.mem_of_getElem? ht)
      have hq1 : ¬ 9223372036854775807 < s.size + 1 := by omega
      have hq2 : ¬ 9223372036854775807 < s.size + 1 + (tx t).size := by omega
      have hq3 : ¬ 9223372036854775807 < s.size + (tx t).size := by omega
      have hq4 : s.size + 1 + (tx t).size ≤ 1001 * (i + 1) := by omega
      clear htv ht
      by_cases h0 : 0 < i
      · have hd : decide (0 < i) = true := by simpa using h0
        go_wp2_with fail
        refine HC.out.mono ?_
        rintro e w2 ⟨rfl, hb2⟩
        have HF : Hid (Below w.heap.size w w2 ∧ rowF tx (l.drop (i + 1)) (i + 1) ((s ++ ⟨#[44]⟩) ++ tx t) = res) := Lib.hid ⟨HI.out.1.trans (hb2.mono HI.out.1.size), by
          have := HI.out.2
          rw [HD.out, rowF, if_pos h0] at this
          exact this⟩
        clear hb2 c0 c1 c2 c3 c4
        go_wp2_with fail
        go_roundw
        case rel => exact ⟨i + 1, _, by omega, by go_num, rfl, by simp only [ByteArray.size_append', ByteArray.size_mk', List.size_toArray, List.length_cons, List.length_nil]; omega, HF⟩
        case measure => simp [intOf]; omega
      · obtain rfl : i = 0 := by omega
        simp only [Nat.zero_mul, Nat.add_zero] at c0 c1 c2 c3 c4
        go_wp2_with fail
        refine HC.out.mono ?_
        rintro e w2 ⟨rfl, hb2⟩
        have HF : Hid (Below w.heap.size w w2 ∧ rowF tx (l.drop (0 + 1)) (0 + 1) (s ++ tx t) = res) := Lib.hid ⟨HI.out.1.trans (hb2.mono HI.out.1.size), by
          have := HI.out.2
          rw [HD.out, rowF, if_neg h0] at this
          exact this⟩
        clear hb2 c0 c1 c2 c3 c4
        go_wp2_with fail
        go_roundw
        case rel => exact ⟨1, _, by omega, by go_num, rfl, by simp only [ByteArray.size_append', ByteArray.size_mk', List.size_toArray, List.length_cons, List.length_nil]; omega, HF⟩
        case measure => simp [intOf]; omega
    · have hil : i = l.length := by omega
      have HF : Hid (s = res) := Lib.hid (by have := HI.out.2; rw [hil, List.drop_length, rowF] at this; exact this)
      go_wp2_with fail
      go_ret
      exact ⟨by rw [HF.out]; rfl, HI.out.1⟩
theorem text_tuple (f : Nat) (tx : Tm → ByteArray) (l : List Tm) (v : Value) (w : World) (hv : TermV (f + 1) w v (.mk 5 0 ⟨#[]⟩ ⟨#[]⟩ l)) (hl : l.length ≤ 255) (htx : ∀ t ∈ l, (tx t).size ≤ 1000) (hs : (rowF tx l 0 ⟨#[]⟩).size ≤ 1000000) (h : ∀ t ∈ l, ∀ v w, TermV f w v t → Calls Tryd.prog 29 #[v] w (StrPost w (tx t))) : Calls Tryd.prog 29 #[v] w (StrPost w (⟨#[123]⟩ ++ rowF tx l 0 ⟨#[]⟩ ++ ⟨#[125]⟩)) := by
  obtain ⟨k, n, s, u, l, ao, cap, e, rfl, hf, hlc, hcap, hrow⟩ := hv.mk'
  injection e with e1 e2 e3 e4 e5
  subst e1 e2 e3 e4 e5
  have hB := (Below.refl w.heap.size w).alloc (Nat.le_refl _) (.cells #[.int .i8 5, .int .i64 0, .string ⟨#[]⟩, .string ⟨#[]⟩, .slice ao l.length cap] 27)
  have hn := heap_new w (.cells #[.int .i8 5, .int .i64 0, .string ⟨#[]⟩, .string ⟨#[]⟩, .slice ao l.length cap] 27)
  obtain ⟨x0, -⟩ := cells_at hn 0 _ rfl
  obtain ⟨x4, -⟩ := cells_at hn 4 _ rfl
  have HI := Lib.hid (row_any f tx l ao cap (w.alloc (.cells #[.int .i8 5, .int .i64 0, .string ⟨#[]⟩, .string ⟨#[]⟩, .slice ao l.length cap] 27)) (hrow.keep hB) hl htx h)
  have hq1 : ¬ 9223372036854775807 < 1 + (rowF tx l 0 ⟨#[]⟩).size := by omega
  have hq2 : ¬ 9223372036854775807 < 1 + (rowF tx l 0 ⟨#[]⟩).size + 1 := by omega
  clear hv hrow hn h htx
  generalize rowF tx l 0 ⟨#[]⟩ = rs at *
  go_enter Tryd.func29, Tryd.ntmps29
  go_wp2_with fail
  refine HI.out.mono ?_
  rintro e w' ⟨rfl, hb⟩
  go_wp2_with fail
  go_ret
  exact ⟨rfl, hB.trans (hb.mono hB.size)⟩
abbrev tm1 : Tm := .mk 0 1 ⟨#[]⟩ ⟨#[]⟩ []
abbrev tmT : Tm := .mk 5 0 ⟨#[]⟩ ⟨#[]⟩ [.mk 5 0 ⟨#[]⟩ ⟨#[]⟩ [tm1], .mk 5 0 ⟨#[]⟩ ⟨#[]⟩ [tm1]]
end Go.Proofs.YtepfmanbllegiaaDoor
namespace Go.Proofs.YtepfmanbllegiaaDoor
open Go.ChangeShapes Go.WideShapes Go.ChangeAt Go.RowKit
set_option linter.unusedVariables false
set_option maxRecDepth 100000
/-- two texts, by the kind of what is told -/
def txk (sa sb : ByteArray) : Tm → ByteArray
  | .mk k _ _ _ _ => if k = 1 then sa else sb
theorem rtext_two (f : Nat) (a b : Tm) (v : Value) (w : World) (e0 : rcheckN (.mk 5 0 ⟨#[]⟩ ⟨#[]⟩ [a, b]) = 0) (r : ByteArray) (ht : ∀ v w, TermV (f + 1) w v (.mk 5 0 ⟨#[]⟩ ⟨#[]⟩ [a, b]) → Calls Tryd.prog 29 #[v] w (StrPost w r)) (hv : TermV (f + 1) w v (.mk 5 0 ⟨#[]⟩ ⟨#[]⟩ [a, b])) :
    Calls Tryd.prog 15 #[v] w (StrPost w r) := by
  obtain ⟨k, n, s, u, l, ao, cap, e, rfl, hf, hlc, hcap, hrow⟩ := hv.mk'
  injection e with e1 e2 e3 e4 e5
  subst e1 e2 e3 e4 e5
  have hB := (Below.refl w.heap.size w).alloc (Nat.le_refl _) (.cells #[.int .i8 5, .int .i64 0, .string ⟨#[]⟩, .string ⟨#[]⟩, .slice ao 2 cap] 27)
  have hn := heap_new w (.cells #[.int .i8 5, .int .i64 0, .string ⟨#[]⟩, .string ⟨#[]⟩, .slice ao 2 cap] 27)
  have hc0 := rcheck_any (f + 1) _ _ _ (hv.keep hB)
  rw [e0] at hc0
  have HV := Lib.hid hv
  have HT := Lib.hid ht
  have HC := Lib.hid hc0
  have HN := Lib.hid hn
  have HB := Lib.hid hB
  obtain ⟨x0, -⟩ := cells_at hn 0 _ rfl
  obtain ⟨x1, -⟩ := cells_at hn 1 _ rfl
  obtain ⟨x2, -⟩ := cells_at hn 2 _ rfl
  obtain ⟨x3, -⟩ := cells_at hn 3 _ rfl
  obtain ⟨x4, -⟩ := cells_at hn 4 _ rfl
  clear hv hc0 hn hB hrow e0 ht
  go_enter Tryd.func15, Tryd.ntmps15
  go_wp2_with fail
  refine HC.out.mono ?_
  rintro e w1 ⟨rfl, hb1⟩
  have HB1 := Lib.hid (HB.out.trans (hb1.mono HB.out.size))
  have hn1 := keep_heap HN.out hb1
  obtain ⟨y0, -⟩ := cells_at hn1 0 _ rfl
  obtain ⟨y1, -⟩ := cells_at hn1 1 _ rfl
  obtain ⟨y2, -⟩ := cells_at hn1 2 _ rfl
  obtain ⟨y3, -⟩ := cells_at hn1 3 _ rfl
  obtain ⟨y4, -⟩ := cells_at hn1 4 _ rfl
  clear hb1 hn1 x0 x1 x2 x3 x4
  go_wp2_with fail
  refine (HT.out _ w1 (HV.out.keep HB1.out)).mono ?_
  rintro e w2 ⟨rfl, hb2⟩
  have HB2 := Lib.hid (HB1.out.trans (hb2.mono HB1.out.size))
  clear hb2
  go_wp2_with fail
  go_ret
  exact ⟨rfl, HB2.out⟩
theorem text_ok0 (f : Nat) (v : Value) (w : World) (hv : TermV (f + 1) w v (.mk 5 0 ⟨#[]⟩ ⟨#[]⟩ [okA, nilT])) : Calls Tryd.prog 29 #[v] w (StrPost w ⟨#[123, 111, 107, 44, 91, 93, 125]⟩) :=
  text_tuple f (txk ⟨#[111, 107]⟩ ⟨#[91, 93]⟩) [okA, nilT] v w hv (by simp) (fun t _ => by obtain ⟨k, n, s, u, l⟩ := t; show (if k = 1 then (⟨#[111, 107]⟩ : ByteArray) else ⟨#[91, 93]⟩).size ≤ 1000; by_cases hk : k = 1; (rw [if_pos hk]; decide); (rw [if_neg hk]; decide)) (by decide +kernel) (fun t ht v w hv => by
    simp only [List.mem_cons, List.not_mem_nil, or_false] at ht
    rcases ht with rfl | rfl
    · exact text_at f _ v w hv
    · exact text_nil f v w hv)
theorem rtext_ok0 (f : Nat) (v : Value) (w : World) (hv : TermV (f + 1) w v (.mk 5 0 ⟨#[]⟩ ⟨#[]⟩ [okA, nilT])) : Calls Tryd.prog 15 #[v] w (StrPost w ⟨#[123, 111, 107, 44, 91, 93, 125]⟩) :=
  rtext_two f _ _ v w (by decide +kernel) _ (text_ok0 f) hv
end Go.Proofs.YtepfmanbllegiaaDoor
namespace Go.Proofs.YtepfmanbllegiaaDoor
open Go.ChangeShapes Go.WideShapes Go.ChangeAt Go.RowKit
set_option linter.unusedVariables false
set_option linter.unusedSimpArgs false
set_option maxRecDepth 100000
abbrev pidT : Tm := .mk 4 7 ⟨#[]⟩ ⟨#[]⟩ []
abbrev nilT0 : Tm := .mk 6 0 ⟨#[]⟩ ⟨#[]⟩ []
def mz : Value → Nat | .slice _ 0 _ => 1 | _ => 0
theorem TermV.nolist {f : Nat} {w : World} {k n : Int} {s u : ByteArray} {lv : Value} (h : TermV f w (.agg #[.int .i8 k, .int .i64 n, .string s, .string u, lv]) (.mk k n s u [])) : fields k n s u ∧ ∃ ao cap, lv = .slice ao 0 cap ∧ cap ≤ 9223372036854775807 := by
  obtain ⟨h1, lv', he, a0, k0, hlv, -, hk0, -⟩ := h
  have e : lv = lv' := by simp at he; exact he.2.2.2.2
  subst e
  exact ⟨h1, a0, k0, hlv, hk0⟩
/-- the list's one round is done -/
structure TlS (w W : World) (ov : Value) (a0 a1 : Option Addr) (k0 k1 : Nat) : Prop where
  hb : Below w.heap.size w W
  hq : W.heap[w.heap.size]? = some (.cells #[.int .i8 6, .int .i64 0, .string ⟨#[]⟩, .string ⟨#[]⟩, .slice a1 0 k1] 27 (0, 0))
  ho : W.ownsRow (w.heap.size + 1) 27 5 ov 1 (#[.int .i8 4, .int .i64 7, .string ⟨#[]⟩, .string ⟨#[]⟩, .slice a0 0 k0] : Array Value).toList
theorem row_pid {f : Nat} {W : World} {g c k0 : Nat} {a0 : Option Addr} (hf : fields 4 7 ⟨#[]⟩ ⟨#[]⟩) (hk : k0 ≤ 9223372036854775807) (h1 : 1 ≤ c) (h2 : c ≤ 9223372036854775807) (h : ∀ j u, (#[.int .i8 4, .int .i64 7, .string ⟨#[]⟩, .string ⟨#[]⟩, .slice a0 0 k0] : Array Value).toList[j]? = some u → W.cell? ⟨g, j, none⟩ = some u) :
    Row (f + 1) W (.slice (some ⟨g, 0, none⟩) ([pidT] : List Tm).length c) [pidT] :=
  ⟨_, c, rfl, h1, h2, fun i t hi => by
    cases i with
    | succ i => simp at hi
    | zero =>
      simp only [List.getElem?_cons_zero, Option.some.injEq] at hi
      subst hi
      exact ⟨g, 0, rfl, At.shut (lv := .slice a0 0 k0) hf ⟨h 0 _ rfl, h 1 _ rfl, h 2 _ rfl, h 3 _ rfl, h 4 _ rfl⟩ ⟨a0, k0, rfl, Nat.zero_le _, hk, fun i t h => by simp at h⟩⟩⟩
set_option maxHeartbeats 8000000 in
theorem text_one (f : Nat) (v : Value) (w : World) (hv : TermV (f + 1) w v (.mk 7 0 ⟨#[]⟩ ⟨#[]⟩ [pidT, nilT0])) : Calls Tryd.prog 29 #[v] w (StrPost w ⟨#[91, 60, 55, 62, 93]⟩) := by
  obtain ⟨k, n, s, u, l, ao, cap, e, rfl, hf, hlc, hcap, hrow⟩ := hv.mk'
  injection e with e1 e2 e3 e4 e5
  subst e1 e2 e3 e4 e5
  obtain ⟨b, off, f0, l0, rfl, -, n0, t0⟩ := hrow.elem (i := 0) (t := pidT) rfl
  obtain ⟨b', off', f1, l1, e', -, n1, t1⟩ := hrow.elem (i := 1) (t := nilT0) rfl
  injection e' with e'
  injection e' with e1 e2
  subst e1 e2
  obtain ⟨hfp, a0, k0, rfl, hk0⟩ := t0.nolist
  obtain ⟨-, a1, k1, rfl, hk1⟩ := t1.nolist
  have hB := (Below.refl w.heap.size w).alloc (Nat.le_refl _) (.cells #[.int .i8 7, .int .i64 0, .string ⟨#[]⟩, .string ⟨#[]⟩, .slice (some ⟨b, off, none⟩) 2 cap] 27)
  have hn := heap_new w (.cells #[.int .i8 7, .int .i64 0, .string ⟨#[]⟩, .string ⟨#[]⟩, .slice (some ⟨b, off, none⟩) 2 cap] 27)
  obtain ⟨x0, -⟩ := cells_at hn 0 _ rfl
  obtain ⟨x4, -⟩ := cells_at hn 4 _ rfl
  have hs1 : w.heap.size + 1 ≤ (w.alloc (.cells #[.int .i8 7, .int .i64 0, .string ⟨#[]⟩, .string ⟨#[]⟩, .slice (some ⟨b, off, none⟩) 2 cap] 27)).heap.size := by simp
  have HN := Lib.hid (And.intro hn (And.intro hB (And.intro (n0.keep hB) (And.intro (n1.keep hB) hs1))))
  have HP := Lib.hid (And.intro hfp hk0)
  clear hv hrow hn hB n0 n1 t0 t1 hf hlc hcap hk1 hs1 hfp hk0
  go_enter Tryd.func29, Tryd.ntmps29
  go_wp2_with fail
  clear x0 x4
  generalize w.alloc (.cells #[.int .i8 7, .int .i64 0, .string ⟨#[]⟩, .string ⟨#[]⟩, .slice (some ⟨b, off, none⟩) 2 cap] 27) = w1 at *
  go_loopw [3] (fun ov wr => (ov = .slice none 0 0 ∧ wr = w1) ∨ Hid (TlS w wr ov a0 a1 k0 k1)) (fun ov _ => mz ov)
  case atStart => exact .inl ⟨rfl, rfl⟩
  case round =>
    rcases hrel with ⟨rfl, rfl⟩ | HI
    · obtain ⟨x0, -⟩ := cells_at HN.out.1 0 _ rfl
      obtain ⟨x4, -⟩ := cells_at HN.out.1 4 _ rfl
      obtain ⟨c0, c1, c2, c3, c4⟩ := HN.out.2.2.1
      obtain ⟨d0, d1, d2, d3, d4⟩ := HN.out.2.2.2.1
      simp only [Nat.zero_mul, Nat.add_zero, Nat.one_mul] at c0 c1 c2 c3 c4 d0 d1 d2 d3 d4
      have hb4 := (Below.refl wr.heap.size wr).alloc (Nat.le_refl _) (.cells #[.int .i8 4, .int .i64 7, .string ⟨#[]⟩, .string ⟨#[]⟩, .slice a0 0 k0] 27)
      have H4 := Lib.hid (And.intro hb4 (heap_new wr (.cells #[.int .i8 4, .int .i64 7, .string ⟨#[]⟩, .string ⟨#[]⟩, .slice a0 0 k0] 27)))
      obtain ⟨e0, -⟩ := cells_at (keep_heap HN.out.1 hb4) 4 _ rfl
      replace d0 := keep_cell d0 hb4
      replace d1 := keep_cell d1 hb4
      replace d2 := keep_cell d2 hb4
      replace d3 := keep_cell d3 hb4
      replace d4 := keep_cell d4 hb4
      clear hb4
      go_wp2_with (at_builtin; refine stop_here ?_)
      refine Lib.hid ?_
      obtain ⟨i0, z0, q1, q2, q3, q4, q5⟩ := infoTM2
      refine wpList_append_own2 rfl (.tmp 55) (.tmp 60) 23 rfl (w.heap.size + 1) 27 i0 z0 5 72 Tryd.underlying23 q1 q2 q3 q4 q5 (by decide) _ 0 [] rfl (World.ownsRow_nil _ _ _ _) ⟨wr.heap.size, 0, none⟩ 1 1 (#[.int .i8 4, .int .i64 7, .string ⟨#[]⟩, .string ⟨#[]⟩, .slice a0 0 k0] : Array Value).toList rfl rfl (fun q u hq => by
        rw [Addr.add_lit, Nat.zero_add]
        exact (cells_at H4.out.2 q u (by simpa using hq)).1) (by simp [Value.oneCell']) (by unfold maxLen; omega) (by omega) (Nat.le_trans HN.out.2.2.2.2 H4.out.1.size) ?_
      intro v5 w5 hown5 hg5 hwh5
      have hb5 := grown_below hg5
      replace e0 := keep_cell e0 hb5
      replace d0 := keep_cell d0 hb5
      replace d1 := keep_cell d1 hb5
      replace d2 := keep_cell d2 hb5
      replace d3 := keep_cell d3 hb5
      replace d4 := keep_cell d4 hb5
      have H5 := Lib.hid (And.intro (H4.out.1.trans (hb5.mono H4.out.1.size)) hown5)
      clear hown5 hg5 hwh5 hb5 H4 c0 c1 c2 c3 c4 x0 x4 q1 q2 q3 q4 q5
      go_wp2_with (with_reducible refine stop_op (o := ⟨_, .store 27 (.tmp 1) (.tmp 65), _, _, _, _⟩) ?_)
      refine Lib.hid ?_
      have hq5 := keep_heap HN.out.1 H5.out.1
      refine wpList_store_row (o := ⟨none, _, _, _, _, _⟩) rfl 27 (.tmp 1) (.tmp 65) rfl w.heap.size #[.int .i8 6, .int .i64 0, .string ⟨#[]⟩, .string ⟨#[]⟩, .slice a1 0 k1] rfl rfl 27 #[.int .i8 7, .int .i64 0, .string ⟨#[]⟩, .string ⟨#[]⟩, .slice (some ⟨b, off, none⟩) 2 cap] hq5 (infoTM' _ rfl) rfl (by simp [Value.oneCell']) ?_
      have hc6 := chg_setRow w5 w.heap.size #[.int .i8 6, .int .i64 0, .string ⟨#[]⟩, .string ⟨#[]⟩, .slice a1 0 k1]
      have HT : Hid (TlS w (w5.setRow w.heap.size #[.int .i8 6, .int .i64 0, .string ⟨#[]⟩, .string ⟨#[]⟩, .slice a1 0 k1]) v5 a0 a1 k0 k1) := Lib.hid ⟨bel_setRow (HN.out.2.1.trans (H5.out.1.mono HN.out.2.1.size)) (Nat.le_trans HN.out.2.1.size H5.out.1.size) (Nat.le_refl _) _, setRow_heap w5 w.heap.size _ #[.int .i8 6, .int .i64 0, .string ⟨#[]⟩, .string ⟨#[]⟩, .slice a1 0 k1] 27 (0, 0) hq5, own_chg H5.out.2 hc6 fun k hk e => by
        have := own_base H5.out.2 k hk
        have e : k = w.heap.size := e
        omega⟩
      clear hc6 hq5 H5 e0 d0 d1 d2 d3 d4
      obtain ⟨so, sc, rfl⟩ := own_slice HT.out.ho
      generalize w5.setRow w.heap.size #[.int .i8 6, .int .i64 0, .string ⟨#[]⟩, .string ⟨#[]⟩, .slice a1 0 k1] = w6 at *
      simp only [Act.put]
      go_wp2_with fail
      go_roundw
      case rel => exact .inr HT
      case measure => simp [mz]
    · obtain ⟨g, sc, rfl, -, -, -, hg2, hg3, hg4⟩ : ∃ g sc, u3 = Value.slice (some ⟨g, 0, none⟩) 1 sc ∧ True ∧ True ∧ True ∧ 1 ≤ sc ∧ sc ≤ 9223372036854775807 ∧ ∀ j u, (#[.int .i8 4, .int .i64 7, .string ⟨#[]⟩, .string ⟨#[]⟩, .slice a0 0 k0] : Array Value).toList[j]? = some u → wr.cell? ⟨g, j, none⟩ = some u := by
        have hF := World.ownsRowF_of HI.out.ho
        obtain ⟨hl, ⟨e0, e⟩ | ⟨g, cap, cur, e0, hb, hh, h3, h4, r⟩⟩ := id HI.out.ho
        · cases e
        · refine ⟨g, cap, e0, trivial, trivial, trivial, ?_, ?_, fun j u hj => ?_⟩
          · first | omega | assumption | exact h3 | exact h4
          · first | omega | assumption | (unfold maxLen at *; omega)
          · have := hF.cells (g := g) (by rw [e0]; rfl) j u hj
            rw [Addr.add_lit, Nat.zero_add] at this
            exact this
      have HRW := Lib.hid (row_any (f + 1) (fun _ => ⟨#[60, 55, 62]⟩) [pidT] _ sc wr (row_pid (f := f + 1) HP.out.1 HP.out.2 hg2 hg3 hg4) (by simp) (fun _ _ => by decide) (fun t ht v w hv => by
        simp only [List.mem_cons, List.not_mem_nil, or_false] at ht
        subst ht
        exact text_pid _ v w hv))
      rw [show rowF (fun _ => ⟨#[60, 55, 62]⟩) [pidT] 0 ⟨#[]⟩ = ⟨#[60, 55, 62]⟩ from by decide +kernel] at HRW
      have hcb := HI.out.hb
      obtain ⟨x0, -⟩ := cells_at HI.out.hq 0 _ rfl
      have HCB := Lib.hid hcb
      clear hcb hg2 hg3 hg4 HI HN
      go_wp2_with fail
      refine HRW.out.mono ?_
      rintro e w7 ⟨rfl, hb7⟩
      go_wp2_with fail
      go_ret
      exact ⟨congrArg (fun s => Ending.returned (.string s)) (show (⟨#[91]⟩ ++ ⟨#[60, 55, 62]⟩ ++ ⟨#[93]⟩ : ByteArray) = ⟨#[91, 60, 55, 62, 93]⟩ by decide +kernel), HCB.out.trans (hb7.mono HCB.out.size)⟩
theorem text_ok7 (f : Nat) (v : Value) (w : World) (hv : TermV (f + 2) w v (.mk 5 0 ⟨#[]⟩ ⟨#[]⟩ [okA, .mk 7 0 ⟨#[]⟩ ⟨#[]⟩ [pidT, nilT0]])) : Calls Tryd.prog 29 #[v] w (StrPost w ⟨#[123, 111, 107, 44, 91, 60, 55, 62, 93, 125]⟩) :=
  text_tuple (f + 1) (txk ⟨#[111, 107]⟩ ⟨#[91, 60, 55, 62, 93]⟩) [okA, .mk 7 0 ⟨#[]⟩ ⟨#[]⟩ [pidT, nilT0]] v w hv (by simp) (fun t _ => by obtain ⟨k, n, s, u, l⟩ := t; show (if k = 1 then (⟨#[111, 107]⟩ : ByteArray) else ⟨#[91, 60, 55, 62, 93]⟩).size ≤ 1000; by_cases hk : k = 1; (rw [if_pos hk]; decide); (rw [if_neg hk]; decide)) (by decide +kernel) (fun t ht v w hv => by
    simp only [List.mem_cons, List.not_mem_nil, or_false] at ht
    rcases ht with rfl | rfl
    · exact text_at _ _ v w hv
    · exact text_one f v w hv)
theorem rtext_ok7 (f : Nat) (v : Value) (w : World) (hv : TermV (f + 2) w v (.mk 5 0 ⟨#[]⟩ ⟨#[]⟩ [okA, .mk 7 0 ⟨#[]⟩ ⟨#[]⟩ [pidT, nilT0]])) : Calls Tryd.prog 15 #[v] w (StrPost w ⟨#[123, 111, 107, 44, 91, 60, 55, 62, 93, 125]⟩) :=
  rtext_two (f + 1) _ _ v w (by decide +kernel) _ (text_ok7 f) hv
end Go.Proofs.YtepfmanbllegiaaDoor
