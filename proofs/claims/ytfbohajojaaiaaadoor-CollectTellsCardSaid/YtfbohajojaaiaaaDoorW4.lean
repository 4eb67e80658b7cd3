/- the reference's Same; words. Conditions: the terms read. -/
/- words that are the same. Conditions: the terms read. -/
/- the reference's heap: Take, walked. Conditions: what comes reads. -/
import Derived.Test.YtfbohajojaaiaaaDoorW3
import Derived.Test.YtfbohajojaaiaaaDoorHz
import Derived.Test.YtfbohajojaaiaaaDoorW2
import Derived.Test.YtfbohajojaaiaaaDoorHx
namespace Go.Proofs.YtfbohajojaaiaaaDoor
open Go.ChangeShapes Go.WideShapes Go.ChangeAt Go.RowKit
set_option linter.unusedVariables false
set_option maxRecDepth 100000
mutual
def eqT : Tm → Tm → Bool
  | .mk k n s u l, .mk k' n' s' u' l' => decide (k = k') && (decide (n = n') && (decide (s = s') && (decide (u = u') && (decide (l.length = l'.length) && eqL l l'))))
def eqL : List Tm → List Tm → Bool
  | [], _ => true
  | _ :: _, [] => true
  | a :: l, b :: l' => eqT a b && eqL l l'
end
mutual
theorem eqT_refl : ∀ t : Tm, eqT t t = true
  | .mk k n s u l => by rw [eqT, eqL_refl l]; simp
theorem eqL_refl : ∀ l : List Tm, eqL l l = true
  | [] => by rw [eqL]
  | a :: l => by rw [eqL, eqT_refl a, eqL_refl l]; rfl
end
/-- what a round reads -/
def SmS (q : Nat) (w1 w2 : Value) (b1 o1 b2 o2 : Nat) (k n : Int) (s u : ByteArray) (lv : Value) (k' n' : Int) (s' u' : ByteArray) (lv' : Value) (W : World) : Prop :=
  W.cell? ⟨q, 4, none⟩ = some w1 ∧ W.cell? ⟨q + 1, 4, none⟩ = some w2 ∧ W.cell? ⟨b1, o1, none⟩ = some (.int .i8 k) ∧ W.cell? ⟨b1, o1 + 1, none⟩ = some (.int .i64 n) ∧ W.cell? ⟨b1, o1 + 2, none⟩ = some (.string s) ∧ W.cell? ⟨b1, o1 + 3, none⟩ = some (.string u) ∧ W.cell? ⟨b1, o1 + 4, none⟩ = some lv ∧
  W.cell? ⟨b2, o2, none⟩ = some (.int .i8 k') ∧ W.cell? ⟨b2, o2 + 1, none⟩ = some (.int .i64 n') ∧ W.cell? ⟨b2, o2 + 2, none⟩ = some (.string s') ∧ W.cell? ⟨b2, o2 + 3, none⟩ = some (.string u') ∧ W.cell? ⟨b2, o2 + 4, none⟩ = some lv'
theorem SmS.keep {q : Nat} {w1 w2 : Value} {b1 o1 b2 o2 : Nat} {k n : Int} {s u : ByteArray} {lv : Value} {k' n' : Int} {s' u' : ByteArray} {lv' : Value} {W W' : World} (h : SmS q w1 w2 b1 o1 b2 o2 k n s u lv k' n' s' u' lv' W) (hb : Below W.heap.size W W') : SmS q w1 w2 b1 o1 b2 o2 k n s u lv k' n' s' u' lv' W' := by
  obtain ⟨g1, g2, h1, h2, h3, h4, h5, h6, h7, h8, h9, h10⟩ := h
  exact ⟨keep_cell g1 hb, keep_cell g2 hb, keep_cell h1 hb, keep_cell h2 hb, keep_cell h3 hb, keep_cell h4 hb, keep_cell h5 hb, keep_cell h6 hb, keep_cell h7 hb, keep_cell h8 hb, keep_cell h9 hb, keep_cell h10 hb⟩
set_option maxHeartbeats 8000000 in
theorem rsame_any : ∀ (f g : Nat) (t t' : Tm) (v v' : Value) (w : World), TermV f w v t → TermV g w v' t' → Calls Tryd.prog 45 #[v, v'] w (IsPost w (eqT t t')) := by
  intro f
  induction f using Nat.strongRecOn with
  | ind f ih =>
    intro g t t' v v' w hv hv'
    obtain ⟨k, n, s, u, l, ao, cap, rfl, rfl, hf, hl, hcap, hrow⟩ := hv.mk'
    obtain ⟨k', n', s', u', l', ao', cap', rfl, rfl, hf', hl', hcap', hrow'⟩ := hv'.mk'
    have hb := ((Below.refl w.heap.size w).alloc (Nat.le_refl _) (.cells #[.int .i8 k, .int .i64 n, .string s, .string u, .slice ao l.length cap] 47)).alloc (by simp) (.cells #[.int .i8 k', .int .i64 n', .string s', .string u', .slice ao' l'.length cap'] 47)
    have n1 := heap_old (heap_new w (.cells #[.int .i8 k, .int .i64 n, .string s, .string u, .slice ao l.length cap] 47)) (.cells #[.int .i8 k', .int .i64 n', .string s', .string u', .slice ao' l'.length cap'] 47)
    have n2 := heap_new (w.alloc (.cells #[.int .i8 k, .int .i64 n, .string s, .string u, .slice ao l.length cap] 47)) (.cells #[.int .i8 k', .int .i64 n', .string s', .string u', .slice ao' l'.length cap'] 47)
    rw [World.size_alloc] at n2
    have HB := Lib.hid hb
    have HROW := Lib.hid (And.intro (hrow.keep hb) (hrow'.keep hb))
    have HIH := Lib.hid ih
    have HN1 := Lib.hid n1
    have HN2 := Lib.hid n2
    have hE : eqT (.mk k n s u l) (.mk k' n' s' u' l') = (decide (k = k') && (decide (n = n') && (decide (s = s') && (decide (u = u') && (decide (l.length = l'.length) && eqL l l'))))) := by rw [eqT]
    generalize eqT (.mk k n s u l) (.mk k' n' s' u' l') = res at *
    have HE0 := Lib.hid hE
    clear hE
    clear hv hv' hrow hrow' hb n1 n2 ih hf hf'
    by_cases h1 : k = k'
    · subst h1
      have d1 : (k != k) = false := by simp
      by_cases h1 : n = n'
      · subst h1
        have d2 : (n != n) = false := by simp
        by_cases h1 : s = s'
        · subst h1
          by_cases h1 : u = u'
          · subst h1
            by_cases h1 : l.length = l'.length
            · have d5 : ((l.length : Int) != (l'.length : Int)) = false := by simp [h1]
              have HE : Hid (res = eqL l l') := Lib.hid (by rw [HE0.out]; simp [h1])
              have HLL := Lib.hid h1
              clear h1 HE0
              go_enter Tryd.func45, Tryd.ntmps45
              go_wp2_with fail
              generalize (w.alloc (.cells #[.int .i8 k, .int .i64 n, .string s, .string u, .slice ao l.length cap] 47)).alloc (.cells #[.int .i8 k, .int .i64 n, .string s, .string u, .slice ao' l'.length cap'] 47) = W0 at *
              go_loopw [5] (fun iv wr => ∃ (i : Nat), i ≤ l.length ∧ iv = .int .i64 i ∧ Hid (Below W0.heap.size W0 wr ∧ eqL (l.drop i) (l'.drop i) = eqL l l'))
                (fun iv _ => l.length - (intOf iv).toNat)
              case atStart => exact ⟨0, by omega, rfl, Lib.hid ⟨Below.refl _ _, rfl⟩⟩
              case round =>
                obtain ⟨i, hi, rfl, HI⟩ := hrel
                have m1 := keep_heap HN1.out HI.out.1
                have m2 := keep_heap HN2.out HI.out.1
                obtain ⟨x4, -⟩ := cells_at m1 4 _ rfl
                obtain ⟨y4, -⟩ := cells_at m2 4 _ rfl
                by_cases hlt : i < l.length
                · obtain ⟨t, ht⟩ : ∃ t, l[i]? = some t := ⟨l[i]'(by omega), List.getElem?_eq_getElem (by omega)⟩
                  obtain ⟨t', ht'⟩ : ∃ t', l'[i]? = some t' := ⟨l'[i]'(by rw [← HLL.out]; omega), List.getElem?_eq_getElem (by rw [← HLL.out]; omega)⟩
                  have hstep := HI.out.2
                  rw [drop_cons ht, drop_cons ht', eqL] at hstep
                  obtain ⟨b1, o1, f', lv, rfl, hf', hn1, hv1⟩ := (HROW.out.1.keep HI.out.1).elem ht
                  obtain ⟨b2, o2, g', lv', rfl, hg', hn2, hv2⟩ := (HROW.out.2.keep HI.out.1).elem ht'
                  have hS : SmS w.heap.size (.slice (some ⟨b1, o1, none⟩) l.length cap) (.slice (some ⟨b2, o2, none⟩) l'.length cap') b1 (o1 + i * 5) b2 (o2 + i * 5) t.k t.n t.s t.u lv t'.k t'.n t'.s t'.u lv' wr.drew :=
                    ⟨x4, y4, hn1.1, hn1.2.1, hn1.2.2.1, hn1.2.2.2.1, hn1.2.2.2.2, hn2.1, hn2.2.1, hn2.2.2.1, hn2.2.2.2.1, hn2.2.2.2.2⟩
                  have hdr : Below wr.heap.size wr wr.drew := (Below.refl _ _).drew
                  have HCALL := Lib.hid (HIH.out f' (by omega) g' t t' _ _ wr.drew (hv1.keep hdr) (hv2.keep hdr))
                  have HBD := Lib.hid (HI.out.1.trans (hdr.mono HI.out.1.size))
                  have HST := Lib.hid hstep
                  have HT := Lib.hid ht
                  have HT' := Lib.hid ht'
                  clear hstep hn1 hn2 hv1 hv2 ht ht' hdr m1 m2
                  go_wp2_with fail
                  have hi1 : i < l.length := (List.getElem?_eq_some_iff.1 HT.out).1
                  have hi2 : i < l'.length := (List.getElem?_eq_some_iff.1 HT'.out).1
                  refine region_plan (SmS w.heap.size (.slice (some ⟨b1, o1, none⟩) l.length cap) (.slice (some ⟨b2, o2, none⟩) l'.length cap') b1 (o1 + i * 5) b2 (o2 + i * 5) t.k t.n t.s t.u lv t'.k t'.n t'.s t'.u lv') [(0, 0), (1, 0), (2, 0), (3, 0), (4, 0), (5, 0), (6, 0), (7, 0), (8, 0), (9, 0), (10, 1), (11, 0)] (by kernel_rfl) (by kernel_rfl) (by kernel_rfl) hS ?_
                  generalize wr.drew = WD at *
                  iterate 10 (first | (refine plan_skip rfl ?_ ?_; (focus (rfl)); (try simp only [Act.put, List.setIfInBounds_toArray, List.set_cons_zero, List.set_cons_succ])) | (refine plan_take (v := ?_) rfl ?_ (fun w hSw => ?_) ?_; rotate_left; (focus (rfl)); (focus (unfold SmS at hSw; (go_simp <;> with_reducible rfl))); (try simp only [Act.put, List.setIfInBounds_toArray, List.set_cons_zero, List.set_cons_succ])))
                  refine plan_run rfl ?_ (fun K hK => ?_)
                  focus (rfl)
                  go_simp
                  refine (HCALL.out).mono ?_
                  rintro e W1 ⟨rfl, hb1⟩
                  have hS1 := hS.keep hb1
                  have HB1 := Lib.hid (HBD.out.trans (hb1.mono HBD.out.size))
                  refine hK.out _ _ hS1 ?_
                  clear hK K 
                  (try simp only [Act.put, List.setIfInBounds_toArray, List.set_cons_zero, List.set_cons_succ])
                  iterate 1 (first | (refine plan_skip rfl ?_ ?_; (focus (rfl)); (try simp only [Act.put, List.setIfInBounds_toArray, List.set_cons_zero, List.set_cons_succ])) | (refine plan_take (v := ?_) rfl ?_ (fun w hSw => ?_) ?_; rotate_left; (focus (rfl)); (focus (unfold SmS at hSw; (go_simp <;> with_reducible rfl))); (try simp only [Act.put, List.setIfInBounds_toArray, List.set_cons_zero, List.set_cons_succ])))
                  refine plan_done ?_
                  clear hS hS1 hb1 x4 y4
                  cases hc : eqT t t'
                  · have HF : Hid (res = false) := Lib.hid (by rw [HE.out, ← HST.out, hc]; rfl)
                    clear hc HST
                    go_wp2_with fail
                    go_ret
                    exact ⟨by rw [HF.out]; rfl, HB.out.trans (HB1.out.mono HB.out.size)⟩
                  · have HF : Hid (eqL (l.drop (i + 1)) (l'.drop (i + 1)) = eqL l l') := Lib.hid (by rw [← HST.out, hc]; rfl)
                    clear hc HST
                    go_wp2_with fail
                    go_roundw
                    case rel => exact ⟨i + 1, by omega, by go_num, Lib.hid ⟨HB1.out, HF.out⟩⟩
                    case measure => simp [intOf]; omega
                · have hil : i = l.length := by omega
                  have HF : Hid (res = true) := Lib.hid (by rw [HE.out, ← HI.out.2, hil, List.drop_length, eqL])
                  clear m1 m2
                  go_wp2_with fail
                  go_ret
                  exact ⟨by rw [HF.out]; rfl, HB.out.trans (HI.out.1.mono HB.out.size)⟩
            · have d5 : ((l.length : Int) != (l'.length : Int)) = true := by simp; omega
              have HE : Hid (res = false) := Lib.hid (by rw [HE0.out]; simp [h1])
              clear h1 HROW HE0
              go_enter Tryd.func45, Tryd.ntmps45
              go_wp2_with fail
              go_ret
              exact ⟨by rw [HE.out]; rfl, HB.out⟩
          · have q1 := str_ne h1
            have HE : Hid (res = false) := Lib.hid (by rw [HE0.out]; simp [h1])
            clear h1 HROW HE0
            go_enter Tryd.func45, Tryd.ntmps45
            go_wp2_with fail
            go_ret
            exact ⟨by rw [HE.out]; rfl, HB.out⟩
        · have q1 := str_ne h1
          have HE : Hid (res = false) := Lib.hid (by rw [HE0.out]; simp [h1])
          clear h1 HROW HE0
          go_enter Tryd.func45, Tryd.ntmps45
          go_wp2_with fail
          go_ret
          exact ⟨by rw [HE.out]; rfl, HB.out⟩
      · have d2 : (n != n') = true := by simp [h1]
        have HE : Hid (res = false) := Lib.hid (by rw [HE0.out]; simp [h1])
        clear h1 HROW HE0
        go_enter Tryd.func45, Tryd.ntmps45
        go_wp2_with fail
        go_ret
        exact ⟨by rw [HE.out]; rfl, HB.out⟩
    · have d1 : (k != k') = true := by simp [h1]
      have HE : Hid (res = false) := Lib.hid (by rw [HE0.out]; simp [h1])
      clear h1 HROW HE0
      go_enter Tryd.func45, Tryd.ntmps45
      go_wp2_with fail
      go_ret
      exact ⟨by rw [HE.out]; rfl, HB.out⟩
end Go.Proofs.YtfbohajojaaiaaaDoor
namespace Go.Proofs.YtfbohajojaaiaaaDoor
open Go.ChangeShapes Go.WideShapes Go.ChangeAt Go.RowKit
set_option linter.unusedVariables false
set_option maxRecDepth 100000
def eqW (x y : Wd) : Bool := decide (x.c = y.c) && (decide (x.a = y.a) && eqT x.t y.t)
theorem eqW_refl (x : Wd) : eqW x x = true := by simp [eqW, eqT_refl]
set_option maxHeartbeats 8000000 in
theorem sameword_any (f g : Nat) (x y : Wd) (w : World) (hx : WOk f w x) (hy : WOk g w y) : Calls Tryd.prog 37 #[x.V, y.V] w (IsPost w (eqW x y)) := by
  have hb := ((Below.refl w.heap.size w).alloc (Nat.le_refl _) (.cells x.cells.toArray 58)).alloc (by simp) (.cells y.cells.toArray 58)
  have HC := Lib.hid (rsame_any f g x.t y.t _ _ _ ((hx.keep hb).term) ((hy.keep hb).term))
  have HB := Lib.hid hb
  have HE0 : Hid (eqW x y = (decide (x.c = y.c) && (decide (x.a = y.a) && eqT x.t y.t))) := Lib.hid rfl
  clear hx hy hb
  generalize eqW x y = res at *
  generalize eqT x.t y.t = te at *
  obtain ⟨xc, xa, xk, xn, xs, xu, xao, xcap, xl⟩ := x
  obtain ⟨yc, ya, yk, yn, ys, yu, yao, ycap, yl⟩ := y
  simp only [Wd.V, Wd.cells] at *
  by_cases h1 : xc = yc
  · subst h1
    have d1 : (xc == xc) = true := by simp
    by_cases h1 : xa = ya
    · subst h1
      have d2 : (xa == xa) = true := by simp
      have HE : Hid (res = te) := Lib.hid (by rw [HE0.out]; simp)
      clear HE0
      go_enter Tryd.func37, Tryd.ntmps37
      go_wp2_with fail
      refine HC.out.mono ?_
      rintro e w2 ⟨rfl, hb2⟩
      have HB2 := Lib.hid (HB.out.trans (hb2.mono HB.out.size))
      clear hb2
      go_wp2_with fail
      go_ret
      exact ⟨by rw [HE.out]; rfl, HB2.out⟩
    · have d2 : (xa == ya) = false := by simp [h1]
      have HE : Hid (res = false) := Lib.hid (by rw [HE0.out]; simp [h1])
      clear HE0
      clear h1
      go_enter Tryd.func37, Tryd.ntmps37
      go_wp2_with fail
      go_ret
      exact ⟨by rw [HE.out]; rfl, HB.out⟩
  · have HE : Hid (res = false) := Lib.hid (by rw [HE0.out]; simp [h1])
    cases xc <;> cases yc <;> first | exact absurd rfl h1 | skip
    all_goals
      clear HE0
      clear h1
      go_enter Tryd.func37, Tryd.ntmps37
      go_wp2_with fail
      go_ret
      exact ⟨by rw [HE.out]; rfl, HB.out⟩
def eqWs (L L2 : List Wd) : Bool := decide (L.length = L2.length) && (L.zip L2).all fun p => eqW p.1 p.2
theorem eqWs_refl (L : List Wd) : eqWs L L = true := by
  simp only [eqWs, decide_true, Bool.true_and, List.all_eq_true]
  intro p hp
  obtain ⟨i, hi⟩ := List.getElem?_of_mem hp
  rw [List.getElem?_zip_eq_some] at hi
  have : p.1 = p.2 := by rw [hi.1] at hi; exact Option.some.inj hi.2
  rw [this]
  exact eqW_refl _
/-- what a round reads -/
def SwS (b1 o1 b2 o2 : Nat) (x y : Wd) (W : World) : Prop :=
  W.cell? ⟨b1, o1, none⟩ = some (.bool x.c) ∧ W.cell? ⟨b1, o1 + 1, none⟩ = some (.int .i64 x.a) ∧ W.cell? ⟨b1, o1 + 2, none⟩ = some (.int .i8 x.k) ∧ W.cell? ⟨b1, o1 + 3, none⟩ = some (.int .i64 x.n) ∧ W.cell? ⟨b1, o1 + 4, none⟩ = some (.string x.s) ∧ W.cell? ⟨b1, o1 + 5, none⟩ = some (.string x.u) ∧ W.cell? ⟨b1, o1 + 6, none⟩ = some (.slice x.ao x.l.length x.cap) ∧
  W.cell? ⟨b2, o2, none⟩ = some (.bool y.c) ∧ W.cell? ⟨b2, o2 + 1, none⟩ = some (.int .i64 y.a) ∧ W.cell? ⟨b2, o2 + 2, none⟩ = some (.int .i8 y.k) ∧ W.cell? ⟨b2, o2 + 3, none⟩ = some (.int .i64 y.n) ∧ W.cell? ⟨b2, o2 + 4, none⟩ = some (.string y.s) ∧ W.cell? ⟨b2, o2 + 5, none⟩ = some (.string y.u) ∧ W.cell? ⟨b2, o2 + 6, none⟩ = some (.slice y.ao y.l.length y.cap)
theorem SwS.keep {b1 o1 b2 o2 : Nat} {x y : Wd} {W W' : World} (h : SwS b1 o1 b2 o2 x y W) (hb : Below W.heap.size W W') : SwS b1 o1 b2 o2 x y W' := by
  obtain ⟨h1, h2, h3, h4, h5, h6, h7, g1, g2, g3, g4, g5, g6, g7⟩ := h
  exact ⟨keep_cell h1 hb, keep_cell h2 hb, keep_cell h3 hb, keep_cell h4 hb, keep_cell h5 hb, keep_cell h6 hb, keep_cell h7 hb, keep_cell g1 hb, keep_cell g2 hb, keep_cell g3 hb, keep_cell g4 hb, keep_cell g5 hb, keep_cell g6 hb, keep_cell g7 hb⟩
theorem sws_of {w : World} {b1 o1 b2 o2 : Nat} {x y : Wd} (h1 : ∀ j u, x.cells[j]? = some u → w.cell? ⟨b1, o1 + j, none⟩ = some u) (h2 : ∀ j u, y.cells[j]? = some u → w.cell? ⟨b2, o2 + j, none⟩ = some u) : SwS b1 o1 b2 o2 x y w :=
  ⟨h1 0 _ rfl, h1 1 _ rfl, h1 2 _ rfl, h1 3 _ rfl, h1 4 _ rfl, h1 5 _ rfl, h1 6 _ rfl, h2 0 _ rfl, h2 1 _ rfl, h2 2 _ rfl, h2 3 _ rfl, h2 4 _ rfl, h2 5 _ rfl, h2 6 _ rfl⟩
set_option maxHeartbeats 8000000 in
theorem samewords_any (f g : Nat) (w : World) (L L2 : List Wd) (ao ao2 : Option Addr) (cap cap2 : Nat) (hr : WRow w ao L) (hr2 : WRow w ao2 L2) (ho : ∀ x ∈ L, WOk f w x) (ho2 : ∀ x ∈ L2, WOk g w x) (hn : L.length ≤ 1099511627776) (hn2 : L2.length ≤ 1099511627776) :
    Calls Tryd.prog 18 #[.slice ao L.length cap, .slice ao2 L2.length cap2] w (IsPost w (eqWs L L2)) := by
  have HR := Lib.hid hr
  have HR2 := Lib.hid hr2
  have HO := Lib.hid ho
  have HO2 := Lib.hid ho2
  clear hr hr2 ho ho2
  by_cases h1 : L.length = L2.length
  · have d1 : ((L.length : Int) != (L2.length : Int)) = false := by simp [h1]
    have HE : Hid (eqWs L L2 = (L.zip L2).all fun p => eqW p.1 p.2) := Lib.hid (by simp [eqWs, h1])
    generalize eqWs L L2 = res at *
    have HLL := Lib.hid h1
    clear h1
    go_enter Tryd.func18, Tryd.ntmps18
    go_wp2_with fail
    go_loopw [13] (fun iv wr => ∃ (i : Nat), i ≤ L.length ∧ iv = .int .i64 i ∧ Hid (Below w.heap.size w wr ∧ ∀ p ∈ (L.zip L2).take i, eqW p.1 p.2 = true))
      (fun iv _ => L.length - (intOf iv).toNat)
    case atStart => exact ⟨0, by omega, rfl, Lib.hid ⟨Below.refl _ _, by simp⟩⟩
    case round =>
      obtain ⟨i, hi, rfl, HI⟩ := hrel
      by_cases hlt : i < L.length
      · obtain ⟨x, hx⟩ : ∃ x, L[i]? = some x := ⟨L[i]'(by omega), List.getElem?_eq_getElem (by omega)⟩
        obtain ⟨y, hy⟩ : ∃ y, L2[i]? = some y := ⟨L2[i]'(by rw [← HLL.out]; omega), List.getElem?_eq_getElem (by rw [← HLL.out]; omega)⟩
        have HX := Lib.hid hx
        have HY := Lib.hid hy
        obtain ⟨b1, o1, rfl, -, hc1⟩ := HR.out.keep HI.out.1 i x hx
        obtain ⟨b2, o2, rfl, -, hc2⟩ := HR2.out.keep HI.out.1 i y hy
        have hS : SwS b1 (o1 + i * 7) b2 (o2 + i * 7) x y wr.drew := sws_of hc1 hc2
        have hdr : Below wr.heap.size wr wr.drew := (Below.refl _ _).drew
        have HBD := Lib.hid (HI.out.1.trans (hdr.mono HI.out.1.size))
        have HCALL := Lib.hid (sameword_any f g x y wr.drew ((HO.out x (List.mem_of_getElem? hx)).keep HBD.out) ((HO2.out y (List.mem_of_getElem? hy)).keep HBD.out))
        have HZ : Hid ((L.zip L2).take (i + 1) = (L.zip L2).take i ++ [(x, y)]) := Lib.hid (by
          rw [List.take_add_one]
          congr 1
          have : (L.zip L2)[i]? = some (x, y) := by rw [List.getElem?_zip_eq_some]; exact ⟨hx, hy⟩
          rw [this]
          rfl)
        have HMEM : Hid ((x, y) ∈ L.zip L2) := Lib.hid (List.mem_of_getElem? (by rw [List.getElem?_zip_eq_some]; exact ⟨hx, hy⟩ : (L.zip L2)[i]? = some (x, y)))
        clear hx hy hc1 hc2 hdr
        go_wp2_with fail
        have hi1 : i < L.length := (List.getElem?_eq_some_iff.1 HX.out).1
        have hi2 : i < L2.length := (List.getElem?_eq_some_iff.1 HY.out).1
        refine region_plan (SwS b1 (o1 + i * 7) b2 (o2 + i * 7) x y) [(0, 0), (1, 0), (2, 0), (3, 0), (4, 0), (5, 0), (6, 0), (7, 0), (8, 1), (9, 0)] (by kernel_rfl) (by kernel_rfl) (by kernel_rfl) hS ?_
        generalize wr.drew = WD at *
        simp only [Wd.V] at HCALL
        iterate 8 (first | (refine plan_skip rfl ?_ ?_; (focus (rfl)); (try simp only [Act.put, List.setIfInBounds_toArray, List.set_cons_zero, List.set_cons_succ])) | (refine plan_take (v := ?_) rfl ?_ (fun w hSw => ?_) ?_; rotate_left; (focus (rfl)); (focus (unfold SwS at hSw; (go_simp <;> with_reducible rfl))); (try simp only [Act.put, List.setIfInBounds_toArray, List.set_cons_zero, List.set_cons_succ])))
        refine plan_run rfl ?_ (fun K hK => ?_)
        focus (rfl)
        go_simp
        refine (HCALL.out).mono ?_
        rintro e W1 ⟨rfl, hb1⟩
        have hS1 := hS.keep hb1
        have HB1 := Lib.hid (HBD.out.trans (hb1.mono HBD.out.size))
        refine hK.out _ _ hS1 ?_
        clear hK K 
        (try simp only [Act.put, List.setIfInBounds_toArray, List.set_cons_zero, List.set_cons_succ])
        iterate 1 (first | (refine plan_skip rfl ?_ ?_; (focus (rfl)); (try simp only [Act.put, List.setIfInBounds_toArray, List.set_cons_zero, List.set_cons_succ])) | (refine plan_take (v := ?_) rfl ?_ (fun w hSw => ?_) ?_; rotate_left; (focus (rfl)); (focus (unfold SwS at hSw; (go_simp <;> with_reducible rfl))); (try simp only [Act.put, List.setIfInBounds_toArray, List.set_cons_zero, List.set_cons_succ])))
        refine plan_done ?_
        clear hS hS1 hb1
        cases hc : eqW x y
        · have HF : Hid (res = false) := Lib.hid (by
            rw [HE.out, List.all_eq_false]
            exact ⟨_, HMEM.out, by rw [hc]; simp⟩)
          clear hc
          go_wp2_with fail
          go_ret
          exact ⟨by rw [HF.out]; rfl, HB1.out⟩
        · have HC := Lib.hid hc
          clear hc
          go_wp2_with fail
          go_roundw
          case rel => exact ⟨i + 1, by omega, by go_num, Lib.hid ⟨HB1.out, fun p hp => by
            rw [HZ.out, List.mem_append] at hp
            rcases hp with hp | hp
            · exact HI.out.2 p hp
            · obtain rfl := List.mem_singleton.1 hp
              exact HC.out⟩⟩
          case measure => simp [intOf]; omega
      · have hil : i = L.length := by omega
        have HF : Hid (res = true) := Lib.hid (by
          rw [HE.out, List.all_eq_true]
          intro p hp
          exact HI.out.2 p (by rw [List.take_of_length_le (by rw [List.length_zip]; omega)]; exact hp))
        go_wp2_with fail
        go_ret
        exact ⟨by rw [HF.out]; rfl, HI.out.1⟩
  · have d1 : ((L.length : Int) != (L2.length : Int)) = true := by simp; omega
    have HE : Hid (eqWs L L2 = false) := Lib.hid (by simp [eqWs, h1])
    generalize eqWs L L2 = res at *
    clear h1
    go_enter Tryd.func18, Tryd.ntmps18
    go_wp2_with fail
    go_ret
    exact ⟨by rw [HE.out]; rfl, Below.refl _ _⟩
end Go.Proofs.YtfbohajojaaiaaaDoor
namespace Go.Proofs.YtfbohajojaaiaaaDoor
open Go.ChangeShapes Go.WideShapes Go.ChangeAt Go.RowKit
set_option linter.unusedVariables false
set_option maxRecDepth 100000
/-- what take reads -/
structure RkC (w0 : World) (base p : Nat) (v : Value) (C : List HC) (W : World) : Prop where
  hp : RHp W base p v C
  hb0 : Below w0.heap.size w0 W
theorem RkC.keep {w0 : World} {base p : Nat} {v : Value} {C : List HC} {W W' : World} (h : RkC w0 base p v C W) (hk : Below W.heap.size W W') : RkC w0 base p v C W' :=
  ⟨h.hp.keep hk, h.hb0.trans (hk.mono h.hb0.size)⟩
theorem rtake1_leaf (w0 : World) (f F base p : Nat) (v : Value) (C : List HC) (x : Wd) (W : World) (h : RkC w0 base p v C W) (hx : WOk f w0 x) (hc : x.c = false) (hF : f ≤ F) :
    Calls Tryd.prog 56 #[.pointer (some ⟨p, 0, none⟩), x.V] W (TkP w0 F x.t W) := by
  obtain ⟨xc, xa, xk, xn, xs, xu, xao, xcap, xl⟩ := x
  dsimp only at hc
  subst hc
  have hb1 := (Below.refl W.heap.size W).alloc (Nat.le_refl _) (.cells #[.bool false, .int .i64 xa, .int .i8 xk, .int .i64 xn, .string xs, .string xu, .slice xao xl.length xcap] 58)
  have hnx := heap_new W (.cells #[.bool false, .int .i64 xa, .int .i8 xk, .int .i64 xn, .string xs, .string xu, .slice xao xl.length xcap] 58)
  have hs1 : (W.alloc (.cells #[.bool false, .int .i64 xa, .int .i8 xk, .int .i64 xn, .string xs, .string xu, .slice xao xl.length xcap] 58)).heap.size = W.heap.size + 1 := by simp
  have HB1 := Lib.hid hb1
  have HR0 := Lib.hid hx.2.2.toS
  have HF := Lib.hid hx.2.1
  have HB0 := Lib.hid h.hb0
  clear h hx hb1
  go_enter Tryd.func56, Tryd.ntmps56
  simp only [Wd.V]
  go_wp2_with (with_reducible refine stop_op (o := ⟨_, .store 47 (.tmp 4) (.tmp 12), _, _, _, _⟩) ?_)
  refine Lib.hid ?_
  have hz := heap_new (W.alloc (.cells #[.bool false, .int .i64 xa, .int .i8 xk, .int .i64 xn, .string xs, .string xu, .slice xao xl.length xcap] 58)) (.cells zT 47)
  rw [hs1] at hz
  have hb2 := HB1.out.alloc HB1.out.size (.cells zT 47)
  have hsz : (W.alloc (.cells #[.bool false, .int .i64 xa, .int .i8 xk, .int .i64 xn, .string xs, .string xu, .slice xao xl.length xcap] 58)).heap.size = W.heap.size + 1 := hs1
  generalize W.alloc (.cells #[.bool false, .int .i64 xa, .int .i8 xk, .int .i64 xn, .string xs, .string xu, .slice xao xl.length xcap] 58) = W1 at *
  refine wpList_store_row (o := ⟨none, _, _, _, _, _⟩) rfl 47 (.tmp 4) (.tmp 12) rfl (W.heap.size + 1) #[.int .i8 xk, .int .i64 xn, .string xs, .string xu, .slice xao xl.length xcap] rfl rfl 47 zT hz (infoTM' _ rfl) rfl (by simp [Value.oneCell']) ?_
  have HX := Lib.hid (setRow_heap _ (W.heap.size + 1) _ #[.int .i8 xk, .int .i64 xn, .string xs, .string xu, .slice xao xl.length xcap] _ _ hz)
  have hc := chg_setRow (W1.alloc (.cells zT 47)) (W.heap.size + 1) #[.int .i8 xk, .int .i64 xn, .string xs, .string xu, .slice xao xl.length xcap]
  have hb3 := hb2.trans (hc.below hb2.size (fun k h => by have h : k = W.heap.size + 1 := h; omega))
  have HFIN : Hid (TkP w0 F (.mk xk xn xs xu xl) W (.returned (.agg #[.int .i8 xk, .int .i64 xn, .string xs, .string xu, .slice xao xl.length xcap])) ((W1.alloc (.cells zT 47)).setRow (W.heap.size + 1) #[.int .i8 xk, .int .i64 xn, .string xs, .string xu, .slice xao xl.length xcap])) := Lib.hid
    ⟨hb3, ⟨xk, xn, xs, xu, xao, xcap, xl⟩, rfl, rfl, HF.out, HR0.out.chg (chg_of_below (HB0.out.trans (hb3.mono HB0.out.size)) (fun _ => False)) (fun _ _ _ h => h) (fun k h _ => .inl h) hF⟩
  clear hz hc hb2 hb3
  generalize (W1.alloc (.cells zT 47)).setRow (W.heap.size + 1) #[.int .i8 xk, .int .i64 xn, .string xs, .string xu, .slice xao xl.length xcap] = W9 at *
  go_wp2_with fail
  exact ret_row1 HX.out rfl Tryd.underlying47 rfl (infoTM' _ rfl) rfl HFIN.out
/-- what region 3 reads -/
def Rk3 (p bx g i : Nat) (v k sz lv : Value) (W : World) : Prop := W.cell? ⟨p, 0, none⟩ = some v ∧ W.cell? ⟨bx, 1, none⟩ = some (.int .i64 i) ∧ W.cell? ⟨g, i * 3, none⟩ = some k ∧ W.cell? ⟨g, i * 3 + 1, none⟩ = some sz ∧ W.cell? ⟨g, i * 3 + 2, none⟩ = some lv
theorem Rk3.keep {p bx g i : Nat} {v k sz lv : Value} {W W' : World} (h : Rk3 p bx g i v k sz lv W) (hk : Below W.heap.size W W') : Rk3 p bx g i v k sz lv W' := by
  obtain ⟨h2, h3, h4, h5, h6⟩ := h
  exact ⟨keep_cell h2 hk, keep_cell h3 hk, keep_cell h4 hk, keep_cell h5 hk, keep_cell h6 hk⟩
/-- what region 8 reads -/
def Rk8 (X Z b o : Nat) (lv sl : Value) (y : Wd) (W : World) : Prop := W.cell? ⟨X, 4, none⟩ = some lv ∧ W.cell? ⟨Z, 2, none⟩ = some sl ∧ W.cell? ⟨b, o, none⟩ = some (.bool y.c) ∧ W.cell? ⟨b, o + 1, none⟩ = some (.int .i64 y.a) ∧ W.cell? ⟨b, o + 2, none⟩ = some (.int .i8 y.k) ∧ W.cell? ⟨b, o + 3, none⟩ = some (.int .i64 y.n) ∧ W.cell? ⟨b, o + 4, none⟩ = some (.string y.s) ∧ W.cell? ⟨b, o + 5, none⟩ = some (.string y.u) ∧ W.cell? ⟨b, o + 6, none⟩ = some (.slice y.ao y.l.length y.cap)
theorem Rk8.keep {X Z b o : Nat} {lv sl : Value} {y : Wd} {W W' : World} (h : Rk8 X Z b o lv sl y W) (hk : Below W.heap.size W W') : Rk8 X Z b o lv sl y W' := by
  obtain ⟨h1, h2, h3, h4, h5, h6, h7, h8, h9⟩ := h
  exact ⟨keep_cell h1 hk, keep_cell h2 hk, keep_cell h3 hk, keep_cell h4 hk, keep_cell h5 hk, keep_cell h6 hk, keep_cell h7 hk, keep_cell h8 hk, keep_cell h9 hk⟩
set_option maxHeartbeats 8000000 in
theorem rtake1_any (w0 : World) (f base p : Nat) (v : Value) (C : List HC) (hO : ∀ c ∈ C, ∀ x ∈ c.l, WOk f w0 x) : ∀ (N : Nat) (x : Wd) (W : World), RkC w0 base p v C W → WOk f w0 x → Low N x → N ≤ C.length →
    Calls Tryd.prog 56 #[.pointer (some ⟨p, 0, none⟩), x.V] W (TkP w0 (f + N) (tkN C N x) W) := by
  intro N
  induction N with
  | zero =>
    intro x W h hx hl _
    cases hc : x.c
    · rw [tkN_leaf C 0 x hc]
      exact rtake1_leaf w0 f _ base p v C x W h hx hc (by omega)
    · have := hl hc
      omega
  | succ N ih =>
    intro x W h hx hl hN
    cases hc : x.c
    · rw [tkN_leaf C _ x hc]
      exact rtake1_leaf w0 f _ base p v C x W h hx hc (by omega)
    · obtain ⟨l1, l2⟩ := hl hc
      obtain ⟨xc, xa, xk, xn, xs, xu, xao, xcap, xl⟩ := x
      dsimp only at hc l1 l2
      subst hc
      obtain ⟨i, rfl⟩ := Int.eq_ofNat_of_zero_le l1
      have hi : i < C.length := by omega
      obtain ⟨c, hcc⟩ : ∃ c, C[i]? = some c := ⟨C[i], by simp [hi]⟩
      rw [tkN_cell C N _ c rfl (by simpa using hcc)]
      obtain ⟨vo, vc, rfl, -, hcm, p0, -, hps, hcell⟩ := h.hp.facts
      obtain ⟨g, rfl, hg⟩ := hcell i c hcc
      have e0 := hg 0 _ rfl
      have e1 := hg 1 _ rfl
      have e2 := hg 2 _ rfl
      simp only [Nat.add_zero] at e0
      have hgs := World.block_lt_of_cell? W _ e0
      have hok := h.hp.2.2.2.2 i c hcc
      have HOK := Lib.hid hok
      have HH := Lib.hid h
      have HCC := Lib.hid hcc
      have HIH := Lib.hid ih
      have HO := Lib.hid hO
      have hb1 := (Below.refl W.heap.size W).alloc (Nat.le_refl _) (.cells #[.bool true, .int .i64 i, .int .i8 xk, .int .i64 xn, .string xs, .string xu, .slice xao xl.length xcap] 58)
      have hnx := heap_new W (.cells #[.bool true, .int .i64 i, .int .i8 xk, .int .i64 xn, .string xs, .string xu, .slice xao xl.length xcap] 58)
      have hs1 : (W.alloc (.cells #[.bool true, .int .i64 i, .int .i8 xk, .int .i64 xn, .string xs, .string xu, .slice xao xl.length xcap] 58)).heap.size = W.heap.size + 1 := by simp
      have hz := heap_new (W.alloc (.cells #[.bool true, .int .i64 i, .int .i8 xk, .int .i64 xn, .string xs, .string xu, .slice xao xl.length xcap] 58)) (.cells zT 47)
      rw [hs1] at hz
      have hb2 := hb1.alloc hb1.size (.cells zT 47)
      have hs2 : ((W.alloc (.cells #[.bool true, .int .i64 i, .int .i8 xk, .int .i64 xn, .string xs, .string xu, .slice xao xl.length xcap] 58)).alloc (.cells zT 47)).heap.size = W.heap.size + 2 := by simp
      have hS3 : Rk3 p W.heap.size g i (.slice (some ⟨g, 0, none⟩) C.length vc) (.int .i8 c.k) (.int .i64 c.sz) (.slice c.lo c.l.length c.lc) ((W.alloc (.cells #[.bool true, .int .i64 i, .int .i8 xk, .int .i64 xn, .string xs, .string xu, .slice xao xl.length xcap] 58)).alloc (.cells zT 47)).drew :=
        ⟨keep_cell p0 (hb2.drew), (cells_at (heap_old hnx (.cells zT 47)) 1 _ rfl).1, keep_cell e0 (hb2.drew), keep_cell e1 (hb2.drew), keep_cell e2 (hb2.drew)⟩
      have HB2 := Lib.hid hb2.drew
      have HZ := Lib.hid (keep_heap hz (Below.refl _ _).drew)
      clear h hx hl hok hcell hg e0 e1 e2 p0 hb1 hnx hb2 hz ih hO hcc
      go_enter Tryd.func56, Tryd.ntmps56
      simp only [Wd.V]
      go_wp2_with fail
      refine region_plan (Rk3 p W.heap.size g i (.slice (some ⟨g, 0, none⟩) C.length vc) (.int .i8 c.k) (.int .i64 c.sz) (.slice c.lo c.l.length c.lc)) [(0, 0), (1, 0), (2, 0), (3, 0), (4, 0), (5, 0), (6, 0), (7, 0), (8, 1), (9, 1)] (by kernel_rfl) (by kernel_rfl) (by kernel_rfl) hS3 ?_
      have hsd : ((W.alloc (.cells #[.bool true, .int .i64 i, .int .i8 xk, .int .i64 xn, .string xs, .string xu, .slice xao xl.length xcap] 58)).alloc (.cells zT 47)).drew.heap.size = W.heap.size + 2 := hs2
      generalize ((W.alloc (.cells #[.bool true, .int .i64 i, .int .i8 xk, .int .i64 xn, .string xs, .string xu, .slice xao xl.length xcap] 58)).alloc (.cells zT 47)).drew = WD at *
      have HSD := Lib.hid hsd
      clear hsd hs1 hs2
      iterate 8 (first | (refine plan_skip rfl ?_ ?_; (focus (rfl)); (try simp only [Act.put, List.setIfInBounds_toArray, List.set_cons_zero, List.set_cons_succ])) | (refine plan_take (v := ?_) rfl ?_ (fun w hSw => ?_) ?_; rotate_left; (focus (rfl)); (focus (unfold Rk3 at hSw; (go_simp <;> with_reducible rfl))); (try simp only [Act.put, List.setIfInBounds_toArray, List.set_cons_zero, List.set_cons_succ])))
      have hba := (Below.refl WD.heap.size WD).alloc (Nat.le_refl _) (.cells #[.int .i8 0, .int .i64 0, .slice none 0 0] 65)
      have hSa := hS3.keep hba
      refine plan_run rfl ?_ (fun K hK => ?_)
      focus (rfl)
      go_simp
      refine hK.out _ _ (hSa) ?_
      clear hK K
      (try simp only [Act.put, List.setIfInBounds_toArray, List.set_cons_zero, List.set_cons_succ])
      have hb5 := (Below.refl WD.heap.size WD).alloc (Nat.le_refl _) (.cells #[.int .i8 c.k, .int .i64 c.sz, .slice c.lo c.l.length c.lc] 65)
      have hSb := hS3.keep hb5
      have hn5 := heap_new WD (.cells #[.int .i8 c.k, .int .i64 c.sz, .slice c.lo c.l.length c.lc] 65)
      refine plan_run rfl ?_ (fun K hK => ?_)
      focus (rfl)
      refine wp_store_row 65 (.tmp 5) (.tmp 20) rfl WD.heap.size #[.int .i8 c.k, .int .i64 c.sz, .slice c.lo c.l.length c.lc] rfl rfl 65 #[.int .i8 0, .int .i64 0, .slice none 0 0] (heap_new WD _) (infoCL' _ rfl) rfl (by simp [Value.oneCell']) ?_
      rw [setRow_alloc]
      refine hK.out _ _ (hSb) ?_
      clear hK K
      (try simp only [Act.put, List.setIfInBounds_toArray, List.set_cons_zero, List.set_cons_succ])
      refine plan_done ?_
      have hsd := HSD.out
      have hs5 : (WD.alloc (.cells #[.int .i8 c.k, .int .i64 c.sz, .slice c.lo c.l.length c.lc] 65)).heap.size = W.heap.size + 3 := by rw [World.size_alloc, hsd]
      have HB5 := Lib.hid (HB2.out.trans (hb5.mono (by omega)))
      have HZ5 := Lib.hid (keep_heap HZ.out hb5)
      obtain ⟨f0, -⟩ := cells_at hn5 0 _ rfl
      obtain ⟨f2, -⟩ := cells_at hn5 2 _ rfl
      have HN5 := Lib.hid hn5
      clear hba hSa hb5 hSb hn5 hS3 HB2 HZ
      rw [hsd] at *
      generalize (WD.alloc (.cells #[.int .i8 c.k, .int .i64 c.sz, .slice c.lo c.l.length c.lc] 65)) = W5 at *
      have HS5 := Lib.hid hs5
      clear hs5
      go_wp2_with (with_reducible refine stop_op (o := ⟨_, .store 47 (.tmp 6) (.tmp 23), _, _, _, _⟩) ?_)
      refine Lib.hid ?_
      refine wpList_store_new (o := ⟨none, _, _, _, _, _⟩) rfl 47 (.tmp 6) (.tmp 23) rfl #[.int .i8 c.k, .int .i64 0, .string ⟨#[]⟩, .string ⟨#[]⟩, .slice none 0 0] rfl rfl (infoTM' _ rfl) rfl (by simp [Value.oneCell']) ?_
      have hb6 := (Below.refl W5.heap.size W5).alloc (Nat.le_refl _) (.cells #[.int .i8 c.k, .int .i64 0, .string ⟨#[]⟩, .string ⟨#[]⟩, .slice none 0 0] 47)
      have hn6 := heap_new W5 (.cells #[.int .i8 c.k, .int .i64 0, .string ⟨#[]⟩, .string ⟨#[]⟩, .slice none 0 0] 47)
      have hI0 : TkI w0 W (f + N) (W.heap.size + 1) W5.heap.size 0 c.k (.slice none 0 0) [] (W5.alloc (.cells #[.int .i8 c.k, .int .i64 0, .string ⟨#[]⟩, .string ⟨#[]⟩, .slice none 0 0] 47)) :=
        ⟨HB5.out.trans (hb6.mono HB5.out.size), hn6, keep_heap HZ5.out hb6, World.ownsRow_nil _ _ _ _, fun x hx => by cases hx⟩
      rw [HS5.out] at hI0
      have HI0 := Lib.hid hI0
      have f2' := keep_cell f2 hb6
      obtain ⟨ao', cap', e', -, -, hrw, hno⟩ := own_wrow (HH.out.hp.2.2.1.2 c (List.mem_of_getElem? HCC.out))
      injection e' with e1' e2' e3'
      subst e1' e3'
      have HRW := Lib.hid hrw
      have hl6 := heap_lt (keep_heap HN5.out hb6)
      have hcl : c.l.length ≤ 255 := HOK.out.2.2.2.1
      have HZB := Lib.hid (keep_heap HN5.out hb6)
      clear hb6 hn6 hI0 hrw hno e2' f0 f2 HB5 HZ5 HN5
      have hs5 := HS5.out
      have hzb := HZB.out
      try rw [HSD.out] at hzb
      rw [hs5] at *
      generalize W5.alloc (.cells #[.int .i8 c.k, .int .i64 0, .string ⟨#[]⟩, .string ⟨#[]⟩, .slice none 0 0] 47) = W6 at *
      go_wp2_with fail
      have HZC := Lib.hid hzb
      clear hzb HZB
      go_loopw [7] (fun iv wr => ∃ (j : Nat) (lv : Value) (E : List TE), j ≤ c.l.length ∧ iv = .int .i64 j ∧ Hid ((TkI w0 W (f + N) (W.heap.size + 1) (W.heap.size + 3) j c.k lv E wr ∧ wr.heap[W.heap.size + 2]? = some (Obj.cells #[.int .i8 c.k, .int .i64 c.sz, .slice c.lo c.l.length c.lc] 65 (0, 0))) ∧ E.length = j ∧ E.map TE.t = (c.l.take j).map (tkN C N)))
        (fun iv _ => c.l.length - (intOf iv).toNat)
      case atStart => exact ⟨0, _, [], by omega, rfl, Lib.hid ⟨⟨HI0.out, HZC.out⟩, rfl, rfl⟩⟩
      case round =>
        clear HI0 f2' hl6 HZC
        obtain ⟨j, lv, E, hj', rfl, HI⟩ := hrel
        obtain ⟨z2, -⟩ := cells_at HI.out.1.2 2 _ rfl
        have hzl := heap_lt HI.out.1.2
        by_cases hlt : j < c.l.length
        · obtain ⟨y, hy⟩ : ∃ y, c.l[j]? = some y := ⟨c.l[j], by simp [hlt]⟩
          have hym := List.mem_of_getElem? hy
          have HLO := Lib.hid (low_part HH.out.hp.2.2.2 HCC.out hym)
          have HYO := Lib.hid (HO.out c (List.mem_of_getElem? HCC.out) y hym)
          have HY := Lib.hid hy
          have hdy : Below wr.heap.size wr wr.drew := (Below.refl _ _).drew
          have hIy := HI.out.1.1.keep hdy
          obtain ⟨b', off, elo, hbs, hcx⟩ := HRW.out.keep hIy.hb j y hy
          have hTy := HH.out.keep hIy.hb
          have hY := keep_heap HI.out.1.2 hdy
          have hS8 : Rk8 (W.heap.size + 3) (W.heap.size + 2) b' (off + j * 7) lv (.slice c.lo c.l.length c.lc) y wr.drew :=
            ⟨(cells_at hIy.hX 4 _ rfl).1, (cells_at hY 2 _ rfl).1, hcx 0 _ rfl, hcx 1 _ rfl, hcx 2 _ rfl, hcx 3 _ rfl, hcx 4 _ rfl, hcx 5 _ rfl, hcx 6 _ rfl⟩
          have hcall := HIH.out y wr.drew hTy HYO.out (fun h => by have := HLO.out h; omega) (by omega)
          have HCALL := Lib.hid hcall
          have HIY := Lib.hid hIy
          have HYY := Lib.hid hY
          have hww := HI.out.1.1.hb.size
          have hX3 := heap_lt HI.out.1.1.hX
          have HBX : Hid (∀ W', Below wr.drew.heap.size wr.drew W' → Rk8 (W.heap.size + 3) (W.heap.size + 2) b' (off + j * 7) lv (.slice c.lo c.l.length c.lc) y W') := Lib.hid (fun W' h => hS8.keep h)
          have HCX : Hid (∀ q u, y.cells[q]? = some u → wr.drew.cell? ⟨b', off + j * 7 + q, none⟩ = some u) := Lib.hid hcx
          have HBB : Hid (b' < wr.drew.heap.size) := Lib.hid hbs
          have hwd : wr.drew.heap.size = wr.heap.size := rfl
          have HOWN := Lib.hid (HH.out.hp.2.2.1.2 c (List.mem_of_getElem? HCC.out))
          have hbW : b' < W.heap.size := by
            obtain ⟨b2, o2, e2, h2, -⟩ := HRW.out j y hy
            rw [elo] at e2
            injection e2 with e2
            injection e2 with e2 _
            omega
          have HWD := Lib.hid hwd
          obtain ⟨yc, ya, yk, yn, ys, yu, yao, ycap, yl⟩ := y
          rw [elo] at *
          clear hdy hIy hTy hY hcall hcx hwd hy hym hbs
          simp only [Wd.cells, Wd.V] at *
          go_wp2_with fail
          have hlt2 : j < c.l.length := (List.getElem?_eq_some_iff.1 HY.out).1
          refine region_planZ 12 (Rk8 (W.heap.size + 3) (W.heap.size + 2) b' (off + j * 7) lv (.slice (some ⟨b', off, none⟩) c.l.length c.lc) ⟨yc, ya, yk, yn, ys, yu, yao, ycap, yl⟩) [(0, 0), (1, 0), (2, 0), (3, 0), (4, 0), (5, 0), (6, 0), (7, 0), (8, 1), (9, 1), (10, 1), (11, 0), (12, 1)] (by kernel_rfl) (by kernel_rfl) (by kernel_rfl) hS8 ?_
          generalize wr.drew = WD at *
          iterate 8 (first | (refine planZ_skip rfl ?_ ?_; (focus (rfl)); (try simp only [Act.put, List.setIfInBounds_toArray, List.set_cons_zero, List.set_cons_succ])) | (refine planZ_take (v := ?_) rfl ?_ (fun w hSw => ?_) ?_; rotate_left; (focus (rfl)); (focus (unfold Rk8 at hSw; (go_simp <;> with_reducible rfl))); (try simp only [Act.put, List.setIfInBounds_toArray, List.set_cons_zero, List.set_cons_succ])))
          obtain ⟨i0, z0, q1, q2, q3, q4, q5⟩ := infoTM2
          refine planZ_run rfl ?_ (fun K hK => ?_)
          focus (rfl)
          go_simp
          refine (HCALL.out).mono ?_
          rintro e W8 ⟨hb8, te, rfl, hte, hfe, hre⟩
          have hS9 := hS8.keep hb8
          refine hK.out _ _ (fun _ => hS9) ?_
          clear hK K 
          (try simp only [Act.put, List.setIfInBounds_toArray, List.set_cons_zero, List.set_cons_succ])
          have hbt := (Below.refl W8.heap.size W8).alloc (Nat.le_refl _) (.cells te.cells.toArray 47)
          have hSt : Rk8 (W.heap.size + 3) (W.heap.size + 2) b' (off + j * 7) lv (.slice (some ⟨b', off, none⟩) c.l.length c.lc) ⟨yc, ya, yk, yn, ys, yu, yao, ycap, yl⟩ (W8.alloc (.cells te.cells.toArray 47)) := hS9.keep hbt
          refine planZ_run rfl ?_ (fun K hK => ?_)
          focus (rfl)
          go_simp
          refine hK.out _ _ (fun _ => hSt) ?_
          clear hK K
          (try simp only [Act.put, List.setIfInBounds_toArray, List.set_cons_zero, List.set_cons_succ])
          have hIt := (HIY.out.keep hb8).keep hbt
          have hYt := keep_heap (keep_heap HYY.out hb8) hbt
          have hnt := heap_new W8 (.cells te.cells.toArray 47)
          have hret := hre.chg (S' := fun b => b < w0.heap.size ∨ WD.heap.size ≤ b) (chg_of_below hbt (fun _ => False)) (fun _ _ _ h => h) (fun _ h _ => h) (Nat.le_refl _)
          have hs8 := hb8.size
          have hst : (W8.alloc (.cells te.cells.toArray 47)).heap.size = W8.heap.size + 1 := by simp
          have hWD := HWD.out
          have hEl : E.length ≤ 255 := by have := HI.out.2.1; omega
          have hown8 : ∀ j, lv.ownBlock = some j → j < WD.heap.size := own_lt HIY.out.hE.1 (Nat.le_refl _)
          simp only [TE.cells] at hbt hSt hIt hYt hnt hret hst
          have HNT := Lib.hid hnt
          generalize hWT : (W8.alloc (.cells #[.int .i8 te.k, .int .i64 te.n, .string te.s, .string te.u, .slice te.ao te.l.length te.cap] 47)) = WT at *
          refine planZ_run rfl ?_ (fun K hK => ?_)
          focus (rfl)
          refine op_append_any (.tmp 32) (.tmp 40) 45 rfl (W.heap.size + 3 + 1) 47 i0 z0 5 72 Tryd.underlying45 q1 q2 q3 q4 q5 (by decide) lv E.length (tcs E) rfl hIt.hE.1 (some ⟨W8.heap.size, 0, none⟩) 1 1 te.cells rfl rfl (fun e => by cases e) (fun ad e j u hj => by
            injection e with e
            subst e
            rw [Addr.add_lit, Nat.zero_add]
            exact (cells_at HNT.out j u (by simpa [TE.cells] using hj)).1) (by simp [TE.cells, Value.oneCell']) (by unfold maxLen; omega) (by omega) (by omega) ?_
          intro v9 W9 hown9 hg9 hwh9
          obtain ⟨uo, uc, rfl⟩ := own_slice hown9
          have hpush := TkI.push hIt hfe hret hown8 (by omega) (by omega) hown9 hg9 hwh9 HH.out.hb0.size (by omega) (by omega)
          have hc9 := chg_grown hg9
          have hob9 := own_type hIt.hE.1
          have hobl := own_base hIt.hE.1
          have hX9 := hc9.heap hIt.hX (fun e => by have := hobl _ e.symm; omega)
          have hY9 := hc9.heap hYt (fun e => by
            obtain ⟨cur, hcur⟩ := hob9 _ e.symm
            rw [hYt] at hcur
            cases hcur)
          have hS10 : Rk8 (W.heap.size + 3) (W.heap.size + 2) b' (off + j * 7) lv (.slice (some ⟨b', off, none⟩) c.l.length c.lc) ⟨yc, ya, yk, yn, ys, yu, yao, ycap, yl⟩ W9 := by
            have hnb : ¬ (some b' = lv.ownBlock) := fun e => by have := hobl _ e.symm; omega
            obtain ⟨-, -, g0, g1, g2, g3, g4, g5, g6⟩ := hSt
            exact ⟨(cells_at hX9 4 _ rfl).1, (cells_at hY9 2 _ rfl).1, hc9.cell g0 hnb, hc9.cell g1 hnb, hc9.cell g2 hnb, hc9.cell g3 hnb, hc9.cell g4 hnb, hc9.cell g5 hnb, hc9.cell g6 hnb⟩
          refine hK.out _ _ (fun _ => hS10) ?_
          clear hK K
          (try simp only [Act.put, List.setIfInBounds_toArray, List.set_cons_zero, List.set_cons_succ])
          iterate 1 (first | (refine planZ_skip rfl ?_ ?_; (focus (rfl)); (try simp only [Act.put, List.setIfInBounds_toArray, List.set_cons_zero, List.set_cons_succ])) | (refine planZ_take (v := ?_) rfl ?_ (fun w hSw => ?_) ?_; rotate_left; (focus (rfl)); (focus (unfold Rk8 at hSw; (go_simp <;> with_reducible rfl))); (try simp only [Act.put, List.setIfInBounds_toArray, List.set_cons_zero, List.set_cons_succ])))
          obtain ⟨a0, a0f⟩ := cells_at hX9 4 _ rfl
          have hxl9 := heap_lt hX9
          have hcs := chg_set (w := W9) (p := ⟨W.heap.size + 3, 4, none⟩) (.slice uo (E.length + 1) uc)
          have hY10 := hcs.heap hY9 (fun e => by have e : W.heap.size + 2 = W.heap.size + 3 := e; omega)
          refine planZ_run rfl ?_ (fun K hK => ?_)
          focus (rfl)
          go_simp
          refine hK.out _ _ (fun h => absurd rfl h) ?_
          clear hK K
          (try simp only [Act.put, List.setIfInBounds_toArray, List.set_cons_zero, List.set_cons_succ])
          refine planZ_done ?_
          have HFIN : Hid ((TkI w0 W (f + N) (W.heap.size + 1) (W.heap.size + 3) (j + 1) c.k (.slice uo (E.length + 1) uc) (E ++ [te]) (W9.setCell ⟨W.heap.size + 3, 4, none⟩ (.slice uo (E.length + 1) uc)) ∧ (W9.setCell ⟨W.heap.size + 3, 4, none⟩ (.slice uo (E.length + 1) uc)).heap[W.heap.size + 2]? = some (Obj.cells #[.int .i8 c.k, .int .i64 c.sz, .slice (some ⟨b', off, none⟩) c.l.length c.lc] 65 (0, 0))) ∧ (E ++ [te]).length = j + 1 ∧ (E ++ [te]).map TE.t = (c.l.take (j + 1)).map (tkN C N)) := Lib.hid ⟨⟨hpush, hY10⟩, by simp [HI.out.2.1], by rw [List.map_append, HI.out.2.2, List.take_add_one, HY.out, List.map_append]; simp [hte]⟩
          clear hpush hc9 hob9 hX9 hY9 hY10 hcs hS10 a0 a0f hxl9 hown9 hg9 hwh9 hIt hYt hnt hret hs8 hst hWD hown8 hbt hSt hS9 hS8 hb8 hre hfe hte hobl
          go_wp2_with fail
          go_roundw
          case rel => exact ⟨j + 1, _, E ++ [te], by omega, by go_num, HFIN⟩
          case measure => simp [intOf]; omega
        · obtain rfl : j = c.l.length := by omega
          rw [List.take_length] at HI
          obtain ⟨x0, -⟩ := cells_at HI.out.1.1.hX 0 _ rfl
          obtain ⟨x1, -⟩ := cells_at HI.out.1.1.hX 1 _ rfl
          obtain ⟨x2, -⟩ := cells_at HI.out.1.1.hX 2 _ rfl
          obtain ⟨x3, -⟩ := cells_at HI.out.1.1.hX 3 _ rfl
          obtain ⟨x4, -⟩ := cells_at HI.out.1.1.hX 4 _ rfl
          obtain ⟨la, lc, elv, l1, l2, l3⟩ := HI.out.1.1.hE.row (fun k h => .inr (by omega))
          have hlen : (E.map TE.t).length = c.l.length := by rw [HI.out.2.2]; simp
          rw [hlen] at elv
          have hz := HI.out.1.1.hr
          have HRS := Lib.hid (HI.out.1.1.hE.row (fun k h => .inr (by omega)))
          have hrl := heap_lt hz
          have hc := chg_setRow wr (W.heap.size + 1) #[.int .i8 c.k, .int .i64 0, .string ⟨#[]⟩, .string ⟨#[]⟩, .slice la c.l.length lc]
          have HX := Lib.hid (setRow_heap _ (W.heap.size + 1) _ #[.int .i8 c.k, .int .i64 0, .string ⟨#[]⟩, .string ⟨#[]⟩, .slice la c.l.length lc] _ _ hz)
          have hw0 := HH.out.hb0.size
          have HFIN : Hid (TkP w0 (f + (N + 1)) (.mk c.k 0 ⟨#[]⟩ ⟨#[]⟩ (c.l.map (tkN C N))) W (.returned (.agg #[.int .i8 c.k, .int .i64 0, .string ⟨#[]⟩, .string ⟨#[]⟩, .slice la c.l.length lc])) (wr.setRow (W.heap.size + 1) #[.int .i8 c.k, .int .i64 0, .string ⟨#[]⟩, .string ⟨#[]⟩, .slice la c.l.length lc])) := Lib.hid (by
            have hk : -128 ≤ c.k ∧ c.k ≤ 127 := by
              have := HOK.out.1
              simp only [partsB, Bool.or_eq_true, decide_eq_true_eq] at this
              omega
            refine ⟨HI.out.1.1.hb.trans (hc.below HI.out.1.1.hb.size (fun k h => by have h : k = W.heap.size + 1 := h; omega)), ⟨c.k, 0, ⟨#[]⟩, ⟨#[]⟩, la, lc, c.l.map (tkN C N)⟩, by simp, rfl, ⟨hk, by simp, Nat.zero_le _, Nat.zero_le _⟩, ?_⟩
            have h9 := HRS.out.chg (S' := fun b => b < w0.heap.size ∨ W.heap.size ≤ b) hc (fun b hb _ e => by
              have e : b = W.heap.size + 1 := e
              have hb : b < w0.heap.size ∨ W.heap.size + 3 < b := hb
              omega) (fun b hb _ => by
              have hb : b < w0.heap.size ∨ W.heap.size + 3 < b := hb
              show b < w0.heap.size ∨ W.heap.size ≤ b
              omega) (Nat.le_refl _)
            rw [HI.out.2.2, elv] at h9
            simp only [TE.lv, List.length_map]
            exact h9)
          subst elv
          clear hc l3
          go_wp2_with (with_reducible refine stop_op (o := ⟨_, .store 47 (.tmp 4) (.tmp 43), _, _, _, _⟩) ?_)
          refine Lib.hid ?_
          refine wpList_store_row (o := ⟨none, _, _, _, _, _⟩) rfl 47 (.tmp 4) (.tmp 43) rfl (W.heap.size + 1) #[.int .i8 c.k, .int .i64 0, .string ⟨#[]⟩, .string ⟨#[]⟩, .slice la c.l.length lc] rfl rfl 47 zT hz (infoTM' _ rfl) rfl (by simp [Value.oneCell']) ?_
          generalize wr.setRow (W.heap.size + 1) #[.int .i8 c.k, .int .i64 0, .string ⟨#[]⟩, .string ⟨#[]⟩, .slice la c.l.length lc] = W9 at *
          go_wp2_with fail
          exact ret_row1 HX.out rfl Tryd.underlying47 rfl (infoTM' _ rfl) rfl HFIN.out
set_option maxHeartbeats 8000000 in
theorem rtake_any (w0 : World) (f base p : Nat) (v : Value) (C : List HC) (x : Wd) (W : World) (hO : ∀ c ∈ C, ∀ x ∈ c.l, WOk f w0 x) (hp : RHp W base p v C) (hx : WOk f w0 x) (hpu : Pure x) (hb0 : Below w0.heap.size w0 W) :
    Calls Tryd.prog 44 #[.pointer (some ⟨p, 0, none⟩), x.V] W (TakeP w0 (f + C.length) C x W) := by
  have hb3 : Below W.heap.size W ((W.alloc (.cells x.cells.toArray 58)).alloc (.cells zT 47)) := ((Below.refl W.heap.size W).alloc (Nat.le_refl _) _).alloc (by simp) _
  have hs3 : ((W.alloc (.cells x.cells.toArray 58)).alloc (.cells zT 47)).heap.size = W.heap.size + 2 := by simp
  have n1 := heap_old (heap_new W (.cells x.cells.toArray 58)) (.cells zT 47)
  have n2 := heap_new (W.alloc (.cells x.cells.toArray 58)) (.cells zT 47)
  simp only [World.size_alloc] at n1 n2
  have HM := Lib.hid (rmay_any f _ base p v C x (hp.keep hb3) (hx.keep (hb0.trans (hb3.mono hb0.size))) hpu)
  have HP := Lib.hid hp
  have HO := Lib.hid hO
  have HX := Lib.hid hx
  have HB0 := Lib.hid hb0
  have HB3 := Lib.hid hb3
  have N1 := Lib.hid n1
  have N2 := Lib.hid n2
  clear hp hO hb0 hb3 n1 n2 hs3 hpu
  obtain ⟨xc, xa, xk, xn, xs, xu, xao, xcap, xl⟩ := x
  simp only [Wd.V, Wd.cells] at *
  go_enter Tryd.func44, Tryd.ntmps44
  go_wp2_with fail
  generalize (W.alloc (.cells #[.bool xc, .int .i64 xa, .int .i8 xk, .int .i64 xn, .string xs, .string xu, .slice xao xl.length xcap] 58)).alloc (.cells zT 47) = W3 at *
  refine HM.out.mono ?_
  rintro e W4 ⟨rfl, hb4⟩
  have HB4 := Lib.hid (HB3.out.trans (hb4.mono HB3.out.size))
  have HN1 := Lib.hid (keep_heap N1.out hb4)
  have HN2 := Lib.hid (keep_heap N2.out hb4)
  clear hb4 N1 N2 HM HB3
  cases hm : mayW C.length ⟨xc, xa, xk, xn, xs, xu, xao, xcap, xl⟩
  · have HMM := Lib.hid hm
    clear hm
    go_wp2_with (with_reducible refine stop_op (o := ⟨_, .store 47 (.tmp 4) (.tmp 10), _, _, _, _⟩) ?_)
    refine Lib.hid ?_
    refine wpList_store_row (o := ⟨none, _, _, _, _, _⟩) rfl 47 (.tmp 4) (.tmp 10) rfl (W.heap.size + 1) zT rfl rfl 47 zT HN2.out (infoTM' _ rfl) rfl (by simp [Value.oneCell']) ?_
    rw [setRow_self _ _ _ _ _ HN2.out]
    go_wp2_with fail
    exact ret_row HN2.out rfl Tryd.underlying47 rfl (infoTM' _ rfl) rfl rfl ⟨HB4.out, .inr ⟨HMM.out, rfl⟩⟩
  · have HMM := Lib.hid hm
    clear hm
    obtain ⟨x0, -⟩ := cells_at HN1.out 0 _ rfl
    obtain ⟨x1, -⟩ := cells_at HN1.out 1 _ rfl
    obtain ⟨x2, -⟩ := cells_at HN1.out 2 _ rfl
    obtain ⟨x3, -⟩ := cells_at HN1.out 3 _ rfl
    obtain ⟨x4, -⟩ := cells_at HN1.out 4 _ rfl
    obtain ⟨x5, -⟩ := cells_at HN1.out 5 _ rfl
    obtain ⟨x6, -⟩ := cells_at HN1.out 6 _ rfl
    have hl1 := heap_lt HN1.out
    have hlow : Low C.length ⟨xc, xa, xk, xn, xs, xu, xao, xcap, xl⟩ := fun h => by
      have := HMM.out
      simp only [mayW] at this
      rw [if_pos h] at this
      simp only [Bool.and_eq_true, decide_eq_true_eq] at this
      exact ⟨this.1, this.2.1⟩
    have hT : RkC w0 base p v C W4 := ⟨HP.out.keep HB4.out, HB0.out.trans (HB4.out.mono HB0.out.size)⟩
    have HC := Lib.hid (rtake1_any w0 f base p v C HO.out C.length ⟨xc, xa, xk, xn, xs, xu, xao, xcap, xl⟩ W4 hT HX.out hlow (Nat.le_refl _))
    simp only [Wd.V] at HC
    clear hlow hT
    go_wp2_with fail
    refine HC.out.mono ?_
    rintro e W6 ⟨hb6, te, rfl, hte, hfe, hre⟩
    have hz := keep_heap HN2.out hb6
    have hB6 := HB4.out.trans (hb6.mono HB4.out.size)
    have hc := chg_setRow W6 (W.heap.size + 1) #[.int .i8 te.k, .int .i64 te.n, .string te.s, .string te.u, .slice te.ao te.l.length te.cap]
    have HXX := Lib.hid (setRow_heap _ (W.heap.size + 1) _ #[.int .i8 te.k, .int .i64 te.n, .string te.s, .string te.u, .slice te.ao te.l.length te.cap] _ _ hz)
    have h5 := HB4.out.size
    have h25 := heap_lt HN2.out
    have hw0 := HB0.out.size
    have HFIN : Hid (TakeP w0 (f + C.length) C ⟨xc, xa, xk, xn, xs, xu, xao, xcap, xl⟩ W (.returned (.tuple #[.agg #[.int .i8 te.k, .int .i64 te.n, .string te.s, .string te.u, .slice te.ao te.l.length te.cap], .int .i64 0])) (W6.setRow (W.heap.size + 1) #[.int .i8 te.k, .int .i64 te.n, .string te.s, .string te.u, .slice te.ao te.l.length te.cap])) := Lib.hid
      ⟨hB6.trans (hc.below hB6.size (fun k h => by have h : k = W.heap.size + 1 := h; omega)), .inl ⟨HMM.out, te, rfl, hte, hfe, hre.chg hc (fun b hb _ e => by
        have e : b = W.heap.size + 1 := e
        have hb : b < w0.heap.size ∨ W4.heap.size ≤ b := hb
        omega) (fun b hb _ => by
        have hb : b < w0.heap.size ∨ W4.heap.size ≤ b := hb
        show b < w0.heap.size ∨ W.heap.size ≤ b
        omega) (Nat.le_refl _)⟩⟩
    clear hc hre hb6 hB6 hte hfe x0 x1 x2 x3 x4 x5 x6
    go_wp2_with (with_reducible refine stop_op (o := ⟨_, .store 47 (.tmp 4) (.tmp 13), _, _, _, _⟩) ?_)
    refine Lib.hid ?_
    refine wpList_store_row (o := ⟨none, _, _, _, _, _⟩) rfl 47 (.tmp 4) (.tmp 13) rfl (W.heap.size + 1) #[.int .i8 te.k, .int .i64 te.n, .string te.s, .string te.u, .slice te.ao te.l.length te.cap] rfl rfl 47 zT hz (infoTM' _ rfl) rfl (by simp [Value.oneCell']) ?_
    generalize W6.setRow (W.heap.size + 1) #[.int .i8 te.k, .int .i64 te.n, .string te.s, .string te.u, .slice te.ao te.l.length te.cap] = W9 at *
    go_wp2_with fail
    exact ret_row HXX.out rfl Tryd.underlying47 rfl (infoTM' _ rfl) rfl rfl HFIN.out
end Go.Proofs.YtfbohajojaaiaaaDoor
