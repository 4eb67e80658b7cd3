/- terms: order, Compare. Conditions: the table of letters reads as laid (Compare); the terms read. -/
/- collect: Same. Conditions: the table of letters reads as laid; what comes reads. -/
/- what a collection keeps, in plain Lean. No conditions. -/
import Derived.Test.YtfbohajojaaiaaaDoorW2
import Derived.Test.YtfbohajojaaiaaaDoorTf
import Derived.Test.YtfbohajojaaiaaaDoorHi
import Derived.Test.YtfbohajojaaiaaaDoorHm
namespace Go.Proofs.YtfbohajojaaiaaaDoor
open Go.ChangeShapes Go.WideShapes Go.ChangeAt Go.RowKit
set_option linter.unusedVariables false
set_option maxRecDepth 100000
mutual
def ord : Tm → Tm → Int
  | .mk k n s u l, .mk k' n' s' u' l' => if k = k' then orL [cmpI l.length l'.length, cmpS s s', cmpS u u', cmpI n n', ordL l l'] else cmpI k k'
def ordL : List Tm → List Tm → Int
  | [], [] => 0
  | [], _ :: _ => -1
  | _ :: _, [] => 1
  | a :: l, b :: l' => if ord a b = 0 then ordL l l' else ord a b
end
theorem ordL_end {l l' : List Tm} {i : Nat} (h : i = min l.length l'.length) : ordL (l.drop i) (l'.drop i) = cmpI l.length l'.length := by
  unfold cmpI
  rcases Nat.lt_trichotomy l.length l'.length with h1 | h1 | h1
  · rw [if_pos (by omega), show l.drop i = [] from List.drop_eq_nil_of_le (by omega)]
    cases h2 : l'.drop i with
    | nil => have := congrArg List.length h2; rw [List.length_drop] at this; simp at this; omega
    | cons b r => rw [ordL]
  · rw [if_neg (by omega), if_neg (by omega), show l.drop i = [] from List.drop_eq_nil_of_le (by omega), show l'.drop i = [] from List.drop_eq_nil_of_le (by omega), ordL]
  · rw [if_neg (by omega), if_pos (by omega), show l'.drop i = [] from List.drop_eq_nil_of_le (by omega)]
    cases h2 : l.drop i with
    | nil => have := congrArg List.length h2; rw [List.length_drop] at this; simp at this; omega
    | cons b r => rw [ordL]
/-- what a round of rows reads -/
def RwS (b1 o1 b2 o2 : Nat) (k n : Int) (s u : ByteArray) (lv : Value) (k' n' : Int) (s' u' : ByteArray) (lv' : Value) (W : World) : Prop :=
  W.cell? ⟨b1, o1, none⟩ = some (.int .i8 k) ∧ W.cell? ⟨b1, o1 + 1, none⟩ = some (.int .i64 n) ∧ W.cell? ⟨b1, o1 + 2, none⟩ = some (.string s) ∧ W.cell? ⟨b1, o1 + 3, none⟩ = some (.string u) ∧ W.cell? ⟨b1, o1 + 4, none⟩ = some lv ∧
  W.cell? ⟨b2, o2, none⟩ = some (.int .i8 k') ∧ W.cell? ⟨b2, o2 + 1, none⟩ = some (.int .i64 n') ∧ W.cell? ⟨b2, o2 + 2, none⟩ = some (.string s') ∧ W.cell? ⟨b2, o2 + 3, none⟩ = some (.string u') ∧ W.cell? ⟨b2, o2 + 4, none⟩ = some lv'
theorem RwS.keep {b1 o1 b2 o2 : Nat} {k n : Int} {s u : ByteArray} {lv : Value} {k' n' : Int} {s' u' : ByteArray} {lv' : Value} {W W' : World} (h : RwS b1 o1 b2 o2 k n s u lv k' n' s' u' lv' W) (hb : Below W.heap.size W W') : RwS b1 o1 b2 o2 k n s u lv k' n' s' u' lv' W' := by
  obtain ⟨h1, h2, h3, h4, h5, h6, h7, h8, h9, h10⟩ := h
  exact ⟨keep_cell h1 hb, keep_cell h2 hb, keep_cell h3 hb, keep_cell h4 hb, keep_cell h5 hb, keep_cell h6 hb, keep_cell h7 hb, keep_cell h8 hb, keep_cell h9 hb, keep_cell h10 hb⟩
set_option maxHeartbeats 4000000 in
theorem rows_any (f g : Nat) (hord : ∀ f', f = f' + 1 → ∀ g' (t t' : Tm) (v v' : Value) (W : World), TermV f' W v t → TermV g' W v' t' → Calls Tryd.prog 55 #[v, v'] W (IntPost W (ord t t'))) (l l' : List Tm) (ao ao' : Option Addr) (cap cap' : Nat) (w : World)
    (h1 : Row f w (.slice ao l.length cap) l) (h2 : Row g w (.slice ao' l'.length cap') l') (hl : l.length ≤ 9223372036854775807) (hl' : l'.length ≤ 9223372036854775807) :
    Calls Tryd.prog 64 #[.slice ao l.length cap, .slice ao' l'.length cap', .func (.func 55) #[] #[]] w (IntPost w (ordL l l')) := by
  have HO := Lib.hid hord
  have H1 := Lib.hid h1
  have H2 := Lib.hid h2
  have hmin : (min (l.length : Int) (l'.length : Int)) = ((min l.length l'.length : Nat) : Int) := by omega
  have HMIN := Lib.hid hmin
  clear hord h1 h2
  go_enter Tryd.func64, Tryd.ntmps64
  go_wp2_with fail
  go_loopw [14] (fun iv wr => ∃ (i : Nat), i ≤ min l.length l'.length ∧ iv = .int .i64 i ∧ Hid (Below w.heap.size w wr ∧ ordL (l.drop i) (l'.drop i) = ordL l l'))
    (fun iv _ => min l.length l'.length - (intOf iv).toNat)
  case atStart => exact ⟨0, by omega, rfl, Lib.hid ⟨Below.refl _ _, rfl⟩⟩
  case round =>
    obtain ⟨i, hi, rfl, HI⟩ := hrel
    by_cases hlt : i < min l.length l'.length
    · have hd : decide ((i : Int) < min (l.length : Int) (l'.length : Int)) = true := by simp; omega
      obtain ⟨t, ht⟩ : ∃ t, l[i]? = some t := ⟨l[i]'(by omega), List.getElem?_eq_getElem (by omega)⟩
      obtain ⟨t', ht'⟩ : ∃ t', l'[i]? = some t' := ⟨l'[i]'(by omega), List.getElem?_eq_getElem (by omega)⟩
      have hstep := HI.out.2
      rw [drop_cons ht, drop_cons ht', ordL] at hstep
      obtain ⟨b1, o1, f', lv, rfl, hf', hn1, hv1⟩ := (H1.out.keep HI.out.1).elem ht
      obtain ⟨b2, o2, g', lv', rfl, hg', hn2, hv2⟩ := (H2.out.keep HI.out.1).elem ht'
      have hS : RwS b1 (o1 + i * 5) b2 (o2 + i * 5) t.k t.n t.s t.u lv t'.k t'.n t'.s t'.u lv' wr.drew := ⟨hn1.1, hn1.2.1, hn1.2.2.1, hn1.2.2.2.1, hn1.2.2.2.2, hn2.1, hn2.2.1, hn2.2.2.1, hn2.2.2.2.1, hn2.2.2.2.2⟩
      have hdr : Below wr.heap.size wr wr.drew := (Below.refl _ _).drew
      have HCALL := Lib.hid (HO.out f' hf' g' t t' _ _ wr.drew (hv1.keep hdr) (hv2.keep hdr))
      have HBD := Lib.hid (HI.out.1.trans (hdr.mono HI.out.1.size))
      have HST := Lib.hid hstep
      have HT := Lib.hid ht
      have HT' := Lib.hid ht'
      clear hstep hn1 hn2 hv1 hv2 ht ht' hdr
      go_wp2_with fail
      have hi1 : i < l.length := (List.getElem?_eq_some_iff.1 HT.out).1
      have hi2 : i < l'.length := (List.getElem?_eq_some_iff.1 HT'.out).1
      refine region_plan (RwS b1 (o1 + i * 5) b2 (o2 + i * 5) t.k t.n t.s t.u lv t'.k t'.n t'.s t'.u lv') [(0, 0), (1, 0), (2, 0), (3, 0), (4, 0), (5, 0), (6, 0), (7, 0), (8, 0), (9, 1), (10, 0)] (by kernel_rfl) (by kernel_rfl) (by kernel_rfl) hS ?_
      generalize wr.drew = WD at *
      iterate 9 (first | (refine plan_skip rfl ?_ ?_; (focus (rfl)); (try simp only [Act.put, List.setIfInBounds_toArray, List.set_cons_zero, List.set_cons_succ])) | (refine plan_take (v := ?_) rfl ?_ (fun w hSw => ?_) ?_; rotate_left; (focus (rfl)); (focus (unfold RwS at hSw; (go_simp <;> with_reducible rfl))); (try simp only [Act.put, List.setIfInBounds_toArray, List.set_cons_zero, List.set_cons_succ])))
      refine plan_run rfl ?_ (fun K hK => ?_)
      focus (rfl)
      go_simp
      refine (HCALL.out).mono ?_
      rintro e W1 ⟨rfl, hb1⟩
      have hS1 := hS.keep hb1
      have HB1 := Lib.hid (HBD.out.trans (hb1.mono HBD.out.size))
      refine hK.out _ _ hS1 ?_
      clear hK K 
      (try simp only [Act.put, List.setIfInBounds_toArray, List.set_cons_zero, List.set_cons_succ])
      iterate 1 (first | (refine plan_skip rfl ?_ ?_; (focus (rfl)); (try simp only [Act.put, List.setIfInBounds_toArray, List.set_cons_zero, List.set_cons_succ])) | (refine plan_take (v := ?_) rfl ?_ (fun w hSw => ?_) ?_; rotate_left; (focus (rfl)); (focus (unfold RwS at hSw; (go_simp <;> with_reducible rfl))); (try simp only [Act.put, List.setIfInBounds_toArray, List.set_cons_zero, List.set_cons_succ])))
      refine plan_done ?_
      clear hS hS1 hb1
      obtain ⟨c, hc⟩ : ∃ c, ord t t' = c := ⟨_, rfl⟩
      rw [hc] at HST ⊢
      by_cases h0 : c = 0
      · have hst := HST.out
        rw [if_pos h0] at hst
        have HS := Lib.hid hst
        have d0 : (c != 0) = false := by simp [h0]
        clear hst HST h0 hc
        go_wp2_with fail
        go_roundw
        case rel => exact ⟨i + 1, by omega, by go_num, Lib.hid ⟨HB1.out, HS.out⟩⟩
        case measure => simp [intOf]; omega
      · have hst := HST.out
        rw [if_neg h0] at hst
        have HS := Lib.hid hst
        have d0 : (c != 0) = true := by simp [h0]
        clear hst HST h0 hc
        go_wp2_with fail
        go_ret
        exact ⟨by rw [← HS.out]; rfl, HB1.out⟩
    · have hil : i = min l.length l'.length := by omega
      have hd : decide ((i : Int) < min (l.length : Int) (l'.length : Int)) = false := by simp; omega
      have HS : Hid (ordL l l' = cmpI l.length l'.length) := Lib.hid (by rw [← HI.out.2, ordL_end hil])
      go_wp2_with fail
      refine (cmpi_any wr l.length l'.length).mono ?_
      rintro e w' ⟨rfl, rfl⟩
      go_wp2_with fail
      go_ret
      exact ⟨by rw [HS.out]; rfl, HI.out.1⟩
set_option maxHeartbeats 4000000 in
theorem order_any : ∀ (f g : Nat) (t t' : Tm) (v v' : Value) (w : World), TermV f w v t → TermV g w v' t' → Calls Tryd.prog 55 #[v, v'] w (IntPost w (ord t t')) := by
  intro f
  induction f using Nat.strongRecOn with
  | ind f ih =>
    intro g t t' v v' w hv hv'
    obtain ⟨k, n, s, u, l, ao, cap, rfl, rfl, hf, hl, hcap, hrow⟩ := hv.mk'
    obtain ⟨k', n', s', u', l', ao', cap', rfl, rfl, hf', hl', hcap', hrow'⟩ := hv'.mk'
    have hb := ((Below.refl w.heap.size w).alloc (Nat.le_refl _) (.cells #[.int .i8 k, .int .i64 n, .string s, .string u, .slice ao l.length cap] 47)).alloc (by simp) (.cells #[.int .i8 k', .int .i64 n', .string s', .string u', .slice ao' l'.length cap'] 47)
    have n1 := heap_old (heap_new w (.cells #[.int .i8 k, .int .i64 n, .string s, .string u, .slice ao l.length cap] 47)) (.cells #[.int .i8 k', .int .i64 n', .string s', .string u', .slice ao' l'.length cap'] 47)
    have n2 := heap_new (w.alloc (.cells #[.int .i8 k, .int .i64 n, .string s, .string u, .slice ao l.length cap] 47)) (.cells #[.int .i8 k', .int .i64 n', .string s', .string u', .slice ao' l'.length cap'] 47)
    rw [World.size_alloc] at n2
    rw [ord]
    have hS : RwS w.heap.size 0 (w.heap.size + 1) 0 k n s u (.slice ao l.length cap) k' n' s' u' (.slice ao' l'.length cap') ((w.alloc (.cells #[.int .i8 k, .int .i64 n, .string s, .string u, .slice ao l.length cap] 47)).alloc (.cells #[.int .i8 k', .int .i64 n', .string s', .string u', .slice ao' l'.length cap'] 47)).drew :=
      ⟨(cells_at n1 0 _ rfl).1, (cells_at n1 1 _ rfl).1, (cells_at n1 2 _ rfl).1, (cells_at n1 3 _ rfl).1, (cells_at n1 4 _ rfl).1, (cells_at n2 0 _ rfl).1, (cells_at n2 1 _ rfl).1, (cells_at n2 2 _ rfl).1, (cells_at n2 3 _ rfl).1, (cells_at n2 4 _ rfl).1⟩
    have HB := Lib.hid hb
    have HR : Hid (∀ W, Below w.heap.size w W → Calls Tryd.prog 64 #[.slice ao l.length cap, .slice ao' l'.length cap', .func (.func 55) #[] #[]] W (IntPost W (ordL l l'))) := Lib.hid (fun W hb => rows_any f g (fun f' h => ih f' (by omega)) l l' ao ao' cap cap' W (hrow.keep hb) (hrow'.keep hb) (by omega) (by omega))
    clear hv hv' hrow hrow' hb n1 n2 ih hf hf'
    by_cases hk : k = k'
    · subst hk
      rw [if_pos rfl]
      have dk : (k != k) = false := by simp
      go_enter Tryd.func55, Tryd.ntmps55
      go_wp2_with fail
      refine region_plan (RwS w.heap.size 0 (w.heap.size + 1) 0 k n s u (.slice ao l.length cap) k n' s' u' (.slice ao' l'.length cap')) [(0, 0), (1, 0), (2, 0), (3, 0), (4, 0), (5, 0), (7, 0), (8, 0), (9, 0), (10, 0), (12, 0), (13, 0), (14, 0), (15, 0), (17, 0), (18, 0), (19, 0), (20, 0), (22, 0), (23, 0), (24, 0), (25, 0), (6, 1), (11, 1), (16, 1), (21, 1), (26, 1), (27, 1), (28, 1), (29, 0)] (by kernel_rfl) (by kernel_rfl) (by kernel_rfl) hS ?_
      have HBD := Lib.hid HB.out.drew
      generalize ((w.alloc (.cells #[.int .i8 k, .int .i64 n, .string s, .string u, .slice ao l.length cap] 47)).alloc (.cells #[.int .i8 k, .int .i64 n', .string s', .string u', .slice ao' l'.length cap'] 47)).drew = WD at *
      iterate 22 (first | (refine plan_skip rfl ?_ ?_; (focus (rfl)); (try simp only [Act.put, List.setIfInBounds_toArray, List.set_cons_zero, List.set_cons_succ])) | (refine plan_take (v := ?_) rfl ?_ (fun w hSw => ?_) ?_; rotate_left; (focus (rfl)); (focus (unfold RwS at hSw; (go_simp <;> with_reducible rfl))); (try simp only [Act.put, List.setIfInBounds_toArray, List.set_cons_zero, List.set_cons_succ])))
      refine plan_run rfl ?_ (fun K hK => ?_)
      focus (rfl)
      go_simp
      refine (cmpi_any _ _ _).mono ?_
      rintro e W1 ⟨rfl, rfl⟩
      have hS1 := hS
      refine hK.out _ _ hS1 ?_
      clear hK K 
      (try simp only [Act.put, List.setIfInBounds_toArray, List.set_cons_zero, List.set_cons_succ])
      refine plan_run rfl ?_ (fun K hK => ?_)
      focus (rfl)
      go_simp
      refine (cmps_any _ _ _).mono ?_
      rintro e W1 ⟨rfl, rfl⟩
      have hS2 := hS
      refine hK.out _ _ hS2 ?_
      clear hK K 
      (try simp only [Act.put, List.setIfInBounds_toArray, List.set_cons_zero, List.set_cons_succ])
      refine plan_run rfl ?_ (fun K hK => ?_)
      focus (rfl)
      go_simp
      refine (cmps_any _ _ _).mono ?_
      rintro e W1 ⟨rfl, rfl⟩
      have hS3 := hS
      refine hK.out _ _ hS3 ?_
      clear hK K 
      (try simp only [Act.put, List.setIfInBounds_toArray, List.set_cons_zero, List.set_cons_succ])
      refine plan_run rfl ?_ (fun K hK => ?_)
      focus (rfl)
      go_simp
      refine (cmpi_any _ _ _).mono ?_
      rintro e W1 ⟨rfl, rfl⟩
      have hS4 := hS
      refine hK.out _ _ hS4 ?_
      clear hK K 
      (try simp only [Act.put, List.setIfInBounds_toArray, List.set_cons_zero, List.set_cons_succ])
      refine plan_run rfl ?_ (fun K hK => ?_)
      focus (rfl)
      go_simp
      refine (HR.out _ HBD.out).mono ?_
      rintro e W1 ⟨rfl, hb1⟩
      have hS5 := hS.keep hb1
      refine hK.out _ _ hS5 ?_
      clear hK K 
      (try simp only [Act.put, List.setIfInBounds_toArray, List.set_cons_zero, List.set_cons_succ])
      have HB1 := Lib.hid (HBD.out.trans (hb1.mono HBD.out.size))
      have hb2 := (Below.refl W1.heap.size W1).alloc (Nat.le_refl _) (.cells #[.int .i64 (cmpI l.length l'.length), .int .i64 (cmpS s s'), .int .i64 (cmpS u u'), .int .i64 (cmpI n n'), .int .i64 (ordL l l')] 3)
      have hn2 := heap_new W1 (.cells #[.int .i64 (cmpI l.length l'.length), .int .i64 (cmpS s s'), .int .i64 (cmpS u u'), .int .i64 (cmpI n n'), .int .i64 (ordL l l')] 3)
      have hS6 := hS5.keep hb2
      refine plan_run rfl ?_ (fun K hK => ?_)
      focus (rfl)
      go_simp
      refine hK.out _ _ (hS6) ?_
      clear hK K
      (try simp only [Act.put, List.setIfInBounds_toArray, List.set_cons_zero, List.set_cons_succ])
      have HB2 := Lib.hid (HB1.out.trans (hb2.mono HB1.out.size))
      have hor := or_any _ [cmpI l.length l'.length, cmpS s s', cmpS u u', cmpI n n', ordL l l'] W1.heap.size 0 5 (fun j x hj => by
        rw [Nat.zero_add]
        match j, hj with
        | 0, hj => simp at hj; subst hj; exact (cells_at hn2 0 _ rfl).1
        | 1, hj => simp at hj; subst hj; exact (cells_at hn2 1 _ rfl).1
        | 2, hj => simp at hj; subst hj; exact (cells_at hn2 2 _ rfl).1
        | 3, hj => simp at hj; subst hj; exact (cells_at hn2 3 _ rfl).1
        | 4, hj => simp at hj; subst hj; exact (cells_at hn2 4 _ rfl).1) (heap_lt hn2) (by simp)
      refine plan_run rfl ?_ (fun K hK => ?_)
      focus (rfl)
      go_simp
      refine (hor).mono ?_
      rintro e W9 ⟨rfl, rfl⟩
      have hS7 := hS6
      refine hK.out _ _ hS7 ?_
      clear hK K 
      (try simp only [Act.put, List.setIfInBounds_toArray, List.set_cons_zero, List.set_cons_succ])
      iterate 1 (first | (refine plan_skip rfl ?_ ?_; (focus (rfl)); (try simp only [Act.put, List.setIfInBounds_toArray, List.set_cons_zero, List.set_cons_succ])) | (refine plan_take (v := ?_) rfl ?_ (fun w hSw => ?_) ?_; rotate_left; (focus (rfl)); (focus (unfold RwS at hSw; (go_simp <;> with_reducible rfl))); (try simp only [Act.put, List.setIfInBounds_toArray, List.set_cons_zero, List.set_cons_succ])))
      refine plan_done ?_
      go_wp2_with fail
      go_ret
      exact ⟨rfl, HB2.out⟩
    · rw [if_neg hk]
      have dk : (k != k') = true := by simp [hk]
      go_enter Tryd.func55, Tryd.ntmps55
      go_wp2_with fail
      refine (cmp8_any _ k k').mono ?_
      rintro e w' ⟨rfl, rfl⟩
      go_wp2_with fail
      go_ret
      exact ⟨rfl, HB.out⟩
def cmpT (t t' : Tm) : Int := if checkN t = 0 then (if checkN t' = 0 then ord t t' else 0) else 0
set_option maxHeartbeats 4000000 in
theorem compare_any (f g : Nat) (t t' : Tm) (v v' : Value) (w : World) (hL : Cells w 0 letL) (hv : TermV f w v t) (hv' : TermV g w v' t') : Calls Tryd.prog 43 #[v, v'] w (IntPost w (cmpT t t')) := by
  obtain ⟨k, n, s, u, l, ao, cap, rfl, rfl, hf, hl, hcap, hrow⟩ := hv.mk'
  obtain ⟨k', n', s', u', l', ao', cap', rfl, rfl, hf', hl', hcap', hrow'⟩ := hv'.mk'
  have hb := ((Below.refl w.heap.size w).alloc (Nat.le_refl _) (.cells #[.int .i8 k, .int .i64 n, .string s, .string u, .slice ao l.length cap] 47)).alloc (by simp) (.cells #[.int .i8 k', .int .i64 n', .string s', .string u', .slice ao' l'.length cap'] 47)
  have n1 := heap_old (heap_new w (.cells #[.int .i8 k, .int .i64 n, .string s, .string u, .slice ao l.length cap] 47)) (.cells #[.int .i8 k', .int .i64 n', .string s', .string u', .slice ao' l'.length cap'] 47)
  have n2 := heap_new (w.alloc (.cells #[.int .i8 k, .int .i64 n, .string s, .string u, .slice ao l.length cap] 47)) (.cells #[.int .i8 k', .int .i64 n', .string s', .string u', .slice ao' l'.length cap'] 47)
  rw [World.size_alloc] at n2
  have HB := Lib.hid hb
  have HK : Hid (∀ W, Below w.heap.size w W → Cells W 0 letL ∧ TermV f W (.agg #[.int .i8 k, .int .i64 n, .string s, .string u, .slice ao l.length cap]) (.mk k n s u l) ∧ TermV g W (.agg #[.int .i8 k', .int .i64 n', .string s', .string u', .slice ao' l'.length cap']) (.mk k' n' s' u' l')) :=
    Lib.hid (fun W h => ⟨fun j r hj => ⟨keep_cell (hL j r hj).1 h, keep_cell (hL j r hj).2 h⟩, hv.keep h, hv'.keep h⟩)
  have HN1 := Lib.hid n1
  have HN2 := Lib.hid n2
  have hE : cmpT (.mk k n s u l) (.mk k' n' s' u' l') = if checkN (.mk k n s u l) = 0 then (if checkN (.mk k' n' s' u' l') = 0 then ord (.mk k n s u l) (.mk k' n' s' u' l') else 0) else 0 := rfl
  generalize cmpT (.mk k n s u l) (.mk k' n' s' u' l') = res at *
  clear hL hv hv' hrow hrow' hb n1 n2 hf hf'
  have H1 := Lib.hid (check_any f (.mk k n s u l) _ _ (HK.out _ HB.out).1 (HK.out _ HB.out).2.1)
  by_cases h1 : checkN (.mk k n s u l) = 0
  · rw [h1] at H1
    rw [if_pos h1] at hE
    clear h1
    have HE := Lib.hid hE
    clear hE
    go_enter Tryd.func43, Tryd.ntmps43
    go_wp2_with fail
    refine H1.out.mono ?_
    rintro e w1 ⟨rfl, hb1⟩
    have HB1 := Lib.hid (HB.out.trans (hb1.mono HB.out.size))
    have m1 := keep_heap HN1.out hb1
    have m2 := keep_heap HN2.out hb1
    have HM1 := Lib.hid m1
    have HM2 := Lib.hid m2
    clear hb1
    obtain ⟨y0, -⟩ := cells_at m2 0 _ rfl
    obtain ⟨y1, -⟩ := cells_at m2 1 _ rfl
    obtain ⟨y2, -⟩ := cells_at m2 2 _ rfl
    obtain ⟨y3, -⟩ := cells_at m2 3 _ rfl
    obtain ⟨y4, -⟩ := cells_at m2 4 _ rfl
    clear m1 m2
    have H2 := Lib.hid (check_any g (.mk k' n' s' u' l') _ _ (HK.out _ HB1.out).1 (HK.out _ HB1.out).2.2)
    by_cases h2 : checkN (.mk k' n' s' u' l') = 0
    · have hE2 := HE.out
      rw [h2] at H2
      rw [if_pos h2] at hE2
      have HE2 := Lib.hid hE2
      clear h2 hE2
      go_wp2_with fail
      refine H2.out.mono ?_
      rintro e w2 ⟨rfl, hb2⟩
      have HB2 := Lib.hid (HB1.out.trans (hb2.mono HB1.out.size))
      have m1 := keep_heap HM1.out hb2
      have m2 := keep_heap HM2.out hb2
      clear hb2 y0 y1 y2 y3 y4
      obtain ⟨x0, -⟩ := cells_at m1 0 _ rfl
      obtain ⟨x1, -⟩ := cells_at m1 1 _ rfl
      obtain ⟨x2, -⟩ := cells_at m1 2 _ rfl
      obtain ⟨x3, -⟩ := cells_at m1 3 _ rfl
      obtain ⟨x4, -⟩ := cells_at m1 4 _ rfl
      obtain ⟨y0, -⟩ := cells_at m2 0 _ rfl
      obtain ⟨y1, -⟩ := cells_at m2 1 _ rfl
      obtain ⟨y2, -⟩ := cells_at m2 2 _ rfl
      obtain ⟨y3, -⟩ := cells_at m2 3 _ rfl
      obtain ⟨y4, -⟩ := cells_at m2 4 _ rfl
      clear m1 m2
      have H3 := Lib.hid (order_any f g (.mk k n s u l) (.mk k' n' s' u' l') _ _ _ (HK.out _ HB2.out).2.1 (HK.out _ HB2.out).2.2)
      go_wp2_with fail
      refine H3.out.mono ?_
      rintro e w3 ⟨rfl, hb3⟩
      have HB3 := Lib.hid (HB2.out.trans (hb3.mono HB2.out.size))
      clear hb3
      go_wp2_with fail
      go_ret
      exact ⟨by rw [HE2.out]; rfl, HB3.out⟩
    · have hE2 := HE.out
      rw [if_neg h2] at hE2
      have HE2 := Lib.hid hE2
      have d2 : (checkN (.mk k' n' s' u' l') != 0) = true := by simp [h2]
      clear hE2
      generalize checkN (.mk k' n' s' u' l') = c2 at *
      clear h2
      go_wp2_with fail
      refine H2.out.mono ?_
      rintro e w2 ⟨rfl, hb2⟩
      have HB2 := Lib.hid (HB1.out.trans (hb2.mono HB1.out.size))
      clear hb2
      go_wp2_with fail
      go_ret
      exact ⟨by rw [HE2.out]; rfl, HB2.out⟩
  · rw [if_neg h1] at hE
    have d2 : (checkN (.mk k n s u l) != 0) = true := by simp [h1]
    generalize checkN (.mk k n s u l) = c1 at *
    clear h1
    have HE := Lib.hid hE
    clear hE
    go_enter Tryd.func43, Tryd.ntmps43
    go_wp2_with fail
    refine H1.out.mono ?_
    rintro e w1 ⟨rfl, hb1⟩
    have HB1 := Lib.hid (HB.out.trans (hb1.mono HB.out.size))
    clear hb1
    go_wp2_with fail
    go_ret
    exact ⟨by rw [HE.out]; rfl, HB1.out⟩
end Go.Proofs.YtfbohajojaaiaaaDoor
namespace Go.Proofs.YtfbohajojaaiaaaDoor
open Go.ChangeShapes Go.WideShapes Go.ChangeAt Go.RowKit
set_option linter.unusedVariables false
set_option maxRecDepth 100000
/-- a word of one heap reads as a word of the other -/
def sameW (C C2 : List HC) (x y : Wd) : Bool := mayW C.length x && (mayW C2.length y && decide (cmpT (tkN C C.length x) (tkN C2 C2.length y) = 0))
theorem take_uni (w0 : World) (f base p : Nat) (v : Value) (C : List HC) (x : Wd) (W : World) (hO : ∀ c ∈ C, ∀ x ∈ c.l, WOk f w0 x) (hp : Hp W base p v C) (hL : Cells W 0 letL) (hx : WOk f w0 x) (hb0 : Below w0.heap.size w0 W) :
    Calls Tryd.prog 42 #[.pointer (some ⟨p, 0, none⟩), x.V] W fun e W' => ∃ (te : TE) (ee : Int), e = .returned (.tuple #[.agg #[.int .i8 te.k, .int .i64 te.n, .string te.s, .string te.u, .slice te.ao te.l.length te.cap], .int .i64 ee]) ∧ Below W.heap.size W W' ∧
      Hid ((mayW C.length x = true ∧ ee = 0 ∧ TermV (f + C.length) W' (.agg #[.int .i8 te.k, .int .i64 te.n, .string te.s, .string te.u, .slice te.ao te.l.length te.cap]) (tkN C C.length x)) ∨ (mayW C.length x = false ∧ ee = 2)) := by
  refine (take_any w0 f base p v C x W hO hp hL hx hb0).mono ?_
  rintro e W' ⟨hb, (⟨h1, te, rfl, h2, h3, h4⟩ | ⟨h1, rfl⟩)⟩
  · exact ⟨te, 0, rfl, hb, Lib.hid (.inl ⟨h1, rfl, by rw [← h2]; exact ⟨h3, _, rfl, h4.row⟩⟩)⟩
  · exact ⟨⟨0, 0, ⟨#[]⟩, ⟨#[]⟩, none, 0, []⟩, 2, rfl, hb, Lib.hid (.inr ⟨h1, rfl⟩)⟩
set_option maxHeartbeats 8000000 in
theorem same_any (w0 : World) (f : Nat) (base p base2 p2 : Nat) (v v2 : Value) (C C2 : List HC) (x y : Wd) (W : World) (hO : ∀ c ∈ C, ∀ x ∈ c.l, WOk f w0 x) (hO2 : ∀ c ∈ C2, ∀ x ∈ c.l, WOk f w0 x) (hp : Hp W base p v C) (hp2 : Hp W base2 p2 v2 C2) (hL : Cells W 0 letL) (hx : WOk f w0 x) (hy : WOk f w0 y) (hb0 : Below w0.heap.size w0 W) :
    Calls Tryd.prog 20 #[.pointer (some ⟨p, 0, none⟩), x.V, .pointer (some ⟨p2, 0, none⟩), y.V] W (IsPost W (sameW C C2 x y)) := by
  have hb2 := ((Below.refl W.heap.size W).alloc (Nat.le_refl _) (.cells x.cells.toArray 58)).alloc (by simp) (.cells y.cells.toArray 58)
  have n1 := heap_old (heap_new W (.cells x.cells.toArray 58)) (.cells y.cells.toArray 58)
  have n2 := heap_new (W.alloc (.cells x.cells.toArray 58)) (.cells y.cells.toArray 58)
  rw [World.size_alloc] at n2
  have HT1 : Hid (∀ W', Below W.heap.size W W' → _) := Lib.hid (fun W' h => take_uni w0 f base p v C x W' hO (hp.keep h) (keep_letters hL h) hx (hb0.trans (h.mono hb0.size)))
  have HT2 : Hid (∀ W', Below W.heap.size W W' → _) := Lib.hid (fun W' h => take_uni w0 f base2 p2 v2 C2 y W' hO2 (hp2.keep h) (keep_letters hL h) hy (hb0.trans (h.mono hb0.size)))
  have HL := Lib.hid hL
  have HB2 := Lib.hid hb2
  have N1 := Lib.hid n1
  have N2 := Lib.hid n2
  have hsE : sameW C C2 x y = (mayW C.length x && (mayW C2.length y && decide (cmpT (tkN C C.length x) (tkN C2 C2.length y) = 0))) := rfl
  have HSE := Lib.hid hsE
  clear hO hO2 hp hp2 hL hx hy hb0 hb2 n1 n2 hsE
  generalize sameW C C2 x y = res at *
  generalize mayW C.length x = m1 at *
  generalize mayW C2.length y = m2 at *
  generalize tkN C C.length x = t1 at *
  generalize tkN C2 C2.length y = t2 at *
  obtain ⟨xc, xa, xk, xn, xs, xu, xao, xcap, xl⟩ := x
  obtain ⟨yc, ya, yk, yn, ys, yu, yao, ycap, yl⟩ := y
  simp only [Wd.V, Wd.cells] at *
  go_enter Tryd.func20, Tryd.ntmps20
  go_wp2_with fail
  generalize (W.alloc (.cells #[.bool xc, .int .i64 xa, .int .i8 xk, .int .i64 xn, .string xs, .string xu, .slice xao xl.length xcap] 58)).alloc (.cells #[.bool yc, .int .i64 ya, .int .i8 yk, .int .i64 yn, .string ys, .string yu, .slice yao yl.length ycap] 58) = W2 at *
  refine (HT1.out W2 HB2.out).mono ?_
  rintro e W3 ⟨te, ee, rfl, hb3, HR1⟩
  have HB3 := Lib.hid (HB2.out.trans (hb3.mono HB2.out.size))
  have HN2 := Lib.hid (keep_heap N2.out hb3)
  clear hb3 N1 N2 HB2 HT1
  go_wp2_with (with_reducible refine stop_op (o := ⟨_, .store 47 (.tmp 9) (.tmp 17), _, _, _, _⟩) ?_)
  refine Lib.hid ?_
  refine wpList_store_new (o := ⟨none, _, _, _, _, _⟩) rfl 47 (.tmp 9) (.tmp 17) rfl #[.int .i8 te.k, .int .i64 te.n, .string te.s, .string te.u, .slice te.ao te.l.length te.cap] rfl rfl (infoTM' _ rfl) rfl (by simp [Value.oneCell']) ?_
  have hb4 := (Below.refl W3.heap.size W3).alloc (Nat.le_refl _) (.cells #[.int .i8 te.k, .int .i64 te.n, .string te.s, .string te.u, .slice te.ao te.l.length te.cap] 47)
  have HX := Lib.hid (heap_new W3 (.cells #[.int .i8 te.k, .int .i64 te.n, .string te.s, .string te.u, .slice te.ao te.l.length te.cap] 47))
  have hm2 := keep_heap HN2.out hb4
  have HB4 := Lib.hid (HB3.out.trans (hb4.mono HB3.out.size))
  have HR1' : Hid ((m1 = true ∧ ee = 0 ∧ TermV (f + C.length) (W3.alloc (.cells #[.int .i8 te.k, .int .i64 te.n, .string te.s, .string te.u, .slice te.ao te.l.length te.cap] 47)) (.agg #[.int .i8 te.k, .int .i64 te.n, .string te.s, .string te.u, .slice te.ao te.l.length te.cap]) t1) ∨ (m1 = false ∧ ee = 2)) := Lib.hid (HR1.out.imp (fun h => ⟨h.1, h.2.1, h.2.2.keep hb4⟩) id)
  clear HR1 hb4 HB3 HN2
  generalize W3.alloc (.cells #[.int .i8 te.k, .int .i64 te.n, .string te.s, .string te.u, .slice te.ao te.l.length te.cap] 47) = W4 at *
  obtain ⟨y0, -⟩ := cells_at hm2 0 _ rfl
  obtain ⟨y1, -⟩ := cells_at hm2 1 _ rfl
  obtain ⟨y2, -⟩ := cells_at hm2 2 _ rfl
  obtain ⟨y3, -⟩ := cells_at hm2 3 _ rfl
  obtain ⟨y4, -⟩ := cells_at hm2 4 _ rfl
  obtain ⟨y5, -⟩ := cells_at hm2 5 _ rfl
  obtain ⟨y6, -⟩ := cells_at hm2 6 _ rfl
  clear hm2
  go_wp2_with fail
  refine (HT2.out W4 HB4.out).mono ?_
  rintro e W5 ⟨te2, ee2, rfl, hb5, HR2⟩
  have HB5 := Lib.hid (HB4.out.trans (hb5.mono HB4.out.size))
  have hX5 := keep_heap HX.out hb5
  have HR5 : Hid ((m1 = true ∧ ee = 0 ∧ TermV (f + C.length) W5 (.agg #[.int .i8 te.k, .int .i64 te.n, .string te.s, .string te.u, .slice te.ao te.l.length te.cap]) t1) ∨ (m1 = false ∧ ee = 2)) := Lib.hid (HR1'.out.imp (fun h => ⟨h.1, h.2.1, h.2.2.keep hb5⟩) id)
  have HX5 := Lib.hid hX5
  clear hb5 HR1' HX HB4 HT2 y0 y1 y2 y3 y4 y5 y6 hX5
  go_wp2_with (with_reducible refine stop_op (o := ⟨_, .store 47 (.tmp 11) (.tmp 23), _, _, _, _⟩) ?_)
  refine Lib.hid ?_
  refine wpList_store_new (o := ⟨none, _, _, _, _, _⟩) rfl 47 (.tmp 11) (.tmp 23) rfl #[.int .i8 te2.k, .int .i64 te2.n, .string te2.s, .string te2.u, .slice te2.ao te2.l.length te2.cap] rfl rfl (infoTM' _ rfl) rfl (by simp [Value.oneCell']) ?_
  have hb6 := (Below.refl W5.heap.size W5).alloc (Nat.le_refl _) (.cells #[.int .i8 te2.k, .int .i64 te2.n, .string te2.s, .string te2.u, .slice te2.ao te2.l.length te2.cap] 47)
  have hY6 := heap_new W5 (.cells #[.int .i8 te2.k, .int .i64 te2.n, .string te2.s, .string te2.u, .slice te2.ao te2.l.length te2.cap] 47)
  have hX6 := keep_heap HX5.out hb6
  have HB6 := Lib.hid (HB5.out.trans (hb6.mono HB5.out.size))
  have HR6 : Hid ((m1 = true ∧ ee = 0 ∧ TermV (f + C.length) (W5.alloc (.cells #[.int .i8 te2.k, .int .i64 te2.n, .string te2.s, .string te2.u, .slice te2.ao te2.l.length te2.cap] 47)) (.agg #[.int .i8 te.k, .int .i64 te.n, .string te.s, .string te.u, .slice te.ao te.l.length te.cap]) t1) ∨ (m1 = false ∧ ee = 2)) := Lib.hid (HR5.out.imp (fun h => ⟨h.1, h.2.1, h.2.2.keep hb6⟩) id)
  have HQ6 : Hid ((m2 = true ∧ ee2 = 0 ∧ TermV (f + C2.length) (W5.alloc (.cells #[.int .i8 te2.k, .int .i64 te2.n, .string te2.s, .string te2.u, .slice te2.ao te2.l.length te2.cap] 47)) (.agg #[.int .i8 te2.k, .int .i64 te2.n, .string te2.s, .string te2.u, .slice te2.ao te2.l.length te2.cap]) t2) ∨ (m2 = false ∧ ee2 = 2)) := Lib.hid (HR2.out.imp (fun h => ⟨h.1, h.2.1, h.2.2.keep hb6⟩) id)
  clear hb6 HR5 HR2 HB5
  generalize W5.alloc (.cells #[.int .i8 te2.k, .int .i64 te2.n, .string te2.s, .string te2.u, .slice te2.ao te2.l.length te2.cap] 47) = W6 at *
  rcases HR6.out with ⟨rfl, rfl, hv1⟩ | ⟨rfl, rfl⟩
  · rcases HQ6.out with ⟨rfl, rfl, hv2⟩ | ⟨rfl, rfl⟩
    · obtain ⟨x0, -⟩ := cells_at hX6 0 _ rfl
      obtain ⟨x1, -⟩ := cells_at hX6 1 _ rfl
      obtain ⟨x2, -⟩ := cells_at hX6 2 _ rfl
      obtain ⟨x3, -⟩ := cells_at hX6 3 _ rfl
      obtain ⟨x4, -⟩ := cells_at hX6 4 _ rfl
      obtain ⟨y0, -⟩ := cells_at hY6 0 _ rfl
      obtain ⟨y1, -⟩ := cells_at hY6 1 _ rfl
      obtain ⟨y2, -⟩ := cells_at hY6 2 _ rfl
      obtain ⟨y3, -⟩ := cells_at hY6 3 _ rfl
      obtain ⟨y4, -⟩ := cells_at hY6 4 _ rfl
      have hlx := heap_lt hX6
      have HC := Lib.hid (compare_any _ _ t1 t2 _ _ W6 (keep_letters HL.out HB6.out) hv1 hv2)
      have hse := HSE.out
      simp only [Bool.true_and] at hse
      clear hX6 hY6 hv1 hv2 HR6 HQ6 HX5
      generalize cmpT t1 t2 = c at *
      have HE : Hid ((c == 0) = res) := Lib.hid (by rw [hse]; rfl)
      clear hse HSE
      go_wp2_with fail
      refine HC.out.mono ?_
      rintro e W7 ⟨rfl, hb7⟩
      have HB7 := Lib.hid (HB6.out.trans (hb7.mono HB6.out.size))
      clear hb7 x0 x1 x2 x3 x4 y0 y1 y2 y3 y4
      go_wp2_with fail
      go_ret
      exact ⟨by rw [← HE.out]; rfl, HB7.out⟩
    · have hse : Hid (res = false) := Lib.hid (by rw [HSE.out]; rfl)
      clear hX6 hY6 HR6 HQ6 HX5 HSE
      go_wp2_with fail
      go_ret
      exact ⟨by rw [hse.out]; rfl, HB6.out⟩
  · have hse : Hid (res = false) := Lib.hid (by rw [HSE.out]; rfl)
    clear hX6 hY6 HR6 HQ6 HX5 HSE
    go_wp2_with fail
    go_ret
    exact ⟨by rw [hse.out]; rfl, HB6.out⟩
end Go.Proofs.YtfbohajojaaiaaaDoor
namespace Go.Proofs.YtfbohajojaaiaaaDoor
open Go.ChangeShapes Go.WideShapes Go.ChangeAt Go.RowKit
set_option linter.unusedVariables false
theorem bless_irr : ∀ l : List UInt8, Op.bytesLess l l = false
  | [] => rfl
  | a :: l => by
    rw [Op.bytesLess, bless_irr l]
    simp
theorem cmpS_refl (s : ByteArray) : cmpS s s = 0 := by
  unfold cmpS
  rw [bless_irr]
  simp
theorem cmpI_refl (a : Int) : cmpI a a = 0 := by
  unfold cmpI
  rw [if_neg (by omega), if_neg (by omega)]
mutual
theorem ord_refl : ∀ t : Tm, ord t t = 0
  | .mk k n s u l => by
    rw [ord, if_pos rfl, cmpI_refl, cmpS_refl, cmpS_refl, cmpI_refl, ordL_refl l]
    simp [orL]
theorem ordL_refl : ∀ l : List Tm, ordL l l = 0
  | [] => by rw [ordL]
  | a :: l => by rw [ordL, if_pos (ord_refl a), ordL_refl l]
end
theorem cmpT_refl (t : Tm) : cmpT t t = 0 := by
  unfold cmpT
  split
  · exact ord_refl t
  · rfl
/-- a word's term is the same term behind a collection -/
theorem tk_moved {C C' : List HC} {S : List Int} (hC : Good C) (hcl : Cl C S) (hr : Ran C S C') : ∀ (N : Nat) (x : Wd) (j N' : Nat), x.c = true → S[j]? = some x.a → x.a < N → j < N' → tkN C N x = tkN C' N' (cellW j) := by
  intro N
  induction N with
  | zero =>
    intro x j N' hx hj hN _
    have := hcl.lt _ (List.mem_of_getElem? hj)
    omega
  | succ N ih =>
    intro x j N' hx hj hN hN'
    obtain ⟨N', rfl⟩ : ∃ m, N' = m + 1 := ⟨N' - 1, by omega⟩
    obtain ⟨k0, k1⟩ := hcl.lt _ (List.mem_of_getElem? hj)
    obtain ⟨c, lo, lc, h1, h2⟩ := hr.cell j _ hj
    rw [tkN_cell C N x c hx h1, tkN_cell C' N' (cellW j) _ rfl (by simpa [cellW] using h2)]
    simp only [List.map_map]
    congr 1
    refine List.map_congr_left fun y hy => ?_
    simp only [Function.comp_apply]
    cases hyc : y.c
    · have : mv (gOf (S.take j)) y = y := by simp [mv, hyc]
      rw [this, tkN_leaf C N y hyc, tkN_leaf C' N' y hyc]
    · obtain ⟨y0, y1⟩ := low_part hC h1 hy hyc
      have hch : y.a ∈ chld C x.a := by
        unfold chld
        rw [h1]
        exact mem_named.2 ⟨y, hy, hyc, rfl⟩
      have hin := hcl.cl _ (List.mem_of_getElem? hj) _ hch
      obtain ⟨i, hi⟩ := List.getElem?_of_mem hin
      have hij : i < j := by
        rcases Nat.lt_or_ge i j with h | h
        · exact h
        · exfalso
          have hjl := (List.getElem?_eq_some_iff.1 hj).1
          have hil := (List.getElem?_eq_some_iff.1 hi).1
          rw [List.getElem?_eq_getElem hjl] at hj
          rw [List.getElem?_eq_getElem hil] at hi
          injection hj with hj
          injection hi with hi
          rcases Nat.eq_or_lt_of_le h with e | h
          · subst e
            omega
          · have := List.pairwise_iff_getElem.1 hcl.srt j i hjl hil h
            omega
      have hi2 : (S.take j)[i]? = some y.a := by rw [List.getElem?_take_of_lt hij]; exact hi
      have hmv : mv (gOf (S.take j)) y = cellW i := by
        have := look_at (List.Nodup.sublist (List.take_sublist j S) hcl.nodup) hi2
        simp [mv, hyc, this]
      rw [hmv]
      exact ih y i N' hyc hi (by omega) (by omega)
/-- where roots went -/
theorem root_moved {C : List HC} {S : List Int} (hcl : Cl C S) {x : Wd} (hx : x.c = true → x.a ∈ S) : (x.c = false ∧ mv (gOf S) x = x) ∨ (x.c = true ∧ ∃ j, S[j]? = some x.a ∧ mv (gOf S) x = cellW j) := by
  cases hc : x.c
  · exact .inl ⟨rfl, by simp [mv, hc]⟩
  · obtain ⟨j, hj⟩ := List.getElem?_of_mem (hx hc)
    exact .inr ⟨rfl, j, hj, by simp [mv, hc, look_at hcl.nodup hj]⟩
theorem root_same {C C' : List HC} {S : List Int} (hC : Good C) (hcl : Cl C S) (hr : Ran C S C') {x : Wd} (hx : x.c = true → x.a ∈ S) (hm : mayW C.length x = true) : mayW C'.length (mv (gOf S) x) = true ∧ sameW C C' x (mv (gOf S) x) = true := by
  rcases root_moved hcl hx with ⟨hc, hv⟩ | ⟨hc, j, hj, hv⟩
  · rw [hv]
    have hm' : mayW C'.length x = true := by
      simp only [mayW, hc] at hm ⊢
      exact hm
    refine ⟨hm', ?_⟩
    unfold sameW
    rw [hm, hm', tkN_leaf C _ x hc, tkN_leaf C' _ x hc, cmpT_refl]
    rfl
  · rw [hv]
    have hjl := (List.getElem?_eq_some_iff.1 hj).1
    have hl := hr.len
    have hm' : mayW C'.length (cellW j) = true := by simp [mayW, cellW, hl, hjl, empty]
    refine ⟨hm', ?_⟩
    unfold sameW
    rw [hm, hm', tk_moved hC hcl hr C.length x j C'.length hc hj (hcl.lt _ (List.mem_of_getElem? hj)).2 (by omega), cmpT_refl]
    rfl
theorem rch_lt {C : List HC} {L : List Wd} (hC : Good C) (hL : ∀ x ∈ L, mayW C.length x = true) {x : Int} (h : Rch C L x) : 0 ≤ x ∧ x < C.length := by
  induction h with
  | root h =>
    obtain ⟨y, hy, hc, rfl⟩ := mem_named.1 h
    have := hL y hy
    simp only [mayW, hc, if_true, Bool.and_eq_true, decide_eq_true_eq] at this
    omega
  | step _ hy ih => exact chld_lt hC ih hy
/-- what is reached there -/
theorem rch_moved {C C' : List HC} {L : List Wd} {S : List Int} (hC : Good C) (hcl : Cl C S) (hr : Ran C S C') (hS : ∀ x, x ∈ S ↔ Rch C L x) {k : Int} (h : Rch C L k) : ∀ j : Nat, S[j]? = some k → Rch C' (L.map (mv (gOf S))) j := by
  induction h with
  | root h =>
    intro j hj
    obtain ⟨y, hy, hc, rfl⟩ := mem_named.1 h
    have hmv : mv (gOf S) y = cellW j := by simp [mv, hc, look_at hcl.nodup hj]
    exact .root (mem_named.2 ⟨_, List.mem_map_of_mem hy, by rw [hmv]; exact ⟨rfl, rfl⟩⟩)
  | @step x y hx hy ih =>
    intro j hj
    obtain ⟨jx, hjx⟩ := List.getElem?_of_mem ((hS x).2 hx)
    refine .step (ih jx hjx) ?_
    obtain ⟨c, lo, lc, h1, h2⟩ := hr.cell jx _ hjx
    unfold chld at hy ⊢
    rw [h1] at hy
    have h2' : C'[(jx : Int).toNat]? = some ⟨c.k, c.sz, lo, lc, c.l.map (mv (gOf (S.take jx)))⟩ := by simpa using h2
    rw [h2']
    obtain ⟨z, hz, hc, rfl⟩ := mem_named.1 hy
    obtain ⟨x0, x1⟩ := hcl.lt _ (List.mem_of_getElem? hjx)
    obtain ⟨z0, z1⟩ := low_part hC h1 hz hc
    have hij : j < jx := by
      rcases Nat.lt_or_ge j jx with h | h
      · exact h
      · exfalso
        have hjl := (List.getElem?_eq_some_iff.1 hj).1
        have hil := (List.getElem?_eq_some_iff.1 hjx).1
        have e1 := hj
        have e2 := hjx
        rw [List.getElem?_eq_getElem hjl] at e1
        rw [List.getElem?_eq_getElem hil] at e2
        injection e1 with e1
        injection e2 with e2
        rcases Nat.eq_or_lt_of_le h with e | h
        · subst e
          omega
        · have := List.pairwise_iff_getElem.1 hcl.srt jx j hil hjl h
          omega
    have hi2 : (S.take jx)[j]? = some z.a := by rw [List.getElem?_take_of_lt hij]; exact hj
    have hmv : mv (gOf (S.take jx)) z = cellW j := by
      have := look_at (List.Nodup.sublist (List.take_sublist jx S) hcl.nodup) hi2
      simp [mv, hc, this]
    exact mem_named.2 ⟨_, List.mem_map_of_mem hz, by rw [hmv]; exact ⟨rfl, rfl⟩⟩
/-- the next time nothing moves -/
theorem again_all {C C' : List HC} {L : List Wd} {S s2 : List Int} (hC : Good C) (hC' : Good C') (hcl : Cl C S) (hr : Ran C S C') (hS : ∀ x, x ∈ S ↔ Rch C L x) (hL : ∀ x ∈ L, mayW C.length x = true) (h2 : ∀ x, x ∈ s2 ↔ Rch C' (L.map (mv (gOf S))) x) : outL C'.length s2 = (List.range C'.length).map Int.ofNat := by
  unfold outL
  rw [List.filter_eq_self]
  intro x hx
  obtain ⟨j, hj, rfl⟩ := List.mem_map.1 hx
  rw [List.mem_range, hr.len] at hj
  have hj2 : S[j]? = some S[j] := List.getElem?_eq_getElem hj
  simp only [decide_eq_true_eq]
  exact (h2 _).2 (rch_moved hC hcl hr hS ((hS _).1 (List.mem_of_getElem? hj2)) j hj2)
theorem again_len (n : Nat) : ((List.range n).map Int.ofNat).length = n := by simp
theorem again_look {n j : Nat} (h : j < n) : look (gOf ((List.range n).map Int.ofNat)) (j : Int) = some j := by
  refine look_at ?_ (by rw [List.getElem?_map, List.getElem?_range h]; rfl)
  rw [List.nodup_iff_pairwise_ne, List.pairwise_map]
  exact List.pairwise_lt_range.imp (fun h e => by simp at e; omega)
theorem again_words {C C' : List HC} {L : List Wd} {S : List Int} (hcl : Cl C S) (hr : Ran C S C') (hL : ∀ x ∈ L, x.c = true → x.a ∈ S) : (L.map (mv (gOf S))).map (mv (gOf ((List.range C'.length).map Int.ofNat))) = L.map (mv (gOf S)) := by
  rw [List.map_map]
  refine List.map_congr_left fun x hx => ?_
  simp only [Function.comp_apply]
  rcases root_moved hcl (hL x hx) with ⟨hc, hv⟩ | ⟨hc, j, hj, hv⟩
  · rw [hv]
    simp [mv, hc]
  · rw [hv]
    have hjl := (List.getElem?_eq_some_iff.1 hj).1
    have := again_look (n := C'.length) (j := j) (by rw [hr.len]; exact hjl)
    simp [mv, cellW, this]
theorem outL_same {n : Nat} {s s2 : List Int} (h : ∀ x, x ∈ s ↔ x ∈ s2) : outL n s = outL n s2 := by
  unfold outL
  congr 1
  funext x
  simp [h]
/-- roots share cells just as they did -/
theorem share_moved {C : List HC} {S : List Int} (hcl : Cl C S) {x y : Wd} (hx : x.c = true) (hy : y.c = true) (hxs : x.a ∈ S) (hys : y.a ∈ S) : decide ((mv (gOf S) x).a = (mv (gOf S) y).a) = decide (x.a = y.a) := by
  obtain ⟨i, hi⟩ := List.getElem?_of_mem hxs
  obtain ⟨j, hj⟩ := List.getElem?_of_mem hys
  have h1 : mv (gOf S) x = cellW i := by simp [mv, hx, look_at hcl.nodup hi]
  have h2 : mv (gOf S) y = cellW j := by simp [mv, hy, look_at hcl.nodup hj]
  rw [h1, h2, decide_eq_decide]
  simp only [cellW]
  constructor
  · intro h
    have : i = j := by omega
    subst this
    rw [hi] at hj
    exact Option.some.inj hj
  · intro h
    have h3 := look_at hcl.nodup hi
    have h4 := look_at hcl.nodup hj
    rw [h, h4] at h3
    have := Option.some.inj h3
    omega
end Go.Proofs.YtfbohajojaaiaaaDoor
