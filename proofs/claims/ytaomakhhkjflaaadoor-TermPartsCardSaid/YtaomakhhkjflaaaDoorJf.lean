/- terms: order, Compare. Conditions: the table of letters reads as laid (Compare); the terms read. -/
import Derived.Test.YtaomakhhkjflaaaDoorJe
import Derived.Test.YtaomakhhkjflaaaDoorTf
namespace Go.Proofs.YtaomakhhkjflaaaDoor
open Go.ChangeShapes Go.WideShapes Go.ChangeAt Go.RowKit
set_option linter.unusedVariables false
set_option maxRecDepth 100000
mutual
def ord : Tm → Tm → Int
  | .mk k n s u l, .mk k' n' s' u' l' => if k = k' then orL [cmpI l.length l'.length, cmpS s s', cmpS u u', cmpI n n', ordL l l'] else cmpI k k'
def ordL : List Tm → List Tm → Int
  | [], [] => 0
  | [], _ :: _ => -1
  | _ :: _, [] => 1
  | a :: l, b :: l' => if ord a b = 0 then ordL l l' else ord a b
end
theorem ordL_end {l l' : List Tm} {i : Nat} (h : i = min l.length l'.length) : ordL (l.drop i) (l'.drop i) = cmpI l.length l'.length := by
  unfold cmpI
  rcases Nat.lt_trichotomy l.length l'.length with h1 | h1 | h1
  · rw [if_pos (by omega), show l.drop i = [] from List.drop_eq_nil_of_le (by omega)]
    cases h2 : l'.drop i with
    | nil => have := congrArg List.length h2; rw [List.length_drop] at this; simp at this; omega
    | cons b r => rw [ordL]
  · rw [if_neg (by omega), if_neg (by omega), show l.drop i = [] from List.drop_eq_nil_of_le (by omega), show l'.drop i = [] from List.drop_eq_nil_of_le (by omega), ordL]
  · rw [if_neg (by omega), if_pos (by omega), show l'.drop i = [] from List.drop_eq_nil_of_le (by omega)]
    cases h2 : l.drop i with
    | nil => have := congrArg List.length h2; rw [List.length_drop] at this; simp at this; omega
    | cons b r => rw [ordL]
/-- what a round of rows reads -/
def RwS (b1 o1 b2 o2 : Nat) (k n : Int) (s u : ByteArray) (lv : Value) (k' n' : Int) (s' u' : ByteArray) (lv' : Value) (W : World) : Prop :=
  W.cell? ⟨b1, o1, none⟩ = some (.int .i8 k) ∧ W.cell? ⟨b1, o1 + 1, none⟩ = some (.int .i64 n) ∧ W.cell? ⟨b1, o1 + 2, none⟩ = some (.string s) ∧ W.cell? ⟨b1, o1 + 3, none⟩ = some (.string u) ∧ W.cell? ⟨b1, o1 + 4, none⟩ = some lv ∧
  W.cell? ⟨b2, o2, none⟩ = some (.int .i8 k') ∧ W.cell? ⟨b2, o2 + 1, none⟩ = some (.int .i64 n') ∧ W.cell? ⟨b2, o2 + 2, none⟩ = some (.string s') ∧ W.cell? ⟨b2, o2 + 3, none⟩ = some (.string u') ∧ W.cell? ⟨b2, o2 + 4, none⟩ = some lv'
theorem RwS.keep {b1 o1 b2 o2 : Nat} {k n : Int} {s u : ByteArray} {lv : Value} {k' n' : Int} {s' u' : ByteArray} {lv' : Value} {W W' : World} (h : RwS b1 o1 b2 o2 k n s u lv k' n' s' u' lv' W) (hb : Below W.heap.size W W') : RwS b1 o1 b2 o2 k n s u lv k' n' s' u' lv' W' := by
  obtain ⟨h1, h2, h3, h4, h5, h6, h7, h8, h9, h10⟩ := h
  exact ⟨keep_cell h1 hb, keep_cell h2 hb, keep_cell h3 hb, keep_cell h4 hb, keep_cell h5 hb, keep_cell h6 hb, keep_cell h7 hb, keep_cell h8 hb, keep_cell h9 hb, keep_cell h10 hb⟩
set_option maxHeartbeats 4000000 in
theorem rows_any (f g : Nat) (hord : ∀ f', f = f' + 1 → ∀ g' (t t' : Tm) (v v' : Value) (W : World), TermV f' W v t → TermV g' W v' t' → Calls Tryd.prog 23 #[v, v'] W (IntPost W (ord t t'))) (l l' : List Tm) (ao ao' : Option Addr) (cap cap' : Nat) (w : World)
    (h1 : Row f w (.slice ao l.length cap) l) (h2 : Row g w (.slice ao' l'.length cap') l') (hl : l.length ≤ 9223372036854775807) (hl' : l'.length ≤ 9223372036854775807) :
    Calls Tryd.prog 37 #[.slice ao l.length cap, .slice ao' l'.length cap', .func (.func 23) #[] #[]] w (IntPost w (ordL l l')) := by
  have HO := Lib.hid hord
  have H1 := Lib.hid h1
  have H2 := Lib.hid h2
  have hmin : (min (l.length : Int) (l'.length : Int)) = ((min l.length l'.length : Nat) : Int) := by omega
  have HMIN := Lib.hid hmin
  clear hord h1 h2
  go_enter Tryd.func37, Tryd.ntmps37
  go_wp2_with fail
  go_loopw [14] (fun iv wr => ∃ (i : Nat), i ≤ min l.length l'.length ∧ iv = .int .i64 i ∧ Hid (Below w.heap.size w wr ∧ ordL (l.drop i) (l'.drop i) = ordL l l'))
    (fun iv _ => min l.length l'.length - (intOf iv).toNat)
  case atStart => exact ⟨0, by omega, rfl, Lib.hid ⟨Below.refl _ _, rfl⟩⟩
  case round =>
    obtain ⟨i, hi, rfl, HI⟩ := hrel
    by_cases hlt : i < min l.length l'.length
    · have hd : decide ((i : Int) < min (l.length : Int) (l'.length : Int)) = true := by simp; omega
      obtain ⟨t, ht⟩ : ∃ t, l[i]? = some t := ⟨l[i]'(by omega), List.getElem?_eq_getElem (by omega)⟩
      obtain ⟨t', ht'⟩ : ∃ t', l'[i]? = some t' := ⟨l'[i]'(by omega), List.getElem?_eq_getElem (by omega)⟩
      have hstep := HI.out.2
      rw [drop_cons ht, drop_cons ht', ordL] at hstep
      obtain ⟨b1, o1, f', lv, rfl, hf', hn1, hv1⟩ := (H1.out.keep HI.out.1).elem ht
      obtain ⟨b2, o2, g', lv', rfl, hg', hn2, hv2⟩ := (H2.out.keep HI.out.1).elem ht'
      have hS : RwS b1 (o1 + i * 5) b2 (o2 + i * 5) t.k t.n t.s t.u lv t'.k t'.n t'.s t'.u lv' wr.drew := ⟨hn1.1, hn1.2.1, hn1.2.2.1, hn1.2.2.2.1, hn1.2.2.2.2, hn2.1, hn2.2.1, hn2.2.2.1, hn2.2.2.2.1, hn2.2.2.2.2⟩
      have hdr : Below wr.heap.size wr wr.drew := (Below.refl _ _).drew
      have HCALL := Lib.hid (HO.out f' hf' g' t t' _ _ wr.drew (hv1.keep hdr) (hv2.keep hdr))
      have HBD := Lib.hid (HI.out.1.trans (hdr.mono HI.out.1.size))
      have HST := Lib.hid hstep
      have HT := Lib.hid ht
      have HT' := Lib.hid ht'
      clear hstep hn1 hn2 hv1 hv2 ht ht' hdr
      go_wp2_with fail
      have hi1 : i < l.length := (List.getElem?_eq_some_iff.1 HT.out).1
      have hi2 : i < l'.length := (List.getElem?_eq_some_iff.1 HT'.out).1
      refine region_plan (RwS b1 (o1 + i * 5) b2 (o2 + i * 5) t.k t.n t.s t.u lv t'.k t'.n t'.s t'.u lv') [(0, 0), (1, 0), (2, 0), (3, 0), (4, 0), (5, 0), (6, 0), (7, 0), (8, 0), (9, 1), (10, 0)] (by kernel_rfl) (by kernel_rfl) (by kernel_rfl) hS ?_
      generalize wr.drew = WD at *
      iterate 9 (first | (refine plan_skip rfl ?_ ?_; (focus (rfl)); (try simp only [Act.put, List.setIfInBounds_toArray, List.set_cons_zero, List.set_cons_succ])) | (refine plan_take (v := ?_) rfl ?_ (fun w hSw => ?_) ?_; rotate_left; (focus (rfl)); (focus (unfold RwS at hSw; (go_simp <;> with_reducible rfl))); (try simp only [Act.put, List.setIfInBounds_toArray, List.set_cons_zero, List.set_cons_succ])))
      refine plan_run rfl ?_ (fun K hK => ?_)
      focus (rfl)
      go_simp
      refine (HCALL.out).mono ?_
      rintro e W1 ⟨rfl, hb1⟩
      have hS1 := hS.keep hb1
      have HB1 := Lib.hid (HBD.out.trans (hb1.mono HBD.out.size))
      refine hK.out _ _ hS1 ?_
      clear hK K 
      (try simp only [Act.put, List.setIfInBounds_toArray, List.set_cons_zero, List.set_cons_succ])
      iterate 1 (first | (refine plan_skip rfl ?_ ?_; (focus (rfl)); (try simp only [Act.put, List.setIfInBounds_toArray, List.set_cons_zero, List.set_cons_succ])) | (refine plan_take (v := ?_) rfl ?_ (fun w hSw => ?_) ?_; rotate_left; (focus (rfl)); (focus (unfold RwS at hSw; (go_simp <;> with_reducible rfl))); (try simp only [Act.put, List.setIfInBounds_toArray, List.set_cons_zero, List.set_cons_succ])))
      refine plan_done ?_
      clear hS hS1 hb1
      obtain ⟨c, hc⟩ : ∃ c, ord t t' = c := ⟨_, rfl⟩
      rw [hc] at HST ⊢
      by_cases h0 : c = 0
      · have hst := HST.out
        rw [if_pos h0] at hst
        have HS := Lib.hid hst
        have d0 : (c != 0) = false := by simp [h0]
        clear hst HST h0 hc
        go_wp2_with fail
        go_roundw
        case rel => exact ⟨i + 1, by omega, by go_num, Lib.hid ⟨HB1.out, HS.out⟩⟩
        case measure => simp [intOf]; omega
      · have hst := HST.out
        rw [if_neg h0] at hst
        have HS := Lib.hid hst
        have d0 : (c != 0) = true := by simp [h0]
        clear hst HST h0 hc
        go_wp2_with fail
        go_ret
        exact ⟨by rw [← HS.out]; rfl, HB1.out⟩
    · have hil : i = min l.length l'.length := by omega
      have hd : decide ((i : Int) < min (l.length : Int) (l'.length : Int)) = false := by simp; omega
      have HS : Hid (ordL l l' = cmpI l.length l'.length) := Lib.hid (by rw [← HI.out.2, ordL_end hil])
      go_wp2_with fail
      refine (cmpi_any wr l.length l'.length).mono ?_
      rintro e w' ⟨rfl, rfl⟩
      go_wp2_with fail
      go_ret
      exact ⟨by rw [HS.out]; rfl, HI.out.1⟩
set_option maxHeartbeats 4000000 in
theorem order_any : ∀ (f g : Nat) (t t' : Tm) (v v' : Value) (w : World), TermV f w v t → TermV g w v' t' → Calls Tryd.prog 23 #[v, v'] w (IntPost w (ord t t')) := by
  intro f
  induction f using Nat.strongRecOn with
  | ind f ih =>
    intro g t t' v v' w hv hv'
    obtain ⟨k, n, s, u, l, ao, cap, rfl, rfl, hf, hl, hcap, hrow⟩ := hv.mk'
    obtain ⟨k', n', s', u', l', ao', cap', rfl, rfl, hf', hl', hcap', hrow'⟩ := hv'.mk'
    have hb := ((Below.refl w.heap.size w).alloc (Nat.le_refl _) (.cells #[.int .i8 k, .int .i64 n, .string s, .string u, .slice ao l.length cap] 25)).alloc (by simp) (.cells #[.int .i8 k', .int .i64 n', .string s', .string u', .slice ao' l'.length cap'] 25)
    have n1 := heap_old (heap_new w (.cells #[.int .i8 k, .int .i64 n, .string s, .string u, .slice ao l.length cap] 25)) (.cells #[.int .i8 k', .int .i64 n', .string s', .string u', .slice ao' l'.length cap'] 25)
    have n2 := heap_new (w.alloc (.cells #[.int .i8 k, .int .i64 n, .string s, .string u, .slice ao l.length cap] 25)) (.cells #[.int .i8 k', .int .i64 n', .string s', .string u', .slice ao' l'.length cap'] 25)
    rw [World.size_alloc] at n2
    rw [ord]
    have hS : RwS w.heap.size 0 (w.heap.size + 1) 0 k n s u (.slice ao l.length cap) k' n' s' u' (.slice ao' l'.length cap') ((w.alloc (.cells #[.int .i8 k, .int .i64 n, .string s, .string u, .slice ao l.length cap] 25)).alloc (.cells #[.int .i8 k', .int .i64 n', .string s', .string u', .slice ao' l'.length cap'] 25)).drew :=
      ⟨(cells_at n1 0 _ rfl).1, (cells_at n1 1 _ rfl).1, (cells_at n1 2 _ rfl).1, (cells_at n1 3 _ rfl).1, (cells_at n1 4 _ rfl).1, (cells_at n2 0 _ rfl).1, (cells_at n2 1 _ rfl).1, (cells_at n2 2 _ rfl).1, (cells_at n2 3 _ rfl).1, (cells_at n2 4 _ rfl).1⟩
    have HB := Lib.hid hb
    have HR : Hid (∀ W, Below w.heap.size w W → Calls Tryd.prog 37 #[.slice ao l.length cap, .slice ao' l'.length cap', .func (.func 23) #[] #[]] W (IntPost W (ordL l l'))) := Lib.hid (fun W hb => rows_any f g (fun f' h => ih f' (by omega)) l l' ao ao' cap cap' W (hrow.keep hb) (hrow'.keep hb) (by omega) (by omega))
    clear hv hv' hrow hrow' hb n1 n2 ih hf hf'
    by_cases hk : k = k'
    · subst hk
      rw [if_pos rfl]
      have dk : (k != k) = false := by simp
      go_enter Tryd.func23, Tryd.ntmps23
      go_wp2_with fail
      refine region_plan (RwS w.heap.size 0 (w.heap.size + 1) 0 k n s u (.slice ao l.length cap) k n' s' u' (.slice ao' l'.length cap')) [(0, 0), (1, 0), (2, 0), (3, 0), (4, 0), (5, 0), (7, 0), (8, 0), (9, 0), (10, 0), (12, 0), (13, 0), (14, 0), (15, 0), (17, 0), (18, 0), (19, 0), (20, 0), (22, 0), (23, 0), (24, 0), (25, 0), (6, 1), (11, 1), (16, 1), (21, 1), (26, 1), (27, 1), (28, 1), (29, 0)] (by kernel_rfl) (by kernel_rfl) (by kernel_rfl) hS ?_
      have HBD := Lib.hid HB.out.drew
      generalize ((w.alloc (.cells #[.int .i8 k, .int .i64 n, .string s, .string u, .slice ao l.length cap] 25)).alloc (.cells #[.int .i8 k, .int .i64 n', .string s', .string u', .slice ao' l'.length cap'] 25)).drew = WD at *
      iterate 22 (first | (refine plan_skip rfl ?_ ?_; (focus (rfl)); (try simp only [Act.put, List.setIfInBounds_toArray, List.set_cons_zero, List.set_cons_succ])) | (refine plan_take (v := ?_) rfl ?_ (fun w hSw => ?_) ?_; rotate_left; (focus (rfl)); (focus (unfold RwS at hSw; (go_simp <;> with_reducible rfl))); (try simp only [Act.put, List.setIfInBounds_toArray, List.set_cons_zero, List.set_cons_succ])))
      refine plan_run rfl ?_ (fun K hK => ?_)
      focus (rfl)
      go_simp
      refine (cmpi_any _ _ _).mono ?_
      rintro e W1 ⟨rfl, rfl⟩
      have hS1 := hS
      refine hK.out _ _ hS1 ?_
      clear hK K 
      (try simp only [Act.put, List.setIfInBounds_toArray, List.set_cons_zero, List.set_cons_succ])
      refine plan_run rfl ?_ (fun K hK => ?_)
      focus (rfl)
      go_simp
      refine (cmps_any _ _ _).mono ?_
      rintro e W1 ⟨rfl, rfl⟩
      have hS2 := hS
      refine hK.out _ _ hS2 ?_
      clear hK K 
      (try simp only [Act.put, List.setIfInBounds_toArray, List.set_cons_zero, List.set_cons_succ])
      refine plan_run rfl ?_ (fun K hK => ?_)
      focus (rfl)
      go_simp
      refine (cmps_any _ _ _).mono ?_
      rintro e W1 ⟨rfl, rfl⟩
      have hS3 := hS
      refine hK.out _ _ hS3 ?_
      clear hK K 
      (try simp only [Act.put, List.setIfInBounds_toArray, List.set_cons_zero, List.set_cons_succ])
      refine plan_run rfl ?_ (fun K hK => ?_)
      focus (rfl)
      go_simp
      refine (cmpi_any _ _ _).mono ?_
      rintro e W1 ⟨rfl, rfl⟩
      have hS4 := hS
      refine hK.out _ _ hS4 ?_
      clear hK K 
      (try simp only [Act.put, List.setIfInBounds_toArray, List.set_cons_zero, List.set_cons_succ])
      refine plan_run rfl ?_ (fun K hK => ?_)
      focus (rfl)
      go_simp
      refine (HR.out _ HBD.out).mono ?_
      rintro e W1 ⟨rfl, hb1⟩
      have hS5 := hS.keep hb1
      refine hK.out _ _ hS5 ?_
      clear hK K 
      (try simp only [Act.put, List.setIfInBounds_toArray, List.set_cons_zero, List.set_cons_succ])
      have HB1 := Lib.hid (HBD.out.trans (hb1.mono HBD.out.size))
      have hb2 := (Below.refl W1.heap.size W1).alloc (Nat.le_refl _) (.cells #[.int .i64 (cmpI l.length l'.length), .int .i64 (cmpS s s'), .int .i64 (cmpS u u'), .int .i64 (cmpI n n'), .int .i64 (ordL l l')] 3)
      have hn2 := heap_new W1 (.cells #[.int .i64 (cmpI l.length l'.length), .int .i64 (cmpS s s'), .int .i64 (cmpS u u'), .int .i64 (cmpI n n'), .int .i64 (ordL l l')] 3)
      have hS6 := hS5.keep hb2
      refine plan_run rfl ?_ (fun K hK => ?_)
      focus (rfl)
      go_simp
      refine hK.out _ _ (hS6) ?_
      clear hK K
      (try simp only [Act.put, List.setIfInBounds_toArray, List.set_cons_zero, List.set_cons_succ])
      have HB2 := Lib.hid (HB1.out.trans (hb2.mono HB1.out.size))
      have hor := or_any _ [cmpI l.length l'.length, cmpS s s', cmpS u u', cmpI n n', ordL l l'] W1.heap.size 0 5 (fun j x hj => by
        rw [Nat.zero_add]
        match j, hj with
        | 0, hj => simp at hj; subst hj; exact (cells_at hn2 0 _ rfl).1
        | 1, hj => simp at hj; subst hj; exact (cells_at hn2 1 _ rfl).1
        | 2, hj => simp at hj; subst hj; exact (cells_at hn2 2 _ rfl).1
        | 3, hj => simp at hj; subst hj; exact (cells_at hn2 3 _ rfl).1
        | 4, hj => simp at hj; subst hj; exact (cells_at hn2 4 _ rfl).1) (heap_lt hn2) (by simp)
      refine plan_run rfl ?_ (fun K hK => ?_)
      focus (rfl)
      go_simp
      refine (hor).mono ?_
      rintro e W9 ⟨rfl, rfl⟩
      have hS7 := hS6
      refine hK.out _ _ hS7 ?_
      clear hK K 
      (try simp only [Act.put, List.setIfInBounds_toArray, List.set_cons_zero, List.set_cons_succ])
      iterate 1 (first | (refine plan_skip rfl ?_ ?_; (focus (rfl)); (try simp only [Act.put, List.setIfInBounds_toArray, List.set_cons_zero, List.set_cons_succ])) | (refine plan_take (v := ?_) rfl ?_ (fun w hSw => ?_) ?_; rotate_left; (focus (rfl)); (focus (unfold RwS at hSw; (go_simp <;> with_reducible rfl))); (try simp only [Act.put, List.setIfInBounds_toArray, List.set_cons_zero, List.set_cons_succ])))
      refine plan_done ?_
      go_wp2_with fail
      go_ret
      exact ⟨rfl, HB2.out⟩
    · rw [if_neg hk]
      have dk : (k != k') = true := by simp [hk]
      go_enter Tryd.func23, Tryd.ntmps23
      go_wp2_with fail
      refine (cmp8_any _ k k').mono ?_
      rintro e w' ⟨rfl, rfl⟩
      go_wp2_with fail
      go_ret
      exact ⟨rfl, HB.out⟩
def cmpT (t t' : Tm) : Int := if checkN t = 0 then (if checkN t' = 0 then ord t t' else 0) else 0
set_option maxHeartbeats 4000000 in
theorem compare_any (f g : Nat) (t t' : Tm) (v v' : Value) (w : World) (hL : Cells w 0 letL) (hv : TermV f w v t) (hv' : TermV g w v' t') : Calls Tryd.prog 10 #[v, v'] w (IntPost w (cmpT t t')) := by
  obtain ⟨k, n, s, u, l, ao, cap, rfl, rfl, hf, hl, hcap, hrow⟩ := hv.mk'
  obtain ⟨k', n', s', u', l', ao', cap', rfl, rfl, hf', hl', hcap', hrow'⟩ := hv'.mk'
  have hb := ((Below.refl w.heap.size w).alloc (Nat.le_refl _) (.cells #[.int .i8 k, .int .i64 n, .string s, .string u, .slice ao l.length cap] 25)).alloc (by simp) (.cells #[.int .i8 k', .int .i64 n', .string s', .string u', .slice ao' l'.length cap'] 25)
  have n1 := heap_old (heap_new w (.cells #[.int .i8 k, .int .i64 n, .string s, .string u, .slice ao l.length cap] 25)) (.cells #[.int .i8 k', .int .i64 n', .string s', .string u', .slice ao' l'.length cap'] 25)
  have n2 := heap_new (w.alloc (.cells #[.int .i8 k, .int .i64 n, .string s, .string u, .slice ao l.length cap] 25)) (.cells #[.int .i8 k', .int .i64 n', .string s', .string u', .slice ao' l'.length cap'] 25)
  rw [World.size_alloc] at n2
  have HB := Lib.hid hb
  have HK : Hid (∀ W, Below w.heap.size w W → Cells W 0 letL ∧ TermV f W (.agg #[.int .i8 k, .int .i64 n, .string s, .string u, .slice ao l.length cap]) (.mk k n s u l) ∧ TermV g W (.agg #[.int .i8 k', .int .i64 n', .string s', .string u', .slice ao' l'.length cap']) (.mk k' n' s' u' l')) :=
    Lib.hid (fun W h => ⟨fun j r hj => ⟨keep_cell (hL j r hj).1 h, keep_cell (hL j r hj).2 h⟩, hv.keep h, hv'.keep h⟩)
  have HN1 := Lib.hid n1
  have HN2 := Lib.hid n2
  have hE : cmpT (.mk k n s u l) (.mk k' n' s' u' l') = if checkN (.mk k n s u l) = 0 then (if checkN (.mk k' n' s' u' l') = 0 then ord (.mk k n s u l) (.mk k' n' s' u' l') else 0) else 0 := rfl
  generalize cmpT (.mk k n s u l) (.mk k' n' s' u' l') = res at *
  clear hL hv hv' hrow hrow' hb n1 n2 hf hf'
  have H1 := Lib.hid (check_any f (.mk k n s u l) _ _ (HK.out _ HB.out).1 (HK.out _ HB.out).2.1)
  by_cases h1 : checkN (.mk k n s u l) = 0
  · rw [h1] at H1
    rw [if_pos h1] at hE
    clear h1
    have HE := Lib.hid hE
    clear hE
    go_enter Tryd.func10, Tryd.ntmps10
    go_wp2_with fail
    refine H1.out.mono ?_
    rintro e w1 ⟨rfl, hb1⟩
    have HB1 := Lib.hid (HB.out.trans (hb1.mono HB.out.size))
    have m1 := keep_heap HN1.out hb1
    have m2 := keep_heap HN2.out hb1
    have HM1 := Lib.hid m1
    have HM2 := Lib.hid m2
    clear hb1
    obtain ⟨y0, -⟩ := cells_at m2 0 _ rfl
    obtain ⟨y1, -⟩ := cells_at m2 1 _ rfl
    obtain ⟨y2, -⟩ := cells_at m2 2 _ rfl
    obtain ⟨y3, -⟩ := cells_at m2 3 _ rfl
    obtain ⟨y4, -⟩ := cells_at m2 4 _ rfl
    clear m1 m2
    have H2 := Lib.hid (check_any g (.mk k' n' s' u' l') _ _ (HK.out _ HB1.out).1 (HK.out _ HB1.out).2.2)
    by_cases h2 : checkN (.mk k' n' s' u' l') = 0
    · have hE2 := HE.out
      rw [h2] at H2
      rw [if_pos h2] at hE2
      have HE2 := Lib.hid hE2
      clear h2 hE2
      go_wp2_with fail
      refine H2.out.mono ?_
      rintro e w2 ⟨rfl, hb2⟩
      have HB2 := Lib.hid (HB1.out.trans (hb2.mono HB1.out.size))
      have m1 := keep_heap HM1.out hb2
      have m2 := keep_heap HM2.out hb2
      clear hb2 y0 y1 y2 y3 y4
      obtain ⟨x0, -⟩ := cells_at m1 0 _ rfl
      obtain ⟨x1, -⟩ := cells_at m1 1 _ rfl
      obtain ⟨x2, -⟩ := cells_at m1 2 _ rfl
      obtain ⟨x3, -⟩ := cells_at m1 3 _ rfl
      obtain ⟨x4, -⟩ := cells_at m1 4 _ rfl
      obtain ⟨y0, -⟩ := cells_at m2 0 _ rfl
      obtain ⟨y1, -⟩ := cells_at m2 1 _ rfl
      obtain ⟨y2, -⟩ := cells_at m2 2 _ rfl
      obtain ⟨y3, -⟩ := cells_at m2 3 _ rfl
      obtain ⟨y4, -⟩ := cells_at m2 4 _ rfl
      clear m1 m2
      have H3 := Lib.hid (order_any f g (.mk k n s u l) (.mk k' n' s' u' l') _ _ _ (HK.out _ HB2.out).2.1 (HK.out _ HB2.out).2.2)
      go_wp2_with fail
      refine H3.out.mono ?_
      rintro e w3 ⟨rfl, hb3⟩
      have HB3 := Lib.hid (HB2.out.trans (hb3.mono HB2.out.size))
      clear hb3
      go_wp2_with fail
      go_ret
      exact ⟨by rw [HE2.out]; rfl, HB3.out⟩
    · have hE2 := HE.out
      rw [if_neg h2] at hE2
      have HE2 := Lib.hid hE2
      have d2 : (checkN (.mk k' n' s' u' l') != 0) = true := by simp [h2]
      clear hE2
      generalize checkN (.mk k' n' s' u' l') = c2 at *
      clear h2
      go_wp2_with fail
      refine H2.out.mono ?_
      rintro e w2 ⟨rfl, hb2⟩
      have HB2 := Lib.hid (HB1.out.trans (hb2.mono HB1.out.size))
      clear hb2
      go_wp2_with fail
      go_ret
      exact ⟨by rw [HE2.out]; rfl, HB2.out⟩
  · rw [if_neg h1] at hE
    have d2 : (checkN (.mk k n s u l) != 0) = true := by simp [h1]
    generalize checkN (.mk k n s u l) = c1 at *
    clear h1
    have HE := Lib.hid hE
    clear hE
    go_enter Tryd.func10, Tryd.ntmps10
    go_wp2_with fail
    refine H1.out.mono ?_
    rintro e w1 ⟨rfl, hb1⟩
    have HB1 := Lib.hid (HB.out.trans (hb1.mono HB.out.size))
    clear hb1
    go_wp2_with fail
    go_ret
    exact ⟨by rw [HE.out]; rfl, HB1.out⟩
end Go.Proofs.YtaomakhhkjflaaaDoor
