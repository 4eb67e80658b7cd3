/- the program's mail.same. Conditions: the terms read. -/
import Derived.Test.YthpmdeofdlcccaaGreatDoorTz
namespace Go.Proofs.YthpmdeofdlcccaaGreatDoor
open Go.ChangeShapes Go.WideShapes Go.ChangeAt Go.RowKit
set_option linter.unusedVariables false
set_option linter.unusedSimpArgs false
set_option maxRecDepth 100000
def SmN (_ : World) : Prop := True
set_option maxHeartbeats 8000000 in
theorem msame_any : ∀ (f g : Nat) (t t' : Tm) (v v' : Value) (w : World), TermV f w v t → TermV g w v' t' → Calls Tryz.prog 84 #[v, v'] w (IsPost w (eqT t t')) := by
  intro f
  induction f using Nat.strongRecOn with
  | ind f ih =>
    intro g t t' v v' w hv hv'
    obtain ⟨k, n, s, u, l, ao, cap, rfl, rfl, hf, hl, hcap, hrow⟩ := hv.mk'
    obtain ⟨k', n', s', u', l', ao', cap', rfl, rfl, hf', hl', hcap', hrow'⟩ := hv'.mk'
    have hb := ((Below.refl w.heap.size w).alloc (Nat.le_refl _) (.cells #[.int .i8 k, .int .i64 n, .string s, .string u, .slice ao l.length cap] 25)).alloc (by simp) (.cells #[.int .i8 k', .int .i64 n', .string s', .string u', .slice ao' l'.length cap'] 25)
    have n1 := heap_old (heap_new w (.cells #[.int .i8 k, .int .i64 n, .string s, .string u, .slice ao l.length cap] 25)) (.cells #[.int .i8 k', .int .i64 n', .string s', .string u', .slice ao' l'.length cap'] 25)
    have n2 := heap_new (w.alloc (.cells #[.int .i8 k, .int .i64 n, .string s, .string u, .slice ao l.length cap] 25)) (.cells #[.int .i8 k', .int .i64 n', .string s', .string u', .slice ao' l'.length cap'] 25)
    rw [World.size_alloc] at n2
    have HB := Lib.hid hb
    have HROW := Lib.hid (And.intro (hrow.keep hb) (hrow'.keep hb))
    have HIH := Lib.hid ih
    have HN1 := Lib.hid n1
    have HN2 := Lib.hid n2
    have hE : eqT (.mk k n s u l) (.mk k' n' s' u' l') = (decide (k = k') && (decide (n = n') && (decide (s = s') && (decide (u = u') && (decide (l.length = l'.length) && eqL l l'))))) := by rw [eqT]
    generalize eqT (.mk k n s u l) (.mk k' n' s' u' l') = res at *
    have HE0 := Lib.hid hE
    clear hE
    clear hv hv' hrow hrow' hb n1 n2 ih hf hf'
    by_cases h1 : k = k'
    · subst h1
      have d1 : (k == k) = true := by simp
      by_cases h1 : n = n'
      · subst h1
        have d2 : (n == n) = true := by simp
        by_cases h1 : s = s'
        · subst h1
          by_cases h1 : u = u'
          · subst h1
            by_cases h1 : l.length = l'.length
            · have d5 : ((l.length : Int) == (l'.length : Int)) = true := by simp [h1]
              have HE : Hid (res = eqL l l') := Lib.hid (by rw [HE0.out]; simp [h1])
              have HLL := Lib.hid h1
              clear h1 HE0
              go_enter Tryz.func84, Tryz.ntmps84
              go_wp2_with fail
              generalize (w.alloc (.cells #[.int .i8 k, .int .i64 n, .string s, .string u, .slice ao l.length cap] 25)).alloc (.cells #[.int .i8 k, .int .i64 n, .string s, .string u, .slice ao' l'.length cap'] 25) = W0 at *
              go_loopw [5, 45] (fun ov iv wr => ∃ (i : Nat) (b : Bool), i ≤ l.length ∧ ov = .bool b ∧ iv = .int .i64 i ∧ Hid (Below W0.heap.size W0 wr ∧ (b && eqL (l.drop i) (l'.drop i)) = eqL l l'))
                (fun _ iv _ => l.length - (intOf iv).toNat)
              case atStart => exact ⟨0, true, by omega, rfl, rfl, Lib.hid ⟨Below.refl _ _, rfl⟩⟩
              case round =>
                obtain ⟨i, b, hi, rfl, rfl, HI⟩ := hrel
                have m1 := keep_heap HN1.out HI.out.1
                have m2 := keep_heap HN2.out HI.out.1
                obtain ⟨x4, -⟩ := cells_at m1 4 _ rfl
                obtain ⟨y4, -⟩ := cells_at m2 4 _ rfl
                by_cases hlt : i < l.length
                · cases b
                  · clear m1 m2 x4 y4
                    have HF := Lib.hid HI.out.2
                    have HB1 := Lib.hid (HI.out.1.trans ((Below.refl wr.heap.size wr).drew.mono HI.out.1.size))
                    clear HI
                    go_wp2_with fail
                    refine region_plan (SmN) [(0, 0), (1, 0), (2, 0), (3, 0), (4, 0), (5, 0), (6, 0), (7, 0), (8, 0), (9, 0), (10, 0), (11, 0), (12, 1), (13, 0), (14, 0)] (by kernel_rfl) (by kernel_rfl) (by kernel_rfl) trivial ?_
                    generalize wr.drew = WD at *
                    iterate 12 (first | (refine plan_skip rfl ?_ ?_; (focus (rfl)); (try simp only [Act.put, List.setIfInBounds_toArray, List.set_cons_zero, List.set_cons_succ])) | (refine plan_take (v := ?_) rfl ?_ (fun w hSw => ?_) ?_; rotate_left; (focus (rfl)); (focus (unfold SmN at hSw; (go_simp <;> with_reducible rfl))); (try simp only [Act.put, List.setIfInBounds_toArray, List.set_cons_zero, List.set_cons_succ])))
                    (refine plan_run_skip rfl ?_ trivial ?_; (focus (rfl)); (try simp only [Act.put, List.setIfInBounds_toArray, List.set_cons_zero, List.set_cons_succ]))
                    iterate 2 (first | (refine plan_skip rfl ?_ ?_; (focus (rfl)); (try simp only [Act.put, List.setIfInBounds_toArray, List.set_cons_zero, List.set_cons_succ])) | (refine plan_take (v := ?_) rfl ?_ (fun w hSw => ?_) ?_; rotate_left; (focus (rfl)); (focus (unfold SmN at hSw; (go_simp <;> with_reducible rfl))); (try simp only [Act.put, List.setIfInBounds_toArray, List.set_cons_zero, List.set_cons_succ])))
                    refine plan_done ?_
                    go_wp2_with fail
                    go_roundw
                    case rel => exact ⟨i + 1, false, by omega, rfl, by go_num, Lib.hid ⟨HB1.out, by rw [← HF.out]; rfl⟩⟩
                    case measure => simp [intOf]; omega
                  · obtain ⟨t, ht⟩ : ∃ t, l[i]? = some t := ⟨l[i]'(by omega), List.getElem?_eq_getElem (by omega)⟩
                    obtain ⟨t', ht'⟩ : ∃ t', l'[i]? = some t' := ⟨l'[i]'(by rw [← HLL.out]; omega), List.getElem?_eq_getElem (by rw [← HLL.out]; omega)⟩
                    have hstep := HI.out.2
                    rw [drop_cons ht, drop_cons ht', eqL, Bool.true_and] at hstep
                    obtain ⟨b1, o1, f', lv, rfl, hf', hn1, hv1⟩ := (HROW.out.1.keep HI.out.1).elem ht
                    obtain ⟨b2, o2, g', lv', rfl, hg', hn2, hv2⟩ := (HROW.out.2.keep HI.out.1).elem ht'
                    have hS : SmS w.heap.size (.slice (some ⟨b1, o1, none⟩) l.length cap) (.slice (some ⟨b2, o2, none⟩) l'.length cap') b1 (o1 + i * 5) b2 (o2 + i * 5) t.k t.n t.s t.u lv t'.k t'.n t'.s t'.u lv' wr.drew :=
                      ⟨x4, y4, hn1.1, hn1.2.1, hn1.2.2.1, hn1.2.2.2.1, hn1.2.2.2.2, hn2.1, hn2.2.1, hn2.2.2.1, hn2.2.2.2.1, hn2.2.2.2.2⟩
                    have hdr : Below wr.heap.size wr wr.drew := (Below.refl _ _).drew
                    have HCALL := Lib.hid (HIH.out f' (by omega) g' t t' _ _ wr.drew (hv1.keep hdr) (hv2.keep hdr))
                    have HBD := Lib.hid (HI.out.1.trans (hdr.mono HI.out.1.size))
                    have HST := Lib.hid hstep
                    have HT := Lib.hid ht
                    have HT' := Lib.hid ht'
                    clear hstep hn1 hn2 hv1 hv2 ht ht' hdr m1 m2
                    go_wp2_with fail
                    have hi1 : i < l.length := (List.getElem?_eq_some_iff.1 HT.out).1
                    have hi2 : i < l'.length := (List.getElem?_eq_some_iff.1 HT'.out).1
                    refine region_plan (SmS w.heap.size (.slice (some ⟨b1, o1, none⟩) l.length cap) (.slice (some ⟨b2, o2, none⟩) l'.length cap') b1 (o1 + i * 5) b2 (o2 + i * 5) t.k t.n t.s t.u lv t'.k t'.n t'.s t'.u lv') [(0, 0), (1, 0), (2, 0), (3, 0), (4, 0), (5, 0), (6, 0), (7, 0), (8, 0), (9, 0), (10, 0), (11, 0), (12, 1), (13, 0), (14, 0)] (by kernel_rfl) (by kernel_rfl) (by kernel_rfl) hS ?_
                    generalize wr.drew = WD at *
                    iterate 12 (first | (refine plan_skip rfl ?_ ?_; (focus (rfl)); (try simp only [Act.put, List.setIfInBounds_toArray, List.set_cons_zero, List.set_cons_succ])) | (refine plan_take (v := ?_) rfl ?_ (fun w hSw => ?_) ?_; rotate_left; (focus (rfl)); (focus (unfold SmS at hSw; (go_simp <;> with_reducible rfl))); (try simp only [Act.put, List.setIfInBounds_toArray, List.set_cons_zero, List.set_cons_succ])))
                    refine plan_run rfl ?_ (fun K hK => ?_)
                    focus (rfl)
                    go_simp
                    refine (HCALL.out).mono ?_
                    rintro e W1 ⟨rfl, hb1⟩
                    have hS1 := hS.keep hb1
                    have HB1 := Lib.hid (HBD.out.trans (hb1.mono HBD.out.size))
                    refine hK.out _ _ hS1 ?_
                    clear hK K 
                    (try simp only [Act.put, List.setIfInBounds_toArray, List.set_cons_zero, List.set_cons_succ])
                    iterate 2 (first | (refine plan_skip rfl ?_ ?_; (focus (rfl)); (try simp only [Act.put, List.setIfInBounds_toArray, List.set_cons_zero, List.set_cons_succ])) | (refine plan_take (v := ?_) rfl ?_ (fun w hSw => ?_) ?_; rotate_left; (focus (rfl)); (focus (unfold SmS at hSw; (go_simp <;> with_reducible rfl))); (try simp only [Act.put, List.setIfInBounds_toArray, List.set_cons_zero, List.set_cons_succ])))
                    refine plan_done ?_
                    clear hS hS1 hb1 x4 y4
                    go_wp2_with fail
                    go_roundw
                    case rel => exact ⟨i + 1, eqT t t', by omega, rfl, by go_num, Lib.hid ⟨HB1.out, HST.out⟩⟩
                    case measure => simp [intOf]; omega
                · have hil : i = l.length := by omega
                  have HF : Hid (res = b) := Lib.hid (by rw [HE.out, ← HI.out.2, hil, List.drop_length, eqL, Bool.and_true])
                  clear m1 m2
                  go_wp2_with fail
                  go_ret
                  exact ⟨by rw [HF.out]; rfl, HB.out.trans (HI.out.1.mono HB.out.size)⟩
            · have d5 : ((l.length : Int) == (l'.length : Int)) = false := by simp; omega
              have HE : Hid (res = false) := Lib.hid (by rw [HE0.out]; simp [h1])
              clear h1
              go_enter Tryz.func84, Tryz.ntmps84
              go_wp2_with fail
              generalize (w.alloc (.cells #[.int .i8 k, .int .i64 n, .string s, .string u, .slice ao l.length cap] 25)).alloc (.cells #[.int .i8 k, .int .i64 n, .string s, .string u, .slice ao' l'.length cap'] 25) = W0 at *
              go_loopw [5, 45] (fun ov iv wr => ∃ (i : Nat), i ≤ l.length ∧ ov = .bool false ∧ iv = .int .i64 i ∧ Hid (Below W0.heap.size W0 wr))
                (fun _ iv _ => l.length - (intOf iv).toNat)
              case atStart => exact ⟨0, by omega, rfl, rfl, Lib.hid (Below.refl _ _)⟩
              case round =>
                obtain ⟨i, hi, rfl, rfl, HI⟩ := hrel
                by_cases hlt : i < l.length
                · go_wp2_with fail
                  refine region_plan (SmN) [(0, 0), (1, 0), (2, 0), (3, 0), (4, 0), (5, 0), (6, 0), (7, 0), (8, 0), (9, 0), (10, 0), (11, 0), (12, 1), (13, 0), (14, 0)] (by kernel_rfl) (by kernel_rfl) (by kernel_rfl) trivial ?_
                  iterate 12 (first | (refine plan_skip rfl ?_ ?_; (focus (rfl)); (try simp only [Act.put, List.setIfInBounds_toArray, List.set_cons_zero, List.set_cons_succ])) | (refine plan_take (v := ?_) rfl ?_ (fun w hSw => ?_) ?_; rotate_left; (focus (rfl)); (focus (unfold SmN at hSw; (go_simp <;> with_reducible rfl))); (try simp only [Act.put, List.setIfInBounds_toArray, List.set_cons_zero, List.set_cons_succ])))
                  (refine plan_run_skip rfl ?_ trivial ?_; (focus (rfl)); (try simp only [Act.put, List.setIfInBounds_toArray, List.set_cons_zero, List.set_cons_succ]))
                  iterate 2 (first | (refine plan_skip rfl ?_ ?_; (focus (rfl)); (try simp only [Act.put, List.setIfInBounds_toArray, List.set_cons_zero, List.set_cons_succ])) | (refine plan_take (v := ?_) rfl ?_ (fun w hSw => ?_) ?_; rotate_left; (focus (rfl)); (focus (unfold SmN at hSw; (go_simp <;> with_reducible rfl))); (try simp only [Act.put, List.setIfInBounds_toArray, List.set_cons_zero, List.set_cons_succ])))
                  refine plan_done ?_
                  go_wp2_with fail
                  go_roundw
                  case rel => exact ⟨i + 1, by omega, rfl, by go_num, Lib.hid (HI.out.trans ((Below.refl _ _).drew.mono HI.out.size))⟩
                  case measure => simp [intOf]; omega
                · go_wp2_with fail
                  go_ret
                  exact ⟨by rw [HE.out]; rfl, HB.out.trans (HI.out.mono HB.out.size)⟩
          · have q1 := str_ne h1
            have HE : Hid (res = false) := Lib.hid (by rw [HE0.out]; simp [h1])
            clear h1
            go_enter Tryz.func84, Tryz.ntmps84
            go_wp2_with fail
            generalize (w.alloc (.cells #[.int .i8 k, .int .i64 n, .string s, .string u, .slice ao l.length cap] 25)).alloc (.cells #[.int .i8 k, .int .i64 n, .string s, .string u', .slice ao' l'.length cap'] 25) = W0 at *
            go_loopw [5, 45] (fun ov iv wr => ∃ (i : Nat), i ≤ l.length ∧ ov = .bool false ∧ iv = .int .i64 i ∧ Hid (Below W0.heap.size W0 wr))
              (fun _ iv _ => l.length - (intOf iv).toNat)
            case atStart => exact ⟨0, by omega, rfl, rfl, Lib.hid (Below.refl _ _)⟩
            case round =>
              obtain ⟨i, hi, rfl, rfl, HI⟩ := hrel
              by_cases hlt : i < l.length
              · go_wp2_with fail
                refine region_plan (SmN) [(0, 0), (1, 0), (2, 0), (3, 0), (4, 0), (5, 0), (6, 0), (7, 0), (8, 0), (9, 0), (10, 0), (11, 0), (12, 1), (13, 0), (14, 0)] (by kernel_rfl) (by kernel_rfl) (by kernel_rfl) trivial ?_
                iterate 12 (first | (refine plan_skip rfl ?_ ?_; (focus (rfl)); (try simp only [Act.put, List.setIfInBounds_toArray, List.set_cons_zero, List.set_cons_succ])) | (refine plan_take (v := ?_) rfl ?_ (fun w hSw => ?_) ?_; rotate_left; (focus (rfl)); (focus (unfold SmN at hSw; (go_simp <;> with_reducible rfl))); (try simp only [Act.put, List.setIfInBounds_toArray, List.set_cons_zero, List.set_cons_succ])))
                (refine plan_run_skip rfl ?_ trivial ?_; (focus (rfl)); (try simp only [Act.put, List.setIfInBounds_toArray, List.set_cons_zero, List.set_cons_succ]))
                iterate 2 (first | (refine plan_skip rfl ?_ ?_; (focus (rfl)); (try simp only [Act.put, List.setIfInBounds_toArray, List.set_cons_zero, List.set_cons_succ])) | (refine plan_take (v := ?_) rfl ?_ (fun w hSw => ?_) ?_; rotate_left; (focus (rfl)); (focus (unfold SmN at hSw; (go_simp <;> with_reducible rfl))); (try simp only [Act.put, List.setIfInBounds_toArray, List.set_cons_zero, List.set_cons_succ])))
                refine plan_done ?_
                go_wp2_with fail
                go_roundw
                case rel => exact ⟨i + 1, by omega, rfl, by go_num, Lib.hid (HI.out.trans ((Below.refl _ _).drew.mono HI.out.size))⟩
                case measure => simp [intOf]; omega
              · go_wp2_with fail
                go_ret
                exact ⟨by rw [HE.out]; rfl, HB.out.trans (HI.out.mono HB.out.size)⟩
        · have q1 := str_ne h1
          have HE : Hid (res = false) := Lib.hid (by rw [HE0.out]; simp [h1])
          clear h1
          go_enter Tryz.func84, Tryz.ntmps84
          go_wp2_with fail
          generalize (w.alloc (.cells #[.int .i8 k, .int .i64 n, .string s, .string u, .slice ao l.length cap] 25)).alloc (.cells #[.int .i8 k, .int .i64 n, .string s', .string u', .slice ao' l'.length cap'] 25) = W0 at *
          go_loopw [5, 45] (fun ov iv wr => ∃ (i : Nat), i ≤ l.length ∧ ov = .bool false ∧ iv = .int .i64 i ∧ Hid (Below W0.heap.size W0 wr))
            (fun _ iv _ => l.length - (intOf iv).toNat)
          case atStart => exact ⟨0, by omega, rfl, rfl, Lib.hid (Below.refl _ _)⟩
          case round =>
            obtain ⟨i, hi, rfl, rfl, HI⟩ := hrel
            by_cases hlt : i < l.length
            · go_wp2_with fail
              refine region_plan (SmN) [(0, 0), (1, 0), (2, 0), (3, 0), (4, 0), (5, 0), (6, 0), (7, 0), (8, 0), (9, 0), (10, 0), (11, 0), (12, 1), (13, 0), (14, 0)] (by kernel_rfl) (by kernel_rfl) (by kernel_rfl) trivial ?_
              iterate 12 (first | (refine plan_skip rfl ?_ ?_; (focus (rfl)); (try simp only [Act.put, List.setIfInBounds_toArray, List.set_cons_zero, List.set_cons_succ])) | (refine plan_take (v := ?_) rfl ?_ (fun w hSw => ?_) ?_; rotate_left; (focus (rfl)); (focus (unfold SmN at hSw; (go_simp <;> with_reducible rfl))); (try simp only [Act.put, List.setIfInBounds_toArray, List.set_cons_zero, List.set_cons_succ])))
              (refine plan_run_skip rfl ?_ trivial ?_; (focus (rfl)); (try simp only [Act.put, List.setIfInBounds_toArray, List.set_cons_zero, List.set_cons_succ]))
              iterate 2 (first | (refine plan_skip rfl ?_ ?_; (focus (rfl)); (try simp only [Act.put, List.setIfInBounds_toArray, List.set_cons_zero, List.set_cons_succ])) | (refine plan_take (v := ?_) rfl ?_ (fun w hSw => ?_) ?_; rotate_left; (focus (rfl)); (focus (unfold SmN at hSw; (go_simp <;> with_reducible rfl))); (try simp only [Act.put, List.setIfInBounds_toArray, List.set_cons_zero, List.set_cons_succ])))
              refine plan_done ?_
              go_wp2_with fail
              go_roundw
              case rel => exact ⟨i + 1, by omega, rfl, by go_num, Lib.hid (HI.out.trans ((Below.refl _ _).drew.mono HI.out.size))⟩
              case measure => simp [intOf]; omega
            · go_wp2_with fail
              go_ret
              exact ⟨by rw [HE.out]; rfl, HB.out.trans (HI.out.mono HB.out.size)⟩
      · have d2 : (n == n') = false := by simp [h1]
        have HE : Hid (res = false) := Lib.hid (by rw [HE0.out]; simp [h1])
        clear h1
        go_enter Tryz.func84, Tryz.ntmps84
        go_wp2_with fail
        generalize (w.alloc (.cells #[.int .i8 k, .int .i64 n, .string s, .string u, .slice ao l.length cap] 25)).alloc (.cells #[.int .i8 k, .int .i64 n', .string s', .string u', .slice ao' l'.length cap'] 25) = W0 at *
        go_loopw [5, 45] (fun ov iv wr => ∃ (i : Nat), i ≤ l.length ∧ ov = .bool false ∧ iv = .int .i64 i ∧ Hid (Below W0.heap.size W0 wr))
          (fun _ iv _ => l.length - (intOf iv).toNat)
        case atStart => exact ⟨0, by omega, rfl, rfl, Lib.hid (Below.refl _ _)⟩
        case round =>
          obtain ⟨i, hi, rfl, rfl, HI⟩ := hrel
          by_cases hlt : i < l.length
          · go_wp2_with fail
            refine region_plan (SmN) [(0, 0), (1, 0), (2, 0), (3, 0), (4, 0), (5, 0), (6, 0), (7, 0), (8, 0), (9, 0), (10, 0), (11, 0), (12, 1), (13, 0), (14, 0)] (by kernel_rfl) (by kernel_rfl) (by kernel_rfl) trivial ?_
            iterate 12 (first | (refine plan_skip rfl ?_ ?_; (focus (rfl)); (try simp only [Act.put, List.setIfInBounds_toArray, List.set_cons_zero, List.set_cons_succ])) | (refine plan_take (v := ?_) rfl ?_ (fun w hSw => ?_) ?_; rotate_left; (focus (rfl)); (focus (unfold SmN at hSw; (go_simp <;> with_reducible rfl))); (try simp only [Act.put, List.setIfInBounds_toArray, List.set_cons_zero, List.set_cons_succ])))
            (refine plan_run_skip rfl ?_ trivial ?_; (focus (rfl)); (try simp only [Act.put, List.setIfInBounds_toArray, List.set_cons_zero, List.set_cons_succ]))
            iterate 2 (first | (refine plan_skip rfl ?_ ?_; (focus (rfl)); (try simp only [Act.put, List.setIfInBounds_toArray, List.set_cons_zero, List.set_cons_succ])) | (refine plan_take (v := ?_) rfl ?_ (fun w hSw => ?_) ?_; rotate_left; (focus (rfl)); (focus (unfold SmN at hSw; (go_simp <;> with_reducible rfl))); (try simp only [Act.put, List.setIfInBounds_toArray, List.set_cons_zero, List.set_cons_succ])))
            refine plan_done ?_
            go_wp2_with fail
            go_roundw
            case rel => exact ⟨i + 1, by omega, rfl, by go_num, Lib.hid (HI.out.trans ((Below.refl _ _).drew.mono HI.out.size))⟩
            case measure => simp [intOf]; omega
          · go_wp2_with fail
            go_ret
            exact ⟨by rw [HE.out]; rfl, HB.out.trans (HI.out.mono HB.out.size)⟩
    · have d1 : (k == k') = false := by simp [h1]
      have HE : Hid (res = false) := Lib.hid (by rw [HE0.out]; simp [h1])
      clear h1
      go_enter Tryz.func84, Tryz.ntmps84
      go_wp2_with fail
      generalize (w.alloc (.cells #[.int .i8 k, .int .i64 n, .string s, .string u, .slice ao l.length cap] 25)).alloc (.cells #[.int .i8 k', .int .i64 n', .string s', .string u', .slice ao' l'.length cap'] 25) = W0 at *
      go_loopw [5, 45] (fun ov iv wr => ∃ (i : Nat), i ≤ l.length ∧ ov = .bool false ∧ iv = .int .i64 i ∧ Hid (Below W0.heap.size W0 wr))
        (fun _ iv _ => l.length - (intOf iv).toNat)
      case atStart => exact ⟨0, by omega, rfl, rfl, Lib.hid (Below.refl _ _)⟩
      case round =>
        obtain ⟨i, hi, rfl, rfl, HI⟩ := hrel
        by_cases hlt : i < l.length
        · go_wp2_with fail
          refine region_plan (SmN) [(0, 0), (1, 0), (2, 0), (3, 0), (4, 0), (5, 0), (6, 0), (7, 0), (8, 0), (9, 0), (10, 0), (11, 0), (12, 1), (13, 0), (14, 0)] (by kernel_rfl) (by kernel_rfl) (by kernel_rfl) trivial ?_
          iterate 12 (first | (refine plan_skip rfl ?_ ?_; (focus (rfl)); (try simp only [Act.put, List.setIfInBounds_toArray, List.set_cons_zero, List.set_cons_succ])) | (refine plan_take (v := ?_) rfl ?_ (fun w hSw => ?_) ?_; rotate_left; (focus (rfl)); (focus (unfold SmN at hSw; (go_simp <;> with_reducible rfl))); (try simp only [Act.put, List.setIfInBounds_toArray, List.set_cons_zero, List.set_cons_succ])))
          (refine plan_run_skip rfl ?_ trivial ?_; (focus (rfl)); (try simp only [Act.put, List.setIfInBounds_toArray, List.set_cons_zero, List.set_cons_succ]))
          iterate 2 (first | (refine plan_skip rfl ?_ ?_; (focus (rfl)); (try simp only [Act.put, List.setIfInBounds_toArray, List.set_cons_zero, List.set_cons_succ])) | (refine plan_take (v := ?_) rfl ?_ (fun w hSw => ?_) ?_; rotate_left; (focus (rfl)); (focus (unfold SmN at hSw; (go_simp <;> with_reducible rfl))); (try simp only [Act.put, List.setIfInBounds_toArray, List.set_cons_zero, List.set_cons_succ])))
          refine plan_done ?_
          go_wp2_with fail
          go_roundw
          case rel => exact ⟨i + 1, by omega, rfl, by go_num, Lib.hid (HI.out.trans ((Below.refl _ _).drew.mono HI.out.size))⟩
          case measure => simp [intOf]; omega
        · go_wp2_with fail
          go_ret
          exact ⟨by rw [HE.out]; rfl, HB.out.trans (HI.out.mono HB.out.size)⟩
end Go.Proofs.YthpmdeofdlcccaaGreatDoor
