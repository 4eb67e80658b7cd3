/- the reference's comparison of a child's specification with itself. Conditions: it reads. -/
import Derived.Test.YtemgnljegbaobaaGreatDoorOb
namespace Go.Proofs.YtemgnljegbaobaaGreatDoor
open Go.ChangeShapes Go.WideShapes Go.ChangeAt Go.RowKit
set_option linter.unusedVariables false
set_option linter.unusedSimpArgs false
set_option maxRecDepth 100000
theorem TmOk.term {w : World} {k n : Int} {s u : ByteArray} {lv : Value} (h : TmOk w [.int .i8 k, .int .i64 n, .string s, .string u, lv]) : ∃ f t, TermV f w (.agg #[.int .i8 k, .int .i64 n, .string s, .string u, lv]) t := by
  obtain ⟨f, t, lv', e, h⟩ := h
  rw [← e] at h
  exact ⟨f, t, h⟩
set_option maxHeartbeats 8000000 in
theorem samechild_any : ∀ (f : Nat) (w : World) (cs : List Value), CdOk f w cs → Calls Tryz.prog 124 #[.agg cs.toArray, .agg cs.toArray] w (IsPost w true) := by
  intro f
  induction f with
  | zero => intro w cs h; exact h.elim
  | succ f ih =>
    intro w cs h
    obtain ⟨k, n, s, u, lv, kd, rs, sh, m, fn, ga, gn, gc, ua, un, uc, xa, xu, rfl, h1, h2, h3, h4, h5⟩ := h
    obtain ⟨b1, b2, hb, -⟩ := two_boxes w (.cells #[.int .i8 k, .int .i64 n, .string s, .string u, lv, .int .i8 kd, .int .i8 rs, .int .i64 sh, .string m, .string fn, .slice ga gn gc, .slice ua un uc] 174) (.cells #[.int .i8 k, .int .i64 n, .string s, .string u, lv, .int .i8 kd, .int .i8 rs, .int .i64 sh, .string m, .string fn, .slice ga gn gc, .slice ua un uc] 174)
    obtain ⟨g, t, hT⟩ := h1.term
    have HB := Lib.hid (And.intro hb (And.intro b1 b2))
    have HR := Lib.hid (And.intro (h4.keep hb) (fun i hi => (h5 i hi).keep hb fun c hc => hc.keep hb))
    have HT := Lib.hid (hT.keep hb)
    have HA := Lib.hid (And.intro (h2.keep hb) (h3.keep hb))
    have IH := Lib.hid ih
    obtain ⟨hc1, hc2⟩ := slice_fits h4
    obtain ⟨x0, -⟩ := cells_at b1 0 _ rfl
    obtain ⟨x1, -⟩ := cells_at b1 1 _ rfl
    obtain ⟨x2, -⟩ := cells_at b1 2 _ rfl
    obtain ⟨x3, -⟩ := cells_at b1 3 _ rfl
    obtain ⟨x4, -⟩ := cells_at b1 4 _ rfl
    obtain ⟨x5, -⟩ := cells_at b1 5 _ rfl
    obtain ⟨x6, -⟩ := cells_at b1 6 _ rfl
    obtain ⟨x7, -⟩ := cells_at b1 7 _ rfl
    obtain ⟨x8, -⟩ := cells_at b1 8 _ rfl
    obtain ⟨x9, -⟩ := cells_at b1 9 _ rfl
    obtain ⟨y0, -⟩ := cells_at b2 0 _ rfl
    obtain ⟨y1, -⟩ := cells_at b2 1 _ rfl
    obtain ⟨y2, -⟩ := cells_at b2 2 _ rfl
    obtain ⟨y3, -⟩ := cells_at b2 3 _ rfl
    obtain ⟨y4, -⟩ := cells_at b2 4 _ rfl
    obtain ⟨y5, -⟩ := cells_at b2 5 _ rfl
    obtain ⟨y6, -⟩ := cells_at b2 6 _ rfl
    obtain ⟨y7, -⟩ := cells_at b2 7 _ rfl
    obtain ⟨y8, -⟩ := cells_at b2 8 _ rfl
    obtain ⟨y9, -⟩ := cells_at b2 9 _ rfl
    clear h1 h2 h3 h4 h5 hb b1 b2 hT ih
    go_enter Tryz.func124, Tryz.ntmps124
    go_wp2_with fail
    generalize (w.alloc (.cells #[.int .i8 k, .int .i64 n, .string s, .string u, lv, .int .i8 kd, .int .i8 rs, .int .i64 sh, .string m, .string fn, .slice ga gn gc, .slice ua un uc] 174)).alloc (.cells #[.int .i8 k, .int .i64 n, .string s, .string u, lv, .int .i8 kd, .int .i8 rs, .int .i64 sh, .string m, .string fn, .slice ga gn gc, .slice ua un uc] 174) = w1 at *
    clear x0 x1 x2 x3 x4 x5 x6 x7 x8 x9 y0 y1 y2 y3 y4 y5 y6 y7 y8 y9
    refine (rsame_any g g t t _ _ _ HT.out HT.out).mono ?_
    rintro e w2 ⟨rfl, hb2⟩
    rw [eqT_refl]
    have HB2 := Lib.hid hb2
    obtain ⟨x10, -⟩ := cells_at (keep_heap HB.out.2.1 hb2) 10 _ rfl
    obtain ⟨y10, -⟩ := cells_at (keep_heap HB.out.2.2 hb2) 10 _ rfl
    clear hb2 HT
    go_wp2_with fail
    refine (sameall_any w2 _ _ _ _ (HA.out.1.keep HB2.out) (HA.out.1.keep HB2.out) (HA.out.2.keep HB2.out)).mono ?_
    rintro e w3 ⟨rfl, hb3⟩
    have HB3 := Lib.hid (HB2.out.trans (hb3.mono HB2.out.size))
    obtain ⟨x11, -⟩ := cells_at (keep_heap HB.out.2.1 HB3.out) 11 _ rfl
    obtain ⟨y11, -⟩ := cells_at (keep_heap HB.out.2.2 HB3.out) 11 _ rfl
    clear hb3 HA x10 y10 HB2
    go_wp2_with fail
    clear x11 y11
    go_loopw [5] (fun jw wr => ∃ i : Nat, i ≤ un ∧ jw = .int .i64 i ∧ Hid (Below w1.heap.size w1 wr)) (fun jw _ => un - (intOf jw).toNat)
    case atStart => exact ⟨0, Nat.zero_le _, rfl, Lib.hid HB3.out⟩
    case round =>
      obtain ⟨i, hi, rfl, HI⟩ := hrel
      obtain ⟨x11, -⟩ := cells_at (keep_heap HB.out.2.1 HI.out) 11 _ rfl
      by_cases hlt : i < un
      · obtain ⟨b, off, d1, e1, a1⟩ := rw_piece (HR.out.1.keep HI.out) hlt
        injection e1 with e1 _ e3
        subst e1 e3
        have hlen := piece_len HR.out.1.1 hlt
        have hd := (Below.refl wr.heap.size wr).drew
        have hS : SupS w.heap.size 11 b (off + i * 4) (.slice (some ⟨b, off, none⟩) un uc) (piece xu i 4) wr := ⟨x11, (cells_at (keep_heap HB.out.2.2 HI.out) 11 _ rfl).1, a1⟩
        have hi0 : (0 : Int) ≤ (i : Int) := by omega
        have HI1 := Lib.hid (HI.out.trans (hd.mono HI.out.size))
        have hS1 := hS.keep hd
        have HC := Lib.hid (samesup_of (CdOk f wr.drew) wr.drew _ ((HR.out.2 i hlt).keep HI1.out fun c hc => hc.keep HI1.out) fun c hc W hW => IH.out W c (hc.keep hW))
        have HL := Lib.hid hlen
        clear a1 hd hS hlen
        go_wp2_with fail
        clear x11
        refine region_plan (SupS w.heap.size 11 b (off + i * 4) (.slice (some ⟨b, off, none⟩) un uc) (piece xu i 4)) [(0, 0), (1, 0), (2, 0), (3, 0), (4, 0), (5, 0), (6, 0), (7, 0), (8, 0), (9, 0), (10, 1), (11, 0)] (by kernel_rfl) (by kernel_rfl) (by kernel_rfl) hS1 ?_
        generalize wr.drew = w4 at *
        iterate 4 (first | (refine plan_skip rfl ?_ ?_; (focus (rfl)); (try simp only [Act.put, List.setIfInBounds_toArray, List.set_cons_zero, List.set_cons_succ])) | (refine plan_take (v := ?_) rfl ?_ (fun w hSw => ?_) ?_; rotate_left; (focus (rfl)); (focus (unfold SupS at hSw; (go_simp <;> with_reducible rfl))); (try simp only [Act.put, List.setIfInBounds_toArray, List.set_cons_zero, List.set_cons_succ])))
        refine plan_take rfl ?_ (fun wS hSw => exec_load_mid 61 (.tmp 74) rfl b (off + i * 4) rfl (piece xu i 4) _ hSw.2.2 Tryz.underlying61 rfl (infoSP HL.out)) ?_
        focus (rfl)
        (try simp only [Act.put, List.setIfInBounds_toArray, List.set_cons_zero, List.set_cons_succ])
        iterate 4 (first | (refine plan_skip rfl ?_ ?_; (focus (rfl)); (try simp only [Act.put, List.setIfInBounds_toArray, List.set_cons_zero, List.set_cons_succ])) | (refine plan_take (v := ?_) rfl ?_ (fun w hSw => ?_) ?_; rotate_left; (focus (rfl)); (focus (unfold SupS at hSw; (go_simp <;> with_reducible rfl))); (try simp only [Act.put, List.setIfInBounds_toArray, List.set_cons_zero, List.set_cons_succ])))
        refine plan_take rfl ?_ (fun wS hSw => exec_load_mid 61 (.tmp 79) rfl b (off + i * 4) rfl (piece xu i 4) _ hSw.2.2 Tryz.underlying61 rfl (infoSP HL.out)) ?_
        focus (rfl)
        (try simp only [Act.put, List.setIfInBounds_toArray, List.set_cons_zero, List.set_cons_succ])
        refine plan_run rfl ?_ (fun K hK => ?_)
        focus (rfl)
        go_simp
        refine (HC.out).mono ?_
        rintro e w5 ⟨rfl, hb5⟩
        have hS3 := hS1.keep hb5
        have HI3 := Lib.hid (HI1.out.trans (hb5.mono HI1.out.size))
        refine hK.out _ _ hS3 ?_
        clear hK K 
        (try simp only [Act.put, List.setIfInBounds_toArray, List.set_cons_zero, List.set_cons_succ])
        clear hS1 hb5
        iterate 1 (first | (refine plan_skip rfl ?_ ?_; (focus (rfl)); (try simp only [Act.put, List.setIfInBounds_toArray, List.set_cons_zero, List.set_cons_succ])) | (refine plan_take (v := ?_) rfl ?_ (fun w hSw => ?_) ?_; rotate_left; (focus (rfl)); (focus (unfold SupS at hSw; (go_simp <;> with_reducible rfl))); (try simp only [Act.put, List.setIfInBounds_toArray, List.set_cons_zero, List.set_cons_succ])))
        refine plan_done ?_
        clear hS3 HC HI1
        go_wp2_with fail
        go_roundw
        case rel => exact ⟨i + 1, hlt, by go_num, HI3⟩
        case measure => simp [intOf]; omega
      · have hlt' : ¬ ((i : Int) < (un : Int)) := by omega
        go_wp2_with fail
        go_ret
        exact ⟨rfl, HB.out.1.trans (HI.out.mono HB.out.1.size)⟩
end Go.Proofs.YtemgnljegbaobaaGreatDoor
