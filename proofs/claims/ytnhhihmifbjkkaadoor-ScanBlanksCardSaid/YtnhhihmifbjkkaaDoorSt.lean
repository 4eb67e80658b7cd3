/- scan: the law ScanBlanks, walked. Conditions: lengths fit; the tables read as laid. -/
import Derived.Test.YtnhhihmifbjkkaaDoorSs
namespace Go.Proofs.YtnhhihmifbjkkaaDoor
open Go.ChangeShapes Go.WideShapes Go.ChangeAt Go.RowKit
set_option linter.unusedVariables false
def TkB (w : World) (q : Nat) (t : Tv) : Prop := w.cell? ⟨q, 0, none⟩ = some (.int .i8 t.1) ∧ w.cell? ⟨q, 1, none⟩ = some (.int .i64 t.2.1) ∧ w.cell? ⟨q, 2, none⟩ = some (.string t.2.2.1) ∧ w.cell? ⟨q, 3, none⟩ = some (.int .i64 t.2.2.2)
/-- what the test of a token reads -/
def BlS (q b o : Nat) (t0 t1 : Int) (t2 : ByteArray) (t3 : Int) (w : World) : Prop :=
  w.cell? ⟨q, 0, none⟩ = some (.int .i8 t0) ∧ w.cell? ⟨q, 1, none⟩ = some (.int .i64 t1) ∧ w.cell? ⟨q, 2, none⟩ = some (.string t2) ∧ w.cell? ⟨q, 3, none⟩ = some (.int .i64 t3) ∧ w.cell? ⟨q + 1, 0, none⟩ = some (.int .i64 0) ∧
  w.cell? ⟨b, o, none⟩ = some (.int .i8 t0) ∧ w.cell? ⟨b, o + 1, none⟩ = some (.int .i64 t1) ∧ w.cell? ⟨b, o + 2, none⟩ = some (.string t2) ∧ w.cell? ⟨b, o + 3, none⟩ = some (.int .i64 t3)
/-- what the last test reads -/
def LastS (b o c p : Nat) (t u : Tv) (w : World) : Prop := TkAt w b o t ∧ TkAt w c p u
theorem TkB.drew {w : World} {q : Nat} {t : Tv} (h : TkB w q t) : TkB w.drew q t := h
set_option maxRecDepth 100000 in
set_option maxHeartbeats 4000000 in
theorem law_blanks (s : ByteArray) (hs : s.size ≤ 9223372036854775807) (bo : Option Addr) (bc : Nat) (bl : List Int) (hbl : ∀ z ∈ bl, -9223372036854775808 ≤ z ∧ z ≤ 9223372036854775807) (hbn : bl.length ≤ 9223372036854775807)
    (w : World) (hT : Tabs w) (hsl : SlV w (.slice bo bl.length bc) (bl.map (Value.int .i64))) : Calls Tryd.prog 4 #[.string s, .slice bo bl.length bc] w (IsPost w true) := by
  have HT := Lib.hid hT
  have HSL := Lib.hid hsl
  clear hT hsl
  by_cases hbig : 2000 < s.size
  · go_enter Tryd.func4, Tryd.ntmps4
    go_wp2_with fail
    refine (wakes_any w HT.out).mono ?_
    rintro e w1 ⟨rfl, hb1⟩
    go_wp2_with fail
    go_ret
    exact ⟨rfl, hb1⟩
  · have h1 : s.size ≤ 2000 := by omega
    clear hbig
    have HA := Lib.hid (fun W hW => scan_q s (by omega) W hW)
    have HOA := Lib.hid (okT_bound (s := s) (by omega))
    by_cases he : (scanR s).2.1 = 0
    · have hsc : scanR s = scan s.data.toList 0 := by unfold scanR; rw [if_neg (by omega)]
      have hf0 : (scanR s).2.2 = 0 := by
        have := (scan_shift 0 s.data.toList 0).2.2
        rw [← hsc] at this
        exact this he
      have HE := Lib.hid he
      have WL := Lib.hid (fun u => wide_law (nbN bl) (fun i => (nbN_in bl i).1) s u h1 he)
      obtain ⟨T, hT0⟩ : ∃ T, T = (scanR s).1 := ⟨_, rfl⟩
      have eT : okT s = T.map tv := by unfold okT; rw [if_pos he, hT0]
      have HI0 : Hid (scan (s.data.toList.drop 0) 0 = (T.drop 0, (0, 0))) := Lib.hid (by
        rw [List.drop_zero, List.drop_zero, ← hsc, hT0, ← hf0, ← he])
      rw [eT] at HA HOA WL
      rw [he, hf0] at HA
      have hTn : T.length ≤ 3000 := by have := HOA.out.1; simpa using this
      clear hsc hf0 he hT0 eT HOA
      go_enter Tryd.func4, Tryd.ntmps4
      go_wp2_with fail
      refine (HA.out w HT.out).mono ?_
      rintro e w1 ⟨ao, ca, rfl, hb1, hra⟩
      have HB1 := Lib.hid (hb1.alloc hb1.size (.cells #[.int .i64 0, .int .i64 0] 28))
      have HRA := Lib.hid (hra.keep ((Below.refl _ w1).alloc (Nat.le_refl _) (.cells #[.int .i64 0, .int .i64 0] 28)))
      obtain ⟨a0, _⟩ := cells_at (heap_new w1 (.cells #[.int .i64 0, .int .i64 0] 28)) 0 _ rfl
      clear hb1 hra
      have HSL1 := Lib.hid (HSL.out.keep (HB1.out))
      go_wp2_with fail
      generalize (w1.alloc (.cells #[.int .i64 0, .int .i64 0] 28)) = W1 at *
      clear a0 HSL
      go_loopw [7, 8, 9] (fun uv ev iv wr => ∃ (i o : Nat) (u : ByteArray), i ≤ T.length ∧ o ≤ s.size ∧ i ≤ o ∧ uv = .string u ∧ ev = .int .i64 o ∧ iv = .int .i64 i ∧ u.size ≤ 20 * i + o ∧ Below W1.heap.size W1 wr ∧
        Hid (scan (s.data.toList.drop o) o = (T.drop i, (0, 0)) ∧ u.data.toList ++ wid (nbN bl) (s.data.toList.drop o) i = wid (nbN bl) s.data.toList 0)) (fun uv ev iv wr => T.length - (intOf iv).toNat)
      case atStart => exact ⟨0, 0, ⟨#[]⟩, by omega, by omega, by omega, rfl, rfl, rfl, Nat.le_refl 0, Below.refl _ _, Lib.hid ⟨HI0.out, rfl⟩⟩
      case round =>
        obtain ⟨i, o, u, hi, ho, hio, rfl, rfl, rfl, hus, hbr, HI⟩ := hrel
        have HBR := Lib.hid hbr
        have hra := HRA.out.keep hbr
        have hsl := HSL1.out.keep hbr
        clear hbr
        by_cases hlt : i < T.length
        · obtain ⟨x, hx⟩ : ∃ x, T[i]? = some x := ⟨T[i], by simp [hlt]⟩
          obtain ⟨b, e, hob, hbe, hes, hnx, hat, hbk, hI', hw⟩ := step_law (nbN bl) s ho HI.out.1 hx
          have hnn := nbN_in bl i
          have hxt : (T.map tv)[i]? = some (tv x) := by simp [hx]
          obtain ⟨ba, oa, rfl, hba, ta0, ta1, ta2, ta3⟩ := hra i _ hxt
          have HX := Lib.hid (next_any s (by omega) (o : Int) wr (HT.out.keep (HB1.out.trans (HBR.out.mono HB1.out.size))))
          have HM := Lib.hid (fun W => blank_any s (by omega) (o : Int) W)
          rw [hnx] at HX
          rw [hbk] at HM
          have HW := Lib.hid hw
          have HI2 := Lib.hid hI'
          generalize tv x = y at *
          obtain ⟨t0, t1, t2, t3⟩ := y
          dsimp only at hat HX ta0 ta1 ta2 ta3
          subst hat
          clear hnx hbk hw hI' hra hxt hx
          go_wp2_with fail
          refine HX.out.mono ?_
          rintro e1 w2 ⟨rfl, hb2⟩
          dsimp only
          have z0 := heap_old (heap_new w2 (.cells #[.int .i8 t0, .int .i64 t1, .string t2, .int .i64 b] 25)) (.cells #[.int .i64 0, .int .i64 0] 28)
          have z1 := heap_new (w2.alloc (.cells #[.int .i8 t0, .int .i64 t1, .string t2, .int .i64 b] 25)) (.cells #[.int .i64 0, .int .i64 0] 28)
          rw [World.size_alloc] at z1
          have hB := hb2.alloc hb2.size (.cells #[.int .i8 t0, .int .i64 t1, .string t2, .int .i64 b] 25)
          have hB2 := hB.alloc hB.size (.cells #[.int .i64 0, .int .i64 0] 28)
          have hS : BlS w2.heap.size ba (oa + i * 4) t0 t1 t2 b ((w2.alloc (.cells #[.int .i8 t0, .int .i64 t1, .string t2, .int .i64 b] 25)).alloc (.cells #[.int .i64 0, .int .i64 0] 28)) :=
            ⟨(cells_at z0 0 _ rfl).1, (cells_at z0 1 _ rfl).1, (cells_at z0 2 _ rfl).1, (cells_at z0 3 _ rfl).1, (cells_at z1 0 _ rfl).1, keep_cell ta0 hB2, keep_cell ta1 hB2, keep_cell ta2 hB2, keep_cell ta3 hB2⟩
          have HBW := Lib.hid (HBR.out.trans (hB2.mono HBR.out.size))
          have hsl2 := hsl.keep hB2
          have d1 : decide (b < o) = false := by simp; omega
          have d2 : decide (e ≤ b) = false := by simp; omega
          have d3 : decide (s.size < e) = false := by simp; omega
          have d4 : decide ((b : Int) < (o : Int)) = false := by simp; omega
          have d5 : decide ((e : Int) ≤ (b : Int)) = false := by simp; omega
          have d6 : decide ((s.size : Int) < (e : Int)) = false := by simp; omega
          clear z0 z1 hB hB2 hb2 ta0 ta1 ta2 ta3 hba
          go_wp2_with fail
          have hD : BlS w2.heap.size ba (oa + i * 4) t0 t1 t2 b ((w2.alloc (.cells #[.int .i8 t0, .int .i64 t1, .string t2, .int .i64 b] 25)).alloc (.cells #[.int .i64 0, .int .i64 0] 28)).drew := hS
          have HBD := Lib.hid HBW.out.drew
          have hsl3 : SlV ((w2.alloc (.cells #[.int .i8 t0, .int .i64 t1, .string t2, .int .i64 b] 25)).alloc (.cells #[.int .i64 0, .int .i64 0] 28)).drew (.slice bo bl.length bc) (bl.map (Value.int .i64)) := hsl2
          clear hS hsl2 hsl HBW
          generalize hq : w2.heap.size = q at *
          refine region_plan (BlS q ba (oa + i * 4) t0 t1 t2 (b : Int)) [(0, 0), (1, 0), (2, 0), (3, 0), (4, 0), (5, 0), (6, 0), (7, 0), (8, 0), (9, 0), (10, 0), (11, 0), (12, 0), (13, 0), (14, 0), (15, 0), (16, 0), (17, 0), (18, 0), (19, 0), (20, 0), (21, 0), (22, 0), (23, 0), (24, 0), (25, 0), (26, 0), (27, 0), (28, 0), (29, 0), (30, 0), (31, 0), (33, 0), (34, 0), (32, 1), (35, 0), (36, 0)] (by kernel_rfl) (by kernel_rfl) (by kernel_rfl) hD ?_
          generalize ((w2.alloc (.cells #[.int .i8 t0, .int .i64 t1, .string t2, .int .i64 b] 25)).alloc (.cells #[.int .i64 0, .int .i64 0] 28)).drew = W0 at *
          iterate 34 (first | (refine plan_skip rfl ?_ ?_; (focus (rfl)); (try simp only [Act.put, List.setIfInBounds_toArray, List.set_cons_zero, List.set_cons_succ])) | (refine plan_take (v := ?_) rfl ?_ (fun w hSw => ?_) ?_; rotate_left; (focus (rfl)); (focus (unfold BlS at hSw; (go_simp <;> with_reducible rfl))); (try simp only [Act.put, List.setIfInBounds_toArray, List.set_cons_zero, List.set_cons_succ])))
          refine plan_run rfl ?_ (fun K hK => ?_)
          focus (rfl)
          go_simp
          refine (HM.out _).mono ?_
          rintro e2 W3 ⟨he2, hw2⟩
          subst he2
          subst hw2
          have hS1 := hD
          refine hK.out _ _ hS1 ?_
          clear hK K 
          (try simp only [Act.put, List.setIfInBounds_toArray, List.set_cons_zero, List.set_cons_succ])
          iterate 2 (first | (refine plan_skip rfl ?_ ?_; (focus (rfl)); (try simp only [Act.put, List.setIfInBounds_toArray, List.set_cons_zero, List.set_cons_succ])) | (refine plan_take (v := ?_) rfl ?_ (fun w hSw => ?_) ?_; rotate_left; (focus (rfl)); (focus (unfold BlS at hSw; (go_simp <;> with_reducible rfl))); (try simp only [Act.put, List.setIfInBounds_toArray, List.set_cons_zero, List.set_cons_succ])))
          refine plan_done ?_
          have q3 : W0.cell? ⟨q, 3, none⟩ = some (.int .i64 b) := hS1.2.2.2.1
          have q3l := World.block_lt_of_cell? W0 _ q3
          clear hD HM hS1
          by_cases hbi : i < bl.length
          · obtain ⟨z, hz⟩ : ∃ z, bl[i]? = some z := ⟨bl[i], by simp [hbi]⟩
            have hzb := hbl z (List.mem_of_getElem? hz)
            obtain ⟨bz, oz, rfl, hbz, hcz⟩ := hsl3.at (i := i) (u := .int .i64 z) (by simp [hz])
            have HN : Hid ((nbN bl i : Int) = 1 + z.tmod 20 % 20) := Lib.hid (by
              have h0 := nbZ_in z
              have h1 : nbZ z = 1 + z.tmod 20 % 20 := by unfold nbZ; rw [Int.tmod_eq_emod_of_nonneg (by omega)]; omega
              unfold nbN; rw [hz]; dsimp only; omega)
            have hz2 := (nbZ_in z).1
            generalize nbN bl i = n at *
            go_wp2_with fail
            go_loop [7, 14] (fun uv kv => ∃ (k : Nat) (u' : ByteArray), k ≤ n ∧ uv = .string u' ∧ kv = .int .i64 k ∧ u'.size = u.size + k ∧ Hid (u'.data.toList = u.data.toList ++ sp k)) (fun uv kv => n - (intOf kv).toNat)
            case atStart => exact ⟨0, u, by omega, rfl, rfl, rfl, Lib.hid (by simp [sp])⟩
            case round =>
              obtain ⟨k, u', hk, rfl, rfl, husz, HU⟩ := hrel
              by_cases hkn : k < n
              · have dk : decide ((k : Int) < (1 + z.tmod 20 % 20)) = true := by rw [← HN.out]; simp; omega
                go_wp2_with fail
                go_round
                case rel => exact ⟨k + 1, _, by omega, rfl, by go_num, by rw [ByteArray.size_append, husz]; rfl, Lib.hid (by rw [ByteArray.data_append, Array.toList_append, HU.out, sp_succ, List.append_assoc])⟩
                case measure => simp [intOf]; omega
              · have dk : decide ((k : Int) < (1 + z.tmod 20 % 20)) = false := by rw [← HN.out]; simp; omega
                go_wp2_with fail
                go_roundw
                case rel =>
                  obtain rfl : k = n := by omega
                  refine ⟨i + 1, e, u' ++ s.extract b e, by omega, hes, by omega, rfl, rfl, by go_num, ?_, HBD.out, Lib.hid ⟨HI2.out, ?_⟩⟩
                  · rw [ByteArray.size_append, ByteArray.size_extract, husz]; omega
                  · rw [ByteArray.data_append, Array.toList_append, HU.out, ← HI.out.2, HW.out, ByteArray.data_extract, Array.toList_extract]; simp only [List.append_assoc]
                case measure => simp [intOf]; omega
          · have HN : Hid ((nbN bl i : Int) = 1) := Lib.hid (by unfold nbN; rw [List.getElem?_eq_none (by omega)]; rfl)
            generalize nbN bl i = n at *
            go_wp2_with fail
            go_loop [7, 14] (fun uv kv => ∃ (k : Nat) (u' : ByteArray), k ≤ n ∧ uv = .string u' ∧ kv = .int .i64 k ∧ u'.size = u.size + k ∧ Hid (u'.data.toList = u.data.toList ++ sp k)) (fun uv kv => n - (intOf kv).toNat)
            case atStart => exact ⟨0, u, by omega, rfl, rfl, rfl, Lib.hid (by simp [sp])⟩
            case round =>
              obtain ⟨k, u', hk, rfl, rfl, husz, HU⟩ := hrel
              by_cases hkn : k < n
              · have dk : decide ((k : Int) < 1) = true := by rw [← HN.out]; simp; omega
                go_wp2_with fail
                go_round
                case rel => exact ⟨k + 1, _, by omega, rfl, by go_num, by rw [ByteArray.size_append, husz]; rfl, Lib.hid (by rw [ByteArray.data_append, Array.toList_append, HU.out, sp_succ, List.append_assoc])⟩
                case measure => simp [intOf]; omega
              · have dk : decide ((k : Int) < 1) = false := by rw [← HN.out]; simp; omega
                go_wp2_with fail
                go_roundw
                case rel =>
                  obtain rfl : k = n := by omega
                  refine ⟨i + 1, e, u' ++ s.extract b e, by omega, hes, by omega, rfl, rfl, by go_num, ?_, HBD.out, Lib.hid ⟨HI2.out, ?_⟩⟩
                  · rw [ByteArray.size_append, ByteArray.size_extract, husz]; omega
                  · rw [ByteArray.data_append, Array.toList_append, HU.out, ← HI.out.2, HW.out, ByteArray.data_extract, Array.toList_extract]; simp only [List.append_assoc]
                case measure => simp [intOf]; omega
        · obtain ⟨hbe, hwe⟩ := end_law (nbN bl) s ho HI.out.1 (by omega)
          have hu : u.data.toList = wid (nbN bl) s.data.toList 0 := by rw [← HI.out.2, hwe, List.append_nil]
          have HM := Lib.hid (fun W => blank_any s (by omega) (o : Int) W)
          rw [hbe] at HM
          obtain ⟨wl1, wl2⟩ := WL.out u hu
          have HQ := Lib.hid (fun W hW => scan_q u (by omega) W hW)
          have HBW := Lib.hid (HB1.out.trans (HBR.out.mono HB1.out.size))
          clear hbe hwe hu hra hsl
          by_cases hul : 8192 < u.size
          · obtain ⟨r1, r2⟩ := wl1 hul
            rw [r1, r2] at HQ
            dsimp only at HQ
            clear wl1 wl2 r1 r2
            go_wp2_with fail
            refine (HM.out _).mono ?_
            rintro e w2 ⟨rfl, rfl⟩
            go_wp2_with fail
            refine (HQ.out _ (HT.out.keep HBW.out)).mono ?_
            rintro e w3 ⟨mo, cm, rfl, hb3, hrm⟩
            have hB3 := HBW.out.trans (hb3.mono HBW.out.size)
            have HB3 := Lib.hid (hB3.alloc hB3.size (.cells #[.int .i64 3, .int .i64 0] 28))
            obtain ⟨m0, _⟩ := cells_at (heap_new w3 (.cells #[.int .i64 3, .int .i64 0] 28)) 0 _ rfl
            clear hb3 hrm hB3
            go_wp2_with fail
            refine (wakes_any _ (HT.out.keep HB3.out)).mono ?_
            rintro e w4 ⟨rfl, hb4⟩
            go_wp2_with fail
            go_ret
            exact ⟨rfl, HB3.out.trans (hb4.mono HB3.out.size)⟩
          · obtain ⟨r1, r2⟩ := wl2 (by omega)
            rw [r1] at HQ
            generalize okT u = M at *
            have hlen := congrArg List.length r2
            rw [List.length_map, List.length_map, List.length_map] at hlen
            have HR2 := Lib.hid r2
            clear wl1 wl2 r1 r2
            go_wp2_with fail
            refine (HM.out _).mono ?_
            rintro e w2 ⟨rfl, rfl⟩
            go_wp2_with fail
            refine (HQ.out _ (HT.out.keep HBW.out)).mono ?_
            rintro e w3 ⟨mo, cm, rfl, hb3, hrm⟩
            have hB3 := HBW.out.trans (hb3.mono HBW.out.size)
            have HB3 := Lib.hid (hB3.alloc hB3.size (.cells #[.int .i64 0, .int .i64 0] 28))
            obtain ⟨m0, _⟩ := cells_at (heap_new w3 (.cells #[.int .i64 0, .int .i64 0] 28)) 0 _ rfl
            have hRA3 := (HRA.out.keep HBR.out).keep (hb3.alloc hb3.size (.cells #[.int .i64 0, .int .i64 0] 28))
            have HRA3 := Lib.hid hRA3
            have HRM := Lib.hid (hrm.keep ((Below.refl _ w3).alloc (Nat.le_refl _) (.cells #[.int .i64 0, .int .i64 0] 28)))
            clear hb3 hrm hB3 hRA3
            go_wp2_with fail
            generalize (w3.alloc (.cells #[.int .i64 0, .int .i64 0] 28)) = W5 at *
            clear m0
            go_loopw [17] (fun jv wq => ∃ j : Nat, j ≤ M.length ∧ jv = .int .i64 j ∧ Below W5.heap.size W5 wq) (fun jv wq => M.length - (intOf jv).toNat)
            case atStart => exact ⟨0, by omega, rfl, Below.refl _ _⟩
            case round =>
              obtain ⟨j, hj, rfl, hbq⟩ := hrel
              have HBQ := Lib.hid hbq
              have hrt := HRA3.out.keep hbq
              have hrm := HRM.out.keep hbq
              clear hbq
              by_cases hjl : j < M.length
              · obtain ⟨m, hm⟩ : ∃ m, M[j]? = some m := ⟨M[j], by simp [hjl]⟩
                obtain ⟨t, ht⟩ : ∃ t, (T.map tv)[j]? = some t := ⟨(T.map tv)[j]'(by rw [List.length_map]; omega), List.getElem?_eq_getElem _⟩
                have hk := congrArg (·[j]?) HR2.out
                simp only [List.getElem?_map, hm] at hk ht
                simp only [ht, Option.map_some, Option.some.injEq] at hk
                obtain ⟨bm, om, rfl, hbm, tm0, tm1, tm2, tm3⟩ := hrm j m hm
                obtain ⟨bt, ot, rfl, hbt, tt0, tt1, tt2, tt3⟩ := hrt j t (by rw [List.getElem?_map]; exact ht)
                obtain ⟨m0, m1, m2, m3⟩ := m
                obtain ⟨t0, t1, t2, t3⟩ := t
                dsimp only [k3] at tm0 tm1 tm2 tm3 tt0 tt1 tt2 tt3 hk
                injection hk with hk1 hk
                injection hk with hk2 hk3
                subst hk1 hk2 hk3
                clear hrt hrm ht hm
                go_wp2_with fail
                go_region
                go_wp2_with fail
                go_roundw
                case rel => exact ⟨j + 1, by omega, by go_num, HBQ.out.drew⟩
                case measure => simp [intOf]; omega
              · go_wp2_with fail
                refine (wakes_any _ (HT.out.keep (HB3.out.trans (HBQ.out.mono HB3.out.size)))).mono ?_
                rintro e w4 ⟨rfl, hb4⟩
                go_wp2_with fail
                go_ret
                exact ⟨rfl, (HB3.out.trans (HBQ.out.mono HB3.out.size)).trans (hb4.mono (Nat.le_trans HB3.out.size HBQ.out.size))⟩
    · have e0 : okT s = [] := by unfold okT; rw [if_neg he]
      rw [e0] at HA
      generalize scanR s = pa at *
      obtain ⟨_, ea, fa⟩ := pa
      dsimp only at HA he
      have hx : ((ea : Int) == 0) = false := by simpa using he
      clear he HOA
      go_enter Tryd.func4, Tryd.ntmps4
      go_wp2_with fail
      refine (HA.out w HT.out).mono ?_
      rintro e w1 ⟨ao, ca, rfl, hb1, hra⟩
      have HB1 := Lib.hid (hb1.alloc hb1.size (.cells #[.int .i64 ea, .int .i64 fa] 28))
      obtain ⟨a0, _⟩ := cells_at (heap_new w1 (.cells #[.int .i64 ea, .int .i64 fa] 28)) 0 _ rfl
      clear hb1 hra
      go_wp2_with fail
      refine (wakes_any _ (HT.out.keep HB1.out)).mono ?_
      rintro e w4 ⟨rfl, hb4⟩
      go_wp2_with fail
      go_ret
      exact ⟨rfl, HB1.out.trans (hb4.mono HB1.out.size)⟩
end Go.Proofs.YtnhhihmifbjkkaaDoor
