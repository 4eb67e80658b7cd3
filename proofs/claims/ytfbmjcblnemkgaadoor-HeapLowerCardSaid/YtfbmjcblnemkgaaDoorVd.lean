/- the law HeapLower, walked. Conditions: the table of letters reads as laid; what comes reads. -/
import Derived.Test.YtfbmjcblnemkgaaDoorVc
namespace Go.Proofs.YtfbmjcblnemkgaaDoor
open Go.ChangeShapes Go.WideShapes Go.ChangeAt Go.RowKit
set_option linter.unusedVariables false
set_option maxRecDepth 100000
/-- what region 11 reads -/
def V11 (b o : Nat) (k : Int) (lv : Value) (W : World) : Prop := W.cell? ⟨b, o + 6, none⟩ = some (.int .i8 k) ∧ W.cell? ⟨b, o + 7, none⟩ = some lv
theorem V11.keep {b o : Nat} {k : Int} {lv : Value} {W W' : World} (h : V11 b o k lv W) (hk : Below W.heap.size W W') : V11 b o k lv W' := ⟨keep_cell h.1 hk, keep_cell h.2 hk⟩
/-- what region 34 reads -/
def V34 (g : Nat) (k sz : Int) (lv : Value) (b o : Nat) (k' sz' : Int) (lv' : Value) (W : World) : Prop := W.cell? ⟨g, 0, none⟩ = some (.int .i8 k) ∧ W.cell? ⟨g, 1, none⟩ = some (.int .i64 sz) ∧ W.cell? ⟨g, 2, none⟩ = some lv ∧ W.cell? ⟨b, o, none⟩ = some (.int .i8 k') ∧ W.cell? ⟨b, o + 1, none⟩ = some (.int .i64 sz') ∧ W.cell? ⟨b, o + 2, none⟩ = some lv'
theorem V34.keep {g : Nat} {k sz : Int} {lv : Value} {b o : Nat} {k' sz' : Int} {lv' : Value} {W W' : World} (h : V34 g k sz lv b o k' sz' lv' W) (hk : Below W.heap.size W W') : V34 g k sz lv b o k' sz' lv' W' := by
  obtain ⟨h1, h2, h3, h4, h5, h6⟩ := h
  exact ⟨keep_cell h1 hk, keep_cell h2 hk, keep_cell h3 hk, keep_cell h4 hk, keep_cell h5 hk, keep_cell h6 hk⟩
set_option maxHeartbeats 16000000 in
theorem lower_law (w : World) (f : Nat) (M : List Ac) (ao : Option Addr) (cap : Nat) (hL : Cells w 0 letL) (hr : ARow f w ao M) (hn : M.length ≤ 9223372036854775807) : Calls Tryd.prog 5 #[.slice ao M.length cap] w (IsPost w true) := by
  have HG := Lib.hid (greata_any f w M ao cap hr hn)
  have HL := Lib.hid hL
  have HR := Lib.hid hr
  clear hL hr
  go_enter Tryd.func5, Tryd.ntmps5
  go_wp2_with fail
  refine HG.out.mono ?_
  rintro e w1 ⟨b, rfl, hb1, hF⟩
  have HB1 := Lib.hid hb1
  have HF := Lib.hid hF
  clear hb1 hF HG
  cases b
  · have H3 := Lib.hid (HF.out rfl)
    clear HF
    by_cases h100 : 100 < M.length
    · have hd : decide (100 < M.length) = true := by simpa using h100
      go_wp2_with fail
      refine (wakes_any _ (keep_let HL.out HB1.out)).mono ?_
      rintro e w3 ⟨rfl, hb3⟩
      have HB := Lib.hid (HB1.out.trans (hb3.mono HB1.out.size))
      clear hb3
      go_wp2_with fail
      go_ret
      exact ⟨rfl, HB.out⟩
    · have hd : decide (100 < M.length) = false := by simpa using h100
      go_wp2_with fail
      refine (new_any _).mono ?_
      rintro e w2 ⟨rfl, hp2, hb2⟩
      have HR1 := Lib.hid (HR.out.keep HB1.out)
      have HL1 := Lib.hid (keep_let HL.out HB1.out)
      have HI0 : Hid (LoI w1 f (0 * 256) (.slice none 0 0) [] (.slice none 0 0) [] w2) := Lib.hid
        ⟨hb2, hp2, ⟨World.ownsRow_nil _ _ _ _, fun c hc => by simp at hc⟩, by simp, fun c hc => by simp at hc, Made.nil, fun i d hi => by simp at hi, fun g hg => by simp [Value.ownBlock] at hg⟩
      clear hp2 hb2 HR
      go_wp2_with fail
      go_loopw [4, 5, 6] (fun cv wv iv wr => ∃ (i : Nat) (v : Value) (C D : List HC), i ≤ M.length ∧ iv = .int .i64 i ∧ wv = .int .i64 (wordsN D) ∧ Hid (LoI w1 f (i * 256) v C cv D wr) ∧ D.length = C.length)
        (fun _ _ iv _ => M.length - (intOf iv).toNat)
      case atStart => exact ⟨0, _, [], [], by omega, rfl, rfl, HI0, rfl⟩
      case round =>
        clear HI0
        obtain ⟨i, v, C, D, hi, rfl, rfl, HI, hDC⟩ := hrel
        by_cases hlt : i < M.length
        · obtain ⟨co, cc, rfl, -, -, -⟩ := HI.out.row.cellsAt
          obtain ⟨a, ha⟩ : ∃ a, M[i]? = some a := ⟨M[i], by simp [hlt]⟩
          obtain ⟨hok, b, off, rfl, hcl⟩ := HR1.out.elem ha
          have HOK := Lib.hid hok
          have HCL := Lib.hid (hcl.keep HI.out.hb)
          have HC1 := Lib.hid hcl
          have H400 := Lib.hid (H3.out.2 a (List.mem_of_getElem? ha))
          clear hok hcl ha
          have HDC := Lib.hid hDC
          clear hDC
          have c0 := HCL.out.c0
          go_upto_if 37 with fail
          go_cut [4, 5, 6] from 26 to 143 (fun cv2 wv iv wx => cv2 = .slice co D.length cc ∧ wv = .int .i64 (wordsN D) ∧ iv = .int .i64 i ∧ ∃ (v' : Value) (C' : List HC), Hid (LoI w1 f ((i + 1) * 256) v' C' (.slice co D.length cc) D wx ∧ D.length ≤ C'.length))
          case first =>
            by_cases hd0 : a.d = 0
            · have hd1 : (a.d == 0) = true := by simpa using hd0
              have hroom : C.length + 256 ≤ 1048576 := by have := HI.out.len; omega
              have HP := Lib.hid ((put_any w1 f w1.heap.size HL1.out a.t.t _ wr v C HI.out.hp HI.out.hb (Nat.le_refl _) HOK.out.term hroom).mono fun e W' h => HI.out.putq h)
              obtain ⟨-, c1, c2, c3, c4, c5, -, -, -, -, -, -, -⟩ := HCL.out
              go_wp2_with fail
              refine HP.out.mono ?_
              rintro e w3 ⟨u, v', C', rfl, hlen, hI3⟩
              have HF3 := Lib.hid (And.intro (hI3.more (m' := (i + 1) * 256) (by omega)) (show D.length ≤ C'.length by have := HDC.out; omega))
              clear hlen hI3 c1 c2 c3 c4 c5 hd1 hd0
              go_wp2_with fail
              go_meet
              exact ⟨rfl, rfl, rfl, v', C', HF3⟩
            · have hd1 : (a.d == 0) = false := by simpa using hd0
              have hdr := (Below.refl wr.heap.size wr).drew
              have hI := HI.out.keep hdr
              have hS : V11 b (off + i * 16) a.k (.slice a.lo a.L.length a.lc) wr.drew := ⟨keep_cell HCL.out.c6 hdr, keep_cell HCL.out.c7 hdr⟩
              obtain ⟨-, -, -, hwr, hwo, hll, hno, -⟩ := HOK.out
              have HMK := Lib.hid ((make_any f wr.drew w1.heap.size w1.heap.size v C a.k a.L a.lo a.lc hI.hp (keep_let HL1.out hI.hb) (hwr.keep hI.hb) (fun y hy => (hwo y hy).keep hI.hb) (by have := H400.out; omega) hno).mono fun e W' h => hI.makeq hwo h)
              clear hdr hI hwr hwo hll hno hd0
              go_wp2_with fail
              refine region_plan (V11 b (off + i * 16) a.k (.slice a.lo a.L.length a.lc)) [(0, 0), (1, 0), (2, 0), (3, 0), (4, 0), (5, 0), (6, 0), (7, 0), (8, 0), (9, 0), (10, 0), (11, 1)] (by kernel_rfl) (by kernel_rfl) (by kernel_rfl) hS ?_
              generalize wr.drew = WD at *
              iterate 11 (first | (refine plan_skip rfl ?_ ?_; (focus (rfl)); (try simp only [Act.put, List.setIfInBounds_toArray, List.set_cons_zero, List.set_cons_succ])) | (refine plan_take (v := ?_) rfl ?_ (fun w hSw => ?_) ?_; rotate_left; (focus (rfl)); (focus (unfold V11 at hSw; (go_simp <;> with_reducible rfl))); (try simp only [Act.put, List.setIfInBounds_toArray, List.set_cons_zero, List.set_cons_succ])))
              refine plan_run rfl ?_ (fun K hK => ?_)
              focus (rfl)
              go_simp
              refine (HMK.out).mono ?_
              rintro e W1 ⟨u, v', C', rfl, hlen, hI3⟩
              have hS1 : V11 b (off + i * 16) a.k (.slice a.lo a.L.length a.lc) W1 := ⟨keep_cell HC1.out.c6 hI3.hb, keep_cell HC1.out.c7 hI3.hb⟩
              refine hK.out _ _ hS1 ?_
              clear hK K 
              (try simp only [Act.put, List.setIfInBounds_toArray, List.set_cons_zero, List.set_cons_succ])
              refine plan_done ?_
              have HF3 := Lib.hid (And.intro (hI3.more (m' := (i + 1) * 256) (by omega)) (show D.length ≤ C'.length by have := HDC.out; omega))
              clear hlen hI3 hS hS1 hd1
              go_wp2_with fail
              go_meet
              exact ⟨rfl, rfl, rfl, v', C', HF3⟩
          case rest =>
            obtain ⟨rfl, rfl, rfl, v', C', HJ⟩ := hcut
            have HJ1 := Lib.hid HJ.out.1
            have HJ2 := HJ.out.2
            have hC' : C'.length ≤ 25600 := by have := HJ.out.1.len; omega
            have hcn : i < 100 := by omega
            clear HJ HCL HC1 HOK H400 HI HDC
            go_wp2_with fail
            go_loopw [4, 5, 7] (fun cv wv nv wr => ∃ (D2 : List HC), D2.length ≤ C'.length ∧ nv = .int .i64 D2.length ∧ wv = .int .i64 (wordsN D2) ∧ Hid (LoI w1 f ((i + 1) * 256) v' C' cv D2 wr))
              (fun _ _ nv _ => C'.length - (intOf nv).toNat)
            case atStart => exact ⟨D, HJ2, rfl, rfl, HJ1⟩
            case round =>
              clear HJ1 HJ2
              obtain ⟨D2, hD2, rfl, rfl, HJ⟩ := hrel
              obtain ⟨co2, cc2, rfl, hd1, hd2, -⟩ := HJ.out.row.cellsAt
              by_cases hlt2 : D2.length < C'.length
              · obtain ⟨c, hc⟩ : ∃ c, C'[D2.length]? = some c := ⟨C'[D2.length], by simp [hlt2]⟩
                have hss := size_sum HJ.out.hp.2.2.2 HJ.out.made hc
                have hcl := (HJ.out.hp.2.2.2.2 _ c hc).2.2.2.1
                have hcs := (HJ.out.hp.2.2.2.2 _ c hc).2.2.1
                have HSS := Lib.hid hss
                have HCC := Lib.hid hc
                have hwd : wordsN D2 ≤ 6553600 := by
                  have := words_le_of HJ.out.like HJ.out.hp.2.2.2
                  have : D2.length * 256 ≤ 25600 * 256 := Nat.mul_le_mul_right _ (by omega)
                  omega
                clear hss hc
                go_wp2_with fail
                refine (len_any _ _ _ _ _ HJ.out.hp).mono ?_
                rintro e w' ⟨rfl, rfl⟩
                go_wp2_with fail
                refine (cell_any _ _ _ _ _ _ HJ.out.hp).mono ?_
                rintro e w4 ⟨hb4, (⟨q, c2, lo, lc, hq, hcq, rfl, hown⟩ | ⟨hn, -⟩)⟩
                · obtain rfl : q = D2.length := by omega
                  obtain rfl : c2 = c := Option.some.inj (hcq.symm.trans HCC.out)
                  have HJ4 := Lib.hid (HJ.out.keep hb4)
                  have HOWN := Lib.hid hown
                  have hn0 : w1.heap.size ≤ wr.heap.size := HJ.out.hb.size
                  generalize wr = wo at *
                  clear hb4 hown HJ hcq hq
                  go_wp2_with (with_reducible refine stop_op (o := ⟨_, .store 46 (.tmp 8) (.tmp 69), _, _, _, _⟩) ?_)
                  refine Lib.hid ?_
                  refine wpList_store_new (o := ⟨none, _, _, _, _, _⟩) rfl 46 (.tmp 8) (.tmp 69) rfl #[.int .i8 c2.k, .int .i64 c2.sz, .slice lo c2.l.length lc] rfl rfl (infoCL _ rfl) rfl (by simp [Value.oneCell']) ?_
                  have hba := (Below.refl w4.heap.size w4).alloc (Nat.le_refl _) (.cells #[.int .i8 c2.k, .int .i64 c2.sz, .slice lo c2.l.length lc] 46)
                  have hna := heap_new w4 (.cells #[.int .i8 c2.k, .int .i64 c2.sz, .slice lo c2.l.length lc] 46)
                  have HJ5 := Lib.hid (HJ4.out.keep hba)
                  have HCV := Lib.hid (own_lt HJ4.out.row.1 (Nat.le_refl _))
                  have HOW5 := Lib.hid (own_keep HOWN.out hba)
                  have HN5 := Lib.hid hna
                  clear hba hna HJ4 HOWN
                  generalize w4.alloc (.cells #[.int .i8 c2.k, .int .i64 c2.sz, .slice lo c2.l.length lc] 46) = w5 at *
                  go_wp2_with fail
                  go_loopw [10, 11] (fun sv kv wr2 => ∃ (k : Nat) (S : Int), k ≤ c2.l.length ∧ kv = .int .i64 k ∧ sv = .int .i64 (1 + S) ∧ 0 ≤ S ∧ S ≤ 256 * k ∧ Hid (Below w5.heap.size w5 wr2 ∧ S = ((c2.l.take k).map (nodesW C')).sum))
                    (fun _ kv _ => c2.l.length - (intOf kv).toNat)
                  case atStart => exact ⟨0, 0, by omega, rfl, rfl, by omega, by omega, Lib.hid ⟨Below.refl _ _, rfl⟩⟩
                  case round =>
                    obtain ⟨k, S, hk, rfl, rfl, hS0, hS1, HK⟩ := hrel
                    have y2 := (cells_at (keep_heap HN5.out HK.out.1) 2 _ rfl).1
                    by_cases hkl : k < c2.l.length
                    · obtain ⟨x, hx⟩ : ∃ x, c2.l[k]? = some x := ⟨c2.l[k], by simp [hkl]⟩
                      have hxm := List.mem_of_getElem? hx
                      obtain ⟨m1, m2, m3, m4⟩ := HSS.out.2 x hxm
                      obtain ⟨ao', cap', e, -, -, hrw, -⟩ := own_wrow (own_keep HOW5.out HK.out.1)
                      injection e with e1 e2 e3
                      subst e1 e3
                      obtain ⟨b1, o1, rfl, -, hcx⟩ := hrw k x hx
                      have hJ6 := HJ5.out.keep HK.out.1
                      have hwo := (hJ6.oks c2 (List.mem_of_getElem? HCC.out) x hxm).keep hJ6.hb
                      have hsz := sizeH_any f _ w1.heap.size w1.heap.size v' C' x hJ6.hp (keep_let HL1.out hJ6.hb) hwo
                      have hnext := sum_take (C := C') hx
                      have hlow := may_low m1
                      obtain ⟨xc, xa, xk, xn, xs, xu, xao, xcap, xl⟩ := x
                      have x0 := hcx 0 _ rfl
                      have x1 := hcx 1 _ rfl
                      have x2 := hcx 2 _ rfl
                      have x3 := hcx 3 _ rfl
                      have x4 := hcx 4 _ rfl
                      have x5 := hcx 5 _ rfl
                      have x6 := hcx 6 _ rfl
                      simp only [Nat.add_zero] at x0
                      have X0 := Lib.hid x0
                      have X1 := Lib.hid x1
                      simp only [Wd.V] at hsz
                      generalize hnn : nodesW C' ⟨xc, xa, xk, xn, xs, xu, xao, xcap, xl⟩ = nn at *
                      have HNN := Lib.hid hnn
                      clear hnn
                      have HSZ := Lib.hid hsz
                      have HNX := Lib.hid hnext
                      have HLOW := Lib.hid hlow
                      have HM2 := Lib.hid m2
                      clear hsz hnext hlow m1 m2 hcx hrw hx hxm hJ6 hwo e2
                      go_wp2_with fail
                      refine HSZ.out.mono ?_
                      rintro e w7 ⟨hb7, (⟨-, rfl⟩ | ⟨hm, -⟩)⟩
                      · rw [HNN.out]
                        have y2 := keep_cell y2 hb7
                        have x0 := keep_cell X0.out hb7
                        have x1 := keep_cell X1.out hb7
                        have HK7 := Lib.hid (show Below w5.heap.size w5 w7 ∧ S + nn = ((c2.l.take (k + 1)).map (nodesW C')).sum from ⟨HK.out.1.trans (hb7.mono HK.out.1.size), by rw [HNX.out, HK.out.2]⟩)
                        clear hb7 HSZ x2 x3 x4 x5 x6 X0 X1
                        cases xc
                        · go_wp2_with fail
                          go_roundw
                          case rel => exact ⟨k + 1, S + nn, by omega, by go_num, by go_num, by omega, by omega, HK7⟩
                          case measure => simp [intOf]; omega
                        · have hxa := (HLOW.out rfl)
                          simp only at hxa
                          have hd5 : decide ((D2.length : Int) ≤ xa) = false := by simp; omega
                          go_wp2_with fail
                          go_roundw
                          case rel => exact ⟨k + 1, S + nn, by omega, by go_num, by go_num, by omega, by omega, HK7⟩
                          case measure => simp [intOf]; omega
                      · exact absurd (HM2.out.symm.trans hm) (by simp)
                    · obtain rfl : k = c2.l.length := by omega
                      have htot : c2.sz = 1 + S := by
                        have h1 := HSS.out.1
                        have h2 := HK.out.2
                        rw [List.take_length] at h2
                        omega
                      have hd6 : (c2.sz != 1 + S) = false := by simp [htot]
                      have hd7 : decide (256 < 1 + S) = false := by simp; omega
                      have hy := keep_heap HN5.out HK.out.1
                      have y0 := (cells_at hy 0 _ rfl).1
                      have y1 := (cells_at hy 1 _ rfl).1
                      have hb8 := HK.out.1.alloc HK.out.1.size (.cells #[.int .i8 c2.k, .int .i64 c2.sz, .slice lo c2.l.length lc] 46)
                      have HJ8 := Lib.hid (HJ5.out.keep hb8)
                      have HOW8 := Lib.hid (own_keep HOW5.out hb8)
                      have HN8 := Lib.hid (heap_new wr (.cells #[.int .i8 c2.k, .int .i64 c2.sz, .slice lo c2.l.length lc] 46))
                      have hs8 : w1.heap.size ≤ (wr.alloc (.cells #[.int .i8 c2.k, .int .i64 c2.sz, .slice lo c2.l.length lc] 46)).heap.size := (HJ5.out.hb.trans (hb8.mono HJ5.out.hb.size)).size
                      obtain ⟨i0, z0, q1, q2, q3, q4, q5⟩ := infoCL2
                      have hHS8 := Lib.hid hs8
                      clear hy hb8 htot HJ5 HOW5 hs8
                      go_wp2_with (at_builtin; refine stop_here ?_)
                      refine Lib.hid ?_
                      refine wpList_append_own2 rfl (.tmp 123) (.tmp 125) 54 rfl w1.heap.size 46 i0 z0 3 40 Tryd.underlying54 q1 q2 q3 q4 q5 (by decide) _ D2.length (ccs D2) rfl HJ8.out.row.1 ⟨wr.heap.size, 0, none⟩ 1 1 [.int .i8 c2.k, .int .i64 c2.sz, .slice lo c2.l.length lc] rfl rfl (fun q u hq => by
                        rw [Addr.add_lit, Nat.zero_add]
                        exact (cells_at HN8.out q u (by simpa using hq)).1) (by simp [Value.oneCell']) (by unfold maxLen; omega) (by omega) hHS8.out ?_
                      intro v9 W9 hown9 hg9 hwh9
                      have hpush := HJ8.out.push (d := ⟨c2.k, c2.sz, lo, lc, c2.l⟩) (n0 := wo.heap.size) hown9 hg9 hwh9 HOW8.out hn0 ⟨c2, HCC.out, rfl, rfl, rfl⟩
                      have HF := Lib.hid hpush
                      have hws : wordsN (D2 ++ [(⟨c2.k, c2.sz, lo, lc, c2.l⟩ : HC)]) = wordsN D2 + (1 + c2.l.length) := wordsN_snoc D2 ⟨c2.k, c2.sz, lo, lc, c2.l⟩
                      have HWS := Lib.hid hws
                      obtain ⟨vo, vc, rfl⟩ := own_slice hown9
                      have hy9 := (chg_grown hg9).heap (heap_old (keep_heap HN5.out HK.out.1) (.cells #[.int .i8 c2.k, .int .i64 c2.sz, .slice lo c2.l.length lc] 46)) (fun e => by have := HCV.out _ e.symm; omega)
                      have z2 := (cells_at hy9 2 _ rfl).1
                      clear hws hpush hown9 hg9 hwh9 y0 y2 hd6 hd7 y1 hy9
                      go_wp2_with fail
                      go_roundw
                      case rel => exact ⟨D2 ++ [⟨c2.k, c2.sz, lo, lc, c2.l⟩], by simp; omega, by simp, by rw [HWS.out]; go_num, HF⟩
                      case measure => simp [intOf]; omega
                · omega
              · have hll : D2.length = C'.length := by omega
                have hwl : wordsN D2 = wordsN C' := like_words HJ.out.like hll
                have hne : ((wordsN C' : Int) != (wordsN D2 : Int)) = false := by simp [hwl]
                have hne2 : ((C'.length : Int) != (D2.length : Int)) = false := by simp [hll]
                have HLL := Lib.hid hll
                clear hwl hll
                go_wp2_with fail
                refine (len_any _ _ _ _ _ HJ.out.hp).mono ?_
                rintro e w' ⟨rfl, rfl⟩
                go_wp2_with fail
                refine (wordsH_any _ _ _ _ _ HJ.out.hp).mono ?_
                rintro e w' ⟨rfl, rfl⟩
                go_wp2_with fail
                refine (len_any _ _ _ _ _ HJ.out.hp).mono ?_
                rintro e w' ⟨rfl, rfl⟩
                go_wp2_with fail
                go_roundw
                case rel => exact ⟨i + 1, v', C', D2, by omega, by go_num, rfl, HJ, HLL.out⟩
                case measure => simp [intOf]; omega
        · obtain rfl : i = M.length := by omega
          obtain ⟨co, cc, rfl, hc1, hc2, -⟩ := HI.out.row.cellsAt
          clear hDC
          go_wp2_with fail
          go_loopw [14] (fun iv wr => ∃ (i : Nat), i ≤ D.length ∧ iv = .int .i64 i ∧ Hid (LoI w1 f (M.length * 256) v C (.slice co D.length cc) D wr))
            (fun iv _ => D.length - (intOf iv).toNat)
          case atStart => exact ⟨0, by omega, rfl, HI⟩
          case round =>
            clear HI
            obtain ⟨i, hi, rfl, HI⟩ := hrel
            by_cases hlt : i < D.length
            · obtain ⟨d, hd⟩ : ∃ d, D[i]? = some d := ⟨D[i], by simp [hlt]⟩
              obtain ⟨c, hc, hk1, hk2, hk3⟩ := HI.out.like i d hd
              have HC := Lib.hid hc
              have hci : i < C.length := (List.getElem?_eq_some_iff.1 hc).1
              obtain ⟨co', cc', e, -, -, hat⟩ := HI.out.row.cellsAt
              injection e with e1 e2 e3
              subst e1 e3
              obtain ⟨b2, rfl, hb2, hat2⟩ := hat i d hd
              have hdl := HI.out.row.2 d (List.mem_of_getElem? hd)
              have hlen := (HI.out.hp.2.2.2.2 i c hc).2.2.2.1
              obtain ⟨dk, dsz, dlo, dlc, dl⟩ := d
              simp only at hk1 hk2 hk3
              subst hk1 hk2 hk3
              have d0 := hat2 0 _ rfl
              have d1 := hat2 1 _ rfl
              have d2 := hat2 2 _ rfl
              simp only [Nat.add_zero] at d0
              have HD0 := Lib.hid d0
              have HD1 := Lib.hid d1
              have HD2 := Lib.hid d2
              have HDL := Lib.hid hdl
              clear hat hat2 hd hc e2 d0 d1 d2 hdl hb2
              go_wp2_with fail
              refine (cell_any _ _ _ _ _ _ HI.out.hp).mono ?_
              rintro e w4 ⟨hb4, (⟨q, c2, lo, lc, hq, hcq, rfl, hown⟩ | ⟨hn, -⟩)⟩
              · obtain rfl : q = i := by omega
                obtain rfl : c2 = c := Option.some.inj (hcq.symm.trans HC.out)
                clear hcq hq
                go_wp2_with (with_reducible refine stop_op (o := ⟨_, .store 46 (.tmp 15) (.tmp 154), _, _, _, _⟩) ?_)
                refine Lib.hid ?_
                refine wpList_store_new (o := ⟨none, _, _, _, _, _⟩) rfl 46 (.tmp 15) (.tmp 154) rfl #[.int .i8 c2.k, .int .i64 c2.sz, .slice lo c2.l.length lc] rfl rfl (infoCL _ rfl) rfl (by simp [Value.oneCell']) ?_
                have hba := (Below.refl w4.heap.size w4).alloc (Nat.le_refl _) (.cells #[.int .i8 c2.k, .int .i64 c2.sz, .slice lo c2.l.length lc] 46)
                have hna := heap_new w4 (.cells #[.int .i8 c2.k, .int .i64 c2.sz, .slice lo c2.l.length lc] 46)
                have hb5 := hb4.trans (hba.mono hb4.size)
                have hb6 := hb5.trans ((Below.refl _ (w4.alloc (.cells #[.int .i8 c2.k, .int .i64 c2.sz, .slice lo c2.l.length lc] 46))).drew.mono hb5.size)
                have hS : V34 w4.heap.size c2.k c2.sz (.slice lo c2.l.length lc) b2 (q * 3) c2.k c2.sz (.slice dlo c2.l.length dlc) (w4.alloc (.cells #[.int .i8 c2.k, .int .i64 c2.sz, .slice lo c2.l.length lc] 46)).drew :=
                  ⟨(cells_at hna 0 _ rfl).1, (cells_at hna 1 _ rfl).1, (cells_at hna 2 _ rfl).1, keep_cell HD0.out hb6, keep_cell HD1.out hb6, keep_cell HD2.out hb6⟩
                have hI6 := HI.out.keep hb6
                obtain ⟨ao1, cp1, e, -, -, hrw1, -⟩ := own_wrow (own_keep hown (hba.trans (((Below.refl _ (w4.alloc (.cells #[.int .i8 c2.k, .int .i64 c2.sz, .slice lo c2.l.length lc] 46))).drew).mono hba.size)))
                injection e with e1 e2 e3
                subst e1 e3
                obtain ⟨ao2, cp2, e, -, -, hrw2, -⟩ := own_wrow (own_keep HDL.out hb6)
                injection e with e1 e2' e3
                subst e1 e3
                have HSC := Lib.hid (samecell_same f _ c2.k c2.sz c2.l lo dlo lc dlc hrw1 hrw2 (fun x hx => (hI6.oks c2 (List.mem_of_getElem? HC.out) x hx).keep hI6.hb) (by omega))
                have HI6 := Lib.hid hI6
                clear hba hna hb4 hb5 hb6 hI6 hrw1 hrw2 hown e2 e2' HI
                go_wp2_with fail
                refine region_plan (V34 w4.heap.size c2.k c2.sz (.slice lo c2.l.length lc) b2 (q * 3) c2.k c2.sz (.slice dlo c2.l.length dlc)) [(0, 0), (1, 0), (2, 0), (3, 0), (4, 0), (5, 0), (6, 0), (7, 0), (8, 1), (9, 0), (10, 0)] (by kernel_rfl) (by kernel_rfl) (by kernel_rfl) hS ?_
                generalize (w4.alloc (.cells #[.int .i8 c2.k, .int .i64 c2.sz, .slice lo c2.l.length lc] 46)).drew = WD at *
                iterate 8 (first | (refine plan_skip rfl ?_ ?_; (focus (rfl)); (try simp only [Act.put, List.setIfInBounds_toArray, List.set_cons_zero, List.set_cons_succ])) | (refine plan_take (v := ?_) rfl ?_ (fun w hSw => ?_) ?_; rotate_left; (focus (rfl)); (focus (unfold V34 at hSw; (go_simp <;> with_reducible rfl))); (try simp only [Act.put, List.setIfInBounds_toArray, List.set_cons_zero, List.set_cons_succ])))
                refine plan_run rfl ?_ (fun K hK => ?_)
                focus (rfl)
                go_simp
                refine (HSC.out).mono ?_
                rintro e W1 ⟨rfl, hb1⟩
                have hS1 := hS.keep hb1
                have HI7 := Lib.hid (HI6.out.keep hb1)
                refine hK.out _ _ hS1 ?_
                clear hK K 
                (try simp only [Act.put, List.setIfInBounds_toArray, List.set_cons_zero, List.set_cons_succ])
                iterate 2 (first | (refine plan_skip rfl ?_ ?_; (focus (rfl)); (try simp only [Act.put, List.setIfInBounds_toArray, List.set_cons_zero, List.set_cons_succ])) | (refine plan_take (v := ?_) rfl ?_ (fun w hSw => ?_) ?_; rotate_left; (focus (rfl)); (focus (unfold V34 at hSw; (go_simp <;> with_reducible rfl))); (try simp only [Act.put, List.setIfInBounds_toArray, List.set_cons_zero, List.set_cons_succ])))
                refine plan_done ?_
                clear hS hS1 hb1 HI6 HSC
                go_wp2_with fail
                go_roundw
                case rel => exact ⟨q + 1, by omega, by go_num, HI7⟩
                case measure => simp [intOf]; omega
              · omega
            · have HF := Lib.hid HI.out.hb
              go_wp2_with fail
              refine (wakes_any _ (keep_let HL1.out HF.out)).mono ?_
              rintro e w3 ⟨rfl, hb3⟩
              have HB := Lib.hid (HB1.out.trans ((HF.out.trans (hb3.mono HF.out.size)).mono HB1.out.size))
              clear hb3
              go_wp2_with fail
              go_ret
              exact ⟨rfl, HB.out⟩
  · go_wp2_with fail
    refine (wakes_any _ (keep_let HL.out HB1.out)).mono ?_
    rintro e w3 ⟨rfl, hb3⟩
    have HB := Lib.hid (HB1.out.trans (hb3.mono HB1.out.size))
    clear hb3
    go_wp2_with fail
    go_ret
    exact ⟨rfl, HB.out⟩
theorem lower_row {H : Type} {enc : TypeId × Value → H} (W : World) {base : Nat} {v0 : Value} {d0 : DataW H} {p0 : List MemPlace} (hv0 : Value.okWide Tryd.prog W .any base 52 v0) (h0 : DataW.Trod enc Tryd.prog W 0 (fun _ => true) true 52 v0 d0 p0)
    (hL : laidMetH Tryd.prog [("pleach/atoms.letters", letD)] W) : Calls Tryd.prog 5 #[v0] W (IsPost W true) := by
  obtain ⟨ao0, n0, cap0, rfl⟩ := okWide_slice Tryd.underlying52 hv0
  obtain ⟨fuel, hf⟩ := h0
  obtain ⟨ao, cap, M, e, h1, h2⟩ := acts_of_trod hf
  rw [e]
  exact lower_law W fuel M ao cap (letters_of W hL) h2 h1
end Go.Proofs.YtfbmjcblnemkgaaDoor
