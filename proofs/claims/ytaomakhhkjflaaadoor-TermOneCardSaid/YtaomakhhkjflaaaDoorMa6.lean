/- the law TermOne. Conditions: the arguments read as data; the tables of letters and of powers read as laid. -/
import Derived.Test.YtaomakhhkjflaaaDoorMa5
namespace Go.Proofs.YtaomakhhkjflaaaDoor
open Go.ChangeShapes Go.WideShapes Go.ChangeAt Go.RowKit
set_option linter.unusedVariables false
set_option linter.unusedSimpArgs false
set_option maxRecDepth 100000
/-- two terms stand in boxes -/
structure St2 (W : World) (a b : TE) (wx : World) : Prop where
  hb : Below W.heap.size W wx
  hX : wx.heap[W.heap.size]? = some (.cells a.cells.toArray 25 (0, 0))
  hY : wx.heap[W.heap.size + 1]? = some (.cells b.cells.toArray 25 (0, 0))
theorem St2.keep {W : World} {a b : TE} {wx wy : World} (h : St2 W a b wx) (hb : Below wx.heap.size wx wy) : St2 W a b wy :=
  ⟨h.hb.trans (hb.mono h.hb.size), keep_heap h.hX hb, keep_heap h.hY hb⟩
theorem St2.new (W : World) (a b : TE) : St2 W a b ((W.alloc (.cells a.cells.toArray 25)).alloc (.cells b.cells.toArray 25)) := by
  have h1 : (W.alloc (.cells a.cells.toArray 25)).heap.size = W.heap.size + 1 := by simp
  refine ⟨((Below.refl W.heap.size W).alloc (Nat.le_refl _) _).alloc (by simp) _, heap_old (heap_new W _) _, ?_⟩
  have h2 := heap_new (W.alloc (.cells a.cells.toArray 25)) (.cells b.cells.toArray 25)
  rw [h1] at h2
  exact h2
theorem St2.see {W : World} {a b : TE} {wx : World} (h : St2 W a b wx) : wx.cell? ⟨W.heap.size, 0, none⟩ = some (.int .i8 a.k) ∧ wx.cell? ⟨W.heap.size, 1, none⟩ = some (.int .i64 a.n) ∧ wx.cell? ⟨W.heap.size, 2, none⟩ = some (.string a.s) ∧ wx.cell? ⟨W.heap.size, 3, none⟩ = some (.string a.u) ∧ wx.cell? ⟨W.heap.size, 4, none⟩ = some (.slice a.ao a.l.length a.cap) ∧
    wx.cell? ⟨W.heap.size + 1, 0, none⟩ = some (.int .i8 b.k) ∧ wx.cell? ⟨W.heap.size + 1, 1, none⟩ = some (.int .i64 b.n) ∧ wx.cell? ⟨W.heap.size + 1, 2, none⟩ = some (.string b.s) ∧ wx.cell? ⟨W.heap.size + 1, 3, none⟩ = some (.string b.u) ∧ wx.cell? ⟨W.heap.size + 1, 4, none⟩ = some (.slice b.ao b.l.length b.cap) :=
  ⟨(cells_at h.hX 0 _ rfl).1, (cells_at h.hX 1 _ rfl).1, (cells_at h.hX 2 _ rfl).1, (cells_at h.hX 3 _ rfl).1, (cells_at h.hX 4 _ rfl).1, (cells_at h.hY 0 _ rfl).1, (cells_at h.hY 1 _ rfl).1, (cells_at h.hY 2 _ rfl).1, (cells_at h.hY 3 _ rfl).1, (cells_at h.hY 4 _ rfl).1⟩
/-- what a region reads of them -/
def See2 (x : Nat) (ak an : Int) (as' au : ByteArray) (av : Value) (bk bn : Int) (bs bu : ByteArray) (bv : Value) (wx : World) : Prop := wx.cell? ⟨x, 0, none⟩ = some (.int .i8 ak) ∧ wx.cell? ⟨x, 1, none⟩ = some (.int .i64 an) ∧ wx.cell? ⟨x, 2, none⟩ = some (.string as') ∧ wx.cell? ⟨x, 3, none⟩ = some (.string au) ∧ wx.cell? ⟨x, 4, none⟩ = some av ∧
    wx.cell? ⟨x + 1, 0, none⟩ = some (.int .i8 bk) ∧ wx.cell? ⟨x + 1, 1, none⟩ = some (.int .i64 bn) ∧ wx.cell? ⟨x + 1, 2, none⟩ = some (.string bs) ∧ wx.cell? ⟨x + 1, 3, none⟩ = some (.string bu) ∧ wx.cell? ⟨x + 1, 4, none⟩ = some bv
def See1 (x y : Nat) (ak an : Int) (as' au : ByteArray) (av : Value) (bk bn : Int) (bs bu : ByteArray) (bv : Value) (wx : World) : Prop := wx.cell? ⟨x, 0, none⟩ = some (.int .i8 ak) ∧ wx.cell? ⟨x, 1, none⟩ = some (.int .i64 an) ∧ wx.cell? ⟨x, 2, none⟩ = some (.string as') ∧ wx.cell? ⟨x, 3, none⟩ = some (.string au) ∧ wx.cell? ⟨x, 4, none⟩ = some av ∧
    wx.cell? ⟨y, 0, none⟩ = some (.int .i8 bk) ∧ wx.cell? ⟨y, 1, none⟩ = some (.int .i64 bn) ∧ wx.cell? ⟨y, 2, none⟩ = some (.string bs) ∧ wx.cell? ⟨y, 3, none⟩ = some (.string bu) ∧ wx.cell? ⟨y, 4, none⟩ = some bv
theorem See1.of {W : World} {a b c : TE} {wx : World} {y : Nat} (h : St2 W a b wx) (hy : wx.heap[y]? = some (.cells c.cells.toArray 25 (0, 0))) : See1 W.heap.size y a.k a.n a.s a.u (.slice a.ao a.l.length a.cap) c.k c.n c.s c.u (.slice c.ao c.l.length c.cap) wx :=
  ⟨(cells_at h.hX 0 _ rfl).1, (cells_at h.hX 1 _ rfl).1, (cells_at h.hX 2 _ rfl).1, (cells_at h.hX 3 _ rfl).1, (cells_at h.hX 4 _ rfl).1, (cells_at hy 0 _ rfl).1, (cells_at hy 1 _ rfl).1, (cells_at hy 2 _ rfl).1, (cells_at hy 3 _ rfl).1, (cells_at hy 4 _ rfl).1⟩
theorem te_term {S : Nat → Prop} {F : Nat} {w : World} {te : TE} {t : Tm} (ht : te.t = t) (hf : fields te.k te.n te.s te.u) (hr : RowS S F w te.lv te.l) : TermV F w (.agg te.cells.toArray) t := by
  subst ht
  exact ⟨hf, _, rfl, hr.row⟩
set_option maxHeartbeats 16000000 in
theorem one_core (f g : Nat) (a b : Tm) (v0 v1 : Value) (W : World) (hc : Cells W 0 letL) (ht : Lib.TabIs Tryd.prog W "internal/strconv.uint64pow10" .u64 Lib.pow10Tab) (ha : TermV f W v0 a) (hb : TermV g W v1 b) : Calls Tryd.prog 3 #[v0, v1] W (IsPost W true) := by
  obtain ⟨te, rfl, hta, hfa, hra⟩ := ha.te
  obtain ⟨tf, rfl, htb, hfb, hrb⟩ := hb.te
  have HA : ∀ w, Below W.heap.size W w → TermV f w (.agg te.cells.toArray) a := fun w h => ha.keep h
  have HB : ∀ w, Below W.heap.size W w → TermV g w (.agg tf.cells.toArray) b := fun w h => hb.keep h
  have HA := Lib.hid HA
  have HB := Lib.hid HB
  have HC := Lib.hid hc
  have HTB := Lib.hid (Lib.tabBelow_of_tabIs ht)
  have H0 := Lib.hid (St2.new W te tf)
  have HRA := Lib.hid (And.intro hta (And.intro hfa hra))
  clear ha hb hc ht hta htb hfa hfb hra hrb
  obtain ⟨ak, an, as', au, aao, acap, al⟩ := te
  obtain ⟨bk, bn, bs, bu, bao, bcap, bl⟩ := tf
  simp only [TE.cells] at *
  have HGA := Lib.hid (great_any f a _ _ (HA.out _ H0.out.hb))
  obtain ⟨x0, x1, x2, x3, x4, y0, y1, y2, y3, y4⟩ := H0.out.see
  dsimp only at x0 x1 x2 x3 x4 y0 y1 y2 y3 y4
  go_enter Tryd.func3, Tryd.ntmps3
  go_wp2_with fail
  generalize (W.alloc (.cells #[.int .i8 ak, .int .i64 an, .string as', .string au, .slice aao al.length acap] 25)).alloc (.cells #[.int .i8 bk, .int .i64 bn, .string bs, .string bu, .slice bao bl.length bcap] 25) = W0 at *
  refine HGA.out.mono ?_
  rintro e w1 ⟨rfl, hb1⟩
  clear x0 x1 x2 x3 x4 y0 y1 y2 y3 y4
  have H1 := Lib.hid (H0.out.keep hb1)
  clear HGA hb1 H0
  cases hga : greatB a
  rotate_left
  · skip
    have HWK := Lib.hid (wakes_any _ (cells_chg HC.out (chg_of_below H1.out.hb (fun _ => False)) (fun e => e)) (HTB.out _ H1.out.hb))
    go_wp2_with fail
    refine HWK.out.mono ?_
    rintro e w99 ⟨rfl, hb99⟩
    have HB99 := Lib.hid (H1.out.hb.trans (hb99.mono H1.out.hb.size))
    clear hb99 HWK
    go_wp2_with fail
    go_ret
    exact ⟨rfl, HB99.out⟩
  have HGB := Lib.hid (great_any g b _ _ (HB.out _ H1.out.hb))
  obtain ⟨x0, x1, x2, x3, x4, y0, y1, y2, y3, y4⟩ := H1.out.see
  dsimp only at x0 x1 x2 x3 x4 y0 y1 y2 y3 y4
  go_wp2_with fail
  refine HGB.out.mono ?_
  rintro e w2 ⟨rfl, hb2⟩
  clear x0 x1 x2 x3 x4 y0 y1 y2 y3 y4
  have H2 := Lib.hid (H1.out.keep hb2)
  clear HGB hb2 H1
  cases hgb : greatB b
  rotate_left
  · skip
    have HWK := Lib.hid (wakes_any _ (cells_chg HC.out (chg_of_below H2.out.hb (fun _ => False)) (fun e => e)) (HTB.out _ H2.out.hb))
    go_wp2_with fail
    refine HWK.out.mono ?_
    rintro e w99 ⟨rfl, hb99⟩
    have HB99 := Lib.hid (H2.out.hb.trans (hb99.mono H2.out.hb.size))
    clear hb99 HWK
    go_wp2_with fail
    go_ret
    exact ⟨rfl, HB99.out⟩
  have HCA := Lib.hid (check_any f a _ _ (cells_chg HC.out (chg_of_below H2.out.hb (fun _ => False)) (fun e => e)) (HA.out _ H2.out.hb))
  obtain ⟨x0, x1, x2, x3, x4, y0, y1, y2, y3, y4⟩ := H2.out.see
  dsimp only at x0 x1 x2 x3 x4 y0 y1 y2 y3 y4
  go_wp2_with fail
  refine HCA.out.mono ?_
  rintro e w3 ⟨rfl, hb3⟩
  clear x0 x1 x2 x3 x4 y0 y1 y2 y3 y4
  have H3 := Lib.hid (H2.out.keep hb3)
  clear HCA hb3 H2
  by_cases hca : checkN a = 0
  rotate_left
  · have d1 : (checkN a != 0) = true := by simpa using hca
    have HWK := Lib.hid (wakes_any _ (cells_chg HC.out (chg_of_below H3.out.hb (fun _ => False)) (fun e => e)) (HTB.out _ H3.out.hb))
    go_wp2_with fail
    refine HWK.out.mono ?_
    rintro e w99 ⟨rfl, hb99⟩
    have HB99 := Lib.hid (H3.out.hb.trans (hb99.mono H3.out.hb.size))
    clear hb99 HWK
    go_wp2_with fail
    go_ret
    exact ⟨rfl, HB99.out⟩
  have HCB := Lib.hid (check_any g b _ _ (cells_chg HC.out (chg_of_below H3.out.hb (fun _ => False)) (fun e => e)) (HB.out _ H3.out.hb))
  obtain ⟨x0, x1, x2, x3, x4, y0, y1, y2, y3, y4⟩ := H3.out.see
  dsimp only at x0 x1 x2 x3 x4 y0 y1 y2 y3 y4
  rw [hca]
  go_wp2_with fail
  refine HCB.out.mono ?_
  rintro e w4 ⟨rfl, hb4⟩
  clear x0 x1 x2 x3 x4 y0 y1 y2 y3 y4
  have H4 := Lib.hid (H3.out.keep hb4)
  clear HCB hb4 H3
  by_cases hcb : checkN b = 0
  rotate_left
  · have d1 : (checkN b != 0) = true := by simpa using hcb
    have HWK := Lib.hid (wakes_any _ (cells_chg HC.out (chg_of_below H4.out.hb (fun _ => False)) (fun e => e)) (HTB.out _ H4.out.hb))
    go_wp2_with fail
    refine HWK.out.mono ?_
    rintro e w99 ⟨rfl, hb99⟩
    have HB99 := Lib.hid (H4.out.hb.trans (hb99.mono H4.out.hb.size))
    clear hb99 HWK
    go_wp2_with fail
    go_ret
    exact ⟨rfl, HB99.out⟩
  rw [hcb]
  obtain ⟨hoa, hna⟩ := check_ok hca
  obtain ⟨hob, hnb⟩ := check_ok hcb
  have HOK := Lib.hid (And.intro (And.intro hca hcb) (And.intro (And.intro hoa hna) (And.intro hob hnb)))
  clear hca hcb hoa hna hob hnb hga hgb
  have HQ : Hid (∃ q : Bool, ((⟨(tx a).toArray⟩ : ByteArray).toList == (⟨(tx b).toArray⟩ : ByteArray).toList) = q ∧ (cmpT a b == 0) = q) := Lib.hid (by
    obtain ⟨⟨q1, q2⟩, ⟨q3, q4⟩, q5, q6⟩ := HOK.out
    have hcm : cmpT a b = ord a b := by rw [cmpT, if_pos q1, if_pos q2]
    by_cases hab : a = b
    · subst hab
      exact ⟨true, by simp, by rw [hcm, ord_self]; rfl⟩
    · refine ⟨false, ?_, ?_⟩
      · rw [ba_list, ba_list]
        simp only [beq_eq_false_iff_ne, ne_eq]
        exact fun e => hab (tx_one HC.out q3 q4 q5 q6 e)
      · rw [hcm]
        simp only [beq_eq_false_iff_ne, ne_eq]
        exact fun e => hab (ord_zero a b e))
  have HTA : Hid (∀ w, Below W.heap.size W w → Calls Tryd.prog 9 #[.agg #[.int .i8 ak, .int .i64 an, .string as', .string au, .slice aao al.length acap]] w (TextP w a)) := Lib.hid fun w h => text_any f a _ _ (cells_chg HC.out (chg_of_below h (fun _ => False)) (fun e => e)) (HTB.out _ h) (HA.out _ h) HOK.out.1.1
  have HTX : Hid (∀ w, Below W.heap.size W w → Calls Tryd.prog 9 #[.agg #[.int .i8 bk, .int .i64 bn, .string bs, .string bu, .slice bao bl.length bcap]] w (TextP w b)) := Lib.hid fun w h => text_any g b _ _ (cells_chg HC.out (chg_of_below h (fun _ => False)) (fun e => e)) (HTB.out _ h) (HB.out _ h) HOK.out.1.2
  unfold TextP at HTA HTX
  generalize (⟨(tx a).toArray⟩ : ByteArray) = sa at *
  generalize (⟨(tx b).toArray⟩ : ByteArray) = sb at *
  obtain ⟨q, hq1, hq2⟩ := HQ.out
  go_wp2_with fail
  have hd := (Below.refl w4.heap.size w4).drew
  have H5 := Lib.hid (H4.out.keep hd)
  have hS : See2 W.heap.size ak an as' au (.slice aao al.length acap) bk bn bs bu (.slice bao bl.length bcap) w4.drew := H5.out.see
  clear hd H4
  refine region_plan (See2 W.heap.size ak an as' au (.slice aao al.length acap) bk bn bs bu (.slice bao bl.length bcap)) [(0, 0), (2, 0), (5, 0), (6, 0), (1, 1), (3, 1), (4, 0), (7, 1), (8, 0), (9, 0)] (by kernel_rfl) (by kernel_rfl) (by kernel_rfl) hS ?_
  generalize w4.drew = WD at *
  iterate 4 (first | (refine plan_skip rfl ?_ ?_; (focus (rfl)); (try simp only [Act.put, List.setIfInBounds_toArray, List.set_cons_zero, List.set_cons_succ])) | (refine plan_take (v := ?_) rfl ?_ (fun w hSw => ?_) ?_; rotate_left; (focus (rfl)); (focus (unfold See2 at hSw; (go_simp <;> with_reducible rfl))); (try simp only [Act.put, List.setIfInBounds_toArray, List.set_cons_zero, List.set_cons_succ])))
  refine plan_run rfl ?_ (fun K hK => ?_)
  focus (rfl)
  go_simp
  refine (HTA.out _ H5.out.hb).mono ?_
  rintro e w6 ⟨rfl, hb6⟩
  have H6 := Lib.hid (H5.out.keep hb6)
  have hS6 : See2 W.heap.size ak an as' au (.slice aao al.length acap) bk bn bs bu (.slice bao bl.length bcap) w6 := H6.out.see
  refine hK.out _ _ hS6 ?_
  clear hK K 
  (try simp only [Act.put, List.setIfInBounds_toArray, List.set_cons_zero, List.set_cons_succ])
  clear hb6 hS H5
  refine plan_run rfl ?_ (fun K hK => ?_)
  focus (rfl)
  go_simp
  refine (HTX.out _ H6.out.hb).mono ?_
  rintro e w7 ⟨rfl, hb7⟩
  have H7 := Lib.hid (H6.out.keep hb7)
  have hS7 : See2 W.heap.size ak an as' au (.slice aao al.length acap) bk bn bs bu (.slice bao bl.length bcap) w7 := H7.out.see
  refine hK.out _ _ hS7 ?_
  clear hK K 
  (try simp only [Act.put, List.setIfInBounds_toArray, List.set_cons_zero, List.set_cons_succ])
  clear hb7 hS6 H6
  iterate 1 (first | (refine plan_skip rfl ?_ ?_; (focus (rfl)); (try simp only [Act.put, List.setIfInBounds_toArray, List.set_cons_zero, List.set_cons_succ])) | (refine plan_take (v := ?_) rfl ?_ (fun w hSw => ?_) ?_; rotate_left; (focus (rfl)); (focus (unfold See2 at hSw; (go_simp <;> with_reducible rfl))); (try simp only [Act.put, List.setIfInBounds_toArray, List.set_cons_zero, List.set_cons_succ])))
  refine plan_run rfl ?_ (fun K hK => ?_)
  focus (rfl)
  go_simp
  refine (compare_any f g a b _ _ w7 (cells_chg HC.out (chg_of_below H7.out.hb (fun _ => False)) (fun e => e)) (HA.out _ H7.out.hb) (HB.out _ H7.out.hb)).mono ?_
  rintro e w8 ⟨rfl, hb8⟩
  have H8 := Lib.hid (H7.out.keep hb8)
  have hS8 : See2 W.heap.size ak an as' au (.slice aao al.length acap) bk bn bs bu (.slice bao bl.length bcap) w8 := H8.out.see
  refine hK.out _ _ hS8 ?_
  clear hK K 
  (try simp only [Act.put, List.setIfInBounds_toArray, List.set_cons_zero, List.set_cons_succ])
  clear hb8 hS7 H7
  iterate 2 (first | (refine plan_skip rfl ?_ ?_; (focus (rfl)); (try simp only [Act.put, List.setIfInBounds_toArray, List.set_cons_zero, List.set_cons_succ])) | (refine plan_take (v := ?_) rfl ?_ (fun w hSw => ?_) ?_; rotate_left; (focus (rfl)); (focus (unfold See2 at hSw; (go_simp <;> with_reducible rfl))); (try simp only [Act.put, List.setIfInBounds_toArray, List.set_cons_zero, List.set_cons_succ])))
  refine plan_done ?_
  have hal63 : al.length ≤ 9223372036854775807 := by
    obtain ⟨ao', cap', e, h1, h2, h3⟩ := HRA.out.2.2
    simp only [TE.lv] at e
    omega
  obtain ⟨-, -, -, -, x4, -⟩ := hS8
  have HNA : Hid (nT a = nL al + 1 ∧ nT a ≤ 256) := Lib.hid ⟨by rw [← HRA.out.1, TE.t, nT], HOK.out.2.1.2⟩
  clear hq1 hq2 HQ HTA HTX
  go_wp2_with fail
  go_loopw [5, 38] (fun nv iv wr => ∃ i : Nat, i ≤ al.length ∧ iv = .int .i64 i ∧ nv = .int .i64 (1 + (nL (al.take i) : Int)) ∧ Hid (St2 W ⟨ak, an, as', au, aao, acap, al⟩ ⟨bk, bn, bs, bu, bao, bcap, bl⟩ wr)) (fun _ iv _ => al.length - (intOf iv).toNat)
  case atStart => exact ⟨0, by omega, rfl, by simp [nL], H8⟩
  case round =>
    clear H8 x4
    obtain ⟨i, hi, rfl, rfl, HI⟩ := hrel
    by_cases hlt : i < al.length
    · obtain ⟨x, hxi⟩ : ∃ x, al[i]? = some x := ⟨al[i], by simp [hlt]⟩
      have hra : RowS (fun k => k < W.heap.size) f wr (.slice aao al.length acap) al := HRA.out.2.2.chg (chg_of_below HI.out.hb (fun _ => False)) (fun _ _ _ h => h) (fun _ h _ => h) (Nat.le_refl _)
      obtain ⟨b', off, te, rfl, hte, hfe, hre, c0, c1, c2, c3, c4⟩ := row_elem hra hxi
      have hox : okT x := okL_at (by have h := HOK.out.2.1.1; rw [← HRA.out.1, TE.t, okT] at h; exact h.2) hxi
      have hnx := nL_take hxi
      have hnl := nL_le al (i + 1)
      have hnx0 := nT_pos x
      have hnx1 : nT x ≤ 255 := by have := HNA.out; omega
      obtain ⟨gk, gn, gs, gu, gao, gcap, gl⟩ := te
      have hbn := (Below.refl wr.heap.size wr).alloc (Nat.le_refl _) (.cells #[.int .i8 gk, .int .i64 gn, .string gs, .string gu, .slice gao gl.length gcap] 25)
      have H1 := Lib.hid (HI.out.keep hbn)
      have HG1 := Lib.hid (heap_new wr (.cells #[.int .i8 gk, .int .i64 gn, .string gs, .string gu, .slice gao gl.length gcap] 25))
      have HX := Lib.hid (And.intro (te_term hte hfe hre) (And.intro hox (And.intro hnx (And.intro hnl (And.intro hnx0 hnx1)))))
      clear hra hte hfe hre hxi hox hnx hnl hnx0 hnx1
      simp only [TE.lv] at c0 c1 c2 c3 c4
      go_wp2_with (with_reducible refine stop_op (o := ⟨_, .store 25 (.tmp 7) (.tmp 41), _, _, _, _⟩) ?_)
      refine Lib.hid ?_
      refine wpList_store_new (o := ⟨none, _, _, _, _, _⟩) rfl 25 (.tmp 7) (.tmp 41) rfl #[.int .i8 gk, .int .i64 gn, .string gs, .string gu, .slice gao gl.length gcap] rfl rfl (infoTM' _ rfl) rfl (by simp [Value.oneCell']) ?_
      clear c0 c1 c2 c3 c4
      have HXT : Hid (∀ w, Below wr.heap.size wr w → TermV f w (.agg #[.int .i8 gk, .int .i64 gn, .string gs, .string gu, .slice gao gl.length gcap]) x) := Lib.hid fun w h => HX.out.1.keep h
      have HBN := Lib.hid hbn
      clear hbn
      generalize wr.alloc (.cells #[.int .i8 gk, .int .i64 gn, .string gs, .string gu, .slice gao gl.length gcap] 25) = W1 at *
      go_wp2_with fail
      have hd := (Below.refl W1.heap.size W1).drew
      have H2 := Lib.hid (H1.out.keep hd)
      have HG2 := Lib.hid (keep_heap HG1.out hd)
      have HB2 := Lib.hid (HBN.out.trans (hd.mono HBN.out.size))
      have hS : See1 W.heap.size wr.heap.size ak an as' au (.slice (some ⟨b', off, none⟩) al.length acap) gk gn gs gu (.slice gao gl.length gcap) W1.drew := See1.of (c := ⟨gk, gn, gs, gu, gao, gcap, gl⟩) H2.out HG2.out
      clear hd H1 HG1 HBN
      refine region_plan (See1 W.heap.size wr.heap.size ak an as' au (.slice (some ⟨b', off, none⟩) al.length acap) gk gn gs gu (.slice gao gl.length gcap)) [(0, 0), (1, 1), (2, 0), (3, 0), (4, 0), (6, 0), (5, 1), (7, 1), (8, 0), (9, 0)] (by kernel_rfl) (by kernel_rfl) (by kernel_rfl) hS ?_
      generalize W1.drew = WD at *
      iterate 1 (first | (refine plan_skip rfl ?_ ?_; (focus (rfl)); (try simp only [Act.put, List.setIfInBounds_toArray, List.set_cons_zero, List.set_cons_succ])) | (refine plan_take (v := ?_) rfl ?_ (fun w hSw => ?_) ?_; rotate_left; (focus (rfl)); (focus (unfold See1 at hSw; (go_simp <;> with_reducible rfl))); (try simp only [Act.put, List.setIfInBounds_toArray, List.set_cons_zero, List.set_cons_succ])))
      have hcx := check_any f x _ WD (cells_chg HC.out (chg_of_below H2.out.hb (fun _ => False)) (fun e => e)) (HXT.out _ HB2.out)
      rw [ok_check HX.out.2.1 (by have := HX.out.2.2.2.2.2; omega)] at hcx
      refine plan_run rfl ?_ (fun K hK => ?_)
      focus (rfl)
      go_simp
      refine (hcx).mono ?_
      rintro e w3 ⟨rfl, hb3⟩
      have H3 := Lib.hid (H2.out.keep hb3)
      have HG3 := Lib.hid (keep_heap HG2.out hb3)
      have HB3 := Lib.hid (HB2.out.trans (hb3.mono HB2.out.size))
      have hS3 : See1 W.heap.size wr.heap.size ak an as' au (.slice (some ⟨b', off, none⟩) al.length acap) gk gn gs gu (.slice gao gl.length gcap) w3 := See1.of (c := ⟨gk, gn, gs, gu, gao, gcap, gl⟩) H3.out HG3.out
      refine hK.out _ _ hS3 ?_
      clear hK K 
      (try simp only [Act.put, List.setIfInBounds_toArray, List.set_cons_zero, List.set_cons_succ])
      clear hb3 hS H2 HG2 HB2 hcx
      iterate 4 (first | (refine plan_skip rfl ?_ ?_; (focus (rfl)); (try simp only [Act.put, List.setIfInBounds_toArray, List.set_cons_zero, List.set_cons_succ])) | (refine plan_take (v := ?_) rfl ?_ (fun w hSw => ?_) ?_; rotate_left; (focus (rfl)); (focus (unfold See1 at hSw; (go_simp <;> with_reducible rfl))); (try simp only [Act.put, List.setIfInBounds_toArray, List.set_cons_zero, List.set_cons_succ])))
      have hsx := psize_any f x _ w3 (HXT.out _ HB3.out)
      rw [ok_size (by have := HX.out.2.2.2.2.2; omega)] at hsx
      refine plan_run rfl ?_ (fun K hK => ?_)
      focus (rfl)
      go_simp
      refine (hsx).mono ?_
      rintro e w4 ⟨rfl, hb4⟩
      have H4 := Lib.hid (H3.out.keep hb4)
      have HG4 := Lib.hid (keep_heap HG3.out hb4)
      have HB4 := Lib.hid (HB3.out.trans (hb4.mono HB3.out.size))
      have hS4 : See1 W.heap.size wr.heap.size ak an as' au (.slice (some ⟨b', off, none⟩) al.length acap) gk gn gs gu (.slice gao gl.length gcap) w4 := See1.of (c := ⟨gk, gn, gs, gu, gao, gcap, gl⟩) H4.out HG4.out
      refine hK.out _ _ hS4 ?_
      clear hK K 
      (try simp only [Act.put, List.setIfInBounds_toArray, List.set_cons_zero, List.set_cons_succ])
      clear hb4 hS3 H3 HG3 HB3 hsx
      have hsa := psize_any f a _ w4 (HA.out _ H4.out.hb)
      rw [ok_size HNA.out.2] at hsa
      refine plan_run rfl ?_ (fun K hK => ?_)
      focus (rfl)
      go_simp
      refine (hsa).mono ?_
      rintro e w5 ⟨rfl, hb5⟩
      have H5 := Lib.hid (H4.out.keep hb5)
      have HG5 := Lib.hid (keep_heap HG4.out hb5)
      have HB5 := Lib.hid (HB4.out.trans (hb5.mono HB4.out.size))
      have hS5 : See1 W.heap.size wr.heap.size ak an as' au (.slice (some ⟨b', off, none⟩) al.length acap) gk gn gs gu (.slice gao gl.length gcap) w5 := See1.of (c := ⟨gk, gn, gs, gu, gao, gcap, gl⟩) H5.out HG5.out
      refine hK.out _ _ hS5 ?_
      clear hK K 
      (try simp only [Act.put, List.setIfInBounds_toArray, List.set_cons_zero, List.set_cons_succ])
      clear hb5 hS4 H4 HG4 HB4 hsa
      have hge : decide ((nT a : Int) ≤ (nT x : Int)) = false := by
        have h1 := HNA.out
        have h2 := HX.out.2.2
        simp only [decide_eq_false_iff_not]
        omega
      have hge2 : decide (nT a ≤ nT x) = false := by
        simp only [decide_eq_false_iff_not] at hge ⊢
        omega
      have hge3 : ¬ nT a ≤ nT x := by simpa using hge2
      iterate 2 (first | (refine plan_skip rfl ?_ ?_; (focus (rfl)); (try simp only [Act.put, List.setIfInBounds_toArray, List.set_cons_zero, List.set_cons_succ])) | (refine plan_take (v := ?_) rfl ?_ (fun w hSw => ?_) ?_; rotate_left; (focus (rfl)); (focus (unfold See1 at hSw; (go_simp <;> with_reducible rfl))); (try simp only [Act.put, List.setIfInBounds_toArray, List.set_cons_zero, List.set_cons_succ])))
      refine plan_done ?_
      obtain ⟨-, -, -, -, -, y0, y1, y2, y3, y4⟩ := hS5
      have hsx := psize_any f x _ w5 (HXT.out _ HB5.out)
      rw [ok_size (by have := HX.out.2.2.2.2.2; omega)] at hsx
      have hwr : IntKind.i64.wrap (1 + (nL (al.take i) : Int) + (nT x : Int)) = 1 + (nL (al.take i) : Int) + (nT x : Int) := IntWalk.i64_in _ (by have h1 := HNA.out; have h2 := HX.out.2.2; omega)
      go_wp2_with fail
      refine hsx.mono ?_
      rintro e w6 ⟨rfl, hb6⟩
      have H6 := Lib.hid (H5.out.keep hb6)
      clear y0 y1 y2 y3 y4 H5 hb6
      go_wp2_with fail
      go_roundw
      case rel => exact ⟨i + 1, by omega, by go_num, by have h2 := HX.out.2.2.1; rw [h2]; congr 1; omega, H6⟩
      case measure => simp [intOf]; omega
    · obtain rfl : i = al.length := by omega
      have hsa := psize_any f a _ wr (HA.out _ HI.out.hb)
      rw [ok_size HNA.out.2] at hsa
      have heq : ((1 + (nL al : Int)) == (nT a : Int)) = true := by
        have h1 := HNA.out
        simp only [beq_iff_eq]
        omega
      obtain ⟨x0, x1, x2, x3, x4, y0, y1, y2, y3, y4⟩ := HI.out.see
      dsimp only at x0 x1 x2 x3 x4 y0 y1 y2 y3 y4
      go_wp2_with fail
      refine hsa.mono ?_
      rintro e w2 ⟨rfl, hb2⟩
      have H2 := Lib.hid (HI.out.keep hb2)
      clear hb2 HI x0 x1 x2 x3 x4 y0 y1 y2 y3 y4 hsa
      have HWK := Lib.hid (wakes_any _ (cells_chg HC.out (chg_of_below H2.out.hb (fun _ => False)) (fun e => e)) (HTB.out _ H2.out.hb))
      go_wp2_with fail
      refine HWK.out.mono ?_
      rintro e w99 ⟨rfl, hb99⟩
      have HB99 := Lib.hid (H2.out.hb.trans (hb99.mono H2.out.hb.size))
      clear hb99 HWK
      go_wp2_with fail
      go_ret
      exact ⟨rfl, HB99.out⟩
theorem termOne_true {H : Type} {enc : TypeId × Value → H} (W : World) {base : Nat} {v0 v1 : Value} {d0 d1 : DataW H} {p0 p1 : List MemPlace} (hv0 : Value.okWide Tryd.prog W .any base 25 v0) (h0 : DataW.Trod enc Tryd.prog W 0 (fun _ => true) true 25 v0 d0 p0)
    (hv1 : Value.okWide Tryd.prog W .any base 25 v1) (h1 : DataW.Trod enc Tryd.prog W 0 (fun _ => true) true 25 v1 d1 p1) (hL : laidMetH Tryd.prog [("internal/strconv.uint64pow10", powD), ("pleach/atoms.letters", letD)] W) :
    Calls Tryd.prog 3 #[v0, v1] W (IsPost W true) := by
  obtain ⟨f, a, ha⟩ := term_of_trod hv0 h0
  obtain ⟨g, b, hb⟩ := term_of_trod hv1 h1
  obtain ⟨hc, ht⟩ := tabs_of W hL
  exact one_core f g a b v0 v1 W hc ht ha hb
end Go.Proofs.YtaomakhhkjflaaaDoor
