/- term.write: references, pids. Conditions: the row is owned, the table of powers reads as laid, the row is not too long. -/
/- term.write: a row's texts with commas between (its inner function). Conditions: terms are written, the row is owned, the table of powers reads as laid, the row is not too long. -/
/- term.write: tuples. Conditions: parts are written, the row is owned, the table of powers reads as laid, the row is not too long. -/
/- term.write: lists. Conditions: parts are written, the row is owned, the table of powers reads as laid, the row is not too long. -/
import Derived.Test.YtaomakhhkjflaaaDoorMa3
import Derived.Test.YtaomakhhkjflaaaDoorKu
import Derived.Lib.ItoaLen
namespace Go.Proofs.YtaomakhhkjflaaaDoor
open Go.ChangeShapes Go.WideShapes Go.ChangeAt Go.RowKit
set_option linter.unusedVariables false
set_option linter.unusedSimpArgs false
set_option maxRecDepth 100000
/-- bytes are being written; a byte of '>' may lie ready -/
structure WS (B x y : Nat) (v : Value) (k n : Int) (s u : ByteArray) (lv : Value) (W0 w : World) (vb : Value) (l : List UInt8) (g : Option Nat) : Prop where
  hX : w.heap[x]? = some (.cells #[v] 47 (0, 0))
  hY : w.heap[y]? = some (.cells #[.int .i8 k, .int .i64 n, .string s, .string u, lv] 25 (0, 0))
  hr : BRow B w vb l
  hc : Chg (U8s B W0) W0 w
  hB : B ≤ w.heap.size
  ht : Tab B w
  hg : ∀ j, g = some j → w.heap[j]? = some (.cells #[.int .u8 62] 5 (0, 0))
section
variable {B x y : Nat} {v : Value} {k n : Int} {s u : ByteArray} {lv : Value} {W0 w : World} {vb : Value} {l : List UInt8} {g : Option Nat}
theorem WS.see (h : WS B x y v k n s u lv W0 w vb l g) : Z12 x y v n s u w := z12_of h.hX h.hY
theorem WS.new {c : Array Value} {T : TypeId} (h : WS B x y v k n s u lv W0 w vb l g) : WS B x y v k n s u lv W0 (w.alloc (.cells c T)) vb l g := by
  have hb := (Below.refl w.heap.size w).alloc (Nat.le_refl _) (.cells c T)
  exact ⟨keep_heap h.hX hb, keep_heap h.hY hb, h.hr.keep hb, h.hc.wtrans (chg_of_below hb _), Nat.le_trans h.hB hb.size, h.ht.on (hb.mono h.hB), fun j hj => keep_heap (h.hg j hj) hb⟩
theorem WS.gt (h : WS B x y v k n s u lv W0 w vb l none) : WS B x y v k n s u lv W0 (w.alloc (.cells #[.int .u8 62] 5)) vb l (some w.heap.size) := by
  have h1 := h.new (c := #[.int .u8 62]) (T := 5)
  exact ⟨h1.hX, h1.hY, h1.hr, h1.hc, h1.hB, h1.ht, fun j hj => by
    cases hj
    exact heap_new w _⟩
theorem WS.put {w' : World} {vb' : Value} {l' : List UInt8} (h : WS B x y v k n s u lv W0 w vb l g) (hr : BRow B w' vb' l') (hc : Chg (fun k => some k = vb.ownBlock) w w') (hne : ∀ j, g = some j → vb.ownBlock ≠ some j) : WS B x y v k n s u lv W0 w' vb' l' g := by
  have hu := wrote_own h.hr hc
  exact ⟨hu.wheap h.hX (by decide), hu.wheap h.hY (by decide), hr, h.hc.wtrans hu, Nat.le_trans h.hB hu.size, h.ht.on (hu.wbelow h.hB), fun j hj => hc.heap (h.hg j hj) fun e => hne j hj e.symm⟩
theorem WS.num {w' : World} {vb' : Value} {l' : List UInt8} (h : WS B x y v k n s u lv W0 w vb l none) (hr : BRow B w' vb' l') (hc : Chg (U8s B w) w w') : WS B x y v k n s u lv W0 w' vb' l' none :=
  ⟨hc.wheap h.hX (by decide), hc.wheap h.hY (by decide), hr, h.hc.wtrans hc, Nat.le_trans h.hB hc.size, h.ht.on (hc.wbelow h.hB), fun j hj => by cases hj⟩
theorem WS.fresh (h : WS B x y v k n s u lv W0 w vb l none) : ∀ j, some w.heap.size = some j → vb.ownBlock ≠ some j := fun j hj e => by
  cases hj
  have := own_lt h.hr (Nat.le_refl _) _ e
  omega
theorem WS.apart {c : UInt8} (h : WS B x y v k n s u lv W0 w vb (l ++ [c]) g) (hc : c ≠ 62) : ∀ j, g = some j → vb.ownBlock ≠ some j := fun j hj => not_block h.hr (y := 62) (h.hg j hj) hc
end
theorem gt_cells {w : World} {j : Nat} (h : w.heap[j]? = some (.cells #[.int .u8 62] 5 (0, 0))) : ∀ i u, (Lib.byteCells [62])[i]? = some u → w.cell? ((⟨j, 0, none⟩ : Addr).add i) = some u := fun i u hi => by
  rw [Addr.add_lit, Nat.zero_add]
  exact (cells_at h i u (by simpa [Lib.byteCells] using hi)).1
theorem lt_cells {w : World} {j : Nat} (h : w.heap[j]? = some (.cells #[.int .u8 60] 5 (0, 0))) : ∀ i u, (Lib.byteCells [60])[i]? = some u → w.cell? ((⟨j, 0, none⟩ : Addr).add i) = some u := fun i u hi => by
  rw [Addr.add_lit, Nat.zero_add]
  exact (cells_at h i u (by simpa [Lib.byteCells] using hi)).1
set_option maxHeartbeats 8000000 in
theorem write_ref (B : Nat) (W : World) (v : Value) (l : List UInt8) (te : TE) (hk : te.k = 2) (hn : ∃ u : Nat, te.n = u ∧ u ≤ 9223372036854775807) (h : BRow B W v l) (hB : B ≤ W.heap.size) (hl : l.length + 100 ≤ 140737488355328) (ht : Tab B W) :
    Calls Tryd.prog 22 #[v, .agg te.cells.toArray] W (WrP B W l te.t) := by
  obtain ⟨vo, vc, rfl⟩ := own_slice h
  obtain ⟨gk, gn, gs, gu, gao, gcap, gl⟩ := te
  have hk : gk = 2 := hk
  subst hk
  have hb2 := ((Below.refl W.heap.size W).alloc (Nat.le_refl _) (.cells #[.slice vo l.length vc] 47)).alloc (by simp) (.cells #[.int .i8 2, .int .i64 gn, .string gs, .string gu, .slice gao gl.length gcap] 25)
  have hX := heap_old (heap_new W (.cells #[.slice vo l.length vc] 47)) (.cells #[.int .i8 2, .int .i64 gn, .string gs, .string gu, .slice gao gl.length gcap] 25)
  have hY := heap_new (W.alloc (.cells #[.slice vo l.length vc] 47)) (.cells #[.int .i8 2, .int .i64 gn, .string gs, .string gu, .slice gao gl.length gcap] 25)
  have hs1 : (W.alloc (.cells #[.slice vo l.length vc] 47)).heap.size = W.heap.size + 1 := by simp
  rw [hs1] at hY
  have ht2 : Tab B _ := ht.on (hb2.mono hB)
  have hr2 := h.keep hb2
  have hB2 : B ≤ ((W.alloc (.cells #[.slice vo l.length vc] 47)).alloc (.cells #[.int .i8 2, .int .i64 gn, .string gs, .string gu, .slice gao gl.length gcap] 25)).heap.size := Nat.le_trans hB hb2.size
  have HB2 := Lib.hid hb2
  have HX := Lib.hid hX
  have HY := Lib.hid hY
  have HT := Lib.hid ht2
  have HR := Lib.hid hr2
  have HBB := Lib.hid hB2
  clear hb2 hX hY hs1 ht2 hr2 hB2 ht h
  have hl : l.length + 100 ≤ 140737488355328 := hl
  obtain ⟨nu, hnu, hnn⟩ := hn
  have hnu : gn = (nu : Int) := hnu
  obtain ⟨x0, -⟩ := cells_at HX.out 0 _ rfl
  obtain ⟨y0, -⟩ := cells_at HY.out 0 _ rfl
  simp only [TE.cells, TE.t] at *
  subst hnu
  go_enter Tryd.func22, Tryd.ntmps22
  go_wp2_with fail
  generalize (W.alloc (.cells #[.slice vo l.length vc] 47)).alloc (.cells #[.int .i8 2, .int .i64 (nu : Int), .string gs, .string gu, .slice gao gl.length gcap] 25) = W2 at *
  have hd := (Below.refl W2.heap.size W2).drew
  have H0 := Lib.hid (show WS B W.heap.size (W.heap.size + 1) (.slice vo l.length vc) 2 nu gs gu (.slice gao gl.length gcap) W W2.drew (.slice vo l.length vc) l none from ⟨keep_heap HX.out hd, keep_heap HY.out hd, HR.out.keep hd, chg_of_below (HB2.out.trans (hd.mono HB2.out.size)) _, HBB.out, HT.out.on (hd.mono HBB.out), fun j hj => by cases hj⟩)
  have hS := H0.out.see
  clear x0 y0 hd HR HT HBB HB2 HX HY
  refine region_planT (Z12 W.heap.size (W.heap.size + 1) (.slice vo l.length vc) nu gs gu) (.take 0 (.take 2 (.take 3 (.fork 1 (.fork 4 (.run 5 (.run 6 (.take 7 .done))) 5 (.run 4 (.run 6 (.take 7 .done)))) 5 (.run 1 (.run 4 (.run 6 (.take 7 .done)))))))) (by kernel_rfl) (by kernel_rfl) (by kernel_rfl) hS ?_
  generalize W2.drew = WD at *
  iterate 3 (first | (refine planT_skip rfl ?_ ?_; (focus (rfl)); (try simp only [Act.put, List.setIfInBounds_toArray, List.set_cons_zero, List.set_cons_succ])) | (refine planT_take (v := ?_) rfl ?_ (fun w hSw => ?_) ?_; rotate_left; (focus (rfl)); (focus (unfold Z12 at hSw; (go_simp <;> with_reducible rfl))); (try simp only [Act.put, List.setIfInBounds_toArray, List.set_cons_zero, List.set_cons_succ])))
  refine planT_fork ?_ ?_
  · skip
    refine planT_run rfl ?_ (fun K hK => ?_)
    focus (rfl)
    refine op_string (.tmp 25) (.const (.string ⟨#[35, 82, 101, 102, 60]⟩)) rfl B _ l rfl H0.out.hr ⟨#[35, 82, 101, 102, 60]⟩ rfl (by simp only [ByteArray.size_mk', List.size_toArray, List.length_cons, List.length_nil]; omega) H0.out.hB ?_
    intro v1 w1 hr1 hc1
    have H1 := Lib.hid (H0.out.put (l' := l ++ [35, 82, 101, 102] ++ [60]) (by simpa using hr1) hc1 (fun j hj => by cases hj))
    have hS1 := H1.out.see
    refine hK.out _ _ (hS1) ?_
    clear hK K
    (try simp only [Act.put, List.setIfInBounds_toArray, List.set_cons_zero, List.set_cons_succ])
    clear hr1 hc1 hS
    refine planT_fork ?_ ?_
    · skip
      refine planT_run rfl ?_ (fun K hK => ?_)
      focus (rfl)
      go_simp
      refine (num_any B w1 v1 _ nu (by omega) (by omega) H1.out.hr H1.out.hB (by simp only [List.length_append, List.length_cons, List.length_nil]; omega) H1.out.ht).mono ?_
      rintro e w2 ⟨v2, rfl, hr2, hc2⟩
      have H2 := Lib.hid (H1.out.num hr2 hc2)
      have hS2 := H2.out.see
      refine hK.out _ _ hS2 ?_
      clear hK K 
      (try simp only [Act.put, List.setIfInBounds_toArray, List.set_cons_zero, List.set_cons_succ])
      clear hr2 hc2 hS1
      have H3 := Lib.hid H2.out.gt
      have hS3 := H3.out.see
      refine planT_run rfl ?_ (fun K hK => ?_)
      focus (rfl)
      go_simp
      refine hK.out _ _ (hS3) ?_
      clear hK K
      (try simp only [Act.put, List.setIfInBounds_toArray, List.set_cons_zero, List.set_cons_succ])
      refine planT_run rfl ?_ (fun K hK => ?_)
      focus (rfl)
      refine op_bytes (.tmp 29) (.tmp 30) rfl B v2 _ [62] rfl H3.out.hr ⟨w2.heap.size, 0, none⟩ 1 rfl (gt_cells (H3.out.hg _ rfl)) (by simp only [List.length_append, List.length_cons, List.length_nil]; have := Lib.itoa_length_le nu (by omega) (by omega); omega) H3.out.hB ?_
      intro v9 w9 hr9 hc9
      have hu9 := wrote_own H3.out.hr hc9
      have H9 := Lib.hid (And.intro hr9 (H3.out.hc.wtrans hu9))
      have hS9 := z12_of (hu9.wheap H3.out.hX (by decide)) (hu9.wheap H3.out.hY (by decide))
      refine hK.out _ _ (hS9) ?_
      clear hK K
      (try simp only [Act.put, List.setIfInBounds_toArray, List.set_cons_zero, List.set_cons_succ])
      clear hr9 hc9 hu9 hS9 hS2 hS3
      iterate 1 (first | (refine planT_skip rfl ?_ ?_; (focus (rfl)); (try simp only [Act.put, List.setIfInBounds_toArray, List.set_cons_zero, List.set_cons_succ])) | (refine planT_take (v := ?_) rfl ?_ (fun w hSw => ?_) ?_; rotate_left; (focus (rfl)); (focus (unfold Z12 at hSw; (go_simp <;> with_reducible rfl))); (try simp only [Act.put, List.setIfInBounds_toArray, List.set_cons_zero, List.set_cons_succ])))
      refine planT_done ?_
      go_wp2_with fail
      go_ret
      refine ⟨_, rfl, ?_, H9.out.2⟩
      have h4 := H9.out.1
      rw [tx, form, if_neg (by decide), if_neg (by decide), if_pos rfl]
      simp only [List.append_assoc, List.cons_append, List.nil_append] at h4 ⊢
      exact h4
    · skip
      have H2 := Lib.hid H1.out.gt
      have hS2 := H2.out.see
      refine planT_run rfl ?_ (fun K hK => ?_)
      focus (rfl)
      go_simp
      refine hK.out _ _ (hS2) ?_
      clear hK K
      (try simp only [Act.put, List.setIfInBounds_toArray, List.set_cons_zero, List.set_cons_succ])
      refine planT_run rfl ?_ (fun K hK => ?_)
      focus (rfl)
      go_simp
      refine (num_nat B (w1.alloc (.cells #[.int .u8 62] 5)) v1 _ nu (by omega) H2.out.hr H2.out.hB (by simp only [List.length_append, List.length_cons, List.length_nil]; omega) H2.out.ht).mono ?_
      rintro e w3 ⟨v3, rfl, hr3, hc3⟩
      have H3 := Lib.hid (H2.out.put hr3 hc3 (H2.out.apart (by decide)))
      have hS3 := H3.out.see
      refine hK.out _ _ hS3 ?_
      clear hK K 
      (try simp only [Act.put, List.setIfInBounds_toArray, List.set_cons_zero, List.set_cons_succ])
      clear hr3 hc3 hS1 hS2
      refine planT_run rfl ?_ (fun K hK => ?_)
      focus (rfl)
      refine op_bytes (.tmp 29) (.tmp 30) rfl B v3 _ [62] rfl H3.out.hr ⟨w1.heap.size, 0, none⟩ 1 rfl (gt_cells (H3.out.hg _ rfl)) (by simp only [List.length_append, List.length_cons, List.length_nil]; have := Lib.itoa_length_le nu (by omega) (by omega); omega) H3.out.hB ?_
      intro v9 w9 hr9 hc9
      have hu9 := wrote_own H3.out.hr hc9
      have H9 := Lib.hid (And.intro hr9 (H3.out.hc.wtrans hu9))
      have hS9 := z12_of (hu9.wheap H3.out.hX (by decide)) (hu9.wheap H3.out.hY (by decide))
      refine hK.out _ _ (hS9) ?_
      clear hK K
      (try simp only [Act.put, List.setIfInBounds_toArray, List.set_cons_zero, List.set_cons_succ])
      clear hr9 hc9 hu9 hS9 hS3
      iterate 1 (first | (refine planT_skip rfl ?_ ?_; (focus (rfl)); (try simp only [Act.put, List.setIfInBounds_toArray, List.set_cons_zero, List.set_cons_succ])) | (refine planT_take (v := ?_) rfl ?_ (fun w hSw => ?_) ?_; rotate_left; (focus (rfl)); (focus (unfold Z12 at hSw; (go_simp <;> with_reducible rfl))); (try simp only [Act.put, List.setIfInBounds_toArray, List.set_cons_zero, List.set_cons_succ])))
      refine planT_done ?_
      go_wp2_with fail
      go_ret
      refine ⟨_, rfl, ?_, H9.out.2⟩
      have h4 := H9.out.1
      rw [tx, form, if_neg (by decide), if_neg (by decide), if_pos rfl]
      simp only [List.append_assoc, List.cons_append, List.nil_append] at h4 ⊢
      exact h4
  · skip
    have H1 := Lib.hid H0.out.gt
    have hS1 := H1.out.see
    refine planT_run rfl ?_ (fun K hK => ?_)
    focus (rfl)
    go_simp
    refine hK.out _ _ (hS1) ?_
    clear hK K
    (try simp only [Act.put, List.setIfInBounds_toArray, List.set_cons_zero, List.set_cons_succ])
    refine planT_run rfl ?_ (fun K hK => ?_)
    focus (rfl)
    refine op_string (.tmp 25) (.const (.string ⟨#[35, 82, 101, 102, 60]⟩)) rfl B _ l rfl H1.out.hr ⟨#[35, 82, 101, 102, 60]⟩ rfl (by simp only [ByteArray.size_mk', List.size_toArray, List.length_cons, List.length_nil]; omega) H1.out.hB ?_
    intro v2 w2 hr2 hc2
    have H2 := Lib.hid (H1.out.put (l' := l ++ [35, 82, 101, 102] ++ [60]) (by simpa using hr2) hc2 (H0.out.fresh))
    have hS2 := H2.out.see
    refine hK.out _ _ (hS2) ?_
    clear hK K
    (try simp only [Act.put, List.setIfInBounds_toArray, List.set_cons_zero, List.set_cons_succ])
    clear hr2 hc2 hS hS1
    refine planT_run rfl ?_ (fun K hK => ?_)
    focus (rfl)
    go_simp
    refine (num_nat B w2 v2 _ nu (by omega) H2.out.hr H2.out.hB (by simp only [List.length_append, List.length_cons, List.length_nil]; omega) H2.out.ht).mono ?_
    rintro e w3 ⟨v3, rfl, hr3, hc3⟩
    have H3 := Lib.hid (H2.out.put hr3 hc3 (H2.out.apart (by decide)))
    have hS3 := H3.out.see
    refine hK.out _ _ hS3 ?_
    clear hK K 
    (try simp only [Act.put, List.setIfInBounds_toArray, List.set_cons_zero, List.set_cons_succ])
    clear hr3 hc3 hS2
    refine planT_run rfl ?_ (fun K hK => ?_)
    focus (rfl)
    refine op_bytes (.tmp 29) (.tmp 30) rfl B v3 _ [62] rfl H3.out.hr ⟨WD.heap.size, 0, none⟩ 1 rfl (gt_cells (H3.out.hg _ rfl)) (by simp only [List.length_append, List.length_cons, List.length_nil]; have := Lib.itoa_length_le nu (by omega) (by omega); omega) H3.out.hB ?_
    intro v9 w9 hr9 hc9
    have hu9 := wrote_own H3.out.hr hc9
    have H9 := Lib.hid (And.intro hr9 (H3.out.hc.wtrans hu9))
    have hS9 := z12_of (hu9.wheap H3.out.hX (by decide)) (hu9.wheap H3.out.hY (by decide))
    refine hK.out _ _ (hS9) ?_
    clear hK K
    (try simp only [Act.put, List.setIfInBounds_toArray, List.set_cons_zero, List.set_cons_succ])
    clear hr9 hc9 hu9 hS9 hS3
    iterate 1 (first | (refine planT_skip rfl ?_ ?_; (focus (rfl)); (try simp only [Act.put, List.setIfInBounds_toArray, List.set_cons_zero, List.set_cons_succ])) | (refine planT_take (v := ?_) rfl ?_ (fun w hSw => ?_) ?_; rotate_left; (focus (rfl)); (focus (unfold Z12 at hSw; (go_simp <;> with_reducible rfl))); (try simp only [Act.put, List.setIfInBounds_toArray, List.set_cons_zero, List.set_cons_succ])))
    refine planT_done ?_
    go_wp2_with fail
    go_ret
    refine ⟨_, rfl, ?_, H9.out.2⟩
    have h4 := H9.out.1
    rw [tx, form, if_neg (by decide), if_neg (by decide), if_pos rfl]
    simp only [List.append_assoc, List.cons_append, List.nil_append] at h4 ⊢
    exact h4
set_option maxHeartbeats 8000000 in
theorem write_pid (B : Nat) (W : World) (v : Value) (l : List UInt8) (te : TE) (hk : te.k = 4) (hn : ∃ u : Nat, te.n = u ∧ u ≤ 9223372036854775807) (h : BRow B W v l) (hB : B ≤ W.heap.size) (hl : l.length + 100 ≤ 140737488355328) (ht : Tab B W) :
    Calls Tryd.prog 22 #[v, .agg te.cells.toArray] W (WrP B W l te.t) := by
  obtain ⟨vo, vc, rfl⟩ := own_slice h
  obtain ⟨gk, gn, gs, gu, gao, gcap, gl⟩ := te
  have hk : gk = 4 := hk
  subst hk
  have hb2 := ((Below.refl W.heap.size W).alloc (Nat.le_refl _) (.cells #[.slice vo l.length vc] 47)).alloc (by simp) (.cells #[.int .i8 4, .int .i64 gn, .string gs, .string gu, .slice gao gl.length gcap] 25)
  have hX := heap_old (heap_new W (.cells #[.slice vo l.length vc] 47)) (.cells #[.int .i8 4, .int .i64 gn, .string gs, .string gu, .slice gao gl.length gcap] 25)
  have hY := heap_new (W.alloc (.cells #[.slice vo l.length vc] 47)) (.cells #[.int .i8 4, .int .i64 gn, .string gs, .string gu, .slice gao gl.length gcap] 25)
  have hs1 : (W.alloc (.cells #[.slice vo l.length vc] 47)).heap.size = W.heap.size + 1 := by simp
  rw [hs1] at hY
  have ht2 : Tab B _ := ht.on (hb2.mono hB)
  have hr2 := h.keep hb2
  have hB2 : B ≤ ((W.alloc (.cells #[.slice vo l.length vc] 47)).alloc (.cells #[.int .i8 4, .int .i64 gn, .string gs, .string gu, .slice gao gl.length gcap] 25)).heap.size := Nat.le_trans hB hb2.size
  have HB2 := Lib.hid hb2
  have HX := Lib.hid hX
  have HY := Lib.hid hY
  have HT := Lib.hid ht2
  have HR := Lib.hid hr2
  have HBB := Lib.hid hB2
  clear hb2 hX hY hs1 ht2 hr2 hB2 ht h
  have hl : l.length + 100 ≤ 140737488355328 := hl
  obtain ⟨nu, hnu, hnn⟩ := hn
  have hnu : gn = (nu : Int) := hnu
  obtain ⟨x0, -⟩ := cells_at HX.out 0 _ rfl
  obtain ⟨y0, -⟩ := cells_at HY.out 0 _ rfl
  simp only [TE.cells, TE.t] at *
  subst hnu
  go_enter Tryd.func22, Tryd.ntmps22
  go_wp2_with fail
  generalize (W.alloc (.cells #[.slice vo l.length vc] 47)).alloc (.cells #[.int .i8 4, .int .i64 (nu : Int), .string gs, .string gu, .slice gao gl.length gcap] 25) = W2 at *
  have hd := (Below.refl W2.heap.size W2).drew
  have H0 := Lib.hid (show WS B W.heap.size (W.heap.size + 1) (.slice vo l.length vc) 4 nu gs gu (.slice gao gl.length gcap) W W2.drew (.slice vo l.length vc) l none from ⟨keep_heap HX.out hd, keep_heap HY.out hd, HR.out.keep hd, chg_of_below (HB2.out.trans (hd.mono HB2.out.size)) _, HBB.out, HT.out.on (hd.mono HBB.out), fun j hj => by cases hj⟩)
  have hS := H0.out.see
  clear x0 y0 hd HR HT HBB HB2 HX HY
  refine region_planT (Z12 W.heap.size (W.heap.size + 1) (.slice vo l.length vc) nu gs gu) (.take 0 (.take 3 (.take 4 (.fork 1 (.fork 2 (.fork 5 (.run 6 (.run 7 (.take 8 .done))) 6 (.run 5 (.run 7 (.take 8 .done)))) 6 (.run 2 (.run 5 (.run 7 (.take 8 .done))))) 6 (.run 1 (.run 2 (.run 5 (.run 7 (.take 8 .done))))))))) (by kernel_rfl) (by kernel_rfl) (by kernel_rfl) hS ?_
  generalize W2.drew = WD at *
  iterate 3 (first | (refine planT_skip rfl ?_ ?_; (focus (rfl)); (try simp only [Act.put, List.setIfInBounds_toArray, List.set_cons_zero, List.set_cons_succ])) | (refine planT_take (v := ?_) rfl ?_ (fun w hSw => ?_) ?_; rotate_left; (focus (rfl)); (focus (unfold Z12 at hSw; (go_simp <;> with_reducible rfl))); (try simp only [Act.put, List.setIfInBounds_toArray, List.set_cons_zero, List.set_cons_succ])))
  refine planT_fork ?_ ?_
  · skip
    have H60 := Lib.hid (heap_new WD (.cells #[.int .u8 60] 5))
    have H1 := Lib.hid (H0.out.new (c := #[.int .u8 60]) (T := 5))
    have hS1 := H1.out.see
    refine planT_run rfl ?_ (fun K hK => ?_)
    focus (rfl)
    go_simp
    refine hK.out _ _ (hS1) ?_
    clear hK K
    (try simp only [Act.put, List.setIfInBounds_toArray, List.set_cons_zero, List.set_cons_succ])
    refine planT_fork ?_ ?_
    · skip
      refine planT_run rfl ?_ (fun K hK => ?_)
      focus (rfl)
      refine op_bytes (.tmp 34) (.tmp 35) rfl B _ _ [60] rfl H1.out.hr ⟨WD.heap.size, 0, none⟩ 1 rfl (lt_cells H60.out) (by simp only [List.length_append, List.length_cons, List.length_nil]; omega) H1.out.hB ?_
      intro v2 w2 hr2 hc2
      have H2 := Lib.hid (H1.out.put hr2 hc2 (fun j hj => by cases hj))
      have hS2 := H2.out.see
      refine hK.out _ _ (hS2) ?_
      clear hK K
      (try simp only [Act.put, List.setIfInBounds_toArray, List.set_cons_zero, List.set_cons_succ])
      clear hr2 hc2
      clear hS1 hS
      refine planT_fork ?_ ?_
      · skip
        refine planT_run rfl ?_ (fun K hK => ?_)
        focus (rfl)
        go_simp
        refine (num_any B w2 v2 _ nu (by omega) (by omega) H2.out.hr H2.out.hB (by simp only [List.length_append, List.length_cons, List.length_nil]; omega) H2.out.ht).mono ?_
        rintro e w3 ⟨v3, rfl, hr3, hc3⟩
        have H3 := Lib.hid (H2.out.num hr3 hc3)
        have hS3 := H3.out.see
        refine hK.out _ _ hS3 ?_
        clear hK K 
        (try simp only [Act.put, List.setIfInBounds_toArray, List.set_cons_zero, List.set_cons_succ])
        clear hr3 hc3 hS2
        have H4 := Lib.hid H3.out.gt
        have hS4 := H4.out.see
        refine planT_run rfl ?_ (fun K hK => ?_)
        focus (rfl)
        go_simp
        refine hK.out _ _ (hS4) ?_
        clear hK K
        (try simp only [Act.put, List.setIfInBounds_toArray, List.set_cons_zero, List.set_cons_succ])
        refine planT_run rfl ?_ (fun K hK => ?_)
        focus (rfl)
        refine op_bytes (.tmp 39) (.tmp 40) rfl B v3 _ [62] rfl H4.out.hr ⟨w3.heap.size, 0, none⟩ 1 rfl (gt_cells (H4.out.hg _ rfl)) (by simp only [List.length_append, List.length_cons, List.length_nil]; have := Lib.itoa_length_le nu (by omega) (by omega); omega) H4.out.hB ?_
        intro v9 w9 hr9 hc9
        have hu9 := wrote_own H4.out.hr hc9
        have H9 := Lib.hid (And.intro hr9 (H4.out.hc.wtrans hu9))
        have hS9 := z12_of (hu9.wheap H4.out.hX (by decide)) (hu9.wheap H4.out.hY (by decide))
        refine hK.out _ _ (hS9) ?_
        clear hK K
        (try simp only [Act.put, List.setIfInBounds_toArray, List.set_cons_zero, List.set_cons_succ])
        clear hr9 hc9 hu9 hS9 hS3 hS4
        iterate 1 (first | (refine planT_skip rfl ?_ ?_; (focus (rfl)); (try simp only [Act.put, List.setIfInBounds_toArray, List.set_cons_zero, List.set_cons_succ])) | (refine planT_take (v := ?_) rfl ?_ (fun w hSw => ?_) ?_; rotate_left; (focus (rfl)); (focus (unfold Z12 at hSw; (go_simp <;> with_reducible rfl))); (try simp only [Act.put, List.setIfInBounds_toArray, List.set_cons_zero, List.set_cons_succ])))
        refine planT_done ?_
        go_wp2_with fail
        go_ret
        refine ⟨_, rfl, ?_, H9.out.2⟩
        have h4 := H9.out.1
        rw [tx, form, if_neg (by decide), if_neg (by decide), if_neg (by decide), if_pos rfl]
        simp only [List.append_assoc, List.cons_append, List.nil_append] at h4 ⊢
        exact h4
      · skip
        have H3 := Lib.hid H2.out.gt
        have hS3 := H3.out.see
        refine planT_run rfl ?_ (fun K hK => ?_)
        focus (rfl)
        go_simp
        refine hK.out _ _ (hS3) ?_
        clear hK K
        (try simp only [Act.put, List.setIfInBounds_toArray, List.set_cons_zero, List.set_cons_succ])
        refine planT_run rfl ?_ (fun K hK => ?_)
        focus (rfl)
        go_simp
        refine (num_nat B (w2.alloc (.cells #[.int .u8 62] 5)) v2 _ nu (by omega) H3.out.hr H3.out.hB (by simp only [List.length_append, List.length_cons, List.length_nil]; omega) H3.out.ht).mono ?_
        rintro e w4 ⟨v4, rfl, hr4, hc4⟩
        have H4 := Lib.hid (H3.out.put hr4 hc4 (H3.out.apart (by decide)))
        have hS4 := H4.out.see
        refine hK.out _ _ hS4 ?_
        clear hK K 
        (try simp only [Act.put, List.setIfInBounds_toArray, List.set_cons_zero, List.set_cons_succ])
        clear hr4 hc4 hS2 hS3
        refine planT_run rfl ?_ (fun K hK => ?_)
        focus (rfl)
        refine op_bytes (.tmp 39) (.tmp 40) rfl B v4 _ [62] rfl H4.out.hr ⟨w2.heap.size, 0, none⟩ 1 rfl (gt_cells (H4.out.hg _ rfl)) (by simp only [List.length_append, List.length_cons, List.length_nil]; have := Lib.itoa_length_le nu (by omega) (by omega); omega) H4.out.hB ?_
        intro v9 w9 hr9 hc9
        have hu9 := wrote_own H4.out.hr hc9
        have H9 := Lib.hid (And.intro hr9 (H4.out.hc.wtrans hu9))
        have hS9 := z12_of (hu9.wheap H4.out.hX (by decide)) (hu9.wheap H4.out.hY (by decide))
        refine hK.out _ _ (hS9) ?_
        clear hK K
        (try simp only [Act.put, List.setIfInBounds_toArray, List.set_cons_zero, List.set_cons_succ])
        clear hr9 hc9 hu9 hS9 hS4
        iterate 1 (first | (refine planT_skip rfl ?_ ?_; (focus (rfl)); (try simp only [Act.put, List.setIfInBounds_toArray, List.set_cons_zero, List.set_cons_succ])) | (refine planT_take (v := ?_) rfl ?_ (fun w hSw => ?_) ?_; rotate_left; (focus (rfl)); (focus (unfold Z12 at hSw; (go_simp <;> with_reducible rfl))); (try simp only [Act.put, List.setIfInBounds_toArray, List.set_cons_zero, List.set_cons_succ])))
        refine planT_done ?_
        go_wp2_with fail
        go_ret
        refine ⟨_, rfl, ?_, H9.out.2⟩
        have h4 := H9.out.1
        rw [tx, form, if_neg (by decide), if_neg (by decide), if_neg (by decide), if_pos rfl]
        simp only [List.append_assoc, List.cons_append, List.nil_append] at h4 ⊢
        exact h4
    · skip
      have h60 := heap_old H60.out (.cells #[.int .u8 62] 5)
      clear H60
      have H60 := Lib.hid h60
      have HZ := Lib.hid H1.out.gt
      have hSZ := HZ.out.see
      refine planT_run rfl ?_ (fun K hK => ?_)
      focus (rfl)
      go_simp
      refine hK.out _ _ (hSZ) ?_
      clear hK K
      (try simp only [Act.put, List.setIfInBounds_toArray, List.set_cons_zero, List.set_cons_succ])
      refine planT_run rfl ?_ (fun K hK => ?_)
      focus (rfl)
      refine op_bytes (.tmp 34) (.tmp 35) rfl B _ _ [60] rfl HZ.out.hr ⟨WD.heap.size, 0, none⟩ 1 rfl (lt_cells H60.out) (by simp only [List.length_append, List.length_cons, List.length_nil]; omega) HZ.out.hB ?_
      intro v2 w2 hr2 hc2
      have H2 := Lib.hid (HZ.out.put hr2 hc2 (H1.out.fresh))
      have hS2 := H2.out.see
      refine hK.out _ _ (hS2) ?_
      clear hK K
      (try simp only [Act.put, List.setIfInBounds_toArray, List.set_cons_zero, List.set_cons_succ])
      clear hr2 hc2
      clear hS1 hS hSZ h60
      refine planT_run rfl ?_ (fun K hK => ?_)
      focus (rfl)
      go_simp
      refine (num_nat B w2 v2 _ nu (by omega) H2.out.hr H2.out.hB (by simp only [List.length_append, List.length_cons, List.length_nil]; omega) H2.out.ht).mono ?_
      rintro e w4 ⟨v4, rfl, hr4, hc4⟩
      have H4 := Lib.hid (H2.out.put hr4 hc4 (H2.out.apart (by decide)))
      have hS4 := H4.out.see
      refine hK.out _ _ hS4 ?_
      clear hK K 
      (try simp only [Act.put, List.setIfInBounds_toArray, List.set_cons_zero, List.set_cons_succ])
      clear hr4 hc4 hS2
      refine planT_run rfl ?_ (fun K hK => ?_)
      focus (rfl)
      refine op_bytes (.tmp 39) (.tmp 40) rfl B v4 _ [62] rfl H4.out.hr ⟨WD.heap.size + 1, 0, none⟩ 1 rfl (gt_cells (by have h6 := H4.out.hg _ rfl; simpa using h6)) (by simp only [List.length_append, List.length_cons, List.length_nil]; have := Lib.itoa_length_le nu (by omega) (by omega); omega) H4.out.hB ?_
      intro v9 w9 hr9 hc9
      have hu9 := wrote_own H4.out.hr hc9
      have H9 := Lib.hid (And.intro hr9 (H4.out.hc.wtrans hu9))
      have hS9 := z12_of (hu9.wheap H4.out.hX (by decide)) (hu9.wheap H4.out.hY (by decide))
      refine hK.out _ _ (hS9) ?_
      clear hK K
      (try simp only [Act.put, List.setIfInBounds_toArray, List.set_cons_zero, List.set_cons_succ])
      clear hr9 hc9 hu9 hS9 hS4
      iterate 1 (first | (refine planT_skip rfl ?_ ?_; (focus (rfl)); (try simp only [Act.put, List.setIfInBounds_toArray, List.set_cons_zero, List.set_cons_succ])) | (refine planT_take (v := ?_) rfl ?_ (fun w hSw => ?_) ?_; rotate_left; (focus (rfl)); (focus (unfold Z12 at hSw; (go_simp <;> with_reducible rfl))); (try simp only [Act.put, List.setIfInBounds_toArray, List.set_cons_zero, List.set_cons_succ])))
      refine planT_done ?_
      go_wp2_with fail
      go_ret
      refine ⟨_, rfl, ?_, H9.out.2⟩
      have h4 := H9.out.1
      rw [tx, form, if_neg (by decide), if_neg (by decide), if_neg (by decide), if_pos rfl]
      simp only [List.append_assoc, List.cons_append, List.nil_append] at h4 ⊢
      exact h4
  · skip
    have HA := Lib.hid H0.out.gt
    have hSA := HA.out.see
    refine planT_run rfl ?_ (fun K hK => ?_)
    focus (rfl)
    go_simp
    refine hK.out _ _ (hSA) ?_
    clear hK K
    (try simp only [Act.put, List.setIfInBounds_toArray, List.set_cons_zero, List.set_cons_succ])
    have H60 := Lib.hid (heap_new (WD.alloc (.cells #[.int .u8 62] 5)) (.cells #[.int .u8 60] 5))
    have H1 := Lib.hid (HA.out.new (c := #[.int .u8 60]) (T := 5))
    have hS1 := H1.out.see
    refine planT_run rfl ?_ (fun K hK => ?_)
    focus (rfl)
    go_simp
    refine hK.out _ _ (hS1) ?_
    clear hK K
    (try simp only [Act.put, List.setIfInBounds_toArray, List.set_cons_zero, List.set_cons_succ])
    refine planT_run rfl ?_ (fun K hK => ?_)
    focus (rfl)
    refine op_bytes (.tmp 34) (.tmp 35) rfl B _ _ [60] rfl H1.out.hr ⟨WD.heap.size + 1, 0, none⟩ 1 rfl (lt_cells (by have h6 := H60.out; simpa using h6)) (by simp only [List.length_append, List.length_cons, List.length_nil]; omega) H1.out.hB ?_
    intro v2 w2 hr2 hc2
    have H2 := Lib.hid (H1.out.put hr2 hc2 (H0.out.fresh))
    have hS2 := H2.out.see
    refine hK.out _ _ (hS2) ?_
    clear hK K
    (try simp only [Act.put, List.setIfInBounds_toArray, List.set_cons_zero, List.set_cons_succ])
    clear hr2 hc2
    clear hS1 hS hSA
    refine planT_run rfl ?_ (fun K hK => ?_)
    focus (rfl)
    go_simp
    refine (num_nat B w2 v2 _ nu (by omega) H2.out.hr H2.out.hB (by simp only [List.length_append, List.length_cons, List.length_nil]; omega) H2.out.ht).mono ?_
    rintro e w4 ⟨v4, rfl, hr4, hc4⟩
    have H4 := Lib.hid (H2.out.put hr4 hc4 (H2.out.apart (by decide)))
    have hS4 := H4.out.see
    refine hK.out _ _ hS4 ?_
    clear hK K 
    (try simp only [Act.put, List.setIfInBounds_toArray, List.set_cons_zero, List.set_cons_succ])
    clear hr4 hc4 hS2
    refine planT_run rfl ?_ (fun K hK => ?_)
    focus (rfl)
    refine op_bytes (.tmp 39) (.tmp 40) rfl B v4 _ [62] rfl H4.out.hr ⟨WD.heap.size, 0, none⟩ 1 rfl (gt_cells (H4.out.hg _ rfl)) (by simp only [List.length_append, List.length_cons, List.length_nil]; have := Lib.itoa_length_le nu (by omega) (by omega); omega) H4.out.hB ?_
    intro v9 w9 hr9 hc9
    have hu9 := wrote_own H4.out.hr hc9
    have H9 := Lib.hid (And.intro hr9 (H4.out.hc.wtrans hu9))
    have hS9 := z12_of (hu9.wheap H4.out.hX (by decide)) (hu9.wheap H4.out.hY (by decide))
    refine hK.out _ _ (hS9) ?_
    clear hK K
    (try simp only [Act.put, List.setIfInBounds_toArray, List.set_cons_zero, List.set_cons_succ])
    clear hr9 hc9 hu9 hS9 hS4
    iterate 1 (first | (refine planT_skip rfl ?_ ?_; (focus (rfl)); (try simp only [Act.put, List.setIfInBounds_toArray, List.set_cons_zero, List.set_cons_succ])) | (refine planT_take (v := ?_) rfl ?_ (fun w hSw => ?_) ?_; rotate_left; (focus (rfl)); (focus (unfold Z12 at hSw; (go_simp <;> with_reducible rfl))); (try simp only [Act.put, List.setIfInBounds_toArray, List.set_cons_zero, List.set_cons_succ])))
    refine planT_done ?_
    go_wp2_with fail
    go_ret
    refine ⟨_, rfl, ?_, H9.out.2⟩
    have h4 := H9.out.1
    rw [tx, form, if_neg (by decide), if_neg (by decide), if_neg (by decide), if_pos rfl]
    simp only [List.append_assoc, List.cons_append, List.nil_append] at h4 ⊢
    exact h4
end Go.Proofs.YtaomakhhkjflaaaDoor
namespace Go.Proofs.YtaomakhhkjflaaaDoor
open Go.ChangeShapes Go.WideShapes Go.ChangeAt Go.RowKit
set_option linter.unusedVariables false
set_option linter.unusedSimpArgs false
set_option maxRecDepth 100000
def WrA (N : Nat) : Prop := ∀ (te : TE), nT te.t ≤ N → okT te.t → ∀ (B F : Nat) (W : World) (v : Value) (l : List UInt8), fields te.k te.n te.s te.u → RowS (SB B W) F W te.lv te.l → BRow B W v l → B ≤ W.heap.size → l.length + (tx te.t).length + 100 ≤ 140737488355328 → Tab B W →
  Calls Tryd.prog 22 #[v, .agg te.cells.toArray] W (WrP B W l te.t)
theorem wrM_app : ∀ a b : List Tm, wrM (a ++ b) = wrM a ++ wrM b
  | [], b => by simp [wrM]
  | t :: a, b => by rw [List.cons_append, wrM, wrM, wrM_app a b]; simp
theorem wrL_app {a : List Tm} (h : a ≠ []) (b : List Tm) : wrL (a ++ b) = wrL a ++ wrM b := by
  cases a with
  | nil => exact absurd rfl h
  | cons t a => rw [List.cons_append, wrL, wrL, wrM_app]; simp
theorem wrL_take {L : List Tm} {i : Nat} {t : Tm} (h : L[i]? = some t) : wrL (L.take (i + 1)) = wrL (L.take i) ++ ((if i = 0 then [] else [44]) ++ tx t) ∧ (wrL (L.take (i + 1))).length ≤ (wrL L).length := by
  have hi := (List.getElem?_eq_some_iff.1 h).1
  have h1 : L.take (i + 1) = L.take i ++ [t] := by rw [List.take_add_one, h]; rfl
  constructor
  · rw [h1]
    by_cases h0 : i = 0
    · subst h0
      simp [wrL, wrM]
    · rw [wrL_app (by intro e; have := congrArg List.length e; rw [List.length_take, List.length_nil] at this; omega), wrM, wrM, if_neg h0]
      simp
  · have h2 := wrL_app (a := L.take (i + 1)) (by intro e; have := congrArg List.length e; rw [List.length_take, List.length_nil] at this; omega) (L.drop (i + 1))
    rw [List.take_append_drop] at h2
    rw [h2, List.length_append]
    omega
/-- a row's texts are being written: the row stands in a box -/
structure SmI (B X : Nat) (W wr : World) (v : Value) (l : List UInt8) : Prop where
  hX : wr.heap[X]? = some (.cells #[v] 47 (0, 0))
  hr : BRow B wr v l
  hc : Chg (fun k => k = X ∨ U8s B W k) W wr
  hB : B ≤ wr.heap.size
  ht : Tab B wr
section
variable {B X : Nat} {W wr : World} {v : Value} {l : List UInt8}
theorem SmI.grow {T : Nat → Prop} {w' : World} (hc : Chg (fun k => k = X ∨ U8s B W k) W wr) (h2 : Chg T wr w') (hT : ∀ k, T k → k = X ∨ U8s B wr k) : Chg (fun k => k = X ∨ U8s B W k) W w' :=
  hc.grow h2 fun i hi ht => by
    rcases hT i ht with e | hu
    · exact .inl e
    · by_cases hs : i = X ∨ U8s B W i
      · exact hs
      · obtain ⟨h1, c', fz, h2⟩ := hu
        exact .inr ⟨h1, c', fz, by rw [← hc.block i hi hs]; exact h2⟩
theorem SmI.new (h : SmI B X W wr v l) (o : Obj) : SmI B X W (wr.alloc o) v l := by
  have hb := (Below.refl wr.heap.size wr).alloc (Nat.le_refl _) o
  exact ⟨keep_heap h.hX hb, h.hr.keep hb, SmI.grow h.hc (chg_of_below hb (fun _ => False)) (fun _ h => h.elim), Nat.le_trans h.hB hb.size, h.ht.on (hb.mono h.hB)⟩
theorem SmI.put {w2 : World} {v2 : Value} {l2 : List UInt8} (h : SmI B X W wr v l) (hBX : B ≤ X) (hr : BRow B w2 v2 l2) (hc : Chg (U8s B wr) wr w2) : SmI B X W (w2.setCell ⟨X, 0, none⟩ v2) v2 l2 := by
  have hx := hc.wheap h.hX (by decide)
  have hs := chg_set (w := w2) (p := ⟨X, 0, none⟩) v2
  refine ⟨set_at (i := 0) hx v2, own_chg hr hs (fun k e hk => ?_), SmI.grow (SmI.grow h.hc hc fun k hk => .inr hk) hs fun k e => .inl e, ?_, ?_⟩
  · have hk : k = X := hk
    subst hk
    obtain ⟨c, hcc⟩ := own_type hr k e
    rw [hx] at hcc
    exact absurd (Obj.cells.inj (Option.some.inj hcc)).2.1 (by decide)
  · have h1 := hc.size
    have h2 := hs.size
    have h3 := h.hB
    omega
  · refine (h.ht.on (hc.wbelow h.hB)).on (hs.below ?_ fun k e => ?_)
    · have h1 := hc.size
      have h3 := h.hB
      omega
    · have e : k = X := e
      omega
theorem not_x {k : Nat} (hX : W.heap[X]? = some (.cells #[v] 47 (0, 0))) (hBX : B ≤ X) (h : SB B W k) : ¬ (k = X ∨ U8s B W k) := fun hh => by
  rcases hh with e | hu
  · subst e
    rcases h with h | ⟨c, fz, h⟩
    · omega
    · rw [hX] at h
      exact absurd (Obj.cells.inj (Option.some.inj h)).2.1 (by decide)
  · exact not_u8 h hu
theorem SmI.row {v0 : Value} {F : Nat} {lv : Value} {L : List Tm} (h : SmI B X W wr v l) (hX : W.heap[X]? = some (.cells #[v0] 47 (0, 0))) (hBX : B ≤ X) (hr : RowS (SB B W) F W lv L) : RowS (SB B wr) F wr lv L :=
  hr.chg h.hc (fun k hk _ => not_x hX hBX hk) (fun k hk hl => hk.chg h.hc hl (not_x hX hBX hk)) (Nat.le_refl _)
end
/-- an element of a row -/
theorem row_elem {S : Nat → Prop} {F : Nat} {w : World} {ao : Option Addr} {n cap : Nat} {L : List Tm} {i : Nat} {t : Tm} (h : RowS S F w (.slice ao n cap) L) (hi : L[i]? = some t) :
    ∃ (b off : Nat) (te : TE), ao = some ⟨b, off, none⟩ ∧ te.t = t ∧ fields te.k te.n te.s te.u ∧ RowS S F w te.lv te.l ∧ w.cell? ⟨b, off + i * 5, none⟩ = some (.int .i8 te.k) ∧ w.cell? ⟨b, off + i * 5 + 1, none⟩ = some (.int .i64 te.n) ∧ w.cell? ⟨b, off + i * 5 + 2, none⟩ = some (.string te.s) ∧ w.cell? ⟨b, off + i * 5 + 3, none⟩ = some (.string te.u) ∧ w.cell? ⟨b, off + i * 5 + 4, none⟩ = some te.lv := by
  obtain ⟨ao', cap', e, h1, h2, h3⟩ := h
  injection e with e1 e2 e3
  subst e1 e2 e3
  obtain ⟨b, off, rfl, ha⟩ := h3 i t hi
  cases F with
  | zero => exact ha.elim
  | succ F =>
    obtain ⟨k, m, s, u, l⟩ := t
    obtain ⟨h0, hf, ao, lc, ⟨c0, c1, c2, c3, c4⟩, h4, h5, h6⟩ := ha
    exact ⟨b, off, ⟨k, m, s, u, ao, lc, l⟩, rfl, rfl, hf, ⟨ao, lc, rfl, h4, h5, fun j x hj => by
      obtain ⟨b', o', e, hx⟩ := h6 j x hj
      exact ⟨b', o', e, hx.chg (Chg.refl (fun _ => False) w) (fun _ _ _ h => h) (fun _ h _ => h) (Nat.le_succ F)⟩⟩, c0, c1, c2, c3, c4⟩
def SmP (B X : Nat) (W : World) (l m : List UInt8) (e : Ending) (W' : World) : Prop := (∃ v, e = .returned v) ∧ ∃ v', SmI B X W W' v' (l ++ m)
set_option maxHeartbeats 8000000 in
theorem some_any (N : Nat) (ih : WrA N) (L : List Tm) (hok : ∀ t ∈ L, okT t ∧ nT t ≤ N) (B F X : Nat) (W : World) (ao : Option Addr) (cap : Nat) (v : Value) (l : List UInt8) (hX : W.heap[X]? = some (.cells #[v] 47 (0, 0))) (hBX : B ≤ X) (hrow : RowS (SB B W) F W (.slice ao L.length cap) L)
    (h : BRow B W v l) (hB : B ≤ W.heap.size) (hl : l.length + (wrL L).length + 100 ≤ 140737488355328) (ht : Tab B W) :
    Calls Tryd.prog 31 #[.slice ao L.length cap, .pointer (some ⟨X, 0, none⟩)] W (SmP B X W l (wrL L)) := by
  have HI0 : Hid (SmI B X W W v (l ++ wrL (L.take 0))) := Lib.hid ⟨hX, by simpa [wrL] using h, Chg.refl _ _, hB, ht⟩
  have hcap : L.length ≤ 9223372036854775807 := by
    obtain ⟨ao', cap', e, h1, h2, h3⟩ := hrow
    omega
  have HX := Lib.hid hX
  have HROW := Lib.hid hrow
  have HIH := Lib.hid ih
  have HOK := Lib.hid hok
  clear hX hrow h hB ht ih hok
  go_enter Tryd.func31, Tryd.ntmps31
  go_wp2_with fail
  go_loopw [7] (fun iv wr => ∃ (i : Nat) (v' : Value), i ≤ L.length ∧ iv = .int .i64 i ∧ Hid (SmI B X W wr v' (l ++ wrL (L.take i)))) (fun iv _ => L.length - (intOf iv).toNat)
  case atStart => exact ⟨0, v, by omega, rfl, HI0⟩
  case round =>
    obtain ⟨i, v', hi, rfl, HI⟩ := hrel
    clear HI0
    obtain ⟨lb, hlb⟩ : ∃ lb, lb = l ++ wrL (L.take i) := ⟨_, rfl⟩
    have hi0 := HI.out
    rw [← hlb] at hi0
    clear HI
    have HI := Lib.hid hi0
    clear hi0
    have hll := congrArg List.length hlb
    rw [List.length_append] at hll
    have HLB := Lib.hid (And.intro hlb hll)
    clear hlb hll
    obtain ⟨vo, vc, rfl⟩ := own_slice HI.out.hr
    by_cases hlt : i < L.length
    · obtain ⟨t, hti⟩ : ∃ t, L[i]? = some t := ⟨L[i], by simp [hlt]⟩
      obtain ⟨b, off, te, rfl, hte, hfe, hre, c0, c1, c2, c3, c4⟩ := row_elem (HI.out.row HX.out hBX HROW.out) hti
      have hwt := wrL_take hti
      have hokt := HOK.out t (List.mem_of_getElem? hti)
      have hlen := congrArg List.length hwt.1
      rw [List.length_append, List.length_append] at hlen
      obtain ⟨gk, gn, gs, gu, gao, gcap, gl⟩ := te
      have HTE := Lib.hid (And.intro hte (And.intro hfe hre))
      have HWT := Lib.hid hwt.1
      have HLEN := Lib.hid (And.intro hlen hwt.2)
      have HOKT := Lib.hid hokt
      have hn0 := (HI.out.new (.cells #[.int .i8 gk, .int .i64 gn, .string gs, .string gu, .slice gao gl.length gcap] 25))
      have hbn := (Below.refl wr.heap.size wr).alloc (Nat.le_refl _) (.cells #[.int .i8 gk, .int .i64 gn, .string gs, .string gu, .slice gao gl.length gcap] 25)
      have HT1 := Lib.hid (heap_new wr (.cells #[.int .i8 gk, .int .i64 gn, .string gs, .string gu, .slice gao gl.length gcap] 25))
      have HRE := Lib.hid (hre.chg (S' := SB B (wr.alloc (.cells #[.int .i8 gk, .int .i64 gn, .string gs, .string gu, .slice gao gl.length gcap] 25))) (chg_of_below hbn (fun _ => False)) (fun _ _ _ h => h) (fun k hk hl => hk.chg (chg_of_below hbn (fun _ => False)) hl (fun h => h)) (Nat.le_refl _))
      have H1 := Lib.hid hn0
      clear hti hte hfe hre hwt hokt hlen hn0 hbn
      simp only [TE.lv] at c0 c1 c2 c3 c4
      go_wp2_with (with_reducible refine stop_op (o := ⟨_, .store 25 (.tmp 4) (.tmp 11), _, _, _, _⟩) ?_)
      refine Lib.hid ?_
      refine wpList_store_new (o := ⟨none, _, _, _, _, _⟩) rfl 25 (.tmp 4) (.tmp 11) rfl #[.int .i8 gk, .int .i64 gn, .string gs, .string gu, .slice gao gl.length gcap] rfl rfl (infoTM' _ rfl) rfl (by simp [Value.oneCell']) ?_
      clear c0 c1 c2 c3 c4
      have hw1 : (wr.alloc (.cells #[.int .i8 gk, .int .i64 gn, .string gs, .string gu, .slice gao gl.length gcap] 25)).heap.size = wr.heap.size + 1 := by simp
      generalize wr.alloc (.cells #[.int .i8 gk, .int .i64 gn, .string gs, .string gu, .slice gao gl.length gcap] 25) = W1 at *
      have HW1 := Lib.hid hw1
      have hxlt := heap_lt H1.out.hX
      clear hw1
      by_cases h0 : 0 < i
      · have hd0 : decide (0 < i) = true := by simpa using h0
        obtain ⟨x0, -⟩ := cells_at H1.out.hX 0 _ rfl
        have H2 := Lib.hid (H1.out.new (.cells #[.int .u8 44] 5))
        have h44 := heap_new W1 (.cells #[.int .u8 44] 5)
        have hb2 := (Below.refl W1.heap.size W1).alloc (Nat.le_refl _) (.cells #[.int .u8 44] 5)
        have ht2 := keep_heap HT1.out hb2
        have hre2 := HRE.out.wrote (chg_of_below hb2 _)
        have HX44 := Lib.hid (And.intro h44 (And.intro ht2 hre2))
        clear h44 hb2 ht2 hre2
        go_wp2_with (at_builtin; refine stop_here ?_)
        refine Lib.hid ?_
        refine wl_bytes rfl (.tmp 14) (.tmp 15) rfl B _ _ [44] rfl H2.out.hr ⟨W1.heap.size, 0, none⟩ 1 rfl (fun j u hj => by
          rw [Addr.add_lit, Nat.zero_add]
          exact (cells_at HX44.out.1 j u (by simpa [Lib.byteCells] using hj)).1) (by have := HLEN.out; have := HLB.out.2; simp only [List.length_cons, List.length_nil]; omega) H2.out.hB ?_
        intro v3 w3 hr3 hc3
        obtain ⟨l3, hl3⟩ : ∃ l3, l3 = lb ++ [44] := ⟨_, rfl⟩
        rw [← hl3] at hr3
        have hl3n := congrArg List.length hl3
        rw [List.length_append] at hl3n
        have HL3 := Lib.hid (And.intro hl3 hl3n)
        clear hl3 hl3n
        obtain ⟨v3o, v3c, rfl⟩ := own_slice hr3
        generalize hv3 : Value.slice v3o l3.length v3c = v3 at *
        have hu3 := wrote_own H2.out.hr hc3
        have hx3 := hu3.wheap H2.out.hX (by decide)
        have hxl := heap_lt hx3
        obtain ⟨x3, x3f⟩ := cells_at hx3 0 _ rfl
        have hset := chg_set (w := w3) (p := ⟨X, 0, none⟩) v3
        have hne : wr.heap.size ≠ X := fun e => by
          have hh := HT1.out
          rw [e, H1.out.hX] at hh
          exact absurd (Obj.cells.inj (Option.some.inj hh)).2.1 (by decide)
        have ht4 := hset.heap (hu3.wheap HX44.out.2.1 (by decide)) (fun e => hne e)
        have H4 := Lib.hid (H2.out.put hBX hr3 hu3)
        obtain ⟨y0, -⟩ := cells_at ht4 0 _ rfl
        obtain ⟨y1, -⟩ := cells_at ht4 1 _ rfl
        obtain ⟨y2, -⟩ := cells_at ht4 2 _ rfl
        obtain ⟨y3, -⟩ := cells_at ht4 3 _ rfl
        obtain ⟨y4, -⟩ := cells_at ht4 4 _ rfl
        obtain ⟨z0, -⟩ := cells_at H4.out.hX 0 _ rfl
        have hre4 := (HX44.out.2.2.wrote hu3).chg (S' := SB B (w3.setCell ⟨X, 0, none⟩ v3)) hset (fun k hk _ e => not_x hx3 hBX hk (.inl e)) (fun k hk hl => hk.chg hset hl (fun e => not_x hx3 hBX hk (.inl e))) (Nat.le_refl _)
        have HC := Lib.hid (HIH.out _ (by rw [HTE.out.1]; exact HOKT.out.2) (by rw [HTE.out.1]; exact HOKT.out.1) B F _ v3 _ HTE.out.2.1 hre4 H4.out.hr H4.out.hB (by rw [HTE.out.1]; have h6 := HLEN.out; have h7 := HLB.out.2; have h8 := HL3.out.2; rw [if_neg (by omega)] at h6; simp only [List.length_cons, List.length_nil] at h6 h8; have h9 := h6.1; have h10 := h6.2; omega) H4.out.ht)
        simp only [TE.cells] at HC
        subst hv3
        clear hr3 hc3 hu3 hx3 hset hne ht4 hre4 x0
        go_wp2_with fail
        refine HC.out.mono ?_
        rintro e w5 ⟨v5, rfl, hr5, hc5⟩
        rw [HTE.out.1] at hr5
        have heq : l3 ++ tx t = l ++ wrL (L.take (i + 1)) := (by rw [HWT.out, if_neg (by omega), HL3.out.1, HLB.out.1]; simp)
        rw [heq] at hr5
        have hx5 := hc5.wheap H4.out.hX (by decide)
        have hxl5 := heap_lt hx5
        obtain ⟨x5, x5f⟩ := cells_at hx5 0 _ rfl
        have h6 := H4.out.put hBX hr5 hc5
        obtain ⟨l5, hl5⟩ : ∃ l5, l5 = l ++ wrL (L.take (i + 1)) := ⟨_, rfl⟩
        rw [← hl5] at hr5 h6
        obtain ⟨v5o, v5c, rfl⟩ := own_slice hr5
        have H6 := Lib.hid (And.intro hl5 h6)
        clear hr5 hc5 heq hx5 h6 hl5
        go_wp2_with fail
        go_roundw
        case rel => exact ⟨i + 1, _, by omega, by go_num, Lib.hid (by rw [← H6.out.1]; exact H6.out.2)⟩
        case measure => simp [intOf]; omega
      · have hd0 : decide (0 < i) = false := by simpa using h0
        obtain ⟨y0, -⟩ := cells_at HT1.out 0 _ rfl
        obtain ⟨y1, -⟩ := cells_at HT1.out 1 _ rfl
        obtain ⟨y2, -⟩ := cells_at HT1.out 2 _ rfl
        obtain ⟨y3, -⟩ := cells_at HT1.out 3 _ rfl
        obtain ⟨y4, -⟩ := cells_at HT1.out 4 _ rfl
        obtain ⟨z0, -⟩ := cells_at H1.out.hX 0 _ rfl
        have HC := Lib.hid (HIH.out _ (by rw [HTE.out.1]; exact HOKT.out.2) (by rw [HTE.out.1]; exact HOKT.out.1) B F _ _ _ HTE.out.2.1 HRE.out H1.out.hr H1.out.hB (by rw [HTE.out.1]; have h6 := HLEN.out; have h7 := HLB.out.2; rw [if_pos (by omega)] at h6; simp only [List.length_nil] at h6; have h9 := h6.1; have h10 := h6.2; omega) H1.out.ht)
        simp only [TE.cells] at HC
        go_wp2_with fail
        refine HC.out.mono ?_
        rintro e w5 ⟨v5, rfl, hr5, hc5⟩
        rw [HTE.out.1] at hr5
        have heq : lb ++ tx t = l ++ wrL (L.take (i + 1)) := (by rw [HWT.out, if_pos (by omega), HLB.out.1]; simp)
        rw [heq] at hr5
        have hx5 := hc5.wheap H1.out.hX (by decide)
        have hxl5 := heap_lt hx5
        obtain ⟨x5, x5f⟩ := cells_at hx5 0 _ rfl
        have h6 := H1.out.put hBX hr5 hc5
        obtain ⟨l5, hl5⟩ : ∃ l5, l5 = l ++ wrL (L.take (i + 1)) := ⟨_, rfl⟩
        rw [← hl5] at hr5 h6
        obtain ⟨v5o, v5c, rfl⟩ := own_slice hr5
        have H6 := Lib.hid (And.intro hl5 h6)
        clear hr5 hc5 heq hx5 h6 hl5
        go_wp2_with fail
        go_roundw
        case rel => exact ⟨i + 1, _, by omega, by go_num, Lib.hid (by rw [← H6.out.1]; exact H6.out.2)⟩
        case measure => simp [intOf]; omega
    · obtain rfl : i = L.length := by omega
      have hd1 : decide (L.length < L.length) = false := by simp
      have HF := Lib.hid (show SmI B X W wr (.slice vo lb.length vc) (l ++ wrL L) by
        have h1 := HI.out
        have h2 := HLB.out.1
        rw [List.take_length] at h2
        rw [h2] at h1 ⊢
        exact h1)
      go_wp2_with fail
      go_end0
      exact ⟨⟨_, rfl⟩, _, HF.out⟩
end Go.Proofs.YtaomakhhkjflaaaDoor
namespace Go.Proofs.YtaomakhhkjflaaaDoor
open Go.ChangeShapes Go.WideShapes Go.ChangeAt Go.RowKit
set_option linter.unusedVariables false
set_option linter.unusedSimpArgs false
set_option maxRecDepth 100000
theorem SmI.again {B X : Nat} {W w1 w2 : World} {v v2 : Value} {l l2 : List UInt8} (h : SmI B X W w1 v l) (h2 : SmI B X w1 w2 v2 l2) : SmI B X W w2 v2 l2 :=
  ⟨h2.hX, h2.hr, SmI.grow h.hc h2.hc fun k hk => hk, h2.hB, h2.ht⟩
theorem SmI.own {B X : Nat} {W wr w2 : World} {v v2 : Value} {l l2 : List UInt8} (h : SmI B X W wr v l) (hr : BRow B w2 v2 l2) (hc : Chg (fun k => some k = v.ownBlock) wr w2) : Chg (fun k => k = X ∨ U8s B W k) W w2 :=
  SmI.grow h.hc (wrote_own h.hr hc) fun k hk => .inr hk
theorem chg_back {B X : Nat} {W W2 w : World} (hb : Below W.heap.size W W2) (hX : W.heap.size ≤ X) (h : Chg (fun k => k = X ∨ U8s B W2 k) W2 w) : Chg (U8s B W) W w :=
  (chg_of_below hb (U8s B W)).grow h fun i hi ht => by
    rcases ht with e | ⟨h1, c, fz, h2⟩
    · omega
    · exact ⟨h1, c, fz, by rw [← hb.block i hi]; exact h2⟩
theorem smi_row {B F : Nat} {W W2 : World} {lv : Value} {L : List Tm} (hb : Below W.heap.size W W2) (hr : RowS (SB B W) F W lv L) : RowS (SB B W2) F W2 lv L :=
  hr.chg (chg_of_below hb (fun _ => False)) (fun _ _ _ h => h) (fun k hk hl => hk.chg (chg_of_below hb (fun _ => False)) hl (fun h => h)) (Nat.le_refl _)
set_option maxHeartbeats 8000000 in
theorem write_tuple (N : Nat) (ih : WrA N) (te : TE) (hk : te.k = 5) (hok : ∀ x ∈ te.l, okT x ∧ nT x ≤ N) (B F : Nat) (W : World) (v : Value) (l : List UInt8) (hre : RowS (SB B W) F W te.lv te.l) (h : BRow B W v l) (hB : B ≤ W.heap.size)
    (hl : l.length + (wrL te.l).length + 102 ≤ 140737488355328) (ht : Tab B W) :
    Calls Tryd.prog 22 #[v, .agg te.cells.toArray] W (WrP B W l te.t) := by
  have hl0 := hl
  obtain ⟨vo, vc, rfl⟩ := own_slice h
  obtain ⟨gk, gn, gs, gu, gao, gcap, gl⟩ := te
  have hk : gk = 5 := hk
  subst hk
  have hb2 := ((Below.refl W.heap.size W).alloc (Nat.le_refl _) (.cells #[.slice vo l.length vc] 47)).alloc (by simp) (.cells #[.int .i8 5, .int .i64 gn, .string gs, .string gu, .slice gao gl.length gcap] 25)
  have hX := heap_old (heap_new W (.cells #[.slice vo l.length vc] 47)) (.cells #[.int .i8 5, .int .i64 gn, .string gs, .string gu, .slice gao gl.length gcap] 25)
  have hY := heap_new (W.alloc (.cells #[.slice vo l.length vc] 47)) (.cells #[.int .i8 5, .int .i64 gn, .string gs, .string gu, .slice gao gl.length gcap] 25)
  have hs1 : (W.alloc (.cells #[.slice vo l.length vc] 47)).heap.size = W.heap.size + 1 := by simp
  rw [hs1] at hY
  have ht2 : Tab B _ := ht.on (hb2.mono hB)
  have hr2 := h.keep hb2
  have hB2 : B ≤ ((W.alloc (.cells #[.slice vo l.length vc] 47)).alloc (.cells #[.int .i8 5, .int .i64 gn, .string gs, .string gu, .slice gao gl.length gcap] 25)).heap.size := Nat.le_trans hB hb2.size
  have HB2 := Lib.hid hb2
  have HX := Lib.hid hX
  have HY := Lib.hid hY
  have HT := Lib.hid ht2
  have HR := Lib.hid hr2
  have HBB := Lib.hid hB2
  clear hb2 hX hY hs1 ht2 hr2 hB2 ht h
  have hl : l.length + (wrL gl).length + 102 ≤ 140737488355328 := hl
  have hre2 := smi_row HB2.out hre
  have HRE := Lib.hid hre2
  have HOK := Lib.hid hok
  have HIH := Lib.hid ih
  clear hre hre2 hok ih
  obtain ⟨x0, -⟩ := cells_at HX.out 0 _ rfl
  obtain ⟨y0, -⟩ := cells_at HY.out 0 _ rfl
  simp only [TE.cells, TE.t, TE.lv] at *
  have H1 := Lib.hid (show SmI B W.heap.size _ _ (.slice vo l.length vc) l from ⟨HX.out, HR.out, Chg.refl _ _, HBB.out, HT.out⟩)
  have hW2 : ((W.alloc (.cells #[.slice vo l.length vc] 47)).alloc (.cells #[.int .i8 5, .int .i64 gn, .string gs, .string gu, .slice gao gl.length gcap] 25)).heap.size = W.heap.size + 2 := by simp
  go_enter Tryd.func22, Tryd.ntmps22
  go_wp2_with (at_builtin; refine stop_here ?_)
  refine Lib.hid ?_
  generalize (W.alloc (.cells #[.slice vo l.length vc] 47)).alloc (.cells #[.int .i8 5, .int .i64 gn, .string gs, .string gu, .slice gao gl.length gcap] 25) = W2 at *
  have H2 := Lib.hid (H1.out.new (.cells #[.int .u8 123] 5))
  have hn := heap_new W2 (.cells #[.int .u8 123] 5)
  have hb3 := (Below.refl W2.heap.size W2).alloc (Nat.le_refl _) (.cells #[.int .u8 123] 5)
  have HN := Lib.hid (And.intro hn (keep_heap HY.out hb3))
  clear hn hb3
  refine wl_bytes rfl (.tmp 59) (.tmp 60) rfl B _ _ [123] rfl H2.out.hr ⟨W.heap.size + 2, 0, none⟩ 1 rfl (fun j u hj => by
    rw [Addr.add_lit, Nat.zero_add, ← hW2]
    exact (cells_at HN.out.1 j u (by simpa [Lib.byteCells] using hj)).1) (by simp only [List.length_cons, List.length_nil]; omega) H2.out.hB ?_
  intro v3 w3 hr3 hc3
  obtain ⟨l3, hl3⟩ : ∃ l3, l3 = l ++ [123] := ⟨_, rfl⟩
  rw [← hl3] at hr3
  have hl3n := congrArg List.length hl3
  simp only [List.length_append, List.length_cons, List.length_nil] at hl3n
  have HL3 := Lib.hid (And.intro hl3 hl3n)
  clear hl3 hl3n
  obtain ⟨v3o, v3c, rfl⟩ := own_slice hr3
  have hu3 := wrote_own H2.out.hr hc3
  have hx3 := hu3.wheap H2.out.hX (by decide)
  have hxl := heap_lt hx3
  obtain ⟨x3, x3f⟩ := cells_at hx3 0 _ rfl
  have hset := chg_set (w := w3) (p := ⟨W.heap.size, 0, none⟩) (.slice v3o l3.length v3c)
  have ht4 := hset.heap (hu3.wheap HN.out.2 (by decide)) (fun e => by have e : W.heap.size + 1 = W.heap.size := e; omega)
  obtain ⟨y4, -⟩ := cells_at ht4 4 _ rfl
  have H4 := Lib.hid (H1.out.again (H2.out.put hB hr3 hu3))
  have HC := Lib.hid (some_any N HIH.out gl HOK.out B F W.heap.size _ gao gcap _ _ H4.out.hX hB (H4.out.row HX.out hB HRE.out) H4.out.hr H4.out.hB (by have := HL3.out.2; omega) H4.out.ht)
  clear hr3 hc3 hu3 hx3 hset ht4 H2 HN x0 y0
  go_wp2_with fail
  refine HC.out.mono ?_
  rintro e w5 ⟨⟨u5, rfl⟩, v5, h5⟩
  obtain ⟨l5, hl5⟩ : ∃ l5, l5 = l3 ++ wrL gl := ⟨_, rfl⟩
  rw [← hl5] at h5
  have hl5n := congrArg List.length hl5
  simp only [List.length_append] at hl5n
  have HL5 := Lib.hid (And.intro hl5 hl5n)
  obtain ⟨v5o, v5c, rfl⟩ := own_slice h5.hr
  have H5 := Lib.hid (H4.out.again h5)
  obtain ⟨x5, -⟩ := cells_at h5.hX 0 _ rfl
  clear hl5 hl5n h5 HC H4 x3 x3f y4 hxl
  go_wp2_with (at_builtin; refine stop_here ?_)
  refine Lib.hid ?_
  have H6 := Lib.hid (H5.out.new (.cells #[.int .u8 125] 5))
  have HN := Lib.hid (heap_new w5 (.cells #[.int .u8 125] 5))
  refine wl_bytes rfl (.tmp 66) (.tmp 67) rfl B _ _ [125] rfl H6.out.hr ⟨w5.heap.size, 0, none⟩ 1 rfl (fun j u hj => by
    rw [Addr.add_lit, Nat.zero_add]
    exact (cells_at HN.out j u (by simpa [Lib.byteCells] using hj)).1) (by have := HL3.out.2; have := HL5.out.2; simp only [List.length_cons, List.length_nil]; omega) H6.out.hB ?_
  intro v7 w7 hr7 hc7
  have HF := Lib.hid (And.intro hr7 (chg_back HB2.out (Nat.le_refl _) (H6.out.own hr7 hc7)))
  clear hr7 hc7 x5
  go_wp2_with fail
  go_ret
  refine ⟨v7, rfl, ?_, HF.out.2⟩
  have h7 := HF.out.1
  rw [HL5.out.1, HL3.out.1] at h7
  rw [tx, form, if_neg (by decide), if_neg (by decide), if_neg (by decide), if_neg (by decide), if_neg (by decide), if_pos rfl]
  simpa using h7
end Go.Proofs.YtaomakhhkjflaaaDoor
namespace Go.Proofs.YtaomakhhkjflaaaDoor
open Go.ChangeShapes Go.WideShapes Go.ChangeAt Go.RowKit
set_option linter.unusedVariables false
set_option linter.unusedSimpArgs false
set_option maxRecDepth 100000
theorem sp_facts (N : Nat) (t : Tm) (hok : okT t) (hn : nT t ≤ N + 1) (hk : t.k = 6 ∨ t.k = 7) :
    wrC t.l = wrL (spL t) ++ (if (spE t).k = 6 then [] else 124 :: tx (spE t)) ∧ (∀ x ∈ spL t, okT x ∧ nT x ≤ N) ∧ okT (spE t) ∧ ((spE t).k ≠ 6 → nT (spE t) ≤ N) := by
  obtain ⟨h1, h2, h3, h4, h5, h6⟩ := sp_all (nT t) t (Nat.le_refl _) hok
  by_cases h7 : t.k = 7
  · obtain ⟨q1, q2, q3⟩ := h6 h7
    have hp := nT_pos (spE t)
    exact ⟨q3, fun x hx => ⟨h5 x hx, by have := nT_mem hx; omega⟩, h3, fun _ => by omega⟩
  · have h66 : t.k = 6 := by
      rcases hk with h | h
      · exact h
      · exact absurd h h7
    obtain ⟨e1, e2⟩ := sp_stop h7
    rw [e1, e2]
    refine ⟨?_, (fun x hx => by cases hx), hok, fun h => absurd h66 h⟩
    obtain ⟨k, n, s, u, l⟩ := t
    obtain ⟨-, -, -, rfl⟩ := okT_nil hok h66
    have h66 : k = 6 := h66
    subst h66
    simp [wrC, wrL, Tm.l, Tm.k]
theorem SmI.keep {B X : Nat} {W w w' : World} {v : Value} {l : List UInt8} (h : SmI B X W w v l) (hb : Below w.heap.size w w') : SmI B X W w' v l :=
  ⟨keep_heap h.hX hb, h.hr.keep hb, SmI.grow h.hc (chg_of_below hb (fun _ => False)) (fun _ h => h.elim), Nat.le_trans h.hB hb.size, h.ht.on (hb.mono h.hB)⟩
theorem TRow.rowS {S S' : Nat → Prop} {F : Nat} {w : World} {base : Nat} {ao : Option Addr} {cap : Nat} {E : List TE} (h : TRow S F w base (.slice ao E.length cap) E) (hS : ∀ k, S k → S' k) (hg : ∀ k, (Value.slice ao E.length cap).ownBlock = some k → S' k) :
    RowS S' (F + 1) w (.slice ao (E.map TE.t).length cap) (E.map TE.t) := by
  obtain ⟨h1, h2⟩ := h
  obtain ⟨hl, ⟨e0, e⟩ | ⟨g, cap', cur, e0, hb, hh, h3, h4, r⟩⟩ := id h1
  · have e1 := List.eq_nil_of_length_eq_zero e
    subst e1
    injection e0 with e1 e2 e3
    subst e1 e3
    exact ⟨none, 0, rfl, by simp, by omega, fun i t hi => by simp at hi⟩
  · injection e0 with e1 e2 e3
    subst e1 e3
    refine ⟨some ⟨g, 0, none⟩, cap, rfl, by simpa using h3, by unfold maxLen at h4; omega, fun i t hi => ?_⟩
    rw [List.getElem?_map] at hi
    obtain ⟨x, hx, rfl⟩ := Option.map_eq_some_iff.1 hi
    obtain ⟨hf, ao, lc, e, l1, l2, l3⟩ := h2 x (List.mem_of_getElem? hx)
    have hi' := (List.getElem?_eq_some_iff.1 hx).1
    have key : ∀ j u, x.cells[j]? = some u → w.cell? ⟨g, 0 + i * 5 + j, none⟩ = some u := fun j u hj => by
      have hj5 : j < 5 := by have := (List.getElem?_eq_some_iff.1 hj).1; simpa [TE.cells] using this
      rw [Nat.zero_add, h1.cellAt (i * 5 + j) (by omega), tcs_at E i j x hx hj5]
      exact hj
    injection e with e1 e2 e3
    refine ⟨g, 0, rfl, hg g rfl, hf, x.ao, x.cap, ⟨key 0 _ rfl, key 1 _ rfl, key 2 _ rfl, key 3 _ rfl, key 4 _ rfl⟩, by rw [e3]; exact l1, by rw [e3]; exact l2, fun j t hj => ?_⟩
    obtain ⟨b', off, e', h⟩ := l3 j t hj
    exact ⟨b', off, by rw [e1]; exact e', h.chg (Chg.refl (fun _ => False) w) (fun _ _ _ h => h) (fun k h _ => hS k h.1) (Nat.le_refl _)⟩
theorem SmI.tm {B X y : Nat} {W wr : World} {v v0 : Value} {l : List UInt8} {cs : Array Value} {fz : Nat × Nat} (h : SmI B X W wr v l) (hX : W.heap[X]? = some (.cells #[v0] 47 (0, 0))) (hBX : B ≤ X) (hy : W.heap[y]? = some (.cells cs 25 fz)) : wr.heap[y]? = some (.cells cs 25 fz) :=
  h.hc.heap hy (not_x hX hBX (.inr ⟨_, _, hy⟩))
/-- what region 21 reads -/
def Z21 (x y : Nat) (v : Value) (k n : Int) (s u : ByteArray) (lv : Value) (W : World) : Prop := W.cell? ⟨x, 0, none⟩ = some v ∧ W.cell? ⟨y, 0, none⟩ = some (.int .i8 k) ∧ W.cell? ⟨y, 1, none⟩ = some (.int .i64 n) ∧ W.cell? ⟨y, 2, none⟩ = some (.string s) ∧ W.cell? ⟨y, 3, none⟩ = some (.string u) ∧ W.cell? ⟨y, 4, none⟩ = some lv
theorem z21_of {x y : Nat} {v lv : Value} {k n : Int} {s u : ByteArray} {W : World} (hx : W.heap[x]? = some (.cells #[v] 47 (0, 0))) (hy : W.heap[y]? = some (.cells #[.int .i8 k, .int .i64 n, .string s, .string u, lv] 25 (0, 0))) : Z21 x y v k n s u lv W :=
  ⟨(cells_at hx 0 _ rfl).1, (cells_at hy 0 _ rfl).1, (cells_at hy 1 _ rfl).1, (cells_at hy 2 _ rfl).1, (cells_at hy 3 _ rfl).1, (cells_at hy 4 _ rfl).1⟩
set_option maxHeartbeats 8000000 in
theorem write_nil (N : Nat) (hN : N < 256) (ih : WrA N) (te : TE) (hk : te.k = 6) (hok : okT te.t) (hn : nT te.t ≤ N + 1) (B F : Nat) (W : World) (v : Value) (l : List UInt8) (hf : fields te.k te.n te.s te.u) (hre : RowS (SB B W) F W te.lv te.l) (h : BRow B W v l) (hB : B ≤ W.heap.size)
    (hl : l.length + (wrC te.l).length + 102 ≤ 140737488355328) (ht : Tab B W) :
    Calls Tryd.prog 22 #[v, .agg te.cells.toArray] W (WrP B W l te.t) := by
  have hl0 := hl
  have hre1 := hre
  have hf1 := hf
  have hok1 := hok
  have hn1 := hn
  obtain ⟨vo, vc, rfl⟩ := own_slice h
  obtain ⟨gk, gn, gs, gu, gao, gcap, gl⟩ := te
  have hk : gk = 6 := hk
  subst hk
  have hb2 := ((Below.refl W.heap.size W).alloc (Nat.le_refl _) (.cells #[.slice vo l.length vc] 47)).alloc (by simp) (.cells #[.int .i8 6, .int .i64 gn, .string gs, .string gu, .slice gao gl.length gcap] 25)
  have hX := heap_old (heap_new W (.cells #[.slice vo l.length vc] 47)) (.cells #[.int .i8 6, .int .i64 gn, .string gs, .string gu, .slice gao gl.length gcap] 25)
  have hY := heap_new (W.alloc (.cells #[.slice vo l.length vc] 47)) (.cells #[.int .i8 6, .int .i64 gn, .string gs, .string gu, .slice gao gl.length gcap] 25)
  have hs1 : (W.alloc (.cells #[.slice vo l.length vc] 47)).heap.size = W.heap.size + 1 := by simp
  rw [hs1] at hY
  have ht2 : Tab B _ := ht.on (hb2.mono hB)
  have hr2 := h.keep hb2
  have hB2 : B ≤ ((W.alloc (.cells #[.slice vo l.length vc] 47)).alloc (.cells #[.int .i8 6, .int .i64 gn, .string gs, .string gu, .slice gao gl.length gcap] 25)).heap.size := Nat.le_trans hB hb2.size
  have HB2 := Lib.hid hb2
  have HX := Lib.hid hX
  have HY := Lib.hid hY
  have HT := Lib.hid ht2
  have HR := Lib.hid hr2
  have HBB := Lib.hid hB2
  clear hb2 hX hY hs1 ht2 hr2 hB2 ht h
  have hl : l.length + (wrC gl).length + 102 ≤ 140737488355328 := hl
  have hre2 := smi_row HB2.out hre1
  have hsz2 : ((W.alloc (.cells #[.slice vo l.length vc] 47)).alloc (.cells #[.int .i8 6, .int .i64 gn, .string gs, .string gu, .slice gao gl.length gcap] 25)).heap.size = W.heap.size + 2 := by simp
  have HS := Lib.hid (spine_any (SB B ((W.alloc (.cells #[.slice vo l.length vc] 47)).alloc (.cells #[.int .i8 6, .int .i64 gn, .string gs, .string gu, .slice gao gl.length gcap] 25))) F ⟨6, gn, gs, gu, gao, gcap, gl⟩ hok1 (by omega) _ (fun k hk => by
    rcases hk with h | ⟨c, fz, h⟩
    · have := HBB.out
      omega
    · exact heap_lt h) hf1 hre2)
  obtain ⟨hw, ho1, ho2, ho3⟩ := sp_facts N _ hok1 hn1 (by simp [TE.t, Tm.k])
  have hw : wrC gl = _ := hw
  have HOK := Lib.hid (And.intro ho1 (And.intro ho2 ho3))
  have HWC := Lib.hid hw
  have HIH := Lib.hid ih
  clear hre hre1 hre2 hok hok1 ih hw ho1 ho2 ho3 hf hf1
  obtain ⟨x0, -⟩ := cells_at HX.out 0 _ rfl
  obtain ⟨y0, -⟩ := cells_at HY.out 0 _ rfl
  obtain ⟨y1, -⟩ := cells_at HY.out 1 _ rfl
  obtain ⟨y2, -⟩ := cells_at HY.out 2 _ rfl
  obtain ⟨y3, -⟩ := cells_at HY.out 3 _ rfl
  obtain ⟨y4, -⟩ := cells_at HY.out 4 _ rfl
  have HTX : Hid (tx (TE.t ⟨6, gn, gs, gu, gao, gcap, gl⟩) = 91 :: (wrC gl ++ [93])) := Lib.hid (by rw [TE.t, tx]; simp [form])
  generalize hT : TE.t ⟨6, gn, gs, gu, gao, gcap, gl⟩ = T at *
  simp only [TE.cells, TE.lv] at *
  have H1 := Lib.hid (show SmI B W.heap.size _ _ (.slice vo l.length vc) l from ⟨HX.out, HR.out, Chg.refl _ _, HBB.out, HT.out⟩)
  go_enter Tryd.func22, Tryd.ntmps22
  go_wp2_with fail
  generalize (W.alloc (.cells #[.slice vo l.length vc] 47)).alloc (.cells #[.int .i8 6, .int .i64 gn, .string gs, .string gu, .slice gao gl.length gcap] 25) = W2 at *
  refine HS.out.mono ?_
  rintro e w3 ⟨ao, cap, E, te2, rfl, hE, hte2, hf2, hb3, hrow3, hrs3⟩
  obtain ⟨tk, tn, ts, tu, tao, tcap, tl⟩ := te2
  have hEl : E.length = (spL T).length := by rw [← hE]; simp
  have hrw3 := hrow3.rowS (S' := SB B w3) (fun k hk => hk.chg (chg_of_below hb3 (fun _ => False)) (by
    rcases hk with h | ⟨c, fz, h⟩
    · have := HBB.out
      omega
    · exact heap_lt h) (fun h => h)) (fun k hk => by
    obtain ⟨c, hc⟩ := own_type hrow3.1 k hk
    exact .inr ⟨c, _, hc⟩)
  rw [hE] at hrw3
  have hrs3' : RowS (SB B w3) F w3 (.slice tao tl.length tcap) tl := hrs3.chg (Chg.refl (fun _ => False) w3) (fun _ _ _ h => h) (fun k hk hl => hk.chg (chg_of_below hb3 (fun _ => False)) (by
    rcases hk with h | ⟨c, fz, h⟩
    · have := HBB.out
      omega
    · exact heap_lt h) (fun h => h)) (Nat.le_refl _)
  have H3 := Lib.hid (H1.out.keep hb3)
  have HR3 := Lib.hid (And.intro hrw3 hrs3')
  have HT2 := Lib.hid (And.intro hte2 hf2)
  rw [hEl]
  simp only [TE.cells]
  clear hE hte2 hf2 hb3 hrow3 hrs3 hEl hrw3 hrs3' HS x0 y0 y1 y2 y3 y4 HX HY HR HT
  go_wp2_with (with_reducible refine stop_op (o := ⟨_, .store 25 (.tmp 7) (.tmp 73), _, _, _, _⟩) ?_)
  refine Lib.hid ?_
  refine wpList_store_new (o := ⟨none, _, _, _, _, _⟩) rfl 25 (.tmp 7) (.tmp 73) rfl #[.int .i8 tk, .int .i64 tn, .string ts, .string tu, .slice tao tl.length tcap] rfl rfl (infoTM' _ rfl) rfl (by simp [Value.oneCell']) ?_
  have hb4 := (Below.refl w3.heap.size w3).alloc (Nat.le_refl _) (.cells #[.int .i8 tk, .int .i64 tn, .string ts, .string tu, .slice tao tl.length tcap] 25)
  have H4 := Lib.hid (H3.out.new (.cells #[.int .i8 tk, .int .i64 tn, .string ts, .string tu, .slice tao tl.length tcap] 25))
  have HY4 := Lib.hid (heap_new w3 (.cells #[.int .i8 tk, .int .i64 tn, .string ts, .string tu, .slice tao tl.length tcap] 25))
  have HR4 := Lib.hid (And.intro (smi_row hb4 HR3.out.1) (smi_row hb4 HR3.out.2))
  have hw4 : (w3.alloc (.cells #[.int .i8 tk, .int .i64 tn, .string ts, .string tu, .slice tao tl.length tcap] 25)).heap.size = w3.heap.size + 1 := by simp
  have HW4 := Lib.hid hw4
  clear hb4 hw4 HR3 H3
  generalize w3.alloc (.cells #[.int .i8 tk, .int .i64 tn, .string ts, .string tu, .slice tao tl.length tcap] 25) = W4 at *
  have HQ := Lib.hid (show SmI B W.heap.size W4 W4 _ _ from ⟨H4.out.hX, H4.out.hr, Chg.refl _ _, H4.out.hB, H4.out.ht⟩)
  obtain ⟨x0, -⟩ := cells_at H4.out.hX 0 _ rfl
  go_wp2_with (at_builtin; refine stop_here ?_)
  refine Lib.hid ?_
  have H5 := Lib.hid (HQ.out.new (.cells #[.int .u8 91] 5))
  have hn := heap_new W4 (.cells #[.int .u8 91] 5)
  have hb5 := (Below.refl W4.heap.size W4).alloc (Nat.le_refl _) (.cells #[.int .u8 91] 5)
  have HN := Lib.hid (And.intro hn (keep_heap HY4.out hb5))
  clear hn hb5 x0
  refine wl_bytes rfl (.tmp 74) (.tmp 75) rfl B _ _ [91] rfl H5.out.hr ⟨W4.heap.size, 0, none⟩ 1 rfl (fun j u hj => by
    rw [Addr.add_lit, Nat.zero_add]
    exact (cells_at HN.out.1 j u (by simpa [Lib.byteCells] using hj)).1) (by simp only [List.length_cons, List.length_nil]; omega) H5.out.hB ?_
  intro v5 w5 hr5 hc5
  obtain ⟨l5, hl5⟩ : ∃ l5, l5 = l ++ [91] := ⟨_, rfl⟩
  rw [← hl5] at hr5
  have hl5n := congrArg List.length hl5
  simp only [List.length_append, List.length_cons, List.length_nil] at hl5n
  have HL5 := Lib.hid (And.intro hl5 hl5n)
  clear hl5 hl5n
  obtain ⟨v5o, v5c, rfl⟩ := own_slice hr5
  have hu5 := wrote_own H5.out.hr hc5
  have hx5 := hu5.wheap H5.out.hX (by decide)
  have hxl := heap_lt hx5
  obtain ⟨x5, x5f⟩ := cells_at hx5 0 _ rfl
  have H6 := Lib.hid (H5.out.put hB hr5 hu5)
  have hwlen := congrArg List.length HWC.out
  rw [List.length_append] at hwlen
  have HWL := Lib.hid hwlen
  have HC := Lib.hid (some_any N HIH.out (spL T) HOK.out.1 B (F + 1) W.heap.size _ ao cap _ _ H6.out.hX hB (H6.out.row HQ.out.hX hB HR4.out.1) H6.out.hr H6.out.hB (by have := HL5.out.2; omega) H6.out.ht)
  clear hr5 hc5 hu5 hx5 HN hwlen
  go_wp2_with fail
  refine HC.out.mono ?_
  rintro e w8 ⟨⟨u8, rfl⟩, v8, h8⟩
  obtain ⟨l8, hl8⟩ : ∃ l8, l8 = l5 ++ wrL (spL T) := ⟨_, rfl⟩
  rw [← hl8] at h8
  have hl8n := congrArg List.length hl8
  simp only [List.length_append] at hl8n
  have HL8 := Lib.hid (And.intro hl8 hl8n)
  clear hl8 hl8n
  obtain ⟨v8o, v8c, rfl⟩ := own_slice h8.hr
  have H8 := Lib.hid (H6.out.again h8)
  have HY8 := Lib.hid (H8.out.tm HQ.out.hX hB HY4.out)
  have HF0 := Lib.hid (And.intro (H1.out.hc) (And.intro (H4.out.hc) hB))
  obtain ⟨y0, -⟩ := cells_at HY8.out 0 _ rfl
  obtain ⟨z0, -⟩ := cells_at H8.out.hX 0 _ rfl
  clear h8 HC x5 x5f hxl H6
  by_cases h6 : tk = 6
  · subst h6
    have heq : l8 ++ [93] = l ++ tx T := by
      rw [HL8.out.1, HL5.out.1, HTX.out, HWC.out, if_pos (show (spE T).k = 6 by rw [← HT2.out.1]; rfl)]
      simp
    have HEQ := Lib.hid heq
    have hlen8 : l8.length + 3 ≤ 140737488355328 := by have := HL8.out.2; have := HL5.out.2; have := HWL.out; omega
    clear heq
    go_wp2_with (at_builtin; refine stop_here ?_)
    refine Lib.hid ?_
    have HG := Lib.hid (H8.out.new (.cells #[.int .u8 93] 5))
    have HN := Lib.hid (heap_new w8 (.cells #[.int .u8 93] 5))
    refine wl_bytes rfl (.tmp 88) (.tmp 89) rfl B _ _ [93] rfl HG.out.hr ⟨(w8).heap.size, 0, none⟩ 1 rfl (fun j u hj => by
      rw [Addr.add_lit, Nat.zero_add]
      exact (cells_at HN.out j u (by simpa [Lib.byteCells] using hj)).1) (by simp only [List.length_cons, List.length_nil]; omega) HG.out.hB ?_
    intro v12 w12 hr12 hc12
    have HF := Lib.hid (And.intro hr12 (chg_back HB2.out (Nat.le_refl _) (SmI.grow H4.out.hc (HG.out.own hr12 hc12) fun k hk => hk)))
    clear hr12 hc12 z0
    go_wp2_with fail
    go_ret
    refine ⟨v12, rfl, ?_, HF.out.2⟩
    rw [← HEQ.out]
    exact HF.out.1
  · have h6b : (tk == 6) = false := by simpa using h6
    go_wp2_with fail
    have hd := (Below.refl w8.heap.size w8).drew
    have H9 := Lib.hid (H8.out.keep hd)
    have hrt9 := smi_row hd (H8.out.row HQ.out.hX hB HR4.out.2)
    have hY9 := keep_heap HY8.out hd
    have hS : Z21 W.heap.size w3.heap.size (.slice v8o l8.length v8c) tk tn ts tu (.slice tao tl.length tcap) w8.drew := z21_of H9.out.hX hY9
    clear hd y0 z0
    refine region_planZ 5 (Z21 W.heap.size w3.heap.size (.slice v8o l8.length v8c) tk tn ts tu (.slice tao tl.length tcap)) [(0, 0), (3, 0), (1, 1), (2, 1), (4, 1), (5, 1)] (by kernel_rfl) (by kernel_rfl) (by kernel_rfl) hS ?_
    generalize w8.drew = WD at *
    iterate 2 (first | (refine planZ_skip rfl ?_ ?_; (focus (rfl)); (try simp only [Act.put, List.setIfInBounds_toArray, List.set_cons_zero, List.set_cons_succ])) | (refine planZ_take (v := ?_) rfl ?_ (fun w hSw => ?_) ?_; rotate_left; (focus (rfl)); (focus (unfold Z21 at hSw; (go_simp <;> with_reducible rfl))); (try simp only [Act.put, List.setIfInBounds_toArray, List.set_cons_zero, List.set_cons_succ])))
    have hb10 := (Below.refl WD.heap.size WD).alloc (Nat.le_refl _) (.cells #[.int .u8 124] 5)
    have H10 := Lib.hid (H9.out.new (.cells #[.int .u8 124] 5))
    have hY10 := keep_heap hY9 hb10
    have hrt10 := smi_row hb10 hrt9
    have HN10 := Lib.hid (heap_new WD (.cells #[.int .u8 124] 5))
    have hS10 := z21_of H10.out.hX hY10
    refine planZ_run rfl ?_ (fun K hK => ?_)
    focus (rfl)
    go_simp
    refine hK.out _ _ (fun _ => hS10) ?_
    clear hK K
    (try simp only [Act.put, List.setIfInBounds_toArray, List.set_cons_zero, List.set_cons_succ])
    refine planZ_run rfl ?_ (fun K hK => ?_)
    focus (rfl)
    refine op_bytes (.tmp 83) (.tmp 84) rfl B _ _ [124] rfl H10.out.hr ⟨WD.heap.size, 0, none⟩ 1 rfl (fun j u hj => by
      rw [Addr.add_lit, Nat.zero_add]
      exact (cells_at HN10.out j u (by simpa [Lib.byteCells] using hj)).1) (by have := HL8.out.2; have := HL5.out.2; have := HWL.out; simp only [List.length_cons, List.length_nil]; omega) H10.out.hB ?_
    intro v11 w11 hr11 hc11
    obtain ⟨l11, hl11⟩ : ∃ l11, l11 = l8 ++ [124] := ⟨_, rfl⟩
    rw [← hl11] at hr11
    have hl11n := congrArg List.length hl11
    simp only [List.length_append, List.length_cons, List.length_nil] at hl11n
    have HL11 := Lib.hid (And.intro hl11 hl11n)
    clear hl11 hl11n
    obtain ⟨v11o, v11c, rfl⟩ := own_slice hr11
    have hu11 := wrote_own H10.out.hr hc11
    have hX11 := hu11.wheap H10.out.hX (by decide)
    have hY11 := hu11.wheap hY10 (by decide)
    have hS11 := z21_of hX11 hY11
    have hte : (TE.t ⟨tk, tn, ts, tu, tao, tcap, tl⟩) = spE T := HT2.out.1
    have hk6 : (spE T).k ≠ 6 := by rw [← hte]; exact h6
    have hwl : (wrC gl).length = (wrL (spL T)).length + (1 + (tx (spE T)).length) := by
      have h := HWL.out
      rw [if_neg hk6, List.length_cons] at h
      omega
    have HU11 := Lib.hid hu11
    have HW := Lib.hid (HIH.out ⟨tk, tn, ts, tu, tao, tcap, tl⟩ (by rw [hte]; exact HOK.out.2.2 hk6) (by rw [hte]; exact HOK.out.2.1) B F w11 _ l11 HT2.out.2 (hrt10.wrote hu11) hr11 (Nat.le_trans H10.out.hB hu11.size) (by rw [hte]; have := HL11.out.2; have := HL8.out.2; have := HL5.out.2; omega) (H10.out.ht.on (hu11.wbelow H10.out.hB)))
    simp only [TE.cells] at HW
    have HXY := Lib.hid (And.intro hX11 hY11)
    have HWN := Lib.hid (And.intro hwl (And.intro hk6 hte))
    refine hK.out _ _ (fun _ => hS11) ?_
    clear hK K
    (try simp only [Act.put, List.setIfInBounds_toArray, List.set_cons_zero, List.set_cons_succ])
    clear hS hS10 hr11 hc11 hu11 hX11 hY11 hY10 hY9 hrt10 hrt9 hb10 hte hk6 hwl
    refine planZ_run rfl ?_ (fun K hK => ?_)
    focus (rfl)
    go_simp
    refine (HW.out).mono ?_
    rintro e w12 ⟨v12, rfl, hr12, hc12⟩
    have hX12 := hc12.wheap HXY.out.1 (by decide)
    have hS12 := z21_of hX12 (hc12.wheap HXY.out.2 (by decide))
    refine hK.out _ _ (fun _ => hS12) ?_
    clear hK K 
    (try simp only [Act.put, List.setIfInBounds_toArray, List.set_cons_zero, List.set_cons_succ])
    rw [HWN.out.2.2] at hr12
    obtain ⟨l12, hl12⟩ : ∃ l12, l12 = l11 ++ tx (spE T) := ⟨_, rfl⟩
    rw [← hl12] at hr12
    have hl12n := congrArg List.length hl12
    simp only [List.length_append] at hl12n
    have HL12 := Lib.hid (And.intro hl12 hl12n)
    clear hl12 hl12n
    obtain ⟨v12o, v12c, rfl⟩ := own_slice hr12
    have H13 := Lib.hid (H10.out.put hB hr12 (HU11.out.wtrans hc12))
    obtain ⟨x12, x12f⟩ := cells_at hX12 0 _ rfl
    have hxl := heap_lt hX12
    have heq : l12 ++ [93] = l ++ tx T := by
      rw [HL12.out.1, HL11.out.1, HL8.out.1, HL5.out.1, HTX.out, HWC.out, if_neg HWN.out.2.1]
      simp
    have HEQ := Lib.hid heq
    have hlen8 : l12.length + 3 ≤ 140737488355328 := by have := HL12.out.2; have := HL11.out.2; have := HL8.out.2; have := HL5.out.2; have := HWN.out.1; omega
    clear heq hr12 hc12 hS11
    refine planZ_run rfl ?_ (fun K hK => ?_)
    focus (rfl)
    go_simp
    refine hK.out _ _ (fun h => absurd rfl h) ?_
    clear hK K
    (try simp only [Act.put, List.setIfInBounds_toArray, List.set_cons_zero, List.set_cons_succ])
    refine planZ_done ?_
    generalize w12.setCell ⟨W.heap.size, 0, none⟩ (.slice v12o l12.length v12c) = W13 at *
    obtain ⟨z0, -⟩ := cells_at H13.out.hX 0 _ rfl
    clear x12 x12f hxl hX12 hS12
    go_wp2_with (at_builtin; refine stop_here ?_)
    refine Lib.hid ?_
    have HG := Lib.hid (H13.out.new (.cells #[.int .u8 93] 5))
    have HN := Lib.hid (heap_new W13 (.cells #[.int .u8 93] 5))
    refine wl_bytes rfl (.tmp 88) (.tmp 89) rfl B _ _ [93] rfl HG.out.hr ⟨(W13).heap.size, 0, none⟩ 1 rfl (fun j u hj => by
      rw [Addr.add_lit, Nat.zero_add]
      exact (cells_at HN.out j u (by simpa [Lib.byteCells] using hj)).1) (by simp only [List.length_cons, List.length_nil]; omega) HG.out.hB ?_
    intro v12 w12 hr12 hc12
    have HF := Lib.hid (And.intro hr12 (chg_back HB2.out (Nat.le_refl _) (SmI.grow H4.out.hc (HG.out.own hr12 hc12) fun k hk => hk)))
    clear hr12 hc12 z0
    go_wp2_with fail
    go_ret
    refine ⟨v12, rfl, ?_, HF.out.2⟩
    rw [← HEQ.out]
    exact HF.out.1
set_option maxHeartbeats 8000000 in
theorem write_cons (N : Nat) (hN : N < 256) (ih : WrA N) (te : TE) (hk : te.k = 7) (hok : okT te.t) (hn : nT te.t ≤ N + 1) (B F : Nat) (W : World) (v : Value) (l : List UInt8) (hf : fields te.k te.n te.s te.u) (hre : RowS (SB B W) F W te.lv te.l) (h : BRow B W v l) (hB : B ≤ W.heap.size)
    (hl : l.length + (wrC te.l).length + 102 ≤ 140737488355328) (ht : Tab B W) :
    Calls Tryd.prog 22 #[v, .agg te.cells.toArray] W (WrP B W l te.t) := by
  have hl0 := hl
  have hre1 := hre
  have hf1 := hf
  have hok1 := hok
  have hn1 := hn
  obtain ⟨vo, vc, rfl⟩ := own_slice h
  obtain ⟨gk, gn, gs, gu, gao, gcap, gl⟩ := te
  have hk : gk = 7 := hk
  subst hk
  have hb2 := ((Below.refl W.heap.size W).alloc (Nat.le_refl _) (.cells #[.slice vo l.length vc] 47)).alloc (by simp) (.cells #[.int .i8 7, .int .i64 gn, .string gs, .string gu, .slice gao gl.length gcap] 25)
  have hX := heap_old (heap_new W (.cells #[.slice vo l.length vc] 47)) (.cells #[.int .i8 7, .int .i64 gn, .string gs, .string gu, .slice gao gl.length gcap] 25)
  have hY := heap_new (W.alloc (.cells #[.slice vo l.length vc] 47)) (.cells #[.int .i8 7, .int .i64 gn, .string gs, .string gu, .slice gao gl.length gcap] 25)
  have hs1 : (W.alloc (.cells #[.slice vo l.length vc] 47)).heap.size = W.heap.size + 1 := by simp
  rw [hs1] at hY
  have ht2 : Tab B _ := ht.on (hb2.mono hB)
  have hr2 := h.keep hb2
  have hB2 : B ≤ ((W.alloc (.cells #[.slice vo l.length vc] 47)).alloc (.cells #[.int .i8 7, .int .i64 gn, .string gs, .string gu, .slice gao gl.length gcap] 25)).heap.size := Nat.le_trans hB hb2.size
  have HB2 := Lib.hid hb2
  have HX := Lib.hid hX
  have HY := Lib.hid hY
  have HT := Lib.hid ht2
  have HR := Lib.hid hr2
  have HBB := Lib.hid hB2
  clear hb2 hX hY hs1 ht2 hr2 hB2 ht h
  have hl : l.length + (wrC gl).length + 102 ≤ 140737488355328 := hl
  have hre2 := smi_row HB2.out hre1
  have hsz2 : ((W.alloc (.cells #[.slice vo l.length vc] 47)).alloc (.cells #[.int .i8 7, .int .i64 gn, .string gs, .string gu, .slice gao gl.length gcap] 25)).heap.size = W.heap.size + 2 := by simp
  have HS := Lib.hid (spine_any (SB B ((W.alloc (.cells #[.slice vo l.length vc] 47)).alloc (.cells #[.int .i8 7, .int .i64 gn, .string gs, .string gu, .slice gao gl.length gcap] 25))) F ⟨7, gn, gs, gu, gao, gcap, gl⟩ hok1 (by omega) _ (fun k hk => by
    rcases hk with h | ⟨c, fz, h⟩
    · have := HBB.out
      omega
    · exact heap_lt h) hf1 hre2)
  obtain ⟨hw, ho1, ho2, ho3⟩ := sp_facts N _ hok1 hn1 (by simp [TE.t, Tm.k])
  have hw : wrC gl = _ := hw
  have HOK := Lib.hid (And.intro ho1 (And.intro ho2 ho3))
  have HWC := Lib.hid hw
  have HIH := Lib.hid ih
  clear hre hre1 hre2 hok hok1 ih hw ho1 ho2 ho3 hf hf1
  obtain ⟨x0, -⟩ := cells_at HX.out 0 _ rfl
  obtain ⟨y0, -⟩ := cells_at HY.out 0 _ rfl
  obtain ⟨y1, -⟩ := cells_at HY.out 1 _ rfl
  obtain ⟨y2, -⟩ := cells_at HY.out 2 _ rfl
  obtain ⟨y3, -⟩ := cells_at HY.out 3 _ rfl
  obtain ⟨y4, -⟩ := cells_at HY.out 4 _ rfl
  have HTX : Hid (tx (TE.t ⟨7, gn, gs, gu, gao, gcap, gl⟩) = 91 :: (wrC gl ++ [93])) := Lib.hid (by rw [TE.t, tx]; simp [form])
  generalize hT : TE.t ⟨7, gn, gs, gu, gao, gcap, gl⟩ = T at *
  simp only [TE.cells, TE.lv] at *
  have H1 := Lib.hid (show SmI B W.heap.size _ _ (.slice vo l.length vc) l from ⟨HX.out, HR.out, Chg.refl _ _, HBB.out, HT.out⟩)
  go_enter Tryd.func22, Tryd.ntmps22
  go_wp2_with fail
  generalize (W.alloc (.cells #[.slice vo l.length vc] 47)).alloc (.cells #[.int .i8 7, .int .i64 gn, .string gs, .string gu, .slice gao gl.length gcap] 25) = W2 at *
  refine HS.out.mono ?_
  rintro e w3 ⟨ao, cap, E, te2, rfl, hE, hte2, hf2, hb3, hrow3, hrs3⟩
  obtain ⟨tk, tn, ts, tu, tao, tcap, tl⟩ := te2
  have hEl : E.length = (spL T).length := by rw [← hE]; simp
  have hrw3 := hrow3.rowS (S' := SB B w3) (fun k hk => hk.chg (chg_of_below hb3 (fun _ => False)) (by
    rcases hk with h | ⟨c, fz, h⟩
    · have := HBB.out
      omega
    · exact heap_lt h) (fun h => h)) (fun k hk => by
    obtain ⟨c, hc⟩ := own_type hrow3.1 k hk
    exact .inr ⟨c, _, hc⟩)
  rw [hE] at hrw3
  have hrs3' : RowS (SB B w3) F w3 (.slice tao tl.length tcap) tl := hrs3.chg (Chg.refl (fun _ => False) w3) (fun _ _ _ h => h) (fun k hk hl => hk.chg (chg_of_below hb3 (fun _ => False)) (by
    rcases hk with h | ⟨c, fz, h⟩
    · have := HBB.out
      omega
    · exact heap_lt h) (fun h => h)) (Nat.le_refl _)
  have H3 := Lib.hid (H1.out.keep hb3)
  have HR3 := Lib.hid (And.intro hrw3 hrs3')
  have HT2 := Lib.hid (And.intro hte2 hf2)
  rw [hEl]
  simp only [TE.cells]
  clear hE hte2 hf2 hb3 hrow3 hrs3 hEl hrw3 hrs3' HS x0 y0 y1 y2 y3 y4 HX HY HR HT
  go_wp2_with (with_reducible refine stop_op (o := ⟨_, .store 25 (.tmp 7) (.tmp 73), _, _, _, _⟩) ?_)
  refine Lib.hid ?_
  refine wpList_store_new (o := ⟨none, _, _, _, _, _⟩) rfl 25 (.tmp 7) (.tmp 73) rfl #[.int .i8 tk, .int .i64 tn, .string ts, .string tu, .slice tao tl.length tcap] rfl rfl (infoTM' _ rfl) rfl (by simp [Value.oneCell']) ?_
  have hb4 := (Below.refl w3.heap.size w3).alloc (Nat.le_refl _) (.cells #[.int .i8 tk, .int .i64 tn, .string ts, .string tu, .slice tao tl.length tcap] 25)
  have H4 := Lib.hid (H3.out.new (.cells #[.int .i8 tk, .int .i64 tn, .string ts, .string tu, .slice tao tl.length tcap] 25))
  have HY4 := Lib.hid (heap_new w3 (.cells #[.int .i8 tk, .int .i64 tn, .string ts, .string tu, .slice tao tl.length tcap] 25))
  have HR4 := Lib.hid (And.intro (smi_row hb4 HR3.out.1) (smi_row hb4 HR3.out.2))
  have hw4 : (w3.alloc (.cells #[.int .i8 tk, .int .i64 tn, .string ts, .string tu, .slice tao tl.length tcap] 25)).heap.size = w3.heap.size + 1 := by simp
  have HW4 := Lib.hid hw4
  clear hb4 hw4 HR3 H3
  generalize w3.alloc (.cells #[.int .i8 tk, .int .i64 tn, .string ts, .string tu, .slice tao tl.length tcap] 25) = W4 at *
  have HQ := Lib.hid (show SmI B W.heap.size W4 W4 _ _ from ⟨H4.out.hX, H4.out.hr, Chg.refl _ _, H4.out.hB, H4.out.ht⟩)
  obtain ⟨x0, -⟩ := cells_at H4.out.hX 0 _ rfl
  go_wp2_with (at_builtin; refine stop_here ?_)
  refine Lib.hid ?_
  have H5 := Lib.hid (HQ.out.new (.cells #[.int .u8 91] 5))
  have hn := heap_new W4 (.cells #[.int .u8 91] 5)
  have hb5 := (Below.refl W4.heap.size W4).alloc (Nat.le_refl _) (.cells #[.int .u8 91] 5)
  have HN := Lib.hid (And.intro hn (keep_heap HY4.out hb5))
  clear hn hb5 x0
  refine wl_bytes rfl (.tmp 74) (.tmp 75) rfl B _ _ [91] rfl H5.out.hr ⟨W4.heap.size, 0, none⟩ 1 rfl (fun j u hj => by
    rw [Addr.add_lit, Nat.zero_add]
    exact (cells_at HN.out.1 j u (by simpa [Lib.byteCells] using hj)).1) (by simp only [List.length_cons, List.length_nil]; omega) H5.out.hB ?_
  intro v5 w5 hr5 hc5
  obtain ⟨l5, hl5⟩ : ∃ l5, l5 = l ++ [91] := ⟨_, rfl⟩
  rw [← hl5] at hr5
  have hl5n := congrArg List.length hl5
  simp only [List.length_append, List.length_cons, List.length_nil] at hl5n
  have HL5 := Lib.hid (And.intro hl5 hl5n)
  clear hl5 hl5n
  obtain ⟨v5o, v5c, rfl⟩ := own_slice hr5
  have hu5 := wrote_own H5.out.hr hc5
  have hx5 := hu5.wheap H5.out.hX (by decide)
  have hxl := heap_lt hx5
  obtain ⟨x5, x5f⟩ := cells_at hx5 0 _ rfl
  have H6 := Lib.hid (H5.out.put hB hr5 hu5)
  have hwlen := congrArg List.length HWC.out
  rw [List.length_append] at hwlen
  have HWL := Lib.hid hwlen
  have HC := Lib.hid (some_any N HIH.out (spL T) HOK.out.1 B (F + 1) W.heap.size _ ao cap _ _ H6.out.hX hB (H6.out.row HQ.out.hX hB HR4.out.1) H6.out.hr H6.out.hB (by have := HL5.out.2; omega) H6.out.ht)
  clear hr5 hc5 hu5 hx5 HN hwlen
  go_wp2_with fail
  refine HC.out.mono ?_
  rintro e w8 ⟨⟨u8, rfl⟩, v8, h8⟩
  obtain ⟨l8, hl8⟩ : ∃ l8, l8 = l5 ++ wrL (spL T) := ⟨_, rfl⟩
  rw [← hl8] at h8
  have hl8n := congrArg List.length hl8
  simp only [List.length_append] at hl8n
  have HL8 := Lib.hid (And.intro hl8 hl8n)
  clear hl8 hl8n
  obtain ⟨v8o, v8c, rfl⟩ := own_slice h8.hr
  have H8 := Lib.hid (H6.out.again h8)
  have HY8 := Lib.hid (H8.out.tm HQ.out.hX hB HY4.out)
  have HF0 := Lib.hid (And.intro (H1.out.hc) (And.intro (H4.out.hc) hB))
  obtain ⟨y0, -⟩ := cells_at HY8.out 0 _ rfl
  obtain ⟨z0, -⟩ := cells_at H8.out.hX 0 _ rfl
  clear h8 HC x5 x5f hxl H6
  by_cases h6 : tk = 6
  · subst h6
    have heq : l8 ++ [93] = l ++ tx T := by
      rw [HL8.out.1, HL5.out.1, HTX.out, HWC.out, if_pos (show (spE T).k = 6 by rw [← HT2.out.1]; rfl)]
      simp
    have HEQ := Lib.hid heq
    have hlen8 : l8.length + 3 ≤ 140737488355328 := by have := HL8.out.2; have := HL5.out.2; have := HWL.out; omega
    clear heq
    go_wp2_with (at_builtin; refine stop_here ?_)
    refine Lib.hid ?_
    have HG := Lib.hid (H8.out.new (.cells #[.int .u8 93] 5))
    have HN := Lib.hid (heap_new w8 (.cells #[.int .u8 93] 5))
    refine wl_bytes rfl (.tmp 88) (.tmp 89) rfl B _ _ [93] rfl HG.out.hr ⟨(w8).heap.size, 0, none⟩ 1 rfl (fun j u hj => by
      rw [Addr.add_lit, Nat.zero_add]
      exact (cells_at HN.out j u (by simpa [Lib.byteCells] using hj)).1) (by simp only [List.length_cons, List.length_nil]; omega) HG.out.hB ?_
    intro v12 w12 hr12 hc12
    have HF := Lib.hid (And.intro hr12 (chg_back HB2.out (Nat.le_refl _) (SmI.grow H4.out.hc (HG.out.own hr12 hc12) fun k hk => hk)))
    clear hr12 hc12 z0
    go_wp2_with fail
    go_ret
    refine ⟨v12, rfl, ?_, HF.out.2⟩
    rw [← HEQ.out]
    exact HF.out.1
  · have h6b : (tk == 6) = false := by simpa using h6
    go_wp2_with fail
    have hd := (Below.refl w8.heap.size w8).drew
    have H9 := Lib.hid (H8.out.keep hd)
    have hrt9 := smi_row hd (H8.out.row HQ.out.hX hB HR4.out.2)
    have hY9 := keep_heap HY8.out hd
    have hS : Z21 W.heap.size w3.heap.size (.slice v8o l8.length v8c) tk tn ts tu (.slice tao tl.length tcap) w8.drew := z21_of H9.out.hX hY9
    clear hd y0 z0
    refine region_planZ 5 (Z21 W.heap.size w3.heap.size (.slice v8o l8.length v8c) tk tn ts tu (.slice tao tl.length tcap)) [(0, 0), (3, 0), (1, 1), (2, 1), (4, 1), (5, 1)] (by kernel_rfl) (by kernel_rfl) (by kernel_rfl) hS ?_
    generalize w8.drew = WD at *
    iterate 2 (first | (refine planZ_skip rfl ?_ ?_; (focus (rfl)); (try simp only [Act.put, List.setIfInBounds_toArray, List.set_cons_zero, List.set_cons_succ])) | (refine planZ_take (v := ?_) rfl ?_ (fun w hSw => ?_) ?_; rotate_left; (focus (rfl)); (focus (unfold Z21 at hSw; (go_simp <;> with_reducible rfl))); (try simp only [Act.put, List.setIfInBounds_toArray, List.set_cons_zero, List.set_cons_succ])))
    have hb10 := (Below.refl WD.heap.size WD).alloc (Nat.le_refl _) (.cells #[.int .u8 124] 5)
    have H10 := Lib.hid (H9.out.new (.cells #[.int .u8 124] 5))
    have hY10 := keep_heap hY9 hb10
    have hrt10 := smi_row hb10 hrt9
    have HN10 := Lib.hid (heap_new WD (.cells #[.int .u8 124] 5))
    have hS10 := z21_of H10.out.hX hY10
    refine planZ_run rfl ?_ (fun K hK => ?_)
    focus (rfl)
    go_simp
    refine hK.out _ _ (fun _ => hS10) ?_
    clear hK K
    (try simp only [Act.put, List.setIfInBounds_toArray, List.set_cons_zero, List.set_cons_succ])
    refine planZ_run rfl ?_ (fun K hK => ?_)
    focus (rfl)
    refine op_bytes (.tmp 83) (.tmp 84) rfl B _ _ [124] rfl H10.out.hr ⟨WD.heap.size, 0, none⟩ 1 rfl (fun j u hj => by
      rw [Addr.add_lit, Nat.zero_add]
      exact (cells_at HN10.out j u (by simpa [Lib.byteCells] using hj)).1) (by have := HL8.out.2; have := HL5.out.2; have := HWL.out; simp only [List.length_cons, List.length_nil]; omega) H10.out.hB ?_
    intro v11 w11 hr11 hc11
    obtain ⟨l11, hl11⟩ : ∃ l11, l11 = l8 ++ [124] := ⟨_, rfl⟩
    rw [← hl11] at hr11
    have hl11n := congrArg List.length hl11
    simp only [List.length_append, List.length_cons, List.length_nil] at hl11n
    have HL11 := Lib.hid (And.intro hl11 hl11n)
    clear hl11 hl11n
    obtain ⟨v11o, v11c, rfl⟩ := own_slice hr11
    have hu11 := wrote_own H10.out.hr hc11
    have hX11 := hu11.wheap H10.out.hX (by decide)
    have hY11 := hu11.wheap hY10 (by decide)
    have hS11 := z21_of hX11 hY11
    have hte : (TE.t ⟨tk, tn, ts, tu, tao, tcap, tl⟩) = spE T := HT2.out.1
    have hk6 : (spE T).k ≠ 6 := by rw [← hte]; exact h6
    have hwl : (wrC gl).length = (wrL (spL T)).length + (1 + (tx (spE T)).length) := by
      have h := HWL.out
      rw [if_neg hk6, List.length_cons] at h
      omega
    have HU11 := Lib.hid hu11
    have HW := Lib.hid (HIH.out ⟨tk, tn, ts, tu, tao, tcap, tl⟩ (by rw [hte]; exact HOK.out.2.2 hk6) (by rw [hte]; exact HOK.out.2.1) B F w11 _ l11 HT2.out.2 (hrt10.wrote hu11) hr11 (Nat.le_trans H10.out.hB hu11.size) (by rw [hte]; have := HL11.out.2; have := HL8.out.2; have := HL5.out.2; omega) (H10.out.ht.on (hu11.wbelow H10.out.hB)))
    simp only [TE.cells] at HW
    have HXY := Lib.hid (And.intro hX11 hY11)
    have HWN := Lib.hid (And.intro hwl (And.intro hk6 hte))
    refine hK.out _ _ (fun _ => hS11) ?_
    clear hK K
    (try simp only [Act.put, List.setIfInBounds_toArray, List.set_cons_zero, List.set_cons_succ])
    clear hS hS10 hr11 hc11 hu11 hX11 hY11 hY10 hY9 hrt10 hrt9 hb10 hte hk6 hwl
    refine planZ_run rfl ?_ (fun K hK => ?_)
    focus (rfl)
    go_simp
    refine (HW.out).mono ?_
    rintro e w12 ⟨v12, rfl, hr12, hc12⟩
    have hX12 := hc12.wheap HXY.out.1 (by decide)
    have hS12 := z21_of hX12 (hc12.wheap HXY.out.2 (by decide))
    refine hK.out _ _ (fun _ => hS12) ?_
    clear hK K 
    (try simp only [Act.put, List.setIfInBounds_toArray, List.set_cons_zero, List.set_cons_succ])
    rw [HWN.out.2.2] at hr12
    obtain ⟨l12, hl12⟩ : ∃ l12, l12 = l11 ++ tx (spE T) := ⟨_, rfl⟩
    rw [← hl12] at hr12
    have hl12n := congrArg List.length hl12
    simp only [List.length_append] at hl12n
    have HL12 := Lib.hid (And.intro hl12 hl12n)
    clear hl12 hl12n
    obtain ⟨v12o, v12c, rfl⟩ := own_slice hr12
    have H13 := Lib.hid (H10.out.put hB hr12 (HU11.out.wtrans hc12))
    obtain ⟨x12, x12f⟩ := cells_at hX12 0 _ rfl
    have hxl := heap_lt hX12
    have heq : l12 ++ [93] = l ++ tx T := by
      rw [HL12.out.1, HL11.out.1, HL8.out.1, HL5.out.1, HTX.out, HWC.out, if_neg HWN.out.2.1]
      simp
    have HEQ := Lib.hid heq
    have hlen8 : l12.length + 3 ≤ 140737488355328 := by have := HL12.out.2; have := HL11.out.2; have := HL8.out.2; have := HL5.out.2; have := HWN.out.1; omega
    clear heq hr12 hc12 hS11
    refine planZ_run rfl ?_ (fun K hK => ?_)
    focus (rfl)
    go_simp
    refine hK.out _ _ (fun h => absurd rfl h) ?_
    clear hK K
    (try simp only [Act.put, List.setIfInBounds_toArray, List.set_cons_zero, List.set_cons_succ])
    refine planZ_done ?_
    generalize w12.setCell ⟨W.heap.size, 0, none⟩ (.slice v12o l12.length v12c) = W13 at *
    obtain ⟨z0, -⟩ := cells_at H13.out.hX 0 _ rfl
    clear x12 x12f hxl hX12 hS12
    go_wp2_with (at_builtin; refine stop_here ?_)
    refine Lib.hid ?_
    have HG := Lib.hid (H13.out.new (.cells #[.int .u8 93] 5))
    have HN := Lib.hid (heap_new W13 (.cells #[.int .u8 93] 5))
    refine wl_bytes rfl (.tmp 88) (.tmp 89) rfl B _ _ [93] rfl HG.out.hr ⟨(W13).heap.size, 0, none⟩ 1 rfl (fun j u hj => by
      rw [Addr.add_lit, Nat.zero_add]
      exact (cells_at HN.out j u (by simpa [Lib.byteCells] using hj)).1) (by simp only [List.length_cons, List.length_nil]; omega) HG.out.hB ?_
    intro v12 w12 hr12 hc12
    have HF := Lib.hid (And.intro hr12 (chg_back HB2.out (Nat.le_refl _) (SmI.grow H4.out.hc (HG.out.own hr12 hc12) fun k hk => hk)))
    clear hr12 hc12 z0
    go_wp2_with fail
    go_ret
    refine ⟨v12, rfl, ?_, HF.out.2⟩
    rw [← HEQ.out]
    exact HF.out.1
/-- terms of up to 256 nodes are written -/
theorem write_all : ∀ N, N ≤ 256 → WrA N := by
  intro N
  induction N with
  | zero =>
    intro _ te h
    have := nT_pos te.t
    omega
  | succ N ih =>
    intro hN te hn hok B F W v l hf hre h hB hl ht
    have ih := ih (by omega)
    by_cases h6 : te.k = 6
    · exact write_nil N (by omega) ih te h6 hok hn B F W v l hf hre h hB (by
        have e : tx te.t = 91 :: (wrC te.l ++ [93]) := by rw [TE.t, tx]; simp [form, h6]
        rw [e] at hl
        simp at hl
        omega) ht
    · by_cases h7 : te.k = 7
      · exact write_cons N (by omega) ih te h7 hok hn B F W v l hf hre h hB (by
          have e : tx te.t = 91 :: (wrC te.l ++ [93]) := by rw [TE.t, tx]; simp [form, h7]
          rw [e] at hl
          simp at hl
          omega) ht
      · by_cases h5 : te.k = 5
        · refine write_tuple N ih te h5 (fun x hx => ?_) B F W v l hre h hB (by
            have e : tx te.t = 123 :: (wrL te.l ++ [125]) := by rw [TE.t, tx]; simp [form, h5]
            rw [e] at hl
            simp at hl
            omega) ht
          obtain ⟨-, -, -, h1⟩ := okT_tuple hok h5
          have h2 : nT te.t = nL te.l + 1 := by rw [TE.t, nT]
          exact ⟨h1 x hx, by have := nT_mem hx; omega⟩
        · have h1 : oneB te.k te.n te.s te.u te.l.length = true := by
            rw [TE.t, okT] at hok
            exact hok.1
          obtain ⟨-, hkk⟩ := oneB_leaf h1 h5 (fun h => h.elim h6 h7)
          rcases hkk with ⟨hk, -, -, hm⟩ | ⟨hk, -, -, hm⟩ | ⟨hk, -, -, hm0, hm1⟩ | ⟨hk, -, -, hm0, hm1⟩
          · exact write_num B W v l te hk hf h hB (by omega) ht
          · refine write_atom B W v l te hk h hB ?_ ht
            have e : tx te.t = te.s.toList := by rw [TE.t, tx]; simp [form, hk]
            rw [e, ByteArray.toList_eq] at hl
            simp at hl
            omega
          · rcases hk with hk | hk
            · exact write_ref B W v l te hk ⟨te.n.toNat, by omega, by omega⟩ h hB (by omega) ht
            · exact write_pid B W v l te hk ⟨te.n.toNat, by omega, by omega⟩ h hB (by omega) ht
          · refine write_fun B W v l te hk hf h hB ?_ ht
            have e : tx te.t = [102, 117, 110, 32] ++ te.s.toList ++ [58] ++ te.u.toList ++ [47] ++ Lib.itoa te.n := by rw [TE.t, tx]; simp [form, hk]
            rw [e, ByteArray.toList_eq, ByteArray.toList_eq] at hl
            simp at hl
            omega
end Go.Proofs.YtaomakhhkjflaaaDoor
