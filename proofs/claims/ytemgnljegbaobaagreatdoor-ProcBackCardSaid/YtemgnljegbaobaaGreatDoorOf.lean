/- the reference's comparison of stacks, of processes that differ in where their rows lie alone (printed by genof.py). Conditions: what they hold reads. -/
import Derived.Test.YtemgnljegbaobaaGreatDoorOe
namespace Go.Proofs.YtemgnljegbaobaaGreatDoor
open Go.ChangeShapes Go.WideShapes Go.ChangeAt Go.RowKit
set_option linter.unusedVariables false
set_option linter.unusedSimpArgs false
set_option maxRecDepth 100000
theorem FEq.sbr {s : Fs} {A B : Array Value} (h : FEq s A) (hs : SBR A B) (hB : B.size = 35) : FEq s B := by
  obtain ⟨a3, a4, a5, a6, a28, a33, a34, rfl⟩ := h
  obtain ⟨r3, e3⟩ : ∃ v, B[3]? = some v := ⟨_, Array.getElem?_eq_getElem (by omega)⟩
  obtain ⟨r4, e4⟩ : ∃ v, B[4]? = some v := ⟨_, Array.getElem?_eq_getElem (by omega)⟩
  obtain ⟨r5, e5⟩ : ∃ v, B[5]? = some v := ⟨_, Array.getElem?_eq_getElem (by omega)⟩
  obtain ⟨r6, e6⟩ : ∃ v, B[6]? = some v := ⟨_, Array.getElem?_eq_getElem (by omega)⟩
  obtain ⟨r28, e28⟩ : ∃ v, B[28]? = some v := ⟨_, Array.getElem?_eq_getElem (by omega)⟩
  obtain ⟨r33, e33⟩ : ∃ v, B[33]? = some v := ⟨_, Array.getElem?_eq_getElem (by omega)⟩
  obtain ⟨r34, e34⟩ : ∃ v, B[34]? = some v := ⟨_, Array.getElem?_eq_getElem (by omega)⟩
  refine ⟨r3, r4, r5, r6, r28, r33, r34, Array.ext_getElem? fun i => ?_⟩
  match i with
  | 0 => exact hs 0 (by decide) (by decide) (by decide) (by decide) (by decide) (by decide) (by decide)
  | 1 => exact hs 1 (by decide) (by decide) (by decide) (by decide) (by decide) (by decide) (by decide)
  | 2 => exact hs 2 (by decide) (by decide) (by decide) (by decide) (by decide) (by decide) (by decide)
  | 3 => exact e3
  | 4 => exact e4
  | 5 => exact e5
  | 6 => exact e6
  | 7 => exact hs 7 (by decide) (by decide) (by decide) (by decide) (by decide) (by decide) (by decide)
  | 8 => exact hs 8 (by decide) (by decide) (by decide) (by decide) (by decide) (by decide) (by decide)
  | 9 => exact hs 9 (by decide) (by decide) (by decide) (by decide) (by decide) (by decide) (by decide)
  | 10 => exact hs 10 (by decide) (by decide) (by decide) (by decide) (by decide) (by decide) (by decide)
  | 11 => exact hs 11 (by decide) (by decide) (by decide) (by decide) (by decide) (by decide) (by decide)
  | 12 => exact hs 12 (by decide) (by decide) (by decide) (by decide) (by decide) (by decide) (by decide)
  | 13 => exact hs 13 (by decide) (by decide) (by decide) (by decide) (by decide) (by decide) (by decide)
  | 14 => exact hs 14 (by decide) (by decide) (by decide) (by decide) (by decide) (by decide) (by decide)
  | 15 => exact hs 15 (by decide) (by decide) (by decide) (by decide) (by decide) (by decide) (by decide)
  | 16 => exact hs 16 (by decide) (by decide) (by decide) (by decide) (by decide) (by decide) (by decide)
  | 17 => exact hs 17 (by decide) (by decide) (by decide) (by decide) (by decide) (by decide) (by decide)
  | 18 => exact hs 18 (by decide) (by decide) (by decide) (by decide) (by decide) (by decide) (by decide)
  | 19 => exact hs 19 (by decide) (by decide) (by decide) (by decide) (by decide) (by decide) (by decide)
  | 20 => exact hs 20 (by decide) (by decide) (by decide) (by decide) (by decide) (by decide) (by decide)
  | 21 => exact hs 21 (by decide) (by decide) (by decide) (by decide) (by decide) (by decide) (by decide)
  | 22 => exact hs 22 (by decide) (by decide) (by decide) (by decide) (by decide) (by decide) (by decide)
  | 23 => exact hs 23 (by decide) (by decide) (by decide) (by decide) (by decide) (by decide) (by decide)
  | 24 => exact hs 24 (by decide) (by decide) (by decide) (by decide) (by decide) (by decide) (by decide)
  | 25 => exact hs 25 (by decide) (by decide) (by decide) (by decide) (by decide) (by decide) (by decide)
  | 26 => exact hs 26 (by decide) (by decide) (by decide) (by decide) (by decide) (by decide) (by decide)
  | 27 => exact hs 27 (by decide) (by decide) (by decide) (by decide) (by decide) (by decide) (by decide)
  | 28 => exact e28
  | 29 => exact hs 29 (by decide) (by decide) (by decide) (by decide) (by decide) (by decide) (by decide)
  | 30 => exact hs 30 (by decide) (by decide) (by decide) (by decide) (by decide) (by decide) (by decide)
  | 31 => exact hs 31 (by decide) (by decide) (by decide) (by decide) (by decide) (by decide) (by decide)
  | 32 => exact hs 32 (by decide) (by decide) (by decide) (by decide) (by decide) (by decide) (by decide)
  | 33 => exact e33
  | 34 => exact e34
  | i + 35 => rw [Array.getElem?_eq_none (by omega)]; exact (Array.getElem?_eq_none (by simp [fcells])).symm
/-- two stacks that differ in where their rows lie -/
def Bes (w : World) (L L' : List Fm) : Prop := L'.length = L.length ∧ ∀ (i : Nat) (f f' : Fm), L[i]? = some f → L'[i]? = some f' → ∃ s, FEq s f.cs ∧ FEq s f'.cs ∧ f'.X = f.X ∧ FrT w s f.X
theorem Bes.keep {w w' : World} {L L' : List Fm} (h : Bes w L L') (hb : Below w.heap.size w w') : Bes w' L L' := ⟨h.1, fun i f f' hf hf' => by
  obtain ⟨s, h1, h2, h3, h4⟩ := h.2 i f f' hf hf'
  exact ⟨s, h1, h2, h3, h4.keep hb⟩⟩
def F2 (b o b2 o2 : Nat) (la lb : List Value) (W : World) : Prop := W.rangeAt b o la ∧ W.rangeAt b2 o2 lb
theorem F2.keep {b o b2 o2 : Nat} {la lb : List Value} {W W' : World} (h : F2 b o b2 o2 la lb W) (hb : Below W.heap.size W W') : F2 b o b2 o2 la lb W' := ⟨fun j v hj => keep_cell (h.1 j v hj) hb, fun j v hj => keep_cell (h.2 j v hj) hb⟩
theorem infoFRl {cs : Array Value} (h : cs.size = 35) : (Tryz.prog.info? 65).map (·.size) = some cs.toList.length := by
  have : (Tryz.prog.info? 65).map (·.size) = some 35 := by kernel_rfl
  rw [this]
  simp [h]
set_option maxHeartbeats 8000000 in
theorem sameframes_any (w : World) (v v' : Value) (L L' : List Fm) (h : St w v L) (h' : St w v' L') (hB : Bes w L L') : Calls Tryz.prog 68 #[v, v'] w (IsPost w true) := by
  obtain ⟨ao, c, rfl, hc1, hc2⟩ := h.row.slice
  obtain ⟨ao', c', rfl, hc1', hc2'⟩ := h'.row.slice
  have HR := Lib.hid (And.intro h (And.intro h' hB))
  have hll := hB.1
  rw [hll] at hc1'
  clear h h' hB
  go_enter Tryz.func68, Tryz.ntmps68
  rw [hll]
  have HLL := Lib.hid hll
  clear hll
  generalize hn : L.length = n at *
  go_wp2_with fail
  go_loopw [5] (fun jw wr => ∃ i : Nat, i ≤ n ∧ jw = .int .i64 i ∧ Hid (Below w.heap.size w wr)) (fun jw _ => n - (intOf jw).toNat)
  case atStart => exact ⟨0, Nat.zero_le _, rfl, Lib.hid (Below.refl _ _)⟩
  case round =>
    obtain ⟨i, hi, rfl, HI⟩ := hrel
    by_cases hlt : i < n
    · obtain ⟨f, hf⟩ : ∃ f, L[i]? = some f := ⟨_, List.getElem?_eq_getElem (by omega)⟩
      obtain ⟨f', hf'⟩ : ∃ f, L'[i]? = some f := ⟨_, List.getElem?_eq_getElem (by have := HLL.out; omega)⟩
      obtain ⟨b, off, d1, e1, a1, z1, q1⟩ := (HR.out.1.keep HI.out).range hf
      obtain ⟨b2, off2, d2, e2, a2, z2, q2⟩ := (HR.out.2.1.keep HI.out).range hf'
      injection e1 with e1 en1 e3
      injection e2 with e2 en2 e4
      subst e1 e2 e3 e4
      clear en1 en2
      obtain ⟨s, p1, p2, p3, p4⟩ := HR.out.2.2.2 i f f' hf hf'
      have hd := (Below.refl wr.heap.size wr).drew
      have HI1 := Lib.hid (HI.out.trans (hd.mono HI.out.size))
      have hS : F2 b (off + i * 35) b2 (off2 + i * 35) f.cs.toList f'.cs.toList wr := ⟨a1, a2⟩
      have hS1 := hS.keep hd
      rw [p3] at q2
      have HC := Lib.hid (sameframe_any wr.drew s f.X f.cs f'.cs (q1.keep hd) (q2.keep hd) p1 p2 (p4.keep HI1.out))
      have HZ := Lib.hid (And.intro z1 z2)
      have hi0 : (0 : Int) ≤ (i : Int) := by omega
      clear a1 a2 hd hS q1 q2 p1 p2 p3 p4 z1 z2 hf hf' hn
      go_wp2_with fail
      refine region_plan (F2 b (off + i * 35) b2 (off2 + i * 35) f.cs.toList f'.cs.toList) [(0, 0), (1, 0), (2, 0), (3, 0), (4, 0), (5, 0), (6, 0), (7, 0), (8, 1), (9, 0)] (by kernel_rfl) (by kernel_rfl) (by kernel_rfl) hS1 ?_
      generalize wr.drew = w1 at *
      iterate 3 (first | (refine plan_skip rfl ?_ ?_; (focus (rfl)); (try simp only [Act.put, List.setIfInBounds_toArray, List.set_cons_zero, List.set_cons_succ])) | (refine plan_take (v := ?_) rfl ?_ (fun w hSw => ?_) ?_; rotate_left; (focus (rfl)); (focus (unfold F2 at hSw; (go_simp <;> with_reducible rfl))); (try simp only [Act.put, List.setIfInBounds_toArray, List.set_cons_zero, List.set_cons_succ])))
      refine plan_take rfl ?_ (fun wS hSw => exec_load_mid 65 (.tmp 19) rfl b (off + i * 35) rfl f.cs.toList _ hSw.1 Tryz.underlying65 rfl (infoFRl HZ.out.1)) ?_
      focus (rfl)
      (try simp only [Act.put, List.setIfInBounds_toArray, List.set_cons_zero, List.set_cons_succ])
      iterate 3 (first | (refine plan_skip rfl ?_ ?_; (focus (rfl)); (try simp only [Act.put, List.setIfInBounds_toArray, List.set_cons_zero, List.set_cons_succ])) | (refine plan_take (v := ?_) rfl ?_ (fun w hSw => ?_) ?_; rotate_left; (focus (rfl)); (focus (unfold F2 at hSw; (go_simp <;> with_reducible rfl))); (try simp only [Act.put, List.setIfInBounds_toArray, List.set_cons_zero, List.set_cons_succ])))
      refine plan_take rfl ?_ (fun wS hSw => exec_load_mid 65 (.tmp 23) rfl b2 (off2 + i * 35) rfl f'.cs.toList _ hSw.2 Tryz.underlying65 rfl (infoFRl HZ.out.2)) ?_
      focus (rfl)
      (try simp only [Act.put, List.setIfInBounds_toArray, List.set_cons_zero, List.set_cons_succ])
      refine plan_run rfl ?_ (fun K hK => ?_)
      focus (rfl)
      go_simp
      refine (HC.out).mono ?_
      rintro e w2 ⟨rfl, hb2⟩
      have hS2 := hS1.keep hb2
      have HI2 := Lib.hid (HI1.out.trans (hb2.mono HI1.out.size))
      refine hK.out _ _ hS2 ?_
      clear hK K 
      (try simp only [Act.put, List.setIfInBounds_toArray, List.set_cons_zero, List.set_cons_succ])
      clear hS1 hb2
      iterate 1 (first | (refine plan_skip rfl ?_ ?_; (focus (rfl)); (try simp only [Act.put, List.setIfInBounds_toArray, List.set_cons_zero, List.set_cons_succ])) | (refine plan_take (v := ?_) rfl ?_ (fun w hSw => ?_) ?_; rotate_left; (focus (rfl)); (focus (unfold F2 at hSw; (go_simp <;> with_reducible rfl))); (try simp only [Act.put, List.setIfInBounds_toArray, List.set_cons_zero, List.set_cons_succ])))
      refine plan_done ?_
      clear hS2 HC HI1
      go_wp2_with fail
      go_roundw
      case rel => exact ⟨i + 1, hlt, by go_num, HI2⟩
      case measure => simp [intOf]; omega
    · have hlt' : ¬ ((i : Int) < (n : Int)) := by omega
      clear hn
      go_wp2_with fail
      go_ret
      exact ⟨rfl, HI.out⟩
theorem sameframes19_any (w : World) (v v' : Value) (L L' : List Fm) (h : St w v L) (h' : St w v' L') (hB : Bes w L L') : Calls Tryz.prog 38 #[v, v'] w (IsPost w true) := by
  have HC := Lib.hid (sameframes_any w v v' L L' h h' hB)
  clear h h' hB
  go_enter Tryz.func38, Tryz.ntmps38
  go_wp2_with fail
  refine HC.out.mono ?_
  rintro e w2 ⟨rfl, hb2⟩
  have HB := Lib.hid hb2
  clear hb2
  go_wp2_with fail
  go_ret
  exact ⟨rfl, HB.out⟩
set_option maxHeartbeats 8000000 in
/-- two processes that differ in where their rows lie -/
theorem same_any (w : World) (p q : Pv) (L L' : List Fm) (ml : List Im) (lk : List Int) (ws : List (Int × Int)) (hs : SamePv p q) (h : PrX w p ⟨L, ml.length, lk.length, ws.length, mvs ml, iv lk, wv ws⟩) (h' : PrX w q ⟨L', ml.length, lk.length, ws.length, mvs ml, iv lk, wv ws⟩)
    (hB : Bes w L L') (hm : ∀ x ∈ ml, ImOk w x) (hn : ml.length ≤ 1000) : Calls Tryz.prog 10 #[.agg p.cells, .agg q.cells] w (IsPost w true) := by
  obtain ⟨pid, par, sv, mv, name, trap, wait, lv, wv'⟩ := p
  obtain ⟨qid, qar, tv, nv, qname, qtrap, qwait, kv, xv⟩ := q
  obtain ⟨e1, e2, e3, e4, e5⟩ := hs
  simp only at e1 e2 e3 e4 e5
  subst e1 e2 e3 e4 e5
  obtain ⟨b1, b2, hb, hz⟩ := two_boxes w (.cells #[.int .i64 qid, .int .i64 qar, sv, mv, .string qname, .bool qtrap, .bool qwait, lv, wv'] 27) (.cells #[.int .i64 qid, .int .i64 qar, tv, nv, .string qname, .bool qtrap, .bool qwait, kv, xv] 27)
  have HB := Lib.hid (And.intro hb (And.intro b1 b2))
  have HA := Lib.hid (h.keep hb)
  have HQ := Lib.hid (h'.keep hb)
  have HE := Lib.hid (And.intro (hB.keep hb) (And.intro (fun x hx => (hm x hx).keep hb : ∀ x ∈ ml, ImOk _ x) hn))
  obtain ⟨x0, -⟩ := cells_at b1 0 _ rfl
  obtain ⟨y0, -⟩ := cells_at b2 0 _ rfl
  obtain ⟨x1, -⟩ := cells_at b1 1 _ rfl
  obtain ⟨y1, -⟩ := cells_at b2 1 _ rfl
  obtain ⟨x4, -⟩ := cells_at b1 4 _ rfl
  obtain ⟨y4, -⟩ := cells_at b2 4 _ rfl
  obtain ⟨x5, -⟩ := cells_at b1 5 _ rfl
  obtain ⟨y5, -⟩ := cells_at b2 5 _ rfl
  obtain ⟨x6, -⟩ := cells_at b1 6 _ rfl
  obtain ⟨y6, -⟩ := cells_at b2 6 _ rfl
  obtain ⟨x7, -⟩ := cells_at b1 7 _ rfl
  obtain ⟨y7, -⟩ := cells_at b2 7 _ rfl
  clear h h' hB hm hn hb hz b1 b2
  go_enter Tryz.func10, Tryz.ntmps10
  go_wp2_with fail
  generalize (w.alloc (.cells #[.int .i64 qid, .int .i64 qar, sv, mv, .string qname, .bool qtrap, .bool qwait, lv, wv'] 27)).alloc (.cells #[.int .i64 qid, .int .i64 qar, tv, nv, .string qname, .bool qtrap, .bool qwait, kv, xv] 27) = w1 at *
  clear x0 x1 x4 x5 x6 x7 y0 y1 y4 y5 y6 y7
  refine (sameI_any w1 _ _ lk HA.out.lk HQ.out.lk).mono ?_
  rintro e w2 ⟨rfl, hb2⟩
  have HB2 := Lib.hid hb2
  obtain ⟨x8, -⟩ := cells_at (keep_heap HB.out.2.1 HB2.out) 8 _ rfl
  obtain ⟨y8, -⟩ := cells_at (keep_heap HB.out.2.2 HB2.out) 8 _ rfl
  clear hb2
  go_wp2_with fail
  clear x8 y8
  refine (sameW_any w2 _ _ ws (HA.out.wt.keep HB2.out) (HQ.out.wt.keep HB2.out)).mono ?_
  rintro e w3 ⟨rfl, hb3⟩
  have HB3 := Lib.hid (HB2.out.trans (hb3.mono HB2.out.size))
  obtain ⟨x3, -⟩ := cells_at (keep_heap HB.out.2.1 HB3.out) 3 _ rfl
  obtain ⟨y3, -⟩ := cells_at (keep_heap HB.out.2.2 HB3.out) 3 _ rfl
  clear hb3
  go_wp2_with fail
  clear x3 y3
  refine (samemail_any w3 _ _ ml (HA.out.ml.keep HB3.out) (HQ.out.ml.keep HB3.out) (fun x hx => (HE.out.2.1 x hx).keep HB3.out) HE.out.2.2).mono ?_
  rintro e w4 ⟨rfl, hb4⟩
  have HB4 := Lib.hid (HB3.out.trans (hb4.mono HB3.out.size))
  obtain ⟨x2, -⟩ := cells_at (keep_heap HB.out.2.1 HB4.out) 2 _ rfl
  obtain ⟨y2, -⟩ := cells_at (keep_heap HB.out.2.2 HB4.out) 2 _ rfl
  clear hb4
  go_wp2_with fail
  clear x2 y2
  refine (sameframes19_any w4 _ _ L L' (HA.out.st.keep HB4.out) (HQ.out.st.keep HB4.out) (HE.out.1.keep HB4.out)).mono ?_
  rintro e w5 ⟨rfl, hb5⟩
  have HB5 := Lib.hid (HB4.out.trans (hb5.mono HB4.out.size))
  clear hb5
  go_wp2_with fail
  go_ret
  exact ⟨rfl, HB.out.1.trans (HB5.out.mono HB.out.1.size)⟩
end Go.Proofs.YtemgnljegbaobaaGreatDoor
