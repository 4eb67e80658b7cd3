/- rows of monitors that rise by references: look, put. Conditions: the row reads, at most 1000 things. -/
import Derived.Test.YtemgnljegbaobaaGreatDoorNi
namespace Go.Proofs.YtemgnljegbaobaaGreatDoor
open Go.ChangeShapes Go.WideShapes Go.ChangeAt Go.RowKit
set_option linter.unusedVariables false
set_option linter.unusedSimpArgs false
set_option maxRecDepth 100000
theorem infoRWT {cs : Array Value} (h : cs.size = 2) : (Tryz.prog.info? 78).map (·.size) = some cs.size := by
  have : (Tryz.prog.info? 78).map (·.size) = some 2 := by kernel_rfl
  rw [this, h]
theorem mkW_any (w : World) (ao : Option Addr) (n c : Nat) : Calls Tryz.prog 24 #[.slice ao n c] w fun e w' => e = .returned (.agg #[.slice ao n c, .func (.func 54) #[] #[]]) ∧ Below w.heap.size w w' := by
  have HB := Lib.hid ((Below.refl w.heap.size w).alloc (Nat.le_refl _) (.cells #[.slice ao n c, .func (.func 54) #[] #[]] 78))
  have HN := Lib.hid (heap_new w (.cells #[.slice ao n c, .func (.func 54) #[] #[]] 78))
  go_enter Tryz.func24, Tryz.ntmps24
  go_wp2_with (with_reducible refine stop_op (o := ⟨_, .store 78 (.tmp 2) (.tmp 4), _, _, _, _⟩) ?_)
  refine Lib.hid ?_
  refine wpList_store_new (o := ⟨none, _, _, _, _, _⟩) rfl 78 (.tmp 2) (.tmp 4) rfl #[.slice ao n c, .func (.func 54) #[] #[]] rfl rfl (infoRWT rfl) rfl (by simp [Value.oneCell']) ?_
  generalize w.alloc (.cells #[.slice ao n c, .func (.func 54) #[] #[]] 78) = w1 at *
  go_wp2_with fail
  exact ret_cell HN.out rfl Tryz.underlying78 rfl (infoRWT rfl) rfl ⟨rfl, HB.out⟩
/-- what a search reads -/
def KSW (rb : Nat) (lv : Value) (W : World) : Prop := W.cell? ⟨rb, 0, none⟩ = some lv ∧ W.cell? ⟨rb, 1, none⟩ = some (.func (.func 54) #[] #[])
def PBW (kb : Nat) (x : Int × Int) (W : World) : Prop := W.cell? ⟨kb, 0, none⟩ = some (.int .i64 x.1) ∧ W.cell? ⟨kb, 1, none⟩ = some (.int .i64 x.2)
def KLW (rb kb pb : Nat) (lv : Value) (k : Int) (x : Int × Int) (W : World) : Prop := W.cell? ⟨rb, 0, none⟩ = some lv ∧ W.cell? ⟨rb, 1, none⟩ = some (.func (.func 54) #[] #[]) ∧ W.cell? ⟨kb, 0, none⟩ = some (.int .i64 k) ∧ W.cell? ⟨pb, 0, none⟩ = some (.int .i64 x.1) ∧ W.cell? ⟨pb, 1, none⟩ = some (.int .i64 x.2)
def KPW (rb kb pb : Nat) (lv : Value) (y x : Int × Int) (W : World) : Prop := W.cell? ⟨rb, 0, none⟩ = some lv ∧ W.cell? ⟨rb, 1, none⟩ = some (.func (.func 54) #[] #[]) ∧ W.cell? ⟨kb, 0, none⟩ = some (.int .i64 y.1) ∧ W.cell? ⟨kb, 1, none⟩ = some (.int .i64 y.2) ∧ W.cell? ⟨pb, 0, none⟩ = some (.int .i64 x.1) ∧ W.cell? ⟨pb, 1, none⟩ = some (.int .i64 x.2)
def KQW (rb kb : Nat) (lv : Value) (y : Int × Int) (W : World) : Prop := W.cell? ⟨rb, 0, none⟩ = some lv ∧ W.cell? ⟨rb, 1, none⟩ = some (.func (.func 54) #[] #[]) ∧ W.cell? ⟨kb, 0, none⟩ = some (.int .i64 y.1) ∧ W.cell? ⟨kb, 1, none⟩ = some (.int .i64 y.2)
theorem KLW.keep {rb kb pb : Nat} {lv : Value} {k : Int} {x : Int × Int} {W W' : World} (h : KLW rb kb pb lv k x W) (hb : Below W.heap.size W W') : KLW rb kb pb lv k x W' := ⟨keep_cell h.1 hb, keep_cell h.2.1 hb, keep_cell h.2.2.1 hb, keep_cell h.2.2.2.1 hb, keep_cell h.2.2.2.2 hb⟩
theorem KPW.keep {rb kb pb : Nat} {lv : Value} {y x : Int × Int} {W W' : World} (h : KPW rb kb pb lv y x W) (hb : Below W.heap.size W W') : KPW rb kb pb lv y x W' := ⟨keep_cell h.1 hb, keep_cell h.2.1 hb, keep_cell h.2.2.1 hb, keep_cell h.2.2.2.1 hb, keep_cell h.2.2.2.2.1 hb, keep_cell h.2.2.2.2.2 hb⟩
theorem KQW.keep {rb kb : Nat} {lv : Value} {y : Int × Int} {W W' : World} (h : KQW rb kb lv y W) (hb : Below W.heap.size W W') : KQW rb kb lv y W' := ⟨keep_cell h.1 hb, keep_cell h.2.1 hb, keep_cell h.2.2.1 hb, keep_cell h.2.2.2 hb⟩
theorem keyW_any (w : World) (x : Int × Int) : Calls Tryz.prog 54 #[.agg #[.int .i64 x.1, .int .i64 x.2]] w (IntPost w x.1) := by
  have HB := Lib.hid ((Below.refl w.heap.size w).alloc (Nat.le_refl _) (.cells #[.int .i64 x.1, .int .i64 x.2] 81))
  go_enter Tryz.func54, Tryz.ntmps54
  go_wp2_with fail
  go_ret
  exact ⟨rfl, HB.out⟩
theorem put1W_any (w : World) (rb kb : Nat) (lv : Value) (x y : Int × Int) (h : KQW rb kb lv y w) : Calls Tryz.prog 70 #[.agg #[.int .i64 x.1, .int .i64 x.2], .pointer (some ⟨rb, 0, none⟩), .pointer (some ⟨kb, 0, none⟩)] w (IsPost w (decide (y.1 < x.1))) := by
  have hb := (Below.refl w.heap.size w).alloc (Nat.le_refl _) (.cells #[.int .i64 x.1, .int .i64 x.2] 81)
  have hn := heap_new w (.cells #[.int .i64 x.1, .int .i64 x.2] 81)
  have h1 := h.keep hb
  have HP := Lib.hid (show KPW rb kb w.heap.size lv y x (w.alloc (.cells #[.int .i64 x.1, .int .i64 x.2] 81)) from ⟨h1.1, h1.2.1, h1.2.2.1, h1.2.2.2, (cells_at hn 0 _ rfl).1, (cells_at hn 1 _ rfl).1⟩)
  have HB0 := Lib.hid hb
  clear hb hn h1 h
  go_enter Tryz.func70, Tryz.ntmps70
  go_wp2_with fail
  generalize w.alloc (.cells #[.int .i64 x.1, .int .i64 x.2] 81) = w0 at *
  have hd := (Below.refl w0.heap.size w0).drew
  have hS := HP.out.keep hd
  have HB1 := Lib.hid (HB0.out.trans (hd.mono HB0.out.size))
  clear hd
  refine region_plan (KPW rb kb w.heap.size lv y x) [(0, 0), (1, 0), (2, 0), (4, 0), (5, 0), (6, 0), (3, 1), (7, 1), (8, 0), (9, 0)] (by kernel_rfl) (by kernel_rfl) (by kernel_rfl) hS ?_
  generalize w0.drew = w1 at *
  iterate 6 (first | (refine plan_skip rfl ?_ ?_; (focus (rfl)); (try simp only [Act.put, List.setIfInBounds_toArray, List.set_cons_zero, List.set_cons_succ])) | (refine plan_take (v := ?_) rfl ?_ (fun w hSw => ?_) ?_; rotate_left; (focus (rfl)); (focus (unfold KPW at hSw; (go_simp <;> with_reducible rfl))); (try simp only [Act.put, List.setIfInBounds_toArray, List.set_cons_zero, List.set_cons_succ])))
  refine plan_run rfl ?_ (fun K hK => ?_)
  focus (rfl)
  go_simp
  refine (keyW_any _ x).mono ?_
  rintro e w2 ⟨rfl, hb2⟩
  have hS2 := hS.keep hb2
  refine hK.out _ _ hS2 ?_
  clear hK K 
  (try simp only [Act.put, List.setIfInBounds_toArray, List.set_cons_zero, List.set_cons_succ])
  refine plan_run rfl ?_ (fun K hK => ?_)
  focus (rfl)
  go_simp
  refine (keyW_any _ y).mono ?_
  rintro e w3 ⟨rfl, hb3⟩
  have hS3 := hS2.keep hb3
  refine hK.out _ _ hS3 ?_
  clear hK K 
  (try simp only [Act.put, List.setIfInBounds_toArray, List.set_cons_zero, List.set_cons_succ])
  iterate 2 (first | (refine plan_skip rfl ?_ ?_; (focus (rfl)); (try simp only [Act.put, List.setIfInBounds_toArray, List.set_cons_zero, List.set_cons_succ])) | (refine plan_take (v := ?_) rfl ?_ (fun w hSw => ?_) ?_; rotate_left; (focus (rfl)); (focus (unfold KPW at hSw; (go_simp <;> with_reducible rfl))); (try simp only [Act.put, List.setIfInBounds_toArray, List.set_cons_zero, List.set_cons_succ])))
  refine plan_done ?_
  have HB := Lib.hid (HB1.out.trans ((hb2.trans (hb3.mono hb2.size)).mono HB1.out.size))
  clear hS hS2 hS3 hb2 hb3
  go_wp2_with fail
  go_ret
  exact ⟨rfl, HB.out⟩
def W3 (rb kb : Nat) (lv : Value) (k : Int) (W : World) : Prop := W.cell? ⟨rb, 0, none⟩ = some lv ∧ W.cell? ⟨rb, 1, none⟩ = some (.func (.func 54) #[] #[]) ∧ W.cell? ⟨kb, 0, none⟩ = some (.int .i64 k)
theorem W3.keep {rb kb : Nat} {lv : Value} {x : Int} {W W' : World} (h : W3 rb kb lv x W) (hb : Below W.heap.size W W') : W3 rb kb lv x W' := ⟨keep_cell h.1 hb, keep_cell h.2.1 hb, keep_cell h.2.2 hb⟩
theorem look1W_any (w : World) (rb kb : Nat) (lv : Value) (x : Int × Int) (k : Int) (h : W3 rb kb lv k w) : Calls Tryz.prog 69 #[.agg #[.int .i64 x.1, .int .i64 x.2], .pointer (some ⟨rb, 0, none⟩), .pointer (some ⟨kb, 0, none⟩)] w (IsPost w (x.1 == k)) := by
  have hb := (Below.refl w.heap.size w).alloc (Nat.le_refl _) (.cells #[.int .i64 x.1, .int .i64 x.2] 81)
  have hn := heap_new w (.cells #[.int .i64 x.1, .int .i64 x.2] 81)
  have HP := Lib.hid (show KLW rb kb w.heap.size lv k x (w.alloc (.cells #[.int .i64 x.1, .int .i64 x.2] 81)) from ⟨keep_cell h.1 hb, keep_cell h.2.1 hb, keep_cell h.2.2 hb, (cells_at hn 0 _ rfl).1, (cells_at hn 1 _ rfl).1⟩)
  have HB0 := Lib.hid hb
  clear hb hn h
  go_enter Tryz.func69, Tryz.ntmps69
  go_wp2_with fail
  generalize w.alloc (.cells #[.int .i64 x.1, .int .i64 x.2] 81) = w0 at *
  have hd := (Below.refl w0.heap.size w0).drew
  have hS := HP.out.keep hd
  have HB1 := Lib.hid (HB0.out.trans (hd.mono HB0.out.size))
  clear hd
  refine region_plan (KLW rb kb w.heap.size lv k x) [(0, 0), (1, 0), (2, 0), (4, 0), (3, 1), (5, 0), (6, 0)] (by kernel_rfl) (by kernel_rfl) (by kernel_rfl) hS ?_
  generalize w0.drew = w1 at *
  iterate 4 (first | (refine plan_skip rfl ?_ ?_; (focus (rfl)); (try simp only [Act.put, List.setIfInBounds_toArray, List.set_cons_zero, List.set_cons_succ])) | (refine plan_take (v := ?_) rfl ?_ (fun w hSw => ?_) ?_; rotate_left; (focus (rfl)); (focus (unfold KLW at hSw; (go_simp <;> with_reducible rfl))); (try simp only [Act.put, List.setIfInBounds_toArray, List.set_cons_zero, List.set_cons_succ])))
  refine plan_run rfl ?_ (fun K hK => ?_)
  focus (rfl)
  go_simp
  refine (keyW_any _ x).mono ?_
  rintro e w2 ⟨rfl, hb2⟩
  have hS2 := hS.keep hb2
  refine hK.out _ _ hS2 ?_
  clear hK K 
  (try simp only [Act.put, List.setIfInBounds_toArray, List.set_cons_zero, List.set_cons_succ])
  iterate 2 (first | (refine plan_skip rfl ?_ ?_; (focus (rfl)); (try simp only [Act.put, List.setIfInBounds_toArray, List.set_cons_zero, List.set_cons_succ])) | (refine plan_take (v := ?_) rfl ?_ (fun w hSw => ?_) ?_; rotate_left; (focus (rfl)); (focus (unfold KLW at hSw; (go_simp <;> with_reducible rfl))); (try simp only [Act.put, List.setIfInBounds_toArray, List.set_cons_zero, List.set_cons_succ])))
  refine plan_done ?_
  have HB := Lib.hid (HB1.out.trans (hb2.mono HB1.out.size))
  clear hS hS2 hb2
  go_wp2_with fail
  go_ret
  exact ⟨rfl, HB.out⟩
set_option maxHeartbeats 4000000 in
theorem lookW_any (w : World) (v : Value) (ps : List (Int × Int)) (k : Int) (h : Rw w v ps.length 2 (wv ps)) (hn : ps.length ≤ 1000) :
    Calls Tryz.prog 41 #[.agg #[v, .func (.func 54) #[] #[]], .int .i64 k] w (IntPost w (idxOf (fun x => x.1 == k) ps)) := by
  obtain ⟨ao, c, rfl, hc1, hc2⟩ := h.slice
  obtain ⟨b1, b2, hb, -⟩ := two_boxes w (.cells #[.slice ao ps.length c, .func (.func 54) #[] #[]] 78) (.cells #[.int .i64 k] 3)
  have HB := Lib.hid hb
  have hks : W3 w.heap.size (w.heap.size + 1) (.slice ao ps.length c) k ((w.alloc (.cells #[.slice ao ps.length c, .func (.func 54) #[] #[]] 78)).alloc (.cells #[.int .i64 k] 3)) := ⟨(cells_at b1 0 _ rfl).1, (cells_at b1 1 _ rfl).1, (cells_at b2 0 _ rfl).1⟩
  have HK := Lib.hid hks
  have HI := Lib.hid (indexW_any _ (.slice ao ps.length c) ps 69 #[.pointer (some ⟨w.heap.size, 0, none⟩), .pointer (some ⟨w.heap.size + 1, 0, none⟩)] (fun x => x.1 == k) (enters_of Tryz.func69 (by kernel_rfl) rfl) (h.keep hb) (by omega) (fun x _ W hW => look1W_any W _ _ _ x k (hks.keep hW)))
  clear h hb b1 b2
  obtain ⟨x0, x1, x2⟩ := hks
  go_enter Tryz.func41, Tryz.ntmps41
  go_wp2_with fail
  refine HI.out.mono ?_
  rintro e w2 ⟨rfl, hb2⟩
  have HB2 := Lib.hid (HB.out.trans (hb2.mono HB.out.size))
  clear hb2 x0 x1 x2 HI HK
  go_wp2_with fail
  go_ret
  exact ⟨rfl, HB2.out⟩
theorem wv_app (a b : List (Int × Int)) : wv (a ++ b) = wv a ++ wv b := by simp [wv]
theorem wv_take (ps : List (Int × Int)) (k : Nat) : (wv ps).take (k * 2) = wv (ps.take k) := by
  have e : wv ps = wv (ps.take k) ++ wv (ps.drop k) := by rw [← wv_app, List.take_append_drop]
  rw [e]
  rcases Nat.lt_or_ge k ps.length with h | h
  · exact List.take_left' (by rw [wv_len, List.length_take]; omega)
  · rw [List.drop_of_length_le h, List.take_of_length_le h]
    simp only [wv, List.flatMap_nil, List.append_nil]
    exact List.take_of_length_le (by have := wv_len ps; unfold wv at this; rw [this]; omega)
theorem wv_drop (ps : List (Int × Int)) (k : Nat) : (wv ps).drop (k * 2) = wv (ps.drop k) := by
  have e : wv ps = wv (ps.take k) ++ wv (ps.drop k) := by rw [← wv_app, List.take_append_drop]
  rw [e]
  rcases Nat.lt_or_ge k ps.length with h | h
  · exact List.drop_left' (by rw [wv_len, List.length_take]; omega)
  · rw [List.drop_of_length_le h, List.take_of_length_le h]
    simp only [wv, List.flatMap_nil, List.append_nil]
    exact List.drop_of_length_le (by have := wv_len ps; unfold wv at this; rw [this]; omega)
theorem wv_ins0 (ps : List (Int × Int)) (x : Int × Int) (k : Nat) : ins (k * 2) [.int .i64 x.1, .int .i64 x.2] (wv ps) = wv (ps.take k ++ (x :: ps.drop k)) := by
  have e : wv (x :: ps.drop k) = [.int .i64 x.1, .int .i64 x.2] ++ wv (ps.drop k) := rfl
  rw [ins, wv_take, wv_drop, wv_app, e]
/-- a monitor's place in a row that rises -/
def placeW (ps : List (Int × Int)) (x : Int × Int) : Nat := if idxOf (fun y => decide (x.1 < y.1)) ps < 0 then ps.length else (idxOf (fun y => decide (x.1 < y.1)) ps).toNat
def putLW (ps : List (Int × Int)) (x : Int × Int) : List (Int × Int) := ps.take (placeW ps x) ++ (x :: ps.drop (placeW ps x))
theorem placeW_le (ps : List (Int × Int)) (x : Int × Int) : placeW ps x ≤ ps.length := by
  have h := idxOf_lt (p := fun y => decide (x.1 < y.1)) ps
  unfold placeW
  split <;> omega
theorem wv_ins (ps : List (Int × Int)) (x : Int × Int) (k : Nat) : ins (k * 2) [.int .i64 x.1, .int .i64 x.2] (wv ps) = wv (ps.take k ++ (x :: ps.drop k)) := by
  exact wv_ins0 ps x k
def PutW (w : World) (ps : List (Int × Int)) (x : Int × Int) (e : Ending) (w' : World) : Prop := ∃ v', e = .returned v' ∧ w'.ownsRow w.heap.size 81 2 v' (ps.length + 1) (wv (putLW ps x)) ∧ Below w.heap.size w w'
set_option maxHeartbeats 4000000 in
theorem putW_any (w : World) (v : Value) (ps : List (Int × Int)) (k : Int × Int) (h : Rw w v ps.length 2 (wv ps)) (hn : ps.length ≤ 1000) :
    Calls Tryz.prog 42 #[.agg #[v, .func (.func 54) #[] #[]], .agg #[.int .i64 k.1, .int .i64 k.2]] w (PutW w ps k) := by
  obtain ⟨ao, c, rfl, hc1, hc2⟩ := h.slice
  obtain ⟨b1, b2, hb, -⟩ := two_boxes w (.cells #[.slice ao ps.length c, .func (.func 54) #[] #[]] 78) (.cells #[.int .i64 k.1, .int .i64 k.2] 81)
  have HB := Lib.hid hb
  have HR := Lib.hid (h.keep hb)
  have hks : KQW w.heap.size (w.heap.size + 1) (.slice ao ps.length c) k ((w.alloc (.cells #[.slice ao ps.length c, .func (.func 54) #[] #[]] 78)).alloc (.cells #[.int .i64 k.1, .int .i64 k.2] 81)) := ⟨(cells_at b1 0 _ rfl).1, (cells_at b1 1 _ rfl).1, (cells_at b2 0 _ rfl).1, (cells_at b2 1 _ rfl).1⟩
  have HI := Lib.hid (indexW_any _ (.slice ao ps.length c) ps 70 #[.pointer (some ⟨w.heap.size, 0, none⟩), .pointer (some ⟨w.heap.size + 1, 0, none⟩)] (fun x => decide (k.1 < x.1)) (enters_of Tryz.func70 (by kernel_rfl) rfl) (h.keep hb) (by omega) (fun x _ W hW => put1W_any W _ _ _ x k (hks.keep hW)))
  clear h hb b1 b2
  have HK := Lib.hid hks
  obtain ⟨x0, x1, x2, x3⟩ := hks
  have hpl : placeW ps k = if idxOf (fun y => decide (k.1 < y.1)) ps < 0 then ps.length else (idxOf (fun y => decide (k.1 < y.1)) ps).toNat := rfl
  have hlt := idxOf_lt (p := fun y => decide (k.1 < y.1)) ps
  go_enter Tryz.func42, Tryz.ntmps42
  go_wp2_with fail
  generalize (w.alloc (.cells #[.slice ao ps.length c, .func (.func 54) #[] #[]] 78)).alloc (.cells #[.int .i64 k.1, .int .i64 k.2] 81) = w1 at *
  refine HI.out.mono ?_
  rintro e w2 ⟨rfl, hb2⟩
  have HB2 := Lib.hid (HB.out.trans (hb2.mono HB.out.size))
  have HR2 := Lib.hid (HR.out.keep hb2)
  have HK2 := Lib.hid (HK.out.keep hb2)
  obtain ⟨q, hq⟩ : ∃ q, placeW ps k = q := ⟨_, rfl⟩
  have HQ := Lib.hid hq
  rw [hq] at hpl
  have hqle : q ≤ ps.length := by rw [← hq]; exact placeW_le ps k
  clear x0 x1 x2 x3 HI HK HR HB hb2 hq
  generalize idxOf (fun y => decide (k.1 < y.1)) ps = ix at *
  have hcut : True := trivial
  by_cases hneg : ix < 0
  · rw [if_pos hneg] at hpl
    obtain ⟨x0, x1, x2, x3⟩ := HK2.out
    have hd0 : decide (ix < 0) = true := decide_eq_true hneg
    subst hpl
    go_wp2_with fail
    have hd := (Below.refl w2.heap.size w2).drew
    have hS : KQW w.heap.size (w.heap.size + 1) (.slice ao ps.length c) k w2.drew := HK2.out.keep hd
    have HR3 := Lib.hid (HR2.out.keep hd)
    have HB3 := Lib.hid (HB2.out.trans (hd.mono HB2.out.size))
    have HK3 := Lib.hid hS
    clear x0 x1 x2 x3 hd HB2 HK2 HR2
    refine region_plan (KQW w.heap.size (w.heap.size + 1) (.slice ao ps.length c) k) [(0, 0), (1, 0), (3, 0), (4, 0), (2, 7), (6, 1), (7, 0)] (by kernel_rfl) (by kernel_rfl) (by kernel_rfl) hS ?_
    generalize w2.drew = w3 at *
    iterate 4 (first | (refine plan_skip rfl ?_ ?_; (focus (rfl)); (try simp only [Act.put, List.setIfInBounds_toArray, List.set_cons_zero, List.set_cons_succ])) | (refine plan_take (v := ?_) rfl ?_ (fun w hSw => ?_) ?_; rotate_left; (focus (rfl)); (focus (unfold KQW at hSw; (go_simp <;> with_reducible rfl))); (try simp only [Act.put, List.setIfInBounds_toArray, List.set_cons_zero, List.set_cons_succ])))
    refine ⟨?_, ?_⟩
    · skip
      refine plan_op rfl ?_ (fun K hK => ?_)
      focus (rfl)
      go_simp
      refine (cloneW_any _ _ _ _ HR3.out (by omega)).mono ?_
      rintro e w4 ⟨v4, rfl, o4, hb4⟩
      obtain ⟨a4, c4, rfl⟩ := own_slice o4
      have hS4 := hS.keep hb4
      refine hK.out _ _ hS4 ?_
      clear hK K
      (try simp only [Act.put, List.setIfInBounds_toArray, List.set_cons_zero, List.set_cons_succ])
      refine plan_op rfl ?_ (fun K hK => ?_)
      focus (rfl)
      go_simp
      have hbn := (Below.refl w4.heap.size w4).alloc (Nat.le_refl _) (.cells #[.int .i64 k.1, .int .i64 k.2] 81)
      have hS3 := hS4.keep hbn
      refine hK.out _ _ hS3 ?_
      clear hK K
      (try simp only [Act.put, List.setIfInBounds_toArray, List.set_cons_zero, List.set_cons_succ])
      have hb34 := hb4.trans (hbn.mono hb4.size)
      have hov : (w4.alloc (.cells #[.int .i64 k.1, .int .i64 k.2] 81)).ownsRow w3.heap.size 81 2 (.slice a4 ps.length c4) ps.length (wv ps) ∧ (w4.alloc (.cells #[.int .i64 k.1, .int .i64 k.2] 81)).heap[w4.heap.size]? = some (.cells [Value.int .i64 k.1, Value.int .i64 k.2].toArray 81 (0, 0)) ∧ (Value.slice a4 ps.length c4).ownBlock ≠ some w4.heap.size ∧ Below w3.heap.size w3 (w4.alloc (.cells #[.int .i64 k.1, .int .i64 k.2] 81)) ∧ w3.heap.size ≤ (w3).heap.size ∧ w3.heap.size ≤ (w4.alloc (.cells #[.int .i64 k.1, .int .i64 k.2] 81)).heap.size :=
        ⟨own_keep o4 hbn, heap_new _ _, fun e => by have := own_lt o4 (Nat.le_refl _) _ e; omega, hb34, Nat.le_refl _, hb34.size⟩
      clear o4 hb4 hS4 hbn hb34 hS
      have HOV := Lib.hid hov
      clear hov hS3
      refine plan_run rfl ?_ (fun K hK => ?_)
      focus (rfl)
      go_simp
      refine (insertW_any _ _ _ _ _ ps.length _ [.int .i64 k.1, .int .i64 k.2] HOV.out.1 (wv_one ps) (fun u hu => by simp only [List.mem_cons, List.not_mem_nil, or_false] at hu; rcases hu with rfl | rfl <;> rfl) (by omega) hn HOV.out.2.2.2.2.2 HOV.out.2.1 rfl HOV.out.2.2.1).mono ?_
      rintro e W5 ⟨v5, rfl, o5, hb5⟩
      have hBel := hb5.below (B := w3.heap.size) HOV.out.2.2.2.2.2 (fun k hk => own_base HOV.out.1 k hk)
      have hS5 : KQW w.heap.size (w.heap.size + 1) (.slice ao ps.length c) k W5 := HK3.out.keep (HOV.out.2.2.2.1.trans hBel)
      refine hK.out _ _ hS5 ?_
      clear hK K 
      (try simp only [Act.put, List.setIfInBounds_toArray, List.set_cons_zero, List.set_cons_succ])
      have HE := Lib.hid (And.intro o5 (HB3.out.trans ((HOV.out.2.2.2.1.trans hBel).mono HB3.out.size)))
      have HS := Lib.hid HB3.out.size
      clear o5 hb5 hBel HOV
      iterate 1 (first | (refine plan_skip rfl ?_ ?_; (focus (rfl)); (try simp only [Act.put, List.setIfInBounds_toArray, List.set_cons_zero, List.set_cons_succ])) | (refine plan_take (v := ?_) rfl ?_ (fun w hSw => ?_) ?_; rotate_left; (focus (rfl)); (focus (unfold KQW at hSw; (go_simp <;> with_reducible rfl))); (try simp only [Act.put, List.setIfInBounds_toArray, List.set_cons_zero, List.set_cons_succ])))
      refine plan_done ?_
      go_wp2_with fail
      go_ret
      rw [wv_ins] at HE
      refine ⟨_, rfl, ?_, HE.out.2⟩
      have hpp : putLW ps k = ps.take (ps.length) ++ (k :: ps.drop (ps.length)) := by unfold putLW; rw [HQ.out]
      rw [hpp]
      exact own_lower HE.out.1 HS.out
    · skip
      refine plan_op rfl ?_ (fun K hK => ?_)
      focus (rfl)
      go_simp
      have hbn := (Below.refl w3.heap.size w3).alloc (Nat.le_refl _) (.cells #[.int .i64 k.1, .int .i64 k.2] 81)
      have hS3 := hS.keep hbn
      refine hK.out _ _ hS3 ?_
      clear hK K
      (try simp only [Act.put, List.setIfInBounds_toArray, List.set_cons_zero, List.set_cons_succ])
      refine plan_op rfl ?_ (fun K hK => ?_)
      focus (rfl)
      go_simp
      refine (cloneW_any _ _ _ _ (HR3.out.keep hbn) (by omega)).mono ?_
      rintro e w4 ⟨v4, rfl, o4, hb4⟩
      obtain ⟨a4, c4, rfl⟩ := own_slice o4
      have hS4 := hS3.keep hb4
      refine hK.out _ _ hS4 ?_
      clear hK K
      (try simp only [Act.put, List.setIfInBounds_toArray, List.set_cons_zero, List.set_cons_succ])
      have hb34 := hbn.trans (hb4.mono hbn.size)
      have hov : w4.ownsRow w3.heap.size 81 2 (.slice a4 ps.length c4) ps.length (wv ps) ∧ w4.heap[w3.heap.size]? = some (.cells [Value.int .i64 k.1, Value.int .i64 k.2].toArray 81 (0, 0)) ∧ (Value.slice a4 ps.length c4).ownBlock ≠ some w3.heap.size ∧ Below w3.heap.size w3 w4 ∧ w3.heap.size ≤ w3.heap.size ∧ w3.heap.size ≤ w4.heap.size :=
        ⟨own_lower o4 (by simp), keep_heap (heap_new _ _) hb4, fun e => by have := own_base o4 _ e; simp at this; omega, hb34, Nat.le_refl _, hb34.size⟩
      clear o4 hb4 hS3 hbn hb34 hS
      have hS3 := hS4
      clear hS4
      have HOV := Lib.hid hov
      clear hov hS3
      refine plan_run rfl ?_ (fun K hK => ?_)
      focus (rfl)
      go_simp
      refine (insertW_any _ _ _ _ _ ps.length _ [.int .i64 k.1, .int .i64 k.2] HOV.out.1 (wv_one ps) (fun u hu => by simp only [List.mem_cons, List.not_mem_nil, or_false] at hu; rcases hu with rfl | rfl <;> rfl) (by omega) hn HOV.out.2.2.2.2.2 HOV.out.2.1 rfl HOV.out.2.2.1).mono ?_
      rintro e W5 ⟨v5, rfl, o5, hb5⟩
      have hBel := hb5.below (B := w3.heap.size) HOV.out.2.2.2.2.2 (fun k hk => own_base HOV.out.1 k hk)
      have hS5 : KQW w.heap.size (w.heap.size + 1) (.slice ao ps.length c) k W5 := HK3.out.keep (HOV.out.2.2.2.1.trans hBel)
      refine hK.out _ _ hS5 ?_
      clear hK K 
      (try simp only [Act.put, List.setIfInBounds_toArray, List.set_cons_zero, List.set_cons_succ])
      have HE := Lib.hid (And.intro o5 (HB3.out.trans ((HOV.out.2.2.2.1.trans hBel).mono HB3.out.size)))
      have HS := Lib.hid HB3.out.size
      clear o5 hb5 hBel HOV
      iterate 1 (first | (refine plan_skip rfl ?_ ?_; (focus (rfl)); (try simp only [Act.put, List.setIfInBounds_toArray, List.set_cons_zero, List.set_cons_succ])) | (refine plan_take (v := ?_) rfl ?_ (fun w hSw => ?_) ?_; rotate_left; (focus (rfl)); (focus (unfold KQW at hSw; (go_simp <;> with_reducible rfl))); (try simp only [Act.put, List.setIfInBounds_toArray, List.set_cons_zero, List.set_cons_succ])))
      refine plan_done ?_
      go_wp2_with fail
      go_ret
      rw [wv_ins] at HE
      refine ⟨_, rfl, ?_, HE.out.2⟩
      have hpp : putLW ps k = ps.take (ps.length) ++ (k :: ps.drop (ps.length)) := by unfold putLW; rw [HQ.out]
      rw [hpp]
      exact own_lower HE.out.1 HS.out
  · rw [if_neg hneg] at hpl
    obtain rfl : ix = (q : Int) := by omega
    obtain ⟨x0, x1, x2, x3⟩ := HK2.out
    have hd0 : decide ((q : Int) < 0) = false := decide_eq_false hneg
    clear hpl hlt
    go_wp2_with fail
    have hd := (Below.refl w2.heap.size w2).drew
    have hS : KQW w.heap.size (w.heap.size + 1) (.slice ao ps.length c) k w2.drew := HK2.out.keep hd
    have HR3 := Lib.hid (HR2.out.keep hd)
    have HB3 := Lib.hid (HB2.out.trans (hd.mono HB2.out.size))
    have HK3 := Lib.hid hS
    clear x0 x1 x2 x3 hd HB2 HK2 HR2
    refine region_plan (KQW w.heap.size (w.heap.size + 1) (.slice ao ps.length c) k) [(0, 0), (1, 0), (3, 0), (4, 0), (2, 7), (6, 1), (7, 0)] (by kernel_rfl) (by kernel_rfl) (by kernel_rfl) hS ?_
    generalize w2.drew = w3 at *
    iterate 4 (first | (refine plan_skip rfl ?_ ?_; (focus (rfl)); (try simp only [Act.put, List.setIfInBounds_toArray, List.set_cons_zero, List.set_cons_succ])) | (refine plan_take (v := ?_) rfl ?_ (fun w hSw => ?_) ?_; rotate_left; (focus (rfl)); (focus (unfold KQW at hSw; (go_simp <;> with_reducible rfl))); (try simp only [Act.put, List.setIfInBounds_toArray, List.set_cons_zero, List.set_cons_succ])))
    refine ⟨?_, ?_⟩
    · skip
      refine plan_op rfl ?_ (fun K hK => ?_)
      focus (rfl)
      go_simp
      refine (cloneW_any _ _ _ _ HR3.out (by omega)).mono ?_
      rintro e w4 ⟨v4, rfl, o4, hb4⟩
      obtain ⟨a4, c4, rfl⟩ := own_slice o4
      have hS4 := hS.keep hb4
      refine hK.out _ _ hS4 ?_
      clear hK K
      (try simp only [Act.put, List.setIfInBounds_toArray, List.set_cons_zero, List.set_cons_succ])
      refine plan_op rfl ?_ (fun K hK => ?_)
      focus (rfl)
      go_simp
      have hbn := (Below.refl w4.heap.size w4).alloc (Nat.le_refl _) (.cells #[.int .i64 k.1, .int .i64 k.2] 81)
      have hS3 := hS4.keep hbn
      refine hK.out _ _ hS3 ?_
      clear hK K
      (try simp only [Act.put, List.setIfInBounds_toArray, List.set_cons_zero, List.set_cons_succ])
      have hb34 := hb4.trans (hbn.mono hb4.size)
      have hov : (w4.alloc (.cells #[.int .i64 k.1, .int .i64 k.2] 81)).ownsRow w3.heap.size 81 2 (.slice a4 ps.length c4) ps.length (wv ps) ∧ (w4.alloc (.cells #[.int .i64 k.1, .int .i64 k.2] 81)).heap[w4.heap.size]? = some (.cells [Value.int .i64 k.1, Value.int .i64 k.2].toArray 81 (0, 0)) ∧ (Value.slice a4 ps.length c4).ownBlock ≠ some w4.heap.size ∧ Below w3.heap.size w3 (w4.alloc (.cells #[.int .i64 k.1, .int .i64 k.2] 81)) ∧ w3.heap.size ≤ (w3).heap.size ∧ w3.heap.size ≤ (w4.alloc (.cells #[.int .i64 k.1, .int .i64 k.2] 81)).heap.size :=
        ⟨own_keep o4 hbn, heap_new _ _, fun e => by have := own_lt o4 (Nat.le_refl _) _ e; omega, hb34, Nat.le_refl _, hb34.size⟩
      clear o4 hb4 hS4 hbn hb34 hS
      have HOV := Lib.hid hov
      clear hov hS3
      refine plan_run rfl ?_ (fun K hK => ?_)
      focus (rfl)
      go_simp
      refine (insertW_any _ _ _ _ _ q _ [.int .i64 k.1, .int .i64 k.2] HOV.out.1 (wv_one ps) (fun u hu => by simp only [List.mem_cons, List.not_mem_nil, or_false] at hu; rcases hu with rfl | rfl <;> rfl) (by omega) hn HOV.out.2.2.2.2.2 HOV.out.2.1 rfl HOV.out.2.2.1).mono ?_
      rintro e W5 ⟨v5, rfl, o5, hb5⟩
      have hBel := hb5.below (B := w3.heap.size) HOV.out.2.2.2.2.2 (fun k hk => own_base HOV.out.1 k hk)
      have hS5 : KQW w.heap.size (w.heap.size + 1) (.slice ao ps.length c) k W5 := HK3.out.keep (HOV.out.2.2.2.1.trans hBel)
      refine hK.out _ _ hS5 ?_
      clear hK K 
      (try simp only [Act.put, List.setIfInBounds_toArray, List.set_cons_zero, List.set_cons_succ])
      have HE := Lib.hid (And.intro o5 (HB3.out.trans ((HOV.out.2.2.2.1.trans hBel).mono HB3.out.size)))
      have HS := Lib.hid HB3.out.size
      clear o5 hb5 hBel HOV
      iterate 1 (first | (refine plan_skip rfl ?_ ?_; (focus (rfl)); (try simp only [Act.put, List.setIfInBounds_toArray, List.set_cons_zero, List.set_cons_succ])) | (refine plan_take (v := ?_) rfl ?_ (fun w hSw => ?_) ?_; rotate_left; (focus (rfl)); (focus (unfold KQW at hSw; (go_simp <;> with_reducible rfl))); (try simp only [Act.put, List.setIfInBounds_toArray, List.set_cons_zero, List.set_cons_succ])))
      refine plan_done ?_
      go_wp2_with fail
      go_ret
      rw [wv_ins] at HE
      refine ⟨_, rfl, ?_, HE.out.2⟩
      have hpp : putLW ps k = ps.take (q) ++ (k :: ps.drop (q)) := by unfold putLW; rw [HQ.out]
      rw [hpp]
      exact own_lower HE.out.1 HS.out
    · skip
      refine plan_op rfl ?_ (fun K hK => ?_)
      focus (rfl)
      go_simp
      have hbn := (Below.refl w3.heap.size w3).alloc (Nat.le_refl _) (.cells #[.int .i64 k.1, .int .i64 k.2] 81)
      have hS3 := hS.keep hbn
      refine hK.out _ _ hS3 ?_
      clear hK K
      (try simp only [Act.put, List.setIfInBounds_toArray, List.set_cons_zero, List.set_cons_succ])
      refine plan_op rfl ?_ (fun K hK => ?_)
      focus (rfl)
      go_simp
      refine (cloneW_any _ _ _ _ (HR3.out.keep hbn) (by omega)).mono ?_
      rintro e w4 ⟨v4, rfl, o4, hb4⟩
      obtain ⟨a4, c4, rfl⟩ := own_slice o4
      have hS4 := hS3.keep hb4
      refine hK.out _ _ hS4 ?_
      clear hK K
      (try simp only [Act.put, List.setIfInBounds_toArray, List.set_cons_zero, List.set_cons_succ])
      have hb34 := hbn.trans (hb4.mono hbn.size)
      have hov : w4.ownsRow w3.heap.size 81 2 (.slice a4 ps.length c4) ps.length (wv ps) ∧ w4.heap[w3.heap.size]? = some (.cells [Value.int .i64 k.1, Value.int .i64 k.2].toArray 81 (0, 0)) ∧ (Value.slice a4 ps.length c4).ownBlock ≠ some w3.heap.size ∧ Below w3.heap.size w3 w4 ∧ w3.heap.size ≤ w3.heap.size ∧ w3.heap.size ≤ w4.heap.size :=
        ⟨own_lower o4 (by simp), keep_heap (heap_new _ _) hb4, fun e => by have := own_base o4 _ e; simp at this; omega, hb34, Nat.le_refl _, hb34.size⟩
      clear o4 hb4 hS3 hbn hb34 hS
      have hS3 := hS4
      clear hS4
      have HOV := Lib.hid hov
      clear hov hS3
      refine plan_run rfl ?_ (fun K hK => ?_)
      focus (rfl)
      go_simp
      refine (insertW_any _ _ _ _ _ q _ [.int .i64 k.1, .int .i64 k.2] HOV.out.1 (wv_one ps) (fun u hu => by simp only [List.mem_cons, List.not_mem_nil, or_false] at hu; rcases hu with rfl | rfl <;> rfl) (by omega) hn HOV.out.2.2.2.2.2 HOV.out.2.1 rfl HOV.out.2.2.1).mono ?_
      rintro e W5 ⟨v5, rfl, o5, hb5⟩
      have hBel := hb5.below (B := w3.heap.size) HOV.out.2.2.2.2.2 (fun k hk => own_base HOV.out.1 k hk)
      have hS5 : KQW w.heap.size (w.heap.size + 1) (.slice ao ps.length c) k W5 := HK3.out.keep (HOV.out.2.2.2.1.trans hBel)
      refine hK.out _ _ hS5 ?_
      clear hK K 
      (try simp only [Act.put, List.setIfInBounds_toArray, List.set_cons_zero, List.set_cons_succ])
      have HE := Lib.hid (And.intro o5 (HB3.out.trans ((HOV.out.2.2.2.1.trans hBel).mono HB3.out.size)))
      have HS := Lib.hid HB3.out.size
      clear o5 hb5 hBel HOV
      iterate 1 (first | (refine plan_skip rfl ?_ ?_; (focus (rfl)); (try simp only [Act.put, List.setIfInBounds_toArray, List.set_cons_zero, List.set_cons_succ])) | (refine plan_take (v := ?_) rfl ?_ (fun w hSw => ?_) ?_; rotate_left; (focus (rfl)); (focus (unfold KQW at hSw; (go_simp <;> with_reducible rfl))); (try simp only [Act.put, List.setIfInBounds_toArray, List.set_cons_zero, List.set_cons_succ])))
      refine plan_done ?_
      go_wp2_with fail
      go_ret
      rw [wv_ins] at HE
      refine ⟨_, rfl, ?_, HE.out.2⟩
      have hpp : putLW ps k = ps.take (q) ++ (k :: ps.drop (q)) := by unfold putLW; rw [HQ.out]
      rw [hpp]
      exact own_lower HE.out.1 HS.out
end Go.Proofs.YtemgnljegbaobaaGreatDoor
