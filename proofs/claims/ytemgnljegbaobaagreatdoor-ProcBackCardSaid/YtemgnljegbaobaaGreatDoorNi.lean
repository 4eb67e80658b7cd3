/- rows that rise by keys: look, put. Conditions: the row reads, at most 1000 things. -/
import Derived.Test.YtemgnljegbaobaaGreatDoorNh
namespace Go.Proofs.YtemgnljegbaobaaGreatDoor
open Go.ChangeShapes Go.WideShapes Go.ChangeAt Go.RowKit
set_option linter.unusedVariables false
set_option linter.unusedSimpArgs false
set_option maxRecDepth 100000
theorem infoRI {cs : Array Value} (h : cs.size = 2) : (Tryz.prog.info? 72).map (·.size) = some cs.size := by
  have : (Tryz.prog.info? 72).map (·.size) = some 2 := by kernel_rfl
  rw [this, h]
theorem mkI_any (w : World) (ao : Option Addr) (n c : Nat) : Calls Tryz.prog 20 #[.slice ao n c] w fun e w' => e = .returned (.agg #[.slice ao n c, .func (.func 48) #[] #[]]) ∧ Below w.heap.size w w' := by
  have HB := Lib.hid ((Below.refl w.heap.size w).alloc (Nat.le_refl _) (.cells #[.slice ao n c, .func (.func 48) #[] #[]] 72))
  have HN := Lib.hid (heap_new w (.cells #[.slice ao n c, .func (.func 48) #[] #[]] 72))
  go_enter Tryz.func20, Tryz.ntmps20
  go_wp2_with (with_reducible refine stop_op (o := ⟨_, .store 72 (.tmp 2) (.tmp 4), _, _, _, _⟩) ?_)
  refine Lib.hid ?_
  refine wpList_store_new (o := ⟨none, _, _, _, _, _⟩) rfl 72 (.tmp 2) (.tmp 4) rfl #[.slice ao n c, .func (.func 48) #[] #[]] rfl rfl (infoRI rfl) rfl (by simp [Value.oneCell']) ?_
  generalize w.alloc (.cells #[.slice ao n c, .func (.func 48) #[] #[]] 72) = w1 at *
  go_wp2_with fail
  exact ret_cell HN.out rfl Tryz.underlying72 rfl (infoRI rfl) rfl ⟨rfl, HB.out⟩
/-- what a search reads -/
def KSI (rb kb : Nat) (lv : Value) (x : Int) (W : World) : Prop := W.cell? ⟨rb, 0, none⟩ = some lv ∧ W.cell? ⟨rb, 1, none⟩ = some (.func (.func 48) #[] #[]) ∧ W.cell? ⟨kb, 0, none⟩ = some (.int .i64 x)
theorem KSI.keep {rb kb : Nat} {lv : Value} {x : Int} {W W' : World} (h : KSI rb kb lv x W) (hb : Below W.heap.size W W') : KSI rb kb lv x W' := ⟨keep_cell h.1 hb, keep_cell h.2.1 hb, keep_cell h.2.2 hb⟩
theorem keyI_any (w : World) (x : Int) : Calls Tryz.prog 48 #[.int .i64 x] w (IntPost w x) := by
  go_enter Tryz.func48, Tryz.ntmps48
  go_wp2_with fail
  go_ret
  exact ⟨rfl, Below.refl _ _⟩
theorem put1I_any (w : World) (rb kb : Nat) (lv : Value) (x y : Int) (h : KSI rb kb lv y w) : Calls Tryz.prog 65 #[.int .i64 x, .pointer (some ⟨rb, 0, none⟩), .pointer (some ⟨kb, 0, none⟩)] w (IsPost w (decide (y < x))) := by
  go_enter Tryz.func65, Tryz.ntmps65
  go_wp2_with fail
  have hd := (Below.refl w.heap.size w).drew
  have hS := h.keep hd
  refine region_plan (KSI rb kb lv y) [(0, 0), (1, 0), (2, 0), (4, 0), (5, 0), (6, 0), (3, 1), (7, 1), (8, 0), (9, 0)] (by kernel_rfl) (by kernel_rfl) (by kernel_rfl) hS ?_
  generalize w.drew = w1 at *
  iterate 6 (first | (refine plan_skip rfl ?_ ?_; (focus (rfl)); (try simp only [Act.put, List.setIfInBounds_toArray, List.set_cons_zero, List.set_cons_succ])) | (refine plan_take (v := ?_) rfl ?_ (fun w hSw => ?_) ?_; rotate_left; (focus (rfl)); (focus (unfold KSI at hSw; (go_simp <;> with_reducible rfl))); (try simp only [Act.put, List.setIfInBounds_toArray, List.set_cons_zero, List.set_cons_succ])))
  refine plan_run rfl ?_ (fun K hK => ?_)
  focus (rfl)
  go_simp
  refine (keyI_any _ _).mono ?_
  rintro e w2 ⟨rfl, hb2⟩
  have hS2 := hS.keep hb2
  refine hK.out _ _ hS2 ?_
  clear hK K 
  (try simp only [Act.put, List.setIfInBounds_toArray, List.set_cons_zero, List.set_cons_succ])
  refine plan_run rfl ?_ (fun K hK => ?_)
  focus (rfl)
  go_simp
  refine (keyI_any _ _).mono ?_
  rintro e w3 ⟨rfl, hb3⟩
  have hS3 := hS2.keep hb3
  refine hK.out _ _ hS3 ?_
  clear hK K 
  (try simp only [Act.put, List.setIfInBounds_toArray, List.set_cons_zero, List.set_cons_succ])
  iterate 2 (first | (refine plan_skip rfl ?_ ?_; (focus (rfl)); (try simp only [Act.put, List.setIfInBounds_toArray, List.set_cons_zero, List.set_cons_succ])) | (refine plan_take (v := ?_) rfl ?_ (fun w hSw => ?_) ?_; rotate_left; (focus (rfl)); (focus (unfold KSI at hSw; (go_simp <;> with_reducible rfl))); (try simp only [Act.put, List.setIfInBounds_toArray, List.set_cons_zero, List.set_cons_succ])))
  refine plan_done ?_
  have HB := Lib.hid (hd.trans ((hb2.trans (hb3.mono hb2.size)).mono hd.size))
  clear hS hS2 hS3 hb2 hb3 hd h
  go_wp2_with fail
  go_ret
  exact ⟨rfl, HB.out⟩
theorem look1I_any (w : World) (rb kb : Nat) (lv : Value) (x y : Int) (h : KSI rb kb lv y w) : Calls Tryz.prog 61 #[.int .i64 x, .pointer (some ⟨rb, 0, none⟩), .pointer (some ⟨kb, 0, none⟩)] w (IsPost w (x == y)) := by
  go_enter Tryz.func61, Tryz.ntmps61
  go_wp2_with fail
  have hd := (Below.refl w.heap.size w).drew
  have hS := h.keep hd
  refine region_plan (KSI rb kb lv y) [(0, 0), (1, 0), (2, 0), (4, 0), (3, 1), (5, 0), (6, 0)] (by kernel_rfl) (by kernel_rfl) (by kernel_rfl) hS ?_
  generalize w.drew = w1 at *
  iterate 4 (first | (refine plan_skip rfl ?_ ?_; (focus (rfl)); (try simp only [Act.put, List.setIfInBounds_toArray, List.set_cons_zero, List.set_cons_succ])) | (refine plan_take (v := ?_) rfl ?_ (fun w hSw => ?_) ?_; rotate_left; (focus (rfl)); (focus (unfold KSI at hSw; (go_simp <;> with_reducible rfl))); (try simp only [Act.put, List.setIfInBounds_toArray, List.set_cons_zero, List.set_cons_succ])))
  refine plan_run rfl ?_ (fun K hK => ?_)
  focus (rfl)
  go_simp
  refine (keyI_any _ _).mono ?_
  rintro e w2 ⟨rfl, hb2⟩
  have hS2 := hS.keep hb2
  refine hK.out _ _ hS2 ?_
  clear hK K 
  (try simp only [Act.put, List.setIfInBounds_toArray, List.set_cons_zero, List.set_cons_succ])
  iterate 2 (first | (refine plan_skip rfl ?_ ?_; (focus (rfl)); (try simp only [Act.put, List.setIfInBounds_toArray, List.set_cons_zero, List.set_cons_succ])) | (refine plan_take (v := ?_) rfl ?_ (fun w hSw => ?_) ?_; rotate_left; (focus (rfl)); (focus (unfold KSI at hSw; (go_simp <;> with_reducible rfl))); (try simp only [Act.put, List.setIfInBounds_toArray, List.set_cons_zero, List.set_cons_succ])))
  refine plan_done ?_
  have HB := Lib.hid (hd.trans (hb2.mono hd.size))
  clear hS hS2 hb2 hd h
  go_wp2_with fail
  go_ret
  exact ⟨rfl, HB.out⟩
theorem two_boxes (w : World) (o1 o2 : Obj) : ((w.alloc o1).alloc o2).heap[w.heap.size]? = some o1 ∧ ((w.alloc o1).alloc o2).heap[w.heap.size + 1]? = some o2 ∧ Below w.heap.size w ((w.alloc o1).alloc o2) ∧ ((w.alloc o1).alloc o2).heap.size = w.heap.size + 2 := by
  have hY := heap_new (w.alloc o1) o2
  have hs1 : (w.alloc o1).heap.size = w.heap.size + 1 := by simp
  rw [hs1] at hY
  exact ⟨heap_old (heap_new w o1) o2, hY, ((Below.refl w.heap.size w).alloc (Nat.le_refl _) o1).alloc (by simp) o2, by simp⟩
set_option maxHeartbeats 4000000 in
theorem lookI_any (w : World) (v : Value) (ps : List Int) (k : Int) (h : Rw w v ps.length 1 (iv ps)) (hn : ps.length ≤ 1000) :
    Calls Tryz.prog 32 #[.agg #[v, .func (.func 48) #[] #[]], .int .i64 k] w (IntPost w (idxOf (fun x => x == k) ps)) := by
  obtain ⟨ao, c, rfl, hc1, hc2⟩ := h.slice
  obtain ⟨b1, b2, hb, -⟩ := two_boxes w (.cells #[.slice ao ps.length c, .func (.func 48) #[] #[]] 72) (.cells #[.int .i64 k] 3)
  have HB := Lib.hid hb
  have hks : KSI w.heap.size (w.heap.size + 1) (.slice ao ps.length c) k ((w.alloc (.cells #[.slice ao ps.length c, .func (.func 48) #[] #[]] 72)).alloc (.cells #[.int .i64 k] 3)) := ⟨(cells_at b1 0 _ rfl).1, (cells_at b1 1 _ rfl).1, (cells_at b2 0 _ rfl).1⟩
  have HK := Lib.hid hks
  have HI := Lib.hid (indexI_any _ (.slice ao ps.length c) ps 61 #[.pointer (some ⟨w.heap.size, 0, none⟩), .pointer (some ⟨w.heap.size + 1, 0, none⟩)] (fun x => x == k) (enters_of Tryz.func61 (by kernel_rfl) rfl) (h.keep hb) (by omega) (fun x _ W hW => look1I_any W _ _ _ x k (hks.keep hW)))
  clear h hb b1 b2
  obtain ⟨x0, x1, x2⟩ := hks
  go_enter Tryz.func32, Tryz.ntmps32
  go_wp2_with fail
  refine HI.out.mono ?_
  rintro e w2 ⟨rfl, hb2⟩
  have HB2 := Lib.hid (HB.out.trans (hb2.mono HB.out.size))
  clear hb2 x0 x1 x2 HI HK
  go_wp2_with fail
  go_ret
  exact ⟨rfl, HB2.out⟩
/-- a number's place in a row that rises -/
def placeOf (ps : List Int) (x : Int) : Nat := if idxOf (fun y => decide (x < y)) ps < 0 then ps.length else (idxOf (fun y => decide (x < y)) ps).toNat
def putL (ps : List Int) (x : Int) : List Int := ps.take (placeOf ps x) ++ (x :: ps.drop (placeOf ps x))
theorem placeOf_le (ps : List Int) (x : Int) : placeOf ps x ≤ ps.length := by
  have h := idxOf_lt (p := fun y => decide (x < y)) ps
  unfold placeOf
  split <;> omega
theorem iv_ins (ps : List Int) (x : Int) (k : Nat) : ins k [.int .i64 x] (iv ps) = iv (ps.take k ++ (x :: ps.drop k)) := by
  simp [ins, iv, List.map_take, List.map_drop]
def PutI (w : World) (ps : List Int) (x : Int) (e : Ending) (w' : World) : Prop := ∃ v', e = .returned v' ∧ w'.ownsRow w.heap.size 3 1 v' (ps.length + 1) (iv (putL ps x)) ∧ Below w.heap.size w w'
set_option maxHeartbeats 4000000 in
theorem putI_any (w : World) (v : Value) (ps : List Int) (k : Int) (h : Rw w v ps.length 1 (iv ps)) (hn : ps.length ≤ 1000) :
    Calls Tryz.prog 34 #[.agg #[v, .func (.func 48) #[] #[]], .int .i64 k] w (PutI w ps k) := by
  obtain ⟨ao, c, rfl, hc1, hc2⟩ := h.slice
  obtain ⟨b1, b2, hb, -⟩ := two_boxes w (.cells #[.slice ao ps.length c, .func (.func 48) #[] #[]] 72) (.cells #[.int .i64 k] 3)
  have HB := Lib.hid hb
  have HR := Lib.hid (h.keep hb)
  have hks : KSI w.heap.size (w.heap.size + 1) (.slice ao ps.length c) k ((w.alloc (.cells #[.slice ao ps.length c, .func (.func 48) #[] #[]] 72)).alloc (.cells #[.int .i64 k] 3)) := ⟨(cells_at b1 0 _ rfl).1, (cells_at b1 1 _ rfl).1, (cells_at b2 0 _ rfl).1⟩
  have HI := Lib.hid (indexI_any _ (.slice ao ps.length c) ps 65 #[.pointer (some ⟨w.heap.size, 0, none⟩), .pointer (some ⟨w.heap.size + 1, 0, none⟩)] (fun x => decide (k < x)) (enters_of Tryz.func65 (by kernel_rfl) rfl) (h.keep hb) (by omega) (fun x _ W hW => put1I_any W _ _ _ x k (hks.keep hW)))
  clear h hb b1 b2
  have HK := Lib.hid hks
  obtain ⟨x0, x1, x2⟩ := hks
  have hpl : placeOf ps k = if idxOf (fun y => decide (k < y)) ps < 0 then ps.length else (idxOf (fun y => decide (k < y)) ps).toNat := rfl
  have hlt := idxOf_lt (p := fun y => decide (k < y)) ps
  go_enter Tryz.func34, Tryz.ntmps34
  go_wp2_with fail
  generalize (w.alloc (.cells #[.slice ao ps.length c, .func (.func 48) #[] #[]] 72)).alloc (.cells #[.int .i64 k] 3) = w1 at *
  refine HI.out.mono ?_
  rintro e w2 ⟨rfl, hb2⟩
  have HB2 := Lib.hid (HB.out.trans (hb2.mono HB.out.size))
  have HR2 := Lib.hid (HR.out.keep hb2)
  have HK2 := Lib.hid (HK.out.keep hb2)
  obtain ⟨q, hq⟩ : ∃ q, placeOf ps k = q := ⟨_, rfl⟩
  have HQ := Lib.hid hq
  rw [hq] at hpl
  have hqle : q ≤ ps.length := by rw [← hq]; exact placeOf_le ps k
  clear x0 x1 x2 HI HK HR HB hb2 hq
  generalize idxOf (fun y => decide (k < y)) ps = ix at *
  have hcut : True := trivial
  by_cases hneg : ix < 0
  · rw [if_pos hneg] at hpl
    obtain ⟨x0, x1, x2⟩ := HK2.out
    have hd0 : decide (ix < 0) = true := decide_eq_true hneg
    subst hpl
    go_wp2_with fail
    have hd := (Below.refl w2.heap.size w2).drew
    have hS : KSI w.heap.size (w.heap.size + 1) (.slice ao ps.length c) k w2.drew := HK2.out.keep hd
    have HR3 := Lib.hid (HR2.out.keep hd)
    have HB3 := Lib.hid (HB2.out.trans (hd.mono HB2.out.size))
    have HK3 := Lib.hid hS
    clear x0 x1 x2 hd HB2 HK2 HR2
    refine region_plan (KSI w.heap.size (w.heap.size + 1) (.slice ao ps.length c) k) [(0, 0), (1, 0), (3, 0), (4, 0), (2, 7), (6, 1), (7, 0)] (by kernel_rfl) (by kernel_rfl) (by kernel_rfl) hS ?_
    generalize w2.drew = w3 at *
    iterate 4 (first | (refine plan_skip rfl ?_ ?_; (focus (rfl)); (try simp only [Act.put, List.setIfInBounds_toArray, List.set_cons_zero, List.set_cons_succ])) | (refine plan_take (v := ?_) rfl ?_ (fun w hSw => ?_) ?_; rotate_left; (focus (rfl)); (focus (unfold KSI at hSw; (go_simp <;> with_reducible rfl))); (try simp only [Act.put, List.setIfInBounds_toArray, List.set_cons_zero, List.set_cons_succ])))
    refine ⟨?_, ?_⟩
    · skip
      refine plan_op rfl ?_ (fun K hK => ?_)
      focus (rfl)
      go_simp
      refine (cloneI_any _ _ _ _ HR3.out (by omega)).mono ?_
      rintro e w4 ⟨v4, rfl, o4, hb4⟩
      obtain ⟨a4, c4, rfl⟩ := own_slice o4
      have hS4 := hS.keep hb4
      refine hK.out _ _ hS4 ?_
      clear hK K
      (try simp only [Act.put, List.setIfInBounds_toArray, List.set_cons_zero, List.set_cons_succ])
      refine plan_op rfl ?_ (fun K hK => ?_)
      focus (rfl)
      go_simp
      have hbn := (Below.refl w4.heap.size w4).alloc (Nat.le_refl _) (.cells #[.int .i64 k] 3)
      have hS3 := hS4.keep hbn
      refine hK.out _ _ hS3 ?_
      clear hK K
      (try simp only [Act.put, List.setIfInBounds_toArray, List.set_cons_zero, List.set_cons_succ])
      have hb34 := hb4.trans (hbn.mono hb4.size)
      have hov : (w4.alloc (.cells #[.int .i64 k] 3)).ownsRow w3.heap.size 3 1 (.slice a4 ps.length c4) ps.length (iv ps) ∧ (w4.alloc (.cells #[.int .i64 k] 3)).heap[w4.heap.size]? = some (.cells [Value.int .i64 k].toArray 3 (0, 0)) ∧ (Value.slice a4 ps.length c4).ownBlock ≠ some w4.heap.size ∧ Below w3.heap.size w3 (w4.alloc (.cells #[.int .i64 k] 3)) ∧ w3.heap.size ≤ (w3).heap.size ∧ w3.heap.size ≤ (w4.alloc (.cells #[.int .i64 k] 3)).heap.size :=
        ⟨own_keep o4 hbn, heap_new _ _, fun e => by have := own_lt o4 (Nat.le_refl _) _ e; omega, hb34, Nat.le_refl _, hb34.size⟩
      clear o4 hb4 hS4 hbn hb34 hS
      have HOV := Lib.hid hov
      clear hov hS3
      refine plan_run rfl ?_ (fun K hK => ?_)
      focus (rfl)
      go_simp
      refine (insertI_any _ _ _ _ _ ps.length _ [.int .i64 k] HOV.out.1 (iv_one ps) (fun u hu => by obtain rfl := List.mem_singleton.1 hu; rfl) (by omega) hn HOV.out.2.2.2.2.2 HOV.out.2.1 rfl HOV.out.2.2.1).mono ?_
      rintro e W5 ⟨v5, rfl, o5, hb5⟩
      have hBel := hb5.below (B := w3.heap.size) HOV.out.2.2.2.2.2 (fun k hk => own_base HOV.out.1 k hk)
      have hS5 : KSI w.heap.size (w.heap.size + 1) (.slice ao ps.length c) k W5 := HK3.out.keep (HOV.out.2.2.2.1.trans hBel)
      refine hK.out _ _ hS5 ?_
      clear hK K 
      (try simp only [Act.put, List.setIfInBounds_toArray, List.set_cons_zero, List.set_cons_succ])
      have HE := Lib.hid (And.intro o5 (HB3.out.trans ((HOV.out.2.2.2.1.trans hBel).mono HB3.out.size)))
      have HS := Lib.hid HB3.out.size
      clear o5 hb5 hBel HOV
      iterate 1 (first | (refine plan_skip rfl ?_ ?_; (focus (rfl)); (try simp only [Act.put, List.setIfInBounds_toArray, List.set_cons_zero, List.set_cons_succ])) | (refine plan_take (v := ?_) rfl ?_ (fun w hSw => ?_) ?_; rotate_left; (focus (rfl)); (focus (unfold KSI at hSw; (go_simp <;> with_reducible rfl))); (try simp only [Act.put, List.setIfInBounds_toArray, List.set_cons_zero, List.set_cons_succ])))
      refine plan_done ?_
      go_wp2_with fail
      go_ret
      rw [show (ps.length) * 1 = ps.length by omega, iv_ins] at HE
      refine ⟨_, rfl, ?_, HE.out.2⟩
      have hpp : putL ps k = ps.take (ps.length) ++ (k :: ps.drop (ps.length)) := by unfold putL; rw [HQ.out]
      rw [hpp]
      exact own_lower HE.out.1 HS.out
    · skip
      refine plan_op rfl ?_ (fun K hK => ?_)
      focus (rfl)
      go_simp
      have hbn := (Below.refl w3.heap.size w3).alloc (Nat.le_refl _) (.cells #[.int .i64 k] 3)
      have hS3 := hS.keep hbn
      refine hK.out _ _ hS3 ?_
      clear hK K
      (try simp only [Act.put, List.setIfInBounds_toArray, List.set_cons_zero, List.set_cons_succ])
      refine plan_op rfl ?_ (fun K hK => ?_)
      focus (rfl)
      go_simp
      refine (cloneI_any _ _ _ _ (HR3.out.keep hbn) (by omega)).mono ?_
      rintro e w4 ⟨v4, rfl, o4, hb4⟩
      obtain ⟨a4, c4, rfl⟩ := own_slice o4
      have hS4 := hS3.keep hb4
      refine hK.out _ _ hS4 ?_
      clear hK K
      (try simp only [Act.put, List.setIfInBounds_toArray, List.set_cons_zero, List.set_cons_succ])
      have hb34 := hbn.trans (hb4.mono hbn.size)
      have hov : w4.ownsRow w3.heap.size 3 1 (.slice a4 ps.length c4) ps.length (iv ps) ∧ w4.heap[w3.heap.size]? = some (.cells [Value.int .i64 k].toArray 3 (0, 0)) ∧ (Value.slice a4 ps.length c4).ownBlock ≠ some w3.heap.size ∧ Below w3.heap.size w3 w4 ∧ w3.heap.size ≤ w3.heap.size ∧ w3.heap.size ≤ w4.heap.size :=
        ⟨own_lower o4 (by simp), keep_heap (heap_new _ _) hb4, fun e => by have := own_base o4 _ e; simp at this; omega, hb34, Nat.le_refl _, hb34.size⟩
      clear o4 hb4 hS3 hbn hb34 hS
      have hS3 := hS4
      clear hS4
      have HOV := Lib.hid hov
      clear hov hS3
      refine plan_run rfl ?_ (fun K hK => ?_)
      focus (rfl)
      go_simp
      refine (insertI_any _ _ _ _ _ ps.length _ [.int .i64 k] HOV.out.1 (iv_one ps) (fun u hu => by obtain rfl := List.mem_singleton.1 hu; rfl) (by omega) hn HOV.out.2.2.2.2.2 HOV.out.2.1 rfl HOV.out.2.2.1).mono ?_
      rintro e W5 ⟨v5, rfl, o5, hb5⟩
      have hBel := hb5.below (B := w3.heap.size) HOV.out.2.2.2.2.2 (fun k hk => own_base HOV.out.1 k hk)
      have hS5 : KSI w.heap.size (w.heap.size + 1) (.slice ao ps.length c) k W5 := HK3.out.keep (HOV.out.2.2.2.1.trans hBel)
      refine hK.out _ _ hS5 ?_
      clear hK K 
      (try simp only [Act.put, List.setIfInBounds_toArray, List.set_cons_zero, List.set_cons_succ])
      have HE := Lib.hid (And.intro o5 (HB3.out.trans ((HOV.out.2.2.2.1.trans hBel).mono HB3.out.size)))
      have HS := Lib.hid HB3.out.size
      clear o5 hb5 hBel HOV
      iterate 1 (first | (refine plan_skip rfl ?_ ?_; (focus (rfl)); (try simp only [Act.put, List.setIfInBounds_toArray, List.set_cons_zero, List.set_cons_succ])) | (refine plan_take (v := ?_) rfl ?_ (fun w hSw => ?_) ?_; rotate_left; (focus (rfl)); (focus (unfold KSI at hSw; (go_simp <;> with_reducible rfl))); (try simp only [Act.put, List.setIfInBounds_toArray, List.set_cons_zero, List.set_cons_succ])))
      refine plan_done ?_
      go_wp2_with fail
      go_ret
      rw [show (ps.length) * 1 = ps.length by omega, iv_ins] at HE
      refine ⟨_, rfl, ?_, HE.out.2⟩
      have hpp : putL ps k = ps.take (ps.length) ++ (k :: ps.drop (ps.length)) := by unfold putL; rw [HQ.out]
      rw [hpp]
      exact own_lower HE.out.1 HS.out
  · rw [if_neg hneg] at hpl
    obtain rfl : ix = (q : Int) := by omega
    obtain ⟨x0, x1, x2⟩ := HK2.out
    have hd0 : decide ((q : Int) < 0) = false := decide_eq_false hneg
    clear hpl hlt
    go_wp2_with fail
    have hd := (Below.refl w2.heap.size w2).drew
    have hS : KSI w.heap.size (w.heap.size + 1) (.slice ao ps.length c) k w2.drew := HK2.out.keep hd
    have HR3 := Lib.hid (HR2.out.keep hd)
    have HB3 := Lib.hid (HB2.out.trans (hd.mono HB2.out.size))
    have HK3 := Lib.hid hS
    clear x0 x1 x2 hd HB2 HK2 HR2
    refine region_plan (KSI w.heap.size (w.heap.size + 1) (.slice ao ps.length c) k) [(0, 0), (1, 0), (3, 0), (4, 0), (2, 7), (6, 1), (7, 0)] (by kernel_rfl) (by kernel_rfl) (by kernel_rfl) hS ?_
    generalize w2.drew = w3 at *
    iterate 4 (first | (refine plan_skip rfl ?_ ?_; (focus (rfl)); (try simp only [Act.put, List.setIfInBounds_toArray, List.set_cons_zero, List.set_cons_succ])) | (refine plan_take (v := ?_) rfl ?_ (fun w hSw => ?_) ?_; rotate_left; (focus (rfl)); (focus (unfold KSI at hSw; (go_simp <;> with_reducible rfl))); (try simp only [Act.put, List.setIfInBounds_toArray, List.set_cons_zero, List.set_cons_succ])))
    refine ⟨?_, ?_⟩
    · skip
      refine plan_op rfl ?_ (fun K hK => ?_)
      focus (rfl)
      go_simp
      refine (cloneI_any _ _ _ _ HR3.out (by omega)).mono ?_
      rintro e w4 ⟨v4, rfl, o4, hb4⟩
      obtain ⟨a4, c4, rfl⟩ := own_slice o4
      have hS4 := hS.keep hb4
      refine hK.out _ _ hS4 ?_
      clear hK K
      (try simp only [Act.put, List.setIfInBounds_toArray, List.set_cons_zero, List.set_cons_succ])
      refine plan_op rfl ?_ (fun K hK => ?_)
      focus (rfl)
      go_simp
      have hbn := (Below.refl w4.heap.size w4).alloc (Nat.le_refl _) (.cells #[.int .i64 k] 3)
      have hS3 := hS4.keep hbn
      refine hK.out _ _ hS3 ?_
      clear hK K
      (try simp only [Act.put, List.setIfInBounds_toArray, List.set_cons_zero, List.set_cons_succ])
      have hb34 := hb4.trans (hbn.mono hb4.size)
      have hov : (w4.alloc (.cells #[.int .i64 k] 3)).ownsRow w3.heap.size 3 1 (.slice a4 ps.length c4) ps.length (iv ps) ∧ (w4.alloc (.cells #[.int .i64 k] 3)).heap[w4.heap.size]? = some (.cells [Value.int .i64 k].toArray 3 (0, 0)) ∧ (Value.slice a4 ps.length c4).ownBlock ≠ some w4.heap.size ∧ Below w3.heap.size w3 (w4.alloc (.cells #[.int .i64 k] 3)) ∧ w3.heap.size ≤ (w3).heap.size ∧ w3.heap.size ≤ (w4.alloc (.cells #[.int .i64 k] 3)).heap.size :=
        ⟨own_keep o4 hbn, heap_new _ _, fun e => by have := own_lt o4 (Nat.le_refl _) _ e; omega, hb34, Nat.le_refl _, hb34.size⟩
      clear o4 hb4 hS4 hbn hb34 hS
      have HOV := Lib.hid hov
      clear hov hS3
      refine plan_run rfl ?_ (fun K hK => ?_)
      focus (rfl)
      go_simp
      refine (insertI_any _ _ _ _ _ q _ [.int .i64 k] HOV.out.1 (iv_one ps) (fun u hu => by obtain rfl := List.mem_singleton.1 hu; rfl) (by omega) hn HOV.out.2.2.2.2.2 HOV.out.2.1 rfl HOV.out.2.2.1).mono ?_
      rintro e W5 ⟨v5, rfl, o5, hb5⟩
      have hBel := hb5.below (B := w3.heap.size) HOV.out.2.2.2.2.2 (fun k hk => own_base HOV.out.1 k hk)
      have hS5 : KSI w.heap.size (w.heap.size + 1) (.slice ao ps.length c) k W5 := HK3.out.keep (HOV.out.2.2.2.1.trans hBel)
      refine hK.out _ _ hS5 ?_
      clear hK K 
      (try simp only [Act.put, List.setIfInBounds_toArray, List.set_cons_zero, List.set_cons_succ])
      have HE := Lib.hid (And.intro o5 (HB3.out.trans ((HOV.out.2.2.2.1.trans hBel).mono HB3.out.size)))
      have HS := Lib.hid HB3.out.size
      clear o5 hb5 hBel HOV
      iterate 1 (first | (refine plan_skip rfl ?_ ?_; (focus (rfl)); (try simp only [Act.put, List.setIfInBounds_toArray, List.set_cons_zero, List.set_cons_succ])) | (refine plan_take (v := ?_) rfl ?_ (fun w hSw => ?_) ?_; rotate_left; (focus (rfl)); (focus (unfold KSI at hSw; (go_simp <;> with_reducible rfl))); (try simp only [Act.put, List.setIfInBounds_toArray, List.set_cons_zero, List.set_cons_succ])))
      refine plan_done ?_
      go_wp2_with fail
      go_ret
      rw [show (q) * 1 = q by omega, iv_ins] at HE
      refine ⟨_, rfl, ?_, HE.out.2⟩
      have hpp : putL ps k = ps.take (q) ++ (k :: ps.drop (q)) := by unfold putL; rw [HQ.out]
      rw [hpp]
      exact own_lower HE.out.1 HS.out
    · skip
      refine plan_op rfl ?_ (fun K hK => ?_)
      focus (rfl)
      go_simp
      have hbn := (Below.refl w3.heap.size w3).alloc (Nat.le_refl _) (.cells #[.int .i64 k] 3)
      have hS3 := hS.keep hbn
      refine hK.out _ _ hS3 ?_
      clear hK K
      (try simp only [Act.put, List.setIfInBounds_toArray, List.set_cons_zero, List.set_cons_succ])
      refine plan_op rfl ?_ (fun K hK => ?_)
      focus (rfl)
      go_simp
      refine (cloneI_any _ _ _ _ (HR3.out.keep hbn) (by omega)).mono ?_
      rintro e w4 ⟨v4, rfl, o4, hb4⟩
      obtain ⟨a4, c4, rfl⟩ := own_slice o4
      have hS4 := hS3.keep hb4
      refine hK.out _ _ hS4 ?_
      clear hK K
      (try simp only [Act.put, List.setIfInBounds_toArray, List.set_cons_zero, List.set_cons_succ])
      have hb34 := hbn.trans (hb4.mono hbn.size)
      have hov : w4.ownsRow w3.heap.size 3 1 (.slice a4 ps.length c4) ps.length (iv ps) ∧ w4.heap[w3.heap.size]? = some (.cells [Value.int .i64 k].toArray 3 (0, 0)) ∧ (Value.slice a4 ps.length c4).ownBlock ≠ some w3.heap.size ∧ Below w3.heap.size w3 w4 ∧ w3.heap.size ≤ w3.heap.size ∧ w3.heap.size ≤ w4.heap.size :=
        ⟨own_lower o4 (by simp), keep_heap (heap_new _ _) hb4, fun e => by have := own_base o4 _ e; simp at this; omega, hb34, Nat.le_refl _, hb34.size⟩
      clear o4 hb4 hS3 hbn hb34 hS
      have hS3 := hS4
      clear hS4
      have HOV := Lib.hid hov
      clear hov hS3
      refine plan_run rfl ?_ (fun K hK => ?_)
      focus (rfl)
      go_simp
      refine (insertI_any _ _ _ _ _ q _ [.int .i64 k] HOV.out.1 (iv_one ps) (fun u hu => by obtain rfl := List.mem_singleton.1 hu; rfl) (by omega) hn HOV.out.2.2.2.2.2 HOV.out.2.1 rfl HOV.out.2.2.1).mono ?_
      rintro e W5 ⟨v5, rfl, o5, hb5⟩
      have hBel := hb5.below (B := w3.heap.size) HOV.out.2.2.2.2.2 (fun k hk => own_base HOV.out.1 k hk)
      have hS5 : KSI w.heap.size (w.heap.size + 1) (.slice ao ps.length c) k W5 := HK3.out.keep (HOV.out.2.2.2.1.trans hBel)
      refine hK.out _ _ hS5 ?_
      clear hK K 
      (try simp only [Act.put, List.setIfInBounds_toArray, List.set_cons_zero, List.set_cons_succ])
      have HE := Lib.hid (And.intro o5 (HB3.out.trans ((HOV.out.2.2.2.1.trans hBel).mono HB3.out.size)))
      have HS := Lib.hid HB3.out.size
      clear o5 hb5 hBel HOV
      iterate 1 (first | (refine plan_skip rfl ?_ ?_; (focus (rfl)); (try simp only [Act.put, List.setIfInBounds_toArray, List.set_cons_zero, List.set_cons_succ])) | (refine plan_take (v := ?_) rfl ?_ (fun w hSw => ?_) ?_; rotate_left; (focus (rfl)); (focus (unfold KSI at hSw; (go_simp <;> with_reducible rfl))); (try simp only [Act.put, List.setIfInBounds_toArray, List.set_cons_zero, List.set_cons_succ])))
      refine plan_done ?_
      go_wp2_with fail
      go_ret
      rw [show (q) * 1 = q by omega, iv_ins] at HE
      refine ⟨_, rfl, ?_, HE.out.2⟩
      have hpp : putL ps k = ps.take (q) ++ (k :: ps.drop (q)) := by unfold putL; rw [HQ.out]
      rw [hpp]
      exact own_lower HE.out.1 HS.out
end Go.Proofs.YtemgnljegbaobaaGreatDoor
