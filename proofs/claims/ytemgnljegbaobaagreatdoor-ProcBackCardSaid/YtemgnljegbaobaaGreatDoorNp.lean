/- rows that rise: rises; ContainsFunc at monitors. Conditions: the row reads, at most 1000 things. -/
import Derived.Test.YtemgnljegbaobaaGreatDoorNo
namespace Go.Proofs.YtemgnljegbaobaaGreatDoor
open Go.ChangeShapes Go.WideShapes Go.ChangeAt Go.RowKit
set_option linter.unusedVariables false
set_option linter.unusedSimpArgs false
set_option maxRecDepth 100000

theorem infoWT2 {cs : Array Value} (h : cs.size = 2) : (Tryz.prog.info? 81).map (·.size) = some cs.size := by
  have : (Tryz.prog.info? 81).map (·.size) = some 2 := by kernel_rfl
  rw [this, h]
def risesL : Int → List Int → Bool
  | _, [] => true
  | last, x :: l => if x ≤ last then false else risesL x l
set_option maxHeartbeats 4000000 in
theorem risesI_any (w : World) (v : Value) (ps : List Int) (h : Rw w v ps.length 1 (iv ps)) (hn : ps.length ≤ 1000) :
    Calls Tryz.prog 23 #[.agg #[v, .func (.func 48) #[] #[]]] w (IsPost w (risesL 0 ps)) := by
  obtain ⟨ao, c, rfl, hc1, hc2⟩ := h.slice
  have hb := (Below.refl w.heap.size w).alloc (Nat.le_refl _) (.cells #[.slice ao ps.length c, .func (.func 48) #[] #[]] 72)
  have hx := heap_new w (.cells #[.slice ao ps.length c, .func (.func 48) #[] #[]] 72)
  have HB := Lib.hid hb
  have HX := Lib.hid hx
  have HR := Lib.hid (h.keep hb)
  clear h hb
  obtain ⟨c0, -⟩ := cells_at hx 0 _ rfl
  clear hx
  go_enter Tryz.func23, Tryz.ntmps23
  go_wp2_with fail
  generalize w.alloc (.cells #[.slice ao ps.length c, .func (.func 48) #[] #[]] 72) = w1 at *
  clear c0
  go_loopw [3, 9] (fun lv iv wr => ∃ (i : Nat) (last : Int), i ≤ ps.length ∧ lv = .int .i64 last ∧ iv = .int .i64 i ∧ Hid (Below w1.heap.size w1 wr) ∧ Hid (risesL last (ps.drop i) = risesL 0 ps)) (fun lv iv _ => ps.length - (intOf iv).toNat)
  case atStart => exact ⟨0, 0, Nat.zero_le _, rfl, rfl, Lib.hid (Below.refl _ _), Lib.hid rfl⟩
  case round =>
    obtain ⟨i, last, hi, rfl, rfl, HI, HS⟩ := hrel
    obtain ⟨c1, -⟩ := cells_at (keep_heap HX.out HI.out) 1 _ rfl
    by_cases hlt : i < ps.length
    · obtain ⟨x, hx⟩ : ∃ x, ps[i]? = some x := ⟨ps[i], List.getElem?_eq_getElem hlt⟩
      obtain ⟨-, b, off, rfl, hcell⟩ := (HR.out.keep HI.out).at (by omega)
      have hc := hcell i _ (iv_at hx)
      have HST := Lib.hid (show (if x ≤ last then false else risesL x (ps.drop (i + 1))) = risesL 0 ps by rw [← HS.out, drop_cons hx, risesL])
      clear hcell hx HS
      go_wp2_with fail
      refine (keyI_any _ x).mono ?_
      rintro e w2 ⟨rfl, hb2⟩
      have HI2 := Lib.hid (HI.out.trans (hb2.mono HI.out.size))
      clear hb2 c1 hc
      by_cases hle : x ≤ last
      · have HF := Lib.hid (HST.out.symm.trans (if_pos hle))
        have hd : decide (x ≤ last) = true := decide_eq_true hle
        clear HST
        go_wp2_with fail
        go_ret
        exact ⟨by rw [HF.out]; rfl, HB.out.trans (HI2.out.mono HB.out.size)⟩
      · have HF := Lib.hid ((if_neg hle).symm.trans HST.out)
        have hd : decide (x ≤ last) = false := decide_eq_false hle
        obtain ⟨c1, -⟩ := cells_at (keep_heap HX.out HI2.out) 1 _ rfl
        clear HST
        go_wp2_with fail
        refine (keyI_any _ x).mono ?_
        rintro e w3 ⟨rfl, hb3⟩
        have HI3 := Lib.hid (HI2.out.trans (hb3.mono HI2.out.size))
        clear hb3 c1
        go_wp2_with fail
        go_roundw
        case rel => exact ⟨i + 1, x, hlt, rfl, by go_num, HI3, HF⟩
        case measure => simp [intOf]; omega
    · have hE : i = ps.length := by omega
      have HF : Hid (risesL 0 ps = true) := Lib.hid (by rw [← HS.out, hE, List.drop_length]; rfl)
      clear HS
      go_wp2_with fail
      go_ret
      exact ⟨by rw [HF.out]; rfl, HB.out.trans (HI.out.mono HB.out.size)⟩
set_option maxHeartbeats 4000000 in
theorem risesW_any (w : World) (v : Value) (ps : List (Int × Int)) (h : Rw w v ps.length 2 (wv ps)) (hn : ps.length ≤ 1000) :
    Calls Tryz.prog 25 #[.agg #[v, .func (.func 54) #[] #[]]] w (IsPost w (risesL 0 (ps.map Prod.fst))) := by
  obtain ⟨ao, c, rfl, hc1, hc2⟩ := h.slice
  have hb := (Below.refl w.heap.size w).alloc (Nat.le_refl _) (.cells #[.slice ao ps.length c, .func (.func 54) #[] #[]] 78)
  have hx := heap_new w (.cells #[.slice ao ps.length c, .func (.func 54) #[] #[]] 78)
  have HB := Lib.hid hb
  have HX := Lib.hid hx
  have HR := Lib.hid (h.keep hb)
  clear h hb
  obtain ⟨c0, -⟩ := cells_at hx 0 _ rfl
  clear hx
  go_enter Tryz.func25, Tryz.ntmps25
  go_wp2_with fail
  generalize w.alloc (.cells #[.slice ao ps.length c, .func (.func 54) #[] #[]] 78) = w1 at *
  clear c0
  go_loopw [3, 9] (fun lv iv wr => ∃ (i : Nat) (last : Int), i ≤ ps.length ∧ lv = .int .i64 last ∧ iv = .int .i64 i ∧ Hid (Below w1.heap.size w1 wr) ∧ Hid (risesL last ((ps.map Prod.fst).drop i) = risesL 0 (ps.map Prod.fst))) (fun lv iv _ => ps.length - (intOf iv).toNat)
  case atStart => exact ⟨0, 0, Nat.zero_le _, rfl, rfl, Lib.hid (Below.refl _ _), Lib.hid rfl⟩
  case round =>
    obtain ⟨i, last, hi, rfl, rfl, HI, HS⟩ := hrel
    by_cases hlt : i < ps.length
    · obtain ⟨x, hx⟩ : ∃ x, ps[i]? = some x := ⟨ps[i], List.getElem?_eq_getElem hlt⟩
      obtain ⟨-, b, off, rfl, hcell⟩ := (HR.out.keep HI.out).at (by omega)
      have hc := hcell (i * 2) _ (wv_at hx).1
      have hc' : wr.cell? ⟨b, off + i * 2 + 1, none⟩ = some (.int .i64 x.2) := by rw [Nat.add_assoc]; exact hcell (i * 2 + 1) _ (wv_at hx).2
      have HST := Lib.hid (show (if x.1 ≤ last then false else risesL x.1 ((ps.map Prod.fst).drop (i + 1))) = risesL 0 (ps.map Prod.fst) by rw [← HS.out, drop_cons (l := ps.map Prod.fst) (i := i) (t := x.1) (by simp [hx]), risesL])
      have hb1 := (Below.refl wr.heap.size wr).alloc (Nat.le_refl _) (.cells #[.int .i64 x.1, .int .i64 x.2] 81)
      have hn1 := heap_new wr (.cells #[.int .i64 x.1, .int .i64 x.2] 81)
      have HI1 := Lib.hid (HI.out.trans (hb1.mono HI.out.size))
      obtain ⟨c1, -⟩ := cells_at (keep_heap HX.out HI1.out) 1 _ rfl
      obtain ⟨d0, -⟩ := cells_at hn1 0 _ rfl
      obtain ⟨d1, -⟩ := cells_at hn1 1 _ rfl
      have HN1 := Lib.hid hn1
      clear hcell hx HS hb1 hn1
      go_wp2_with (with_reducible refine stop_op (o := ⟨_, .store 81 (.tmp 5) (.tmp 12), _, _, _, _⟩) ?_)
      refine Lib.hid ?_
      refine wpList_store_new (o := ⟨none, _, _, _, _, _⟩) rfl 81 (.tmp 5) (.tmp 12) rfl #[.int .i64 x.1, .int .i64 x.2] rfl rfl (infoWT2 rfl) rfl (by simp [Value.oneCell']) ?_
      generalize wr.alloc (.cells #[.int .i64 x.1, .int .i64 x.2] 81) = w2 at *
      go_wp2_with fail
      refine (keyW_any _ x).mono ?_
      rintro e w3 ⟨rfl, hb3⟩
      have HI3 := Lib.hid (HI1.out.trans (hb3.mono HI1.out.size))
      have HN3 := Lib.hid (keep_heap HN1.out hb3)
      clear hb3 c1 hc hc' d0 d1 HN1
      by_cases hle : x.1 ≤ last
      · have HF := Lib.hid (HST.out.symm.trans (if_pos hle))
        have hd : decide (x.1 ≤ last) = true := decide_eq_true hle
        clear HST
        go_wp2_with fail
        go_ret
        exact ⟨by rw [HF.out]; rfl, HB.out.trans (HI3.out.mono HB.out.size)⟩
      · have HF := Lib.hid ((if_neg hle).symm.trans HST.out)
        have hd : decide (x.1 ≤ last) = false := decide_eq_false hle
        obtain ⟨c1, -⟩ := cells_at (keep_heap HX.out HI3.out) 1 _ rfl
        obtain ⟨d0, -⟩ := cells_at HN3.out 0 _ rfl
        obtain ⟨d1, -⟩ := cells_at HN3.out 1 _ rfl
        clear HST
        go_wp2_with fail
        refine (keyW_any _ x).mono ?_
        rintro e w4 ⟨rfl, hb4⟩
        have HI4 := Lib.hid (HI3.out.trans (hb4.mono HI3.out.size))
        clear hb4 c1 d0 d1
        go_wp2_with fail
        go_roundw
        case rel => exact ⟨i + 1, x.1, hlt, rfl, by go_num, HI4, HF⟩
        case measure => simp [intOf]; omega
    · have hE : i = ps.length := by omega
      have HF : Hid (risesL 0 (ps.map Prod.fst) = true) := Lib.hid (by rw [← HS.out, hE, List.drop_of_length_le (by simp)]; rfl)
      clear HS
      go_wp2_with fail
      go_ret
      exact ⟨by rw [HF.out]; rfl, HB.out.trans (HI.out.mono HB.out.size)⟩
theorem check1_any (w : World) (x : Int × Int) : Calls Tryz.prog 27 #[.agg #[.int .i64 x.1, .int .i64 x.2]] w (IsPost w (decide (x.2 < 1))) := by
  have HB := Lib.hid ((Below.refl w.heap.size w).alloc (Nat.le_refl _) (.cells #[.int .i64 x.1, .int .i64 x.2] 81))
  go_enter Tryz.func27, Tryz.ntmps27
  go_wp2_with fail
  go_ret
  exact ⟨rfl, HB.out⟩
theorem containsW_any (w : World) (v : Value) (ps : List (Int × Int)) (h : Rw w v ps.length 2 (wv ps)) (hn : ps.length ≤ 1000) :
    Calls Tryz.prog 26 #[v, .func (.func 27) #[] #[]] w (IsPost w (ps.any fun x => decide (x.2 < 1))) := by
  obtain ⟨ao, c, rfl, hc1, hc2⟩ := h.slice
  have HI := Lib.hid (indexW_any w (.slice ao ps.length c) ps 27 #[] (fun x => decide (x.2 < 1)) (enters_of Tryz.func27 (by kernel_rfl) rfl) h (by omega) (fun x _ W hW => check1_any W x))
  have HE := Lib.hid (idxOf_any (p := fun x : Int × Int => decide (x.2 < 1)) ps)
  clear h
  go_enter Tryz.func26, Tryz.ntmps26
  go_wp2_with fail
  refine HI.out.mono ?_
  rintro e w2 ⟨rfl, hb2⟩
  have HB := Lib.hid hb2
  clear hb2 HI
  generalize idxOf (fun x : Int × Int => decide (x.2 < 1)) ps = ix at *
  go_wp2_with fail
  go_ret
  exact ⟨by rw [← HE.out]; rfl, HB.out⟩
end Go.Proofs.YtemgnljegbaobaaGreatDoor
