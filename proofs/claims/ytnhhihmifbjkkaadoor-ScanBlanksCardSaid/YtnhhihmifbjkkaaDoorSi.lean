/- scan: Next at a name, a stop, a mark, walked. Conditions: lengths fit; the tables read as laid. -/
import Derived.Test.YtnhhihmifbjkkaaDoorSh
namespace Go.Proofs.YtnhhihmifbjkkaaDoor
open Go.ChangeShapes Go.WideShapes Go.ChangeAt Go.RowKit
set_option linter.unusedVariables false
theorem Res.setT {w W : World} {c0 c1 c2 c3 d0 d1 : Value} (h : Res w W c0 c1 c2 c3 d0 d1) (e0 e1 e2 e3 : Value) :
    Res w ((((W.setCell ⟨w.heap.size, 0, none⟩ e0).setCell ⟨w.heap.size, 1, none⟩ e1).setCell ⟨w.heap.size, 2, none⟩ e2).setCell ⟨w.heap.size, 3, none⟩ e3) e0 e1 e2 e3 d0 d1 := by
  obtain ⟨hb, k0, k1⟩ := h
  refine ⟨?_, ?_, ?_⟩
  · exact (((hb.setCell (p := ⟨w.heap.size, 0, none⟩) (Nat.le_refl _) _).setCell (p := ⟨w.heap.size, 1, none⟩) (Nat.le_refl _) _).setCell (p := ⟨w.heap.size, 2, none⟩) (Nat.le_refl _) _).setCell (p := ⟨w.heap.size, 3, none⟩) (Nat.le_refl _) _
  · exact set_at (i := 3) (set_at (i := 2) (set_at (i := 1) (set_at (i := 0) k0 e0) e1) e2) e3
  · have o0 := (chg_set (w := W) (p := ⟨w.heap.size, 0, none⟩) e0).heap k1 (by simp)
    have o1 := (chg_set (p := ⟨w.heap.size, 1, none⟩) e1).heap o0 (by simp)
    have o2 := (chg_set (p := ⟨w.heap.size, 2, none⟩) e2).heap o1 (by simp)
    exact (chg_set (p := ⟨w.heap.size, 3, none⟩) e3).heap o2 (by simp)
theorem Res.setK {w W : World} {c0 c1 c2 c3 d0 d1 : Value} (h : Res w W c0 c1 c2 c3 d0 d1) (e0 : Value) : Res w (W.setCell ⟨w.heap.size, 0, none⟩ e0) e0 c1 c2 c3 d0 d1 := by
  obtain ⟨hb, k0, k1⟩ := h
  exact ⟨hb.setCell (p := ⟨w.heap.size, 0, none⟩) (Nat.le_refl _) _, set_at (i := 0) k0 e0, (chg_set (w := W) (p := ⟨w.heap.size, 0, none⟩) e0).heap k1 (by simp)⟩
theorem Res.drew {w W : World} {c0 c1 c2 c3 d0 d1 : Value} (h : Res w W c0 c1 c2 c3 d0 d1) : Res w W.drew c0 c1 c2 c3 d0 d1 := h.keep (Below.refl _ _).drew
set_option maxHeartbeats 2000000 in
theorem next_stop (s r : ByteArray) (hs : s.size ≤ 1099511627776) (o b : Nat) (ho : o ≤ s.size) (h : Rest s o b r) (hd : isDg (r[0]'h.head) = false) (hp : preN r.data.toList = 0) (hc : (r[0]'h.head) = 46) (w : World) (hT : Tabs w) : Calls Tryd.prog 7 #[.string s, .int .i64 o] w (NextP w (nextN s o)) := by
  have HE := Lib.hid (nextN_tok h (lex_stop h.head hd hp hc))
  have h2 : ¬ 48 ≤ ((r[0]'h.head).toNat : Int) := by rw [hc]; decide
  have hcc : (((r[0]'h.head).toNat : Int) == 46) = true := by rw [hc]; decide
  have HN := Lib.hid h.blank
  have h0 := h.head
  have hr := h.ext
  have hrs := h.size
  have hlt := h.lt
  have hrs' : r.size ≤ 1099511627776 := by omega
  have hne : ((b : Int) == (s.size : Int)) = false := by simp; omega
  have d0 : decide ((o : Int) < 0) = false := by simp
  have HT := Lib.hid hT
  have HR := Lib.hid h
  clear hT
  have HP := Lib.hid hp
  clear hp hc hd
  have HB := Lib.hid (blank_any s hs (o : Int))
  go_enter Tryd.func7, Tryd.ntmps7
  go_wp2_with fail
  refine (HB.out _).mono ?_
  rintro e w1 ⟨he, rfl⟩
  rw [HN.out] at he
  subst he
  go_wp2_with fail
  have hR1 := Res.new w (.int .i8 0) (.int .i64 0) (.string ⟨#[]⟩) (.int .i64 0) (.int .i64 0) (.int .i64 0)
  refine (prefix_any r (by omega) _ (HT.out.keep hR1.1).1).mono ?_
  rintro e w1 ⟨rfl, hb1⟩
  have hR := hR1.keep hb1
  clear hR1 hb1
  rw [HP.out]
  obtain ⟨⟨x0, x1, x2, x3, u0, u1⟩, y0, y1, y2, y3, v0, v1⟩ := hR.cells
  go_wp2_with fail
  have HRR := Lib.hid hR
  clear hR
  go_region
  have HS := Lib.hid (HRR.out.set (.int .i8 4) (.int .i64 0) (.string ⟨#[]⟩) (.int .i64 b) (.int .i64 0) (.int .i64 0)).drew
  go_wp2_with fail
  exact ret_res HS.out rfl rfl rfl rfl ⟨by rw [HE.out]; rfl, HS.out.1⟩
theorem drop_of {α : Type} {l : List α} {i : Nat} {t : α} (h : l[i]? = some t) : l.drop i = t :: l.drop (i + 1) := by
  obtain ⟨hi, e⟩ := List.getElem?_eq_some_iff.1 h
  rw [List.drop_eq_getElem_cons hi, e]
theorem markF_hit {l x : List UInt8} {k : Nat} (hn : ∀ j y, j < k → marksL[j]? = some y → y.isPrefixOf l = false) (hk : marksL[k]? = some x) (hx : x.isPrefixOf l = true) : markF l = some x := by
  have e : marksL = marksL.take k ++ x :: marksL.drop (k + 1) := by
    conv => lhs; rw [← List.take_append_drop k marksL]
    rw [drop_of hk]
  unfold markF
  rw [e, List.find?_append]
  have h1 : (marksL.take k).find? (fun m => m.isPrefixOf l) = none := by
    rw [List.find?_eq_none]
    intro y hy
    obtain ⟨j, hj, ej⟩ := List.getElem_of_mem hy
    rw [List.length_take] at hj
    have := hn j y (by omega) (by rw [← ej, List.getElem_take]; exact List.getElem?_eq_getElem (by omega))
    rw [this]; decide
  rw [h1, List.find?_cons, hx]
  rfl
theorem markF_miss {l : List UInt8} (hn : ∀ j y, j < 22 → marksL[j]? = some y → y.isPrefixOf l = false) : markF l = none := by
  unfold markF
  rw [List.find?_eq_none]
  intro y hy
  obtain ⟨j, hj, ej⟩ := List.getElem_of_mem hy
  have := hn j y (by simpa [marksL] using hj) (by rw [← ej]; exact List.getElem?_eq_getElem hj)
  rw [this]; decide
theorem marks_short {x : List UInt8} {k : Nat} (h : marksL[k]? = some x) : x.length ≤ 3 := by
  have : ∀ m ∈ marksL, m.length ≤ 3 := by decide
  exact this x (List.mem_of_getElem? h)
set_option maxRecDepth 100000 in
set_option maxHeartbeats 4000000 in
theorem next_mark (s r : ByteArray) (hs : s.size ≤ 1099511627776) (o b : Nat) (ho : o ≤ s.size) (h : Rest s o b r) (hd : isDg (r[0]'h.head) = false) (hp : preN r.data.toList = 0) (hc : (r[0]'h.head) ≠ 46) (h2 : ¬ (48 ≤ ((r[0]'h.head).toNat : Int) ∧ ((r[0]'h.head).toNat : Int) ≤ 57)) (w : World) (hT : Tabs w) : Calls Tryd.prog 7 #[.string s, .int .i64 o] w (NextP w (nextN s o)) := by
  have hlx := lex_mark h.head hd hp hc
  have HL := Lib.hid hlx
  have hcc : (((r[0]'h.head).toNat : Int) == 46) = false := u8_ne (n := 46) (by decide) hc
  have HN := Lib.hid h.blank
  have h0 := h.head
  have hr := h.ext
  have hrs := h.size
  have hlt := h.lt
  have hrs' : r.size ≤ 1099511627776 := by omega
  have hne : ((b : Int) == (s.size : Int)) = false := by simp; omega
  have d0 : decide ((o : Int) < 0) = false := by simp
  have HT := Lib.hid hT
  have HR := Lib.hid h
  clear hT
  have HP := Lib.hid hp
  clear hp hc hd hlx
  by_cases h1 : 48 ≤ (r[0].toNat : Int)
  · have h3 : ¬ (r[0].toNat : Int) ≤ 57 := fun x => h2 ⟨h1, x⟩
    clear h2
    have HB := Lib.hid (blank_any s hs (o : Int))
    go_enter Tryd.func7, Tryd.ntmps7
    go_wp2_with fail
    refine (HB.out _).mono ?_
    rintro e w1 ⟨he, rfl⟩
    rw [HN.out] at he
    subst he
    go_wp2_with fail
    have hR1 := Res.new w (.int .i8 0) (.int .i64 0) (.string ⟨#[]⟩) (.int .i64 0) (.int .i64 0) (.int .i64 0)
    refine (prefix_any r (by omega) _ (HT.out.keep hR1.1).1).mono ?_
    rintro e w1 ⟨rfl, hb1⟩
    have hR := hR1.keep hb1
    clear hR1 hb1
    rw [HP.out]
    have HC := Lib.hid (((HT.out.keep hR.1).2.2).cells (cs := #[.string ⟨#[61, 58, 61]⟩, .string ⟨#[61, 47, 61]⟩, .string ⟨#[45, 62]⟩, .string ⟨#[61, 60]⟩, .string ⟨#[62, 61]⟩, .string ⟨#[60]⟩, .string ⟨#[62]⟩, .string ⟨#[61]⟩, .string ⟨#[43]⟩, .string ⟨#[45]⟩, .string ⟨#[42]⟩, .string ⟨#[40]⟩, .string ⟨#[41]⟩, .string ⟨#[91]⟩, .string ⟨#[93]⟩, .string ⟨#[123]⟩, .string ⟨#[125]⟩, .string ⟨#[44]⟩, .string ⟨#[59]⟩, .string ⟨#[124]⟩, .string ⟨#[58]⟩, .string ⟨#[47]⟩]) rfl)
    have HRR := Lib.hid hR
    clear hR
    go_wp2_with (refine wpList_load_cells (o := ⟨some 98, _, _, _, _, _⟩) rfl 42 (.global 0) rfl 0 rfl #[.string ⟨#[61, 58, 61]⟩, .string ⟨#[61, 47, 61]⟩, .string ⟨#[45, 62]⟩, .string ⟨#[61, 60]⟩, .string ⟨#[62, 61]⟩, .string ⟨#[60]⟩, .string ⟨#[62]⟩, .string ⟨#[61]⟩, .string ⟨#[43]⟩, .string ⟨#[45]⟩, .string ⟨#[42]⟩, .string ⟨#[40]⟩, .string ⟨#[41]⟩, .string ⟨#[91]⟩, .string ⟨#[93]⟩, .string ⟨#[123]⟩, .string ⟨#[125]⟩, .string ⟨#[44]⟩, .string ⟨#[59]⟩, .string ⟨#[124]⟩, .string ⟨#[58]⟩, .string ⟨#[47]⟩] _ HC.out Tryd.underlying42 rfl (by kernel_rfl) ?_)
    go_loop [99] (fun iv => ∃ k : Nat, k ≤ 22 ∧ iv = .int .i64 k ∧ Hid (∀ j y, j < k → marksL[j]? = some y → y.isPrefixOf r.data.toList = false)) (fun iv => 22 - (intOf iv).toNat)
    case atStart => exact ⟨0, by omega, rfl, Lib.hid (fun j x h => by omega)⟩
    case round =>
      obtain ⟨k, hk, rfl, HNN⟩ := hrel
      by_cases hlt : k < 22
      · obtain ⟨x, hx⟩ : ∃ x, marksL[k]? = some x := ⟨marksL[k]'(by simpa [marksL] using hlt), by simp⟩
        have hix := idx_marks w1 k x hx
        have hxl := marks_short hx
        obtain ⟨m, hm⟩ : ∃ m : ByteArray, m = ⟨x.toArray⟩ := ⟨_, rfl⟩
        have hms : m.size = x.length := by rw [hm]; simp [ByteArray.size]
        have hmd : m.data.toList = x := by rw [hm]
        rw [← hm] at hix
        have HH := Lib.hid (hasp_any r m hrs' (by omega) w1)
        have HX := Lib.hid hx
        have HM := Lib.hid hm
        have HMD := Lib.hid hmd
        have HMS := Lib.hid hms
        have hm3 : m.size ≤ 3 := by omega
        clear hx hm hms hmd hxl
        cases hb : m.data.toList.isPrefixOf r.data.toList
        · have HN2 : Hid (∀ j y, j < k + 1 → marksL[j]? = some y → y.isPrefixOf r.data.toList = false) := Lib.hid (by
            intro j y hj hy
            rcases Nat.lt_or_ge j k with hj' | hj'
            · exact HNN.out j y hj' hy
            · obtain rfl : j = k := by omega
              rw [HX.out] at hy
              cases hy
              rw [← HMD.out]; exact hb)
          rw [hb] at HH
          clear hb
          go_wp2_with fail
          refine HH.out.mono ?_
          rintro e w2 ⟨rfl, rfl⟩
          go_wp2_with fail
          refine ⟨⟨k + 1, by omega, by go_num, HN2⟩, ?_⟩
          simp [intOf]
          omega
        · have HE : Hid (nextN s o = ((3, 0, m, (b : Int)), (b : Int) + m.size, (0, 0))) := Lib.hid (by
            have := HL.out
            rw [markF_hit HNN.out HX.out (by rw [← HMD.out]; exact hb)] at this
            rw [nextN_tok HR.out this, HM.out, ← HMS.out, HM.out])
          rw [hb] at HH
          obtain ⟨⟨x0, x1, x2, x3, u0, u1⟩, y0, y1, y2, y3, v0, v1⟩ := HRR.out.cells
          clear hb
          go_wp2_with fail
          refine HH.out.mono ?_
          rintro e w2 ⟨rfl, rfl⟩
          go_wp2_with fail
          go_region
          have HS := Lib.hid (HRR.out.set (.int .i8 3) (.int .i64 0) (.string m) (.int .i64 b) (.int .i64 0) (.int .i64 0)).drew
          go_wp2_with fail
          exact ret_res HS.out rfl rfl rfl rfl ⟨by rw [HE.out]; rfl, HS.out.1⟩
      · have HE : Hid (nextN s o = (noT, (b : Int), (60, (b : Int)))) := Lib.hid (by
          have := HL.out
          rw [markF_miss (fun j y hj hy => HNN.out j y (by omega) hy)] at this
          rw [nextN_bad HR.out this])
        go_wp2_with fail
        refine (bad_any 60 _ _).mono ?_
        rintro e w2 ⟨rfl, hb2⟩
        have hR2 := HRR.out.keep hb2
        have HS := Lib.hid (hR2.set (.int .i8 0) (.int .i64 0) (.string ⟨#[]⟩) (.int .i64 0) (.int .i64 60) (.int .i64 b))
        obtain ⟨⟨x0, x1, x2, x3, u0, u1⟩, y0, y1, y2, y3, v0, v1⟩ := hR2.cells
        clear hR2 hb2
        go_wp2_with fail
        exact ret_res HS.out rfl rfl rfl rfl ⟨by rw [HE.out]; rfl, HS.out.1⟩
  · clear h2
    have HB := Lib.hid (blank_any s hs (o : Int))
    go_enter Tryd.func7, Tryd.ntmps7
    go_wp2_with fail
    refine (HB.out _).mono ?_
    rintro e w1 ⟨he, rfl⟩
    rw [HN.out] at he
    subst he
    go_wp2_with fail
    have hR1 := Res.new w (.int .i8 0) (.int .i64 0) (.string ⟨#[]⟩) (.int .i64 0) (.int .i64 0) (.int .i64 0)
    refine (prefix_any r (by omega) _ (HT.out.keep hR1.1).1).mono ?_
    rintro e w1 ⟨rfl, hb1⟩
    have hR := hR1.keep hb1
    clear hR1 hb1
    rw [HP.out]
    have HC := Lib.hid (((HT.out.keep hR.1).2.2).cells (cs := #[.string ⟨#[61, 58, 61]⟩, .string ⟨#[61, 47, 61]⟩, .string ⟨#[45, 62]⟩, .string ⟨#[61, 60]⟩, .string ⟨#[62, 61]⟩, .string ⟨#[60]⟩, .string ⟨#[62]⟩, .string ⟨#[61]⟩, .string ⟨#[43]⟩, .string ⟨#[45]⟩, .string ⟨#[42]⟩, .string ⟨#[40]⟩, .string ⟨#[41]⟩, .string ⟨#[91]⟩, .string ⟨#[93]⟩, .string ⟨#[123]⟩, .string ⟨#[125]⟩, .string ⟨#[44]⟩, .string ⟨#[59]⟩, .string ⟨#[124]⟩, .string ⟨#[58]⟩, .string ⟨#[47]⟩]) rfl)
    have HRR := Lib.hid hR
    clear hR
    go_wp2_with (refine wpList_load_cells (o := ⟨some 98, _, _, _, _, _⟩) rfl 42 (.global 0) rfl 0 rfl #[.string ⟨#[61, 58, 61]⟩, .string ⟨#[61, 47, 61]⟩, .string ⟨#[45, 62]⟩, .string ⟨#[61, 60]⟩, .string ⟨#[62, 61]⟩, .string ⟨#[60]⟩, .string ⟨#[62]⟩, .string ⟨#[61]⟩, .string ⟨#[43]⟩, .string ⟨#[45]⟩, .string ⟨#[42]⟩, .string ⟨#[40]⟩, .string ⟨#[41]⟩, .string ⟨#[91]⟩, .string ⟨#[93]⟩, .string ⟨#[123]⟩, .string ⟨#[125]⟩, .string ⟨#[44]⟩, .string ⟨#[59]⟩, .string ⟨#[124]⟩, .string ⟨#[58]⟩, .string ⟨#[47]⟩] _ HC.out Tryd.underlying42 rfl (by kernel_rfl) ?_)
    go_loop [99] (fun iv => ∃ k : Nat, k ≤ 22 ∧ iv = .int .i64 k ∧ Hid (∀ j y, j < k → marksL[j]? = some y → y.isPrefixOf r.data.toList = false)) (fun iv => 22 - (intOf iv).toNat)
    case atStart => exact ⟨0, by omega, rfl, Lib.hid (fun j x h => by omega)⟩
    case round =>
      obtain ⟨k, hk, rfl, HNN⟩ := hrel
      by_cases hlt : k < 22
      · obtain ⟨x, hx⟩ : ∃ x, marksL[k]? = some x := ⟨marksL[k]'(by simpa [marksL] using hlt), by simp⟩
        have hix := idx_marks w1 k x hx
        have hxl := marks_short hx
        obtain ⟨m, hm⟩ : ∃ m : ByteArray, m = ⟨x.toArray⟩ := ⟨_, rfl⟩
        have hms : m.size = x.length := by rw [hm]; simp [ByteArray.size]
        have hmd : m.data.toList = x := by rw [hm]
        rw [← hm] at hix
        have HH := Lib.hid (hasp_any r m hrs' (by omega) w1)
        have HX := Lib.hid hx
        have HM := Lib.hid hm
        have HMD := Lib.hid hmd
        have HMS := Lib.hid hms
        have hm3 : m.size ≤ 3 := by omega
        clear hx hm hms hmd hxl
        cases hb : m.data.toList.isPrefixOf r.data.toList
        · have HN2 : Hid (∀ j y, j < k + 1 → marksL[j]? = some y → y.isPrefixOf r.data.toList = false) := Lib.hid (by
            intro j y hj hy
            rcases Nat.lt_or_ge j k with hj' | hj'
            · exact HNN.out j y hj' hy
            · obtain rfl : j = k := by omega
              rw [HX.out] at hy
              cases hy
              rw [← HMD.out]; exact hb)
          rw [hb] at HH
          clear hb
          go_wp2_with fail
          refine HH.out.mono ?_
          rintro e w2 ⟨rfl, rfl⟩
          go_wp2_with fail
          refine ⟨⟨k + 1, by omega, by go_num, HN2⟩, ?_⟩
          simp [intOf]
          omega
        · have HE : Hid (nextN s o = ((3, 0, m, (b : Int)), (b : Int) + m.size, (0, 0))) := Lib.hid (by
            have := HL.out
            rw [markF_hit HNN.out HX.out (by rw [← HMD.out]; exact hb)] at this
            rw [nextN_tok HR.out this, HM.out, ← HMS.out, HM.out])
          rw [hb] at HH
          obtain ⟨⟨x0, x1, x2, x3, u0, u1⟩, y0, y1, y2, y3, v0, v1⟩ := HRR.out.cells
          clear hb
          go_wp2_with fail
          refine HH.out.mono ?_
          rintro e w2 ⟨rfl, rfl⟩
          go_wp2_with fail
          go_region
          have HS := Lib.hid (HRR.out.set (.int .i8 3) (.int .i64 0) (.string m) (.int .i64 b) (.int .i64 0) (.int .i64 0)).drew
          go_wp2_with fail
          exact ret_res HS.out rfl rfl rfl rfl ⟨by rw [HE.out]; rfl, HS.out.1⟩
      · have HE : Hid (nextN s o = (noT, (b : Int), (60, (b : Int)))) := Lib.hid (by
          have := HL.out
          rw [markF_miss (fun j y hj hy => HNN.out j y (by omega) hy)] at this
          rw [nextN_bad HR.out this])
        go_wp2_with fail
        refine (bad_any 60 _ _).mono ?_
        rintro e w2 ⟨rfl, hb2⟩
        have hR2 := HRR.out.keep hb2
        have HS := Lib.hid (hR2.set (.int .i8 0) (.int .i64 0) (.string ⟨#[]⟩) (.int .i64 0) (.int .i64 60) (.int .i64 b))
        obtain ⟨⟨x0, x1, x2, x3, u0, u1⟩, y0, y1, y2, y3, v0, v1⟩ := hR2.cells
        clear hR2 hb2
        go_wp2_with fail
        exact ret_res HS.out rfl rfl rfl rfl ⟨by rw [HE.out]; rfl, HS.out.1⟩
end Go.Proofs.YtnhhihmifbjkkaaDoor
