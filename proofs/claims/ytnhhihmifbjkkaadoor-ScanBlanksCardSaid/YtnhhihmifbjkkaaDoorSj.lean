/- scan: Next at a name; Next anywhere. Conditions: lengths fit; the tables read as laid. -/
import Derived.Test.YtnhhihmifbjkkaaDoorSi
namespace Go.Proofs.YtnhhihmifbjkkaaDoor
open Go.ChangeShapes Go.WideShapes Go.ChangeAt Go.RowKit
set_option linter.unusedVariables false
theorem pre_le (l : List UInt8) : preN l ≤ l.length := tw_le _
/-- the name's own bytes -/
theorem name_may {l : List UInt8} {u : ByteArray} (hu : u.data.toList = l.take (preN l)) (h0 : 0 < preN l) (h1 : preN l ≤ 32) : mayS u = lowB l := by
  have e : u.data.toList = l.takeWhile isA := by rw [hu]; exact tw_take _
  have hp : preN u.data.toList = preN l := by unfold preN; rw [e, tw_tw]
  have hlen : u.data.toList.length = preN l := by rw [e]; rfl
  cases l with
  | nil => simp [preN] at h0
  | cons c r =>
    have hc : isA c = true := by
      by_cases hc : isA c = true
      · exact hc
      · exfalso
        unfold preN at h0
        rw [List.takeWhile_cons, if_neg hc] at h0
        simp at h0
    have e2 : u.data.toList = c :: r.takeWhile isA := by rw [e, List.takeWhile_cons, if_pos hc]
    unfold mayS fitsB
    rw [hp, hlen]
    have d1 : decide (1 ≤ preN (c :: r)) = true := by simp; omega
    have d2 : decide (preN (c :: r) ≤ 32) = true := by simp; omega
    rw [d1, d2, e2]
    simp [lowB]
set_option maxHeartbeats 4000000 in
theorem next_name (s r : ByteArray) (hs : s.size ≤ 1099511627776) (o b : Nat) (ho : o ≤ s.size) (h : Rest s o b r) (hd : isDg (r[0]'h.head) = false) (h32 : preN r.data.toList ≤ 32) (hp0 : 0 < preN r.data.toList) (w : World) (hT : Tabs w) : Calls Tryd.prog 7 #[.string s, .int .i64 o] w (NextP w (nextN s o)) := by
  have hE := nextN_tok h (lex_name h.head hd h32 hp0)
  have hdd : ¬ (48 ≤ ((r[0]'h.head).toNat : Int) ∧ ((r[0]'h.head).toNat : Int) ≤ 57) := fun x => by rw [(dg_iff _).2 x] at hd; cases hd
  have hple := pre_le r.data.toList
  have hnm := @name_may r.data.toList
  obtain ⟨n, hn⟩ : ∃ n, n = preN r.data.toList := ⟨_, rfl⟩
  have HP := Lib.hid hn.symm
  rw [← hn] at hE h32 hp0 hple hnm
  have hrl : r.data.toList.length = r.size := by simp
  obtain ⟨u, hu⟩ : ∃ u, r.extract 0 n = u := ⟨_, rfl⟩
  have hud : u.data.toList = r.data.toList.take n := by rw [← hu]; simp
  have hus : u.size = n := by
    have := congrArg List.length hud
    simp at this
    omega
  have HMAY := Lib.hid (hnm hud hp0 h32)
  rw [← hud] at hE
  have HE := Lib.hid hE
  have hnr : n ≤ r.size := by omega
  clear hE hn hud hd hnm hple hrl
  have HN := Lib.hid h.blank
  have h0 := h.head
  have hr := h.ext
  have hrs := h.size
  have hlt := h.lt
  have hrs' : r.size ≤ 1099511627776 := by omega
  have hne : ((b : Int) == (s.size : Int)) = false := by simp; omega
  have d0 : decide ((o : Int) < 0) = false := by simp
  have HT := Lib.hid hT
  have HR := Lib.hid h
  clear hT
  by_cases h1 : 48 ≤ (r[0].toNat : Int)
  · have h3 : ¬ (r[0].toNat : Int) ≤ 57 := fun x => hdd ⟨h1, x⟩
    clear hdd
    have HB := Lib.hid (blank_any s hs (o : Int))
    go_enter Tryd.func7, Tryd.ntmps7
    go_wp2_with fail
    refine (HB.out _).mono ?_
    rintro e w1 ⟨he, rfl⟩
    rw [HN.out] at he
    subst he
    go_wp2_with fail
    have hR1 := Res.new w (.int .i8 0) (.int .i64 0) (.string ⟨#[]⟩) (.int .i64 0) (.int .i64 0) (.int .i64 0)
    refine (prefix_any r (by omega) _ (HT.out.keep hR1.1).1).mono ?_
    rintro e w1 ⟨rfl, hb1⟩
    have hR := hR1.keep hb1
    clear hR1 hb1
    rw [HP.out]
    obtain ⟨⟨x0, x1, x2, x3, u0, u1⟩, y0, y1, y2, y3, v0, v1⟩ := hR.cells
    go_wp2_with fail
    have hR2 := hR.setT (.int .i8 1) (.int .i64 0) (.string u) (.int .i64 b)
    have HCM : ∀ W, Cells W 0 letL → Calls Tryd.prog 15 #[.string u] W (IsPost W (mayS u)) := fun W hW => may7 u (by omega) W hW
    cases hlo : lowB r.data.toList
    · have HLO := Lib.hid hlo
      rw [HMAY.out, hlo] at HCM
      refine (HCM _ (HT.out.keep hR2.1).1).mono ?_
      rintro e w3 ⟨rfl, hb3⟩
      have hR3 := hR2.keep hb3
      clear hR2 hR hb3 HCM hlo x0 x1 x2 x3 u0 u1 y0 y1 y2 y3 v0 v1
      obtain ⟨⟨x0, x1, x2, x3, u0, u1⟩, y0, y1, y2, y3, v0, v1⟩ := hR3.cells
      cases hwd : wordB u.data.toList
      · have HWW := word_any u _ (HT.out.keep hR3.1).2.1
        rw [hwd] at HWW
        have HWW := Lib.hid HWW
        have HK : Hid ((if wordB u.data.toList = true then 3 else if lowB r.data.toList = true then 0 else 1 : Int) = 1) := Lib.hid (by rw [hwd, HLO.out]; rfl)
        clear hwd
        go_wp2_with fail
        refine HWW.out.mono ?_
        rintro e w4 ⟨rfl, rfl⟩
        have hR4 := hR3
        clear hR3
        go_wp2_with fail
        go_region
        have HS := Lib.hid (hR4.set (.int .i8 1) (.int .i64 0) (.string u) (.int .i64 b) (.int .i64 0) (.int .i64 0)).drew
        go_wp2_with fail
        exact ret_res HS.out rfl rfl rfl rfl ⟨by rw [HE.out, HK.out]; rfl, HS.out.1⟩
      · have HWW := word_any u _ (HT.out.keep hR3.1).2.1
        rw [hwd] at HWW
        have HWW := Lib.hid HWW
        have HK : Hid ((if wordB u.data.toList = true then 3 else if lowB r.data.toList = true then 0 else 1 : Int) = 3) := Lib.hid (by rw [hwd]; rfl)
        clear hwd
        go_wp2_with fail
        refine HWW.out.mono ?_
        rintro e w4 ⟨rfl, rfl⟩
        go_wp2_with fail
        have hR4 := hR3.setK (.int .i8 3)
        clear hR3
        go_region
        have HS := Lib.hid (hR4.set (.int .i8 3) (.int .i64 0) (.string u) (.int .i64 b) (.int .i64 0) (.int .i64 0)).drew
        go_wp2_with fail
        exact ret_res HS.out rfl rfl rfl rfl ⟨by rw [HE.out, HK.out]; rfl, HS.out.1⟩
    · have HLO := Lib.hid hlo
      rw [HMAY.out, hlo] at HCM
      refine (HCM _ (HT.out.keep hR2.1).1).mono ?_
      rintro e w3 ⟨rfl, hb3⟩
      have hR3' := hR2.keep hb3
      clear hR2 hR hb3 HCM hlo x0 x1 x2 x3 u0 u1 y0 y1 y2 y3 v0 v1
      obtain ⟨⟨x0, x1, x2, x3, u0, u1⟩, y0, y1, y2, y3, v0, v1⟩ := hR3'.cells
      have hR3 := hR3'.setK (.int .i8 0)
      clear hR3'
      cases hwd : wordB u.data.toList
      · have HWW := word_any u _ (HT.out.keep hR3.1).2.1
        rw [hwd] at HWW
        have HWW := Lib.hid HWW
        have HK : Hid ((if wordB u.data.toList = true then 3 else if lowB r.data.toList = true then 0 else 1 : Int) = 0) := Lib.hid (by rw [hwd, HLO.out]; rfl)
        clear hwd
        go_wp2_with fail
        refine HWW.out.mono ?_
        rintro e w4 ⟨rfl, rfl⟩
        have hR4 := hR3
        clear hR3
        go_wp2_with fail
        go_region
        have HS := Lib.hid (hR4.set (.int .i8 0) (.int .i64 0) (.string u) (.int .i64 b) (.int .i64 0) (.int .i64 0)).drew
        go_wp2_with fail
        exact ret_res HS.out rfl rfl rfl rfl ⟨by rw [HE.out, HK.out]; rfl, HS.out.1⟩
      · have HWW := word_any u _ (HT.out.keep hR3.1).2.1
        rw [hwd] at HWW
        have HWW := Lib.hid HWW
        have HK : Hid ((if wordB u.data.toList = true then 3 else if lowB r.data.toList = true then 0 else 1 : Int) = 3) := Lib.hid (by rw [hwd]; rfl)
        clear hwd
        go_wp2_with fail
        refine HWW.out.mono ?_
        rintro e w4 ⟨rfl, rfl⟩
        go_wp2_with fail
        have hR4 := hR3.setK (.int .i8 3)
        clear hR3
        go_region
        have HS := Lib.hid (hR4.set (.int .i8 3) (.int .i64 0) (.string u) (.int .i64 b) (.int .i64 0) (.int .i64 0)).drew
        go_wp2_with fail
        exact ret_res HS.out rfl rfl rfl rfl ⟨by rw [HE.out, HK.out]; rfl, HS.out.1⟩
  · clear hdd
    have HB := Lib.hid (blank_any s hs (o : Int))
    go_enter Tryd.func7, Tryd.ntmps7
    go_wp2_with fail
    refine (HB.out _).mono ?_
    rintro e w1 ⟨he, rfl⟩
    rw [HN.out] at he
    subst he
    go_wp2_with fail
    have hR1 := Res.new w (.int .i8 0) (.int .i64 0) (.string ⟨#[]⟩) (.int .i64 0) (.int .i64 0) (.int .i64 0)
    refine (prefix_any r (by omega) _ (HT.out.keep hR1.1).1).mono ?_
    rintro e w1 ⟨rfl, hb1⟩
    have hR := hR1.keep hb1
    clear hR1 hb1
    rw [HP.out]
    obtain ⟨⟨x0, x1, x2, x3, u0, u1⟩, y0, y1, y2, y3, v0, v1⟩ := hR.cells
    go_wp2_with fail
    have hR2 := hR.setT (.int .i8 1) (.int .i64 0) (.string u) (.int .i64 b)
    have HCM : ∀ W, Cells W 0 letL → Calls Tryd.prog 15 #[.string u] W (IsPost W (mayS u)) := fun W hW => may7 u (by omega) W hW
    cases hlo : lowB r.data.toList
    · have HLO := Lib.hid hlo
      rw [HMAY.out, hlo] at HCM
      refine (HCM _ (HT.out.keep hR2.1).1).mono ?_
      rintro e w3 ⟨rfl, hb3⟩
      have hR3 := hR2.keep hb3
      clear hR2 hR hb3 HCM hlo x0 x1 x2 x3 u0 u1 y0 y1 y2 y3 v0 v1
      obtain ⟨⟨x0, x1, x2, x3, u0, u1⟩, y0, y1, y2, y3, v0, v1⟩ := hR3.cells
      cases hwd : wordB u.data.toList
      · have HWW := word_any u _ (HT.out.keep hR3.1).2.1
        rw [hwd] at HWW
        have HWW := Lib.hid HWW
        have HK : Hid ((if wordB u.data.toList = true then 3 else if lowB r.data.toList = true then 0 else 1 : Int) = 1) := Lib.hid (by rw [hwd, HLO.out]; rfl)
        clear hwd
        go_wp2_with fail
        refine HWW.out.mono ?_
        rintro e w4 ⟨rfl, rfl⟩
        have hR4 := hR3
        clear hR3
        go_wp2_with fail
        go_region
        have HS := Lib.hid (hR4.set (.int .i8 1) (.int .i64 0) (.string u) (.int .i64 b) (.int .i64 0) (.int .i64 0)).drew
        go_wp2_with fail
        exact ret_res HS.out rfl rfl rfl rfl ⟨by rw [HE.out, HK.out]; rfl, HS.out.1⟩
      · have HWW := word_any u _ (HT.out.keep hR3.1).2.1
        rw [hwd] at HWW
        have HWW := Lib.hid HWW
        have HK : Hid ((if wordB u.data.toList = true then 3 else if lowB r.data.toList = true then 0 else 1 : Int) = 3) := Lib.hid (by rw [hwd]; rfl)
        clear hwd
        go_wp2_with fail
        refine HWW.out.mono ?_
        rintro e w4 ⟨rfl, rfl⟩
        go_wp2_with fail
        have hR4 := hR3.setK (.int .i8 3)
        clear hR3
        go_region
        have HS := Lib.hid (hR4.set (.int .i8 3) (.int .i64 0) (.string u) (.int .i64 b) (.int .i64 0) (.int .i64 0)).drew
        go_wp2_with fail
        exact ret_res HS.out rfl rfl rfl rfl ⟨by rw [HE.out, HK.out]; rfl, HS.out.1⟩
    · have HLO := Lib.hid hlo
      rw [HMAY.out, hlo] at HCM
      refine (HCM _ (HT.out.keep hR2.1).1).mono ?_
      rintro e w3 ⟨rfl, hb3⟩
      have hR3' := hR2.keep hb3
      clear hR2 hR hb3 HCM hlo x0 x1 x2 x3 u0 u1 y0 y1 y2 y3 v0 v1
      obtain ⟨⟨x0, x1, x2, x3, u0, u1⟩, y0, y1, y2, y3, v0, v1⟩ := hR3'.cells
      have hR3 := hR3'.setK (.int .i8 0)
      clear hR3'
      cases hwd : wordB u.data.toList
      · have HWW := word_any u _ (HT.out.keep hR3.1).2.1
        rw [hwd] at HWW
        have HWW := Lib.hid HWW
        have HK : Hid ((if wordB u.data.toList = true then 3 else if lowB r.data.toList = true then 0 else 1 : Int) = 0) := Lib.hid (by rw [hwd, HLO.out]; rfl)
        clear hwd
        go_wp2_with fail
        refine HWW.out.mono ?_
        rintro e w4 ⟨rfl, rfl⟩
        have hR4 := hR3
        clear hR3
        go_wp2_with fail
        go_region
        have HS := Lib.hid (hR4.set (.int .i8 0) (.int .i64 0) (.string u) (.int .i64 b) (.int .i64 0) (.int .i64 0)).drew
        go_wp2_with fail
        exact ret_res HS.out rfl rfl rfl rfl ⟨by rw [HE.out, HK.out]; rfl, HS.out.1⟩
      · have HWW := word_any u _ (HT.out.keep hR3.1).2.1
        rw [hwd] at HWW
        have HWW := Lib.hid HWW
        have HK : Hid ((if wordB u.data.toList = true then 3 else if lowB r.data.toList = true then 0 else 1 : Int) = 3) := Lib.hid (by rw [hwd]; rfl)
        clear hwd
        go_wp2_with fail
        refine HWW.out.mono ?_
        rintro e w4 ⟨rfl, rfl⟩
        go_wp2_with fail
        have hR4 := hR3.setK (.int .i8 3)
        clear hR3
        go_region
        have HS := Lib.hid (hR4.set (.int .i8 3) (.int .i64 0) (.string u) (.int .i64 b) (.int .i64 0) (.int .i64 0)).drew
        go_wp2_with fail
        exact ret_res HS.out rfl rfl rfl rfl ⟨by rw [HE.out, HK.out]; rfl, HS.out.1⟩
theorem next_any (s : ByteArray) (hs : s.size ≤ 1099511627776) (a : Int) (w : World) (hT : Tabs w) : Calls Tryd.prog 7 #[.string s, .int .i64 a] w (NextP w (nextV s a)) := by
  by_cases h : a < 0 ∨ (s.size : Int) < a
  · exact next_out s hs a h w
  · obtain ⟨o, rfl⟩ : ∃ o : Nat, a = (o : Int) := ⟨a.toNat, by omega⟩
    have e : nextV s (o : Int) = nextN s o := by rw [nextV, if_neg h]; rfl
    rw [e]
    have ho : o ≤ s.size := by omega
    by_cases he : o + blk false (s.data.toList.drop o) = s.size
    · exact next_end s hs o ho he w
    · obtain ⟨b, r, hr⟩ := Rest.mk' ho he
      by_cases hd : isDg (r[0]'hr.head) = true
      · exact next_dig s r hs o b ho hr hd w hT
      · have hd' : isDg (r[0]'hr.head) = false := by simpa using hd
        by_cases h32 : 32 < preN r.data.toList
        · exact next_long s r hs o b ho hr hd' h32 w hT
        · by_cases h0 : 0 < preN r.data.toList
          · exact next_name s r hs o b ho hr hd' (by omega) h0 w hT
          · by_cases hc : (r[0]'hr.head) = 46
            · exact next_stop s r hs o b ho hr hd' (by omega) hc w hT
            · exact next_mark s r hs o b ho hr hd' (by omega) hc (fun x => hd ((dg_iff _).2 x)) w hT
end Go.Proofs.YtnhhihmifbjkkaaDoor
