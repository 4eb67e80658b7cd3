/- scan: the reference's Next, walked. Conditions: lengths fit. -/
import Derived.Test.YtnhhihmifbjkkaaDoorSj
import Derived.Test.YtnhhihmifbjkkaaDoorSe
namespace Go.Proofs.YtnhhihmifbjkkaaDoor
open Go.ChangeShapes Go.WideShapes Go.ChangeAt Go.RowKit
set_option linter.unusedVariables false
set_option maxHeartbeats 1000000 in
theorem rnext_out (s : ByteArray) (hs : s.size ≤ 1099511627776) (a : Int) (h : a < 0 ∨ (s.size : Int) < a) (w : World) : Calls Tryd.prog 8 #[.string s, .int .i64 a] w (NextP w (nextV s a)) := by
  have HE : Hid (nextV s a = (noT, a, (60, a))) := Lib.hid (by rw [nextV, if_pos h])
  by_cases h0 : a < 0
  · clear h
    go_enter Tryd.func8, Tryd.ntmps8
    go_wp2_with fail
    refine (flaw_any 60 _ _).mono ?_
    rintro e w2 ⟨rfl, hb2⟩
    have hR2 := (Res.new w (.int .i8 0) (.int .i64 0) (.string ⟨#[]⟩) (.int .i64 0) (.int .i64 0) (.int .i64 0)).keep hb2
    have HS := Lib.hid (hR2.set (.int .i8 0) (.int .i64 0) (.string ⟨#[]⟩) (.int .i64 0) (.int .i64 60) (.int .i64 a))
    obtain ⟨⟨x0, x1, x2, x3, u0, u1⟩, y0, y1, y2, y3, v0, v1⟩ := hR2.cells
    clear hR2 hb2
    go_wp2_with fail
    exact ret_res HS.out rfl rfl rfl rfl ⟨by rw [HE.out]; rfl, HS.out.1⟩
  · have h1 : (s.size : Int) < a := by omega
    clear h
    go_enter Tryd.func8, Tryd.ntmps8
    go_wp2_with fail
    refine (flaw_any 60 _ _).mono ?_
    rintro e w2 ⟨rfl, hb2⟩
    have hR2 := (Res.new w (.int .i8 0) (.int .i64 0) (.string ⟨#[]⟩) (.int .i64 0) (.int .i64 0) (.int .i64 0)).keep hb2
    have HS := Lib.hid (hR2.set (.int .i8 0) (.int .i64 0) (.string ⟨#[]⟩) (.int .i64 0) (.int .i64 60) (.int .i64 a))
    obtain ⟨⟨x0, x1, x2, x3, u0, u1⟩, y0, y1, y2, y3, v0, v1⟩ := hR2.cells
    clear hR2 hb2
    go_wp2_with fail
    exact ret_res HS.out rfl rfl rfl rfl ⟨by rw [HE.out]; rfl, HS.out.1⟩
set_option maxHeartbeats 1000000 in
theorem rnext_end (s : ByteArray) (hs : s.size ≤ 1099511627776) (o : Nat) (ho : o ≤ s.size) (h : o + blk false (s.data.toList.drop o) = s.size) (w : World) : Calls Tryd.prog 8 #[.string s, .int .i64 o] w (NextP w (nextN s o)) := by
  have HE : Hid (nextN s o = (noT, (s.size : Int), (60, (s.size : Int)))) := Lib.hid (nextN_end h)
  have HN : Hid (blankN s (o : Int) = (s.size : Int)) := Lib.hid (by
    by_cases h1 : s.size ≤ o
    · rw [blankN, if_pos (by omega)]; omega
    · rw [blankN, if_neg (by omega)]
      have : (o : Int).toNat = o := rfl
      rw [this, h])
  have d0 : decide ((o : Int) < 0) = false := by simp
  clear h
  have HB := Lib.hid (rblank_any s hs (o : Int) (by omega))
  go_enter Tryd.func8, Tryd.ntmps8
  go_wp2_with fail
  refine (HB.out _).mono ?_
  rintro e w1 ⟨he, rfl⟩
  rw [HN.out] at he
  subst he
  go_wp2_with fail
  refine (flaw_any 60 _ _).mono ?_
  rintro e w2 ⟨rfl, hb2⟩
  have hR2 := (Res.new w (.int .i8 0) (.int .i64 0) (.string ⟨#[]⟩) (.int .i64 0) (.int .i64 0) (.int .i64 0)).keep hb2
  have HS := Lib.hid (hR2.set (.int .i8 0) (.int .i64 0) (.string ⟨#[]⟩) (.int .i64 0) (.int .i64 60) (.int .i64 s.size))
  obtain ⟨⟨x0, x1, x2, x3, u0, u1⟩, y0, y1, y2, y3, v0, v1⟩ := hR2.cells
  clear hR2 hb2
  go_wp2_with fail
  exact ret_res HS.out rfl rfl rfl rfl ⟨by rw [HE.out]; rfl, HS.out.1⟩
set_option maxHeartbeats 1000000 in
theorem rnext_dig (s r : ByteArray) (hs : s.size ≤ 1099511627776) (o b : Nat) (ho : o ≤ s.size) (h : Rest s o b r) (hd : isDg (r[0]'h.head) = true) (w : World) : Calls Tryd.prog 8 #[.string s, .int .i64 o] w (NextP w (nextN s o)) := by
  have HE := Lib.hid (nextN_dig h hd)
  obtain ⟨h1, h2⟩ := (dg_iff _).1 hd
  have HN := Lib.hid h.blank
  have h0 := h.head
  have hr := h.ext
  have hrs := h.size
  have hlt := h.lt
  have hrs' : r.size ≤ 1099511627776 := by omega
  have hne : decide (s.size ≤ b) = false := by simp; omega
  have d0 : decide ((o : Int) < 0) = false := by simp
  have HR := Lib.hid h
  obtain ⟨⟨⟨k, n, t, a⟩, e2, ⟨e, f⟩⟩, hx⟩ : ∃ x, x = digV r.data.toList (b : Int) := ⟨_, rfl⟩
  have HD := Lib.hid (number_any r hrs' (b : Int) (by omega) (by omega))
  rw [← hx] at HE HD
  clear hx
  have HB := Lib.hid (rblank_any s hs (o : Int) (by omega))
  go_enter Tryd.func8, Tryd.ntmps8
  go_wp2_with fail
  refine (HB.out _).mono ?_
  rintro e w1 ⟨he, rfl⟩
  rw [HN.out] at he
  subst he
  go_wp2_with fail
  refine (HD.out _).mono ?_
  rintro e w2 ⟨rfl, hb2⟩
  have hR2 := (Res.new w (.int .i8 0) (.int .i64 0) (.string ⟨#[]⟩) (.int .i64 0) (.int .i64 0) (.int .i64 0)).keep hb2
  have HS := Lib.hid (hR2.set (.int .i8 k) (.int .i64 n) (.string t) (.int .i64 a) (.int .i64 e) (.int .i64 f))
  obtain ⟨⟨x0, x1, x2, x3, u0, u1⟩, y0, y1, y2, y3, v0, v1⟩ := hR2.cells
  clear hR2 hb2
  go_wp2_with fail
  exact ret_res HS.out rfl rfl rfl rfl ⟨by rw [HE.out]; rfl, HS.out.1⟩
theorem isA_iff (c : UInt8) : isA c = true ↔ (97 ≤ (c.toNat : Int) ∧ (c.toNat : Int) ≤ 122) ∨ (65 ≤ (c.toNat : Int) ∧ (c.toNat : Int) ≤ 90) ∨ (48 ≤ (c.toNat : Int) ∧ (c.toNat : Int) ≤ 57) ∨ (c.toNat : Int) = 95 := by
  simp [isA, inL, letL]
  omega
theorem pre_zero {l : List UInt8} {c : UInt8} {t : List UInt8} (e : l = c :: t) (h : preN l = 0) : isA c = false := by
  subst e
  by_cases hc : isA c = true
  · unfold preN at h
    rw [List.takeWhile_cons, if_pos hc] at h
    simp at h
  · simpa using hc
theorem pre_pos {l : List UInt8} {c : UInt8} {t : List UInt8} (e : l = c :: t) (h : 0 < preN l) : isA c = true := by
  subst e
  by_cases hc : isA c = true
  · exact hc
  · unfold preN at h
    rw [List.takeWhile_cons, if_neg hc] at h
    simp at h
theorem lowB_iff {l : List UInt8} {c : UInt8} {t : List UInt8} (e : l = c :: t) : lowB l = true ↔ 97 ≤ (c.toNat : Int) ∧ (c.toNat : Int) ≤ 122 := by
  subst e
  simp [lowB, inL]
theorem other_cases {c : UInt8} (h : isA c = false) : (c.toNat : Int) < 48 ∨ (58 ≤ (c.toNat : Int) ∧ (c.toNat : Int) ≤ 64) ∨ (91 ≤ (c.toNat : Int) ∧ (c.toNat : Int) ≤ 94) ∨ (96 ≤ (c.toNat : Int) ∧ (c.toNat : Int) ≤ 96) ∨ 123 ≤ (c.toNat : Int) := by
  have h' : ¬ (isA c = true) := by rw [h]; decide
  rw [isA_iff] at h'
  omega
set_option maxHeartbeats 1000000 in
theorem rnext_stop (s r : ByteArray) (hs : s.size ≤ 1099511627776) (o b : Nat) (ho : o ≤ s.size) (h : Rest s o b r) (hd : isDg (r[0]'h.head) = false) (hp : preN r.data.toList = 0) (hc : (r[0]'h.head) = 46) (w : World) : Calls Tryd.prog 8 #[.string s, .int .i64 o] w (NextP w (nextN s o)) := by
  have HE := Lib.hid (nextN_tok h (lex_stop h.head hd hp hc))
  have h2 : ((r[0]'h.head).toNat : Int) < 48 := by rw [hc]; decide
  have hcc : (((r[0]'h.head).toNat : Int) == 46) = true := by rw [hc]; decide
  have h95 : (((r[0]'h.head).toNat : Int) == 95) = false := by rw [hc]; decide
  have HN := Lib.hid h.blank
  have h0 := h.head
  have hr := h.ext
  have hrs := h.size
  have hlt := h.lt
  have hrs' : r.size ≤ 1099511627776 := by omega
  have hne : decide (s.size ≤ b) = false := by simp; omega
  have d0 : decide ((o : Int) < 0) = false := by simp
  have HR := Lib.hid h
  clear hp hc hd
  have HB := Lib.hid (rblank_any s hs (o : Int) (by omega))
  go_enter Tryd.func8, Tryd.ntmps8
  go_wp2_with fail
  refine (HB.out _).mono ?_
  rintro e w1 ⟨he, rfl⟩
  rw [HN.out] at he
  subst he
  go_wp2_with fail
  exact ret_res (Res.new w (.int .i8 4) (.int .i64 0) (.string ⟨#[]⟩) (.int .i64 b) (.int .i64 0) (.int .i64 0)) rfl rfl rfl rfl ⟨by rw [HE.out]; rfl, two_allocs _ _ _⟩
set_option maxHeartbeats 4000000 in
theorem rnext_mark (s r : ByteArray) (hs : s.size ≤ 1099511627776) (o b : Nat) (ho : o ≤ s.size) (h : Rest s o b r) (hd : isDg (r[0]'h.head) = false) (hp : preN r.data.toList = 0) (hc : (r[0]'h.head) ≠ 46) (w : World) : Calls Tryd.prog 8 #[.string s, .int .i64 o] w (NextP w (nextN s o)) := by
  have HL := Lib.hid (lex_mark h.head hd hp hc)
  have hcc : (((r[0]'h.head).toNat : Int) == 46) = false := u8_ne (n := 46) (by decide) hc
  have hoc := other_cases (pre_zero (head_of h.head) hp)
  have h95 : (((r[0]'h.head).toNat : Int) == 95) = false := by
    rw [beq_eq_false_iff_ne]
    omega
  have HN := Lib.hid h.blank
  have h0 := h.head
  have hr := h.ext
  have hrs := h.size
  have hlt := h.lt
  have hrs' : r.size ≤ 1099511627776 := by omega
  have hne : decide (s.size ≤ b) = false := by simp; omega
  have d0 : decide ((o : Int) < 0) = false := by simp
  have HR := Lib.hid h
  have HMA := Lib.hid (mark_any r h0 hrs')
  obtain ⟨n, hn⟩ : ∃ n, n = markN r.data.toList := ⟨_, rfl⟩
  have HMN := Lib.hid hn
  rw [← hn] at HMA
  clear hp hc hd hn
  rcases hoc with hc1 | ⟨hc1, hc2⟩ | ⟨hc1, hc2⟩ | ⟨hc1, hc2⟩ | hc1
  ·
    by_cases hm : n = 0
    · subst hm
      have HE : Hid (nextN s o = (noT, (b : Int), (60, (b : Int)))) := Lib.hid (by
        have := HL.out
        have h0 := HMN.out
        unfold markN at h0
        cases hmf : markF r.data.toList with
        | none => rw [hmf] at this; exact nextN_bad HR.out this
        | some x =>
          rw [hmf] at h0
          have h1 := marks_pos (markF_some hmf).1
          simp at h0
          omega)
      have HB := Lib.hid (rblank_any s hs (o : Int) (by omega))
      go_enter Tryd.func8, Tryd.ntmps8
      go_wp2_with fail
      refine (HB.out _).mono ?_
      rintro e w1 ⟨he, rfl⟩
      rw [HN.out] at he
      subst he
      go_wp2_with fail
      refine (HMA.out _).mono ?_
      rintro e w2 ⟨rfl, rfl⟩
      go_wp2_with fail
      refine (flaw_any 60 _ _).mono ?_
      rintro e w2 ⟨rfl, hb2⟩
      have hR2 := (Res.new w (.int .i8 0) (.int .i64 0) (.string ⟨#[]⟩) (.int .i64 0) (.int .i64 0) (.int .i64 0)).keep hb2
      have HS := Lib.hid (hR2.set (.int .i8 0) (.int .i64 0) (.string ⟨#[]⟩) (.int .i64 0) (.int .i64 60) (.int .i64 b))
      obtain ⟨⟨x0, x1, x2, x3, u0, u1⟩, y0, y1, y2, y3, v0, v1⟩ := hR2.cells
      clear hR2 hb2
      go_wp2_with fail
      exact ret_res HS.out rfl rfl rfl rfl ⟨by rw [HE.out]; rfl, HS.out.1⟩
    · have hx : ∃ x, markF r.data.toList = some x ∧ x.length = n ∧ r.data.toList.take n = x := by
        have h0 := HMN.out
        unfold markN at h0
        cases hmf : markF r.data.toList with
        | none => rw [hmf] at h0; exact absurd h0 hm
        | some x =>
          rw [hmf] at h0
          refine ⟨x, rfl, h0.symm, ?_⟩
          obtain ⟨t, ht⟩ := (markF_some hmf).2
          have h0' : n = x.length := h0
          rw [h0', ht]; simp
      obtain ⟨x, hx1, hx2, hx3⟩ := hx
      obtain ⟨m, hm2⟩ : ∃ m, r.extract 0 n = m := ⟨_, rfl⟩
      have hmd : m.data.toList = x := by rw [← hm2, ← hx3]; simp
      have hnr : n ≤ r.size := by
        have := congrArg List.length hx3
        simp at this
        omega
      have hnz : ((n : Int) == 0) = false := by simp; omega
      have hn2 : n ≤ 1099511627776 := by omega
      have HE : Hid (nextN s o = ((3, 0, m, (b : Int)), (b : Int) + n, (0, 0))) := Lib.hid (by
        have := HL.out
        rw [hx1] at this
        rw [nextN_tok HR.out this, hx2, ← str_of hmd])
      clear hx1 hx2 hx3 hmd hm
      have HB := Lib.hid (rblank_any s hs (o : Int) (by omega))
      go_enter Tryd.func8, Tryd.ntmps8
      go_wp2_with fail
      refine (HB.out _).mono ?_
      rintro e w1 ⟨he, rfl⟩
      rw [HN.out] at he
      subst he
      go_wp2_with fail
      refine (HMA.out _).mono ?_
      rintro e w2 ⟨rfl, rfl⟩
      go_wp2_with fail
      exact ret_res (Res.new w (.int .i8 3) (.int .i64 0) (.string m) (.int .i64 b) (.int .i64 0) (.int .i64 0)) rfl rfl rfl rfl ⟨by rw [HE.out]; rfl, two_allocs _ _ _⟩
  ·
    by_cases hm : n = 0
    · subst hm
      have HE : Hid (nextN s o = (noT, (b : Int), (60, (b : Int)))) := Lib.hid (by
        have := HL.out
        have h0 := HMN.out
        unfold markN at h0
        cases hmf : markF r.data.toList with
        | none => rw [hmf] at this; exact nextN_bad HR.out this
        | some x =>
          rw [hmf] at h0
          have h1 := marks_pos (markF_some hmf).1
          simp at h0
          omega)
      have HB := Lib.hid (rblank_any s hs (o : Int) (by omega))
      go_enter Tryd.func8, Tryd.ntmps8
      go_wp2_with fail
      refine (HB.out _).mono ?_
      rintro e w1 ⟨he, rfl⟩
      rw [HN.out] at he
      subst he
      go_wp2_with fail
      refine (HMA.out _).mono ?_
      rintro e w2 ⟨rfl, rfl⟩
      go_wp2_with fail
      refine (flaw_any 60 _ _).mono ?_
      rintro e w2 ⟨rfl, hb2⟩
      have hR2 := (Res.new w (.int .i8 0) (.int .i64 0) (.string ⟨#[]⟩) (.int .i64 0) (.int .i64 0) (.int .i64 0)).keep hb2
      have HS := Lib.hid (hR2.set (.int .i8 0) (.int .i64 0) (.string ⟨#[]⟩) (.int .i64 0) (.int .i64 60) (.int .i64 b))
      obtain ⟨⟨x0, x1, x2, x3, u0, u1⟩, y0, y1, y2, y3, v0, v1⟩ := hR2.cells
      clear hR2 hb2
      go_wp2_with fail
      exact ret_res HS.out rfl rfl rfl rfl ⟨by rw [HE.out]; rfl, HS.out.1⟩
    · have hx : ∃ x, markF r.data.toList = some x ∧ x.length = n ∧ r.data.toList.take n = x := by
        have h0 := HMN.out
        unfold markN at h0
        cases hmf : markF r.data.toList with
        | none => rw [hmf] at h0; exact absurd h0 hm
        | some x =>
          rw [hmf] at h0
          refine ⟨x, rfl, h0.symm, ?_⟩
          obtain ⟨t, ht⟩ := (markF_some hmf).2
          have h0' : n = x.length := h0
          rw [h0', ht]; simp
      obtain ⟨x, hx1, hx2, hx3⟩ := hx
      obtain ⟨m, hm2⟩ : ∃ m, r.extract 0 n = m := ⟨_, rfl⟩
      have hmd : m.data.toList = x := by rw [← hm2, ← hx3]; simp
      have hnr : n ≤ r.size := by
        have := congrArg List.length hx3
        simp at this
        omega
      have hnz : ((n : Int) == 0) = false := by simp; omega
      have hn2 : n ≤ 1099511627776 := by omega
      have HE : Hid (nextN s o = ((3, 0, m, (b : Int)), (b : Int) + n, (0, 0))) := Lib.hid (by
        have := HL.out
        rw [hx1] at this
        rw [nextN_tok HR.out this, hx2, ← str_of hmd])
      clear hx1 hx2 hx3 hmd hm
      have HB := Lib.hid (rblank_any s hs (o : Int) (by omega))
      go_enter Tryd.func8, Tryd.ntmps8
      go_wp2_with fail
      refine (HB.out _).mono ?_
      rintro e w1 ⟨he, rfl⟩
      rw [HN.out] at he
      subst he
      go_wp2_with fail
      refine (HMA.out _).mono ?_
      rintro e w2 ⟨rfl, rfl⟩
      go_wp2_with fail
      exact ret_res (Res.new w (.int .i8 3) (.int .i64 0) (.string m) (.int .i64 b) (.int .i64 0) (.int .i64 0)) rfl rfl rfl rfl ⟨by rw [HE.out]; rfl, two_allocs _ _ _⟩
  ·
    by_cases hm : n = 0
    · subst hm
      have HE : Hid (nextN s o = (noT, (b : Int), (60, (b : Int)))) := Lib.hid (by
        have := HL.out
        have h0 := HMN.out
        unfold markN at h0
        cases hmf : markF r.data.toList with
        | none => rw [hmf] at this; exact nextN_bad HR.out this
        | some x =>
          rw [hmf] at h0
          have h1 := marks_pos (markF_some hmf).1
          simp at h0
          omega)
      have HB := Lib.hid (rblank_any s hs (o : Int) (by omega))
      go_enter Tryd.func8, Tryd.ntmps8
      go_wp2_with fail
      refine (HB.out _).mono ?_
      rintro e w1 ⟨he, rfl⟩
      rw [HN.out] at he
      subst he
      go_wp2_with fail
      refine (HMA.out _).mono ?_
      rintro e w2 ⟨rfl, rfl⟩
      go_wp2_with fail
      refine (flaw_any 60 _ _).mono ?_
      rintro e w2 ⟨rfl, hb2⟩
      have hR2 := (Res.new w (.int .i8 0) (.int .i64 0) (.string ⟨#[]⟩) (.int .i64 0) (.int .i64 0) (.int .i64 0)).keep hb2
      have HS := Lib.hid (hR2.set (.int .i8 0) (.int .i64 0) (.string ⟨#[]⟩) (.int .i64 0) (.int .i64 60) (.int .i64 b))
      obtain ⟨⟨x0, x1, x2, x3, u0, u1⟩, y0, y1, y2, y3, v0, v1⟩ := hR2.cells
      clear hR2 hb2
      go_wp2_with fail
      exact ret_res HS.out rfl rfl rfl rfl ⟨by rw [HE.out]; rfl, HS.out.1⟩
    · have hx : ∃ x, markF r.data.toList = some x ∧ x.length = n ∧ r.data.toList.take n = x := by
        have h0 := HMN.out
        unfold markN at h0
        cases hmf : markF r.data.toList with
        | none => rw [hmf] at h0; exact absurd h0 hm
        | some x =>
          rw [hmf] at h0
          refine ⟨x, rfl, h0.symm, ?_⟩
          obtain ⟨t, ht⟩ := (markF_some hmf).2
          have h0' : n = x.length := h0
          rw [h0', ht]; simp
      obtain ⟨x, hx1, hx2, hx3⟩ := hx
      obtain ⟨m, hm2⟩ : ∃ m, r.extract 0 n = m := ⟨_, rfl⟩
      have hmd : m.data.toList = x := by rw [← hm2, ← hx3]; simp
      have hnr : n ≤ r.size := by
        have := congrArg List.length hx3
        simp at this
        omega
      have hnz : ((n : Int) == 0) = false := by simp; omega
      have hn2 : n ≤ 1099511627776 := by omega
      have HE : Hid (nextN s o = ((3, 0, m, (b : Int)), (b : Int) + n, (0, 0))) := Lib.hid (by
        have := HL.out
        rw [hx1] at this
        rw [nextN_tok HR.out this, hx2, ← str_of hmd])
      clear hx1 hx2 hx3 hmd hm
      have HB := Lib.hid (rblank_any s hs (o : Int) (by omega))
      go_enter Tryd.func8, Tryd.ntmps8
      go_wp2_with fail
      refine (HB.out _).mono ?_
      rintro e w1 ⟨he, rfl⟩
      rw [HN.out] at he
      subst he
      go_wp2_with fail
      refine (HMA.out _).mono ?_
      rintro e w2 ⟨rfl, rfl⟩
      go_wp2_with fail
      exact ret_res (Res.new w (.int .i8 3) (.int .i64 0) (.string m) (.int .i64 b) (.int .i64 0) (.int .i64 0)) rfl rfl rfl rfl ⟨by rw [HE.out]; rfl, two_allocs _ _ _⟩
  ·
    by_cases hm : n = 0
    · subst hm
      have HE : Hid (nextN s o = (noT, (b : Int), (60, (b : Int)))) := Lib.hid (by
        have := HL.out
        have h0 := HMN.out
        unfold markN at h0
        cases hmf : markF r.data.toList with
        | none => rw [hmf] at this; exact nextN_bad HR.out this
        | some x =>
          rw [hmf] at h0
          have h1 := marks_pos (markF_some hmf).1
          simp at h0
          omega)
      have HB := Lib.hid (rblank_any s hs (o : Int) (by omega))
      go_enter Tryd.func8, Tryd.ntmps8
      go_wp2_with fail
      refine (HB.out _).mono ?_
      rintro e w1 ⟨he, rfl⟩
      rw [HN.out] at he
      subst he
      go_wp2_with fail
      refine (HMA.out _).mono ?_
      rintro e w2 ⟨rfl, rfl⟩
      go_wp2_with fail
      refine (flaw_any 60 _ _).mono ?_
      rintro e w2 ⟨rfl, hb2⟩
      have hR2 := (Res.new w (.int .i8 0) (.int .i64 0) (.string ⟨#[]⟩) (.int .i64 0) (.int .i64 0) (.int .i64 0)).keep hb2
      have HS := Lib.hid (hR2.set (.int .i8 0) (.int .i64 0) (.string ⟨#[]⟩) (.int .i64 0) (.int .i64 60) (.int .i64 b))
      obtain ⟨⟨x0, x1, x2, x3, u0, u1⟩, y0, y1, y2, y3, v0, v1⟩ := hR2.cells
      clear hR2 hb2
      go_wp2_with fail
      exact ret_res HS.out rfl rfl rfl rfl ⟨by rw [HE.out]; rfl, HS.out.1⟩
    · have hx : ∃ x, markF r.data.toList = some x ∧ x.length = n ∧ r.data.toList.take n = x := by
        have h0 := HMN.out
        unfold markN at h0
        cases hmf : markF r.data.toList with
        | none => rw [hmf] at h0; exact absurd h0 hm
        | some x =>
          rw [hmf] at h0
          refine ⟨x, rfl, h0.symm, ?_⟩
          obtain ⟨t, ht⟩ := (markF_some hmf).2
          have h0' : n = x.length := h0
          rw [h0', ht]; simp
      obtain ⟨x, hx1, hx2, hx3⟩ := hx
      obtain ⟨m, hm2⟩ : ∃ m, r.extract 0 n = m := ⟨_, rfl⟩
      have hmd : m.data.toList = x := by rw [← hm2, ← hx3]; simp
      have hnr : n ≤ r.size := by
        have := congrArg List.length hx3
        simp at this
        omega
      have hnz : ((n : Int) == 0) = false := by simp; omega
      have hn2 : n ≤ 1099511627776 := by omega
      have HE : Hid (nextN s o = ((3, 0, m, (b : Int)), (b : Int) + n, (0, 0))) := Lib.hid (by
        have := HL.out
        rw [hx1] at this
        rw [nextN_tok HR.out this, hx2, ← str_of hmd])
      clear hx1 hx2 hx3 hmd hm
      have HB := Lib.hid (rblank_any s hs (o : Int) (by omega))
      go_enter Tryd.func8, Tryd.ntmps8
      go_wp2_with fail
      refine (HB.out _).mono ?_
      rintro e w1 ⟨he, rfl⟩
      rw [HN.out] at he
      subst he
      go_wp2_with fail
      refine (HMA.out _).mono ?_
      rintro e w2 ⟨rfl, rfl⟩
      go_wp2_with fail
      exact ret_res (Res.new w (.int .i8 3) (.int .i64 0) (.string m) (.int .i64 b) (.int .i64 0) (.int .i64 0)) rfl rfl rfl rfl ⟨by rw [HE.out]; rfl, two_allocs _ _ _⟩
  ·
    by_cases hm : n = 0
    · subst hm
      have HE : Hid (nextN s o = (noT, (b : Int), (60, (b : Int)))) := Lib.hid (by
        have := HL.out
        have h0 := HMN.out
        unfold markN at h0
        cases hmf : markF r.data.toList with
        | none => rw [hmf] at this; exact nextN_bad HR.out this
        | some x =>
          rw [hmf] at h0
          have h1 := marks_pos (markF_some hmf).1
          simp at h0
          omega)
      have HB := Lib.hid (rblank_any s hs (o : Int) (by omega))
      go_enter Tryd.func8, Tryd.ntmps8
      go_wp2_with fail
      refine (HB.out _).mono ?_
      rintro e w1 ⟨he, rfl⟩
      rw [HN.out] at he
      subst he
      go_wp2_with fail
      refine (HMA.out _).mono ?_
      rintro e w2 ⟨rfl, rfl⟩
      go_wp2_with fail
      refine (flaw_any 60 _ _).mono ?_
      rintro e w2 ⟨rfl, hb2⟩
      have hR2 := (Res.new w (.int .i8 0) (.int .i64 0) (.string ⟨#[]⟩) (.int .i64 0) (.int .i64 0) (.int .i64 0)).keep hb2
      have HS := Lib.hid (hR2.set (.int .i8 0) (.int .i64 0) (.string ⟨#[]⟩) (.int .i64 0) (.int .i64 60) (.int .i64 b))
      obtain ⟨⟨x0, x1, x2, x3, u0, u1⟩, y0, y1, y2, y3, v0, v1⟩ := hR2.cells
      clear hR2 hb2
      go_wp2_with fail
      exact ret_res HS.out rfl rfl rfl rfl ⟨by rw [HE.out]; rfl, HS.out.1⟩
    · have hx : ∃ x, markF r.data.toList = some x ∧ x.length = n ∧ r.data.toList.take n = x := by
        have h0 := HMN.out
        unfold markN at h0
        cases hmf : markF r.data.toList with
        | none => rw [hmf] at h0; exact absurd h0 hm
        | some x =>
          rw [hmf] at h0
          refine ⟨x, rfl, h0.symm, ?_⟩
          obtain ⟨t, ht⟩ := (markF_some hmf).2
          have h0' : n = x.length := h0
          rw [h0', ht]; simp
      obtain ⟨x, hx1, hx2, hx3⟩ := hx
      obtain ⟨m, hm2⟩ : ∃ m, r.extract 0 n = m := ⟨_, rfl⟩
      have hmd : m.data.toList = x := by rw [← hm2, ← hx3]; simp
      have hnr : n ≤ r.size := by
        have := congrArg List.length hx3
        simp at this
        omega
      have hnz : ((n : Int) == 0) = false := by simp; omega
      have hn2 : n ≤ 1099511627776 := by omega
      have HE : Hid (nextN s o = ((3, 0, m, (b : Int)), (b : Int) + n, (0, 0))) := Lib.hid (by
        have := HL.out
        rw [hx1] at this
        rw [nextN_tok HR.out this, hx2, ← str_of hmd])
      clear hx1 hx2 hx3 hmd hm
      have HB := Lib.hid (rblank_any s hs (o : Int) (by omega))
      go_enter Tryd.func8, Tryd.ntmps8
      go_wp2_with fail
      refine (HB.out _).mono ?_
      rintro e w1 ⟨he, rfl⟩
      rw [HN.out] at he
      subst he
      go_wp2_with fail
      refine (HMA.out _).mono ?_
      rintro e w2 ⟨rfl, rfl⟩
      go_wp2_with fail
      exact ret_res (Res.new w (.int .i8 3) (.int .i64 0) (.string m) (.int .i64 b) (.int .i64 0) (.int .i64 0)) rfl rfl rfl rfl ⟨by rw [HE.out]; rfl, two_allocs _ _ _⟩
theorem name_cases {c : UInt8} (h : isA c = true) (hd : isDg c = false) : (97 ≤ (c.toNat : Int) ∧ (c.toNat : Int) ≤ 122) ∨ (65 ≤ (c.toNat : Int) ∧ (c.toNat : Int) ≤ 90) ∨ (95 ≤ (c.toNat : Int) ∧ (c.toNat : Int) ≤ 95 ∧ ((c.toNat : Int) == 95) = true) := by
  have h' := (isA_iff c).1 h
  have hd' : ¬ (isDg c = true) := by rw [hd]; decide
  rw [dg_iff] at hd'
  rcases h' with h' | h' | h' | h'
  · exact .inl h'
  · exact .inr (.inl h')
  · exact absurd h' hd'
  · exact .inr (.inr ⟨by omega, by omega, by rw [h']; rfl⟩)
set_option maxHeartbeats 4000000 in
theorem rnext_long (s r : ByteArray) (hs : s.size ≤ 1099511627776) (o b : Nat) (ho : o ≤ s.size) (h : Rest s o b r) (hd : isDg (r[0]'h.head) = false) (hp : 32 < preN r.data.toList) (w : World) : Calls Tryd.prog 8 #[.string s, .int .i64 o] w (NextP w (nextN s o)) := by
  have HE := Lib.hid (nextN_bad h (lex_long h.head hd hp))
  have hnc := name_cases (pre_pos (head_of h.head) (by omega)) hd
  have HN := Lib.hid h.blank
  have h0 := h.head
  have hr := h.ext
  have hrs := h.size
  have hlt := h.lt
  have hrs' : r.size ≤ 1099511627776 := by omega
  have hne : decide (s.size ≤ b) = false := by simp; omega
  have d0 : decide ((o : Int) < 0) = false := by simp
  have HR := Lib.hid h
  have hple := pre_le r.data.toList
  have hrl : r.data.toList.length = r.size := by simp
  obtain ⟨n, hn⟩ : ∃ n, n = preN r.data.toList := ⟨_, rfl⟩
  have HP := Lib.hid hn.symm
  rw [← hn] at hp hple
  have hnr : n ≤ r.size := by omega
  clear hn hd hple hrl
  rcases hnc with ⟨hc1, hc2⟩ | ⟨hc1, hc2⟩ | ⟨hc1, hc2, hc3⟩
  ·
    have HB := Lib.hid (rblank_any s hs (o : Int) (by omega))
    go_enter Tryd.func8, Tryd.ntmps8
    go_wp2_with fail
    refine (HB.out _).mono ?_
    rintro e w1 ⟨he, rfl⟩
    rw [HN.out] at he
    subst he
    go_wp2_with fail
    refine (refprefix_any r (by omega) _).mono ?_
    rintro e w2 ⟨rfl, hb2⟩
    rw [HP.out]
    have hR := (Res.new w (.int .i8 0) (.int .i64 0) (.string ⟨#[]⟩) (.int .i64 0) (.int .i64 0) (.int .i64 0)).keep hb2
    go_wp2_with fail
    refine (flaw_any 11 _ _).mono ?_
    rintro e w2 ⟨rfl, hb2⟩
    have hR2 := (hR).keep hb2
    have HS := Lib.hid (hR2.set (.int .i8 0) (.int .i64 0) (.string ⟨#[]⟩) (.int .i64 0) (.int .i64 11) (.int .i64 b))
    obtain ⟨⟨x0, x1, x2, x3, u0, u1⟩, y0, y1, y2, y3, v0, v1⟩ := hR2.cells
    clear hR2 hb2
    go_wp2_with fail
    exact ret_res HS.out rfl rfl rfl rfl ⟨by rw [HE.out]; rfl, HS.out.1⟩
  ·
    have HB := Lib.hid (rblank_any s hs (o : Int) (by omega))
    go_enter Tryd.func8, Tryd.ntmps8
    go_wp2_with fail
    refine (HB.out _).mono ?_
    rintro e w1 ⟨he, rfl⟩
    rw [HN.out] at he
    subst he
    go_wp2_with fail
    refine (refprefix_any r (by omega) _).mono ?_
    rintro e w2 ⟨rfl, hb2⟩
    rw [HP.out]
    have hR := (Res.new w (.int .i8 0) (.int .i64 0) (.string ⟨#[]⟩) (.int .i64 0) (.int .i64 0) (.int .i64 0)).keep hb2
    go_wp2_with fail
    refine (flaw_any 11 _ _).mono ?_
    rintro e w2 ⟨rfl, hb2⟩
    have hR2 := (hR).keep hb2
    have HS := Lib.hid (hR2.set (.int .i8 0) (.int .i64 0) (.string ⟨#[]⟩) (.int .i64 0) (.int .i64 11) (.int .i64 b))
    obtain ⟨⟨x0, x1, x2, x3, u0, u1⟩, y0, y1, y2, y3, v0, v1⟩ := hR2.cells
    clear hR2 hb2
    go_wp2_with fail
    exact ret_res HS.out rfl rfl rfl rfl ⟨by rw [HE.out]; rfl, HS.out.1⟩
  ·
    have HB := Lib.hid (rblank_any s hs (o : Int) (by omega))
    go_enter Tryd.func8, Tryd.ntmps8
    go_wp2_with fail
    refine (HB.out _).mono ?_
    rintro e w1 ⟨he, rfl⟩
    rw [HN.out] at he
    subst he
    go_wp2_with fail
    refine (refprefix_any r (by omega) _).mono ?_
    rintro e w2 ⟨rfl, hb2⟩
    rw [HP.out]
    have hR := (Res.new w (.int .i8 0) (.int .i64 0) (.string ⟨#[]⟩) (.int .i64 0) (.int .i64 0) (.int .i64 0)).keep hb2
    go_wp2_with fail
    refine (flaw_any 11 _ _).mono ?_
    rintro e w2 ⟨rfl, hb2⟩
    have hR2 := (hR).keep hb2
    have HS := Lib.hid (hR2.set (.int .i8 0) (.int .i64 0) (.string ⟨#[]⟩) (.int .i64 0) (.int .i64 11) (.int .i64 b))
    obtain ⟨⟨x0, x1, x2, x3, u0, u1⟩, y0, y1, y2, y3, v0, v1⟩ := hR2.cells
    clear hR2 hb2
    go_wp2_with fail
    exact ret_res HS.out rfl rfl rfl rfl ⟨by rw [HE.out]; rfl, HS.out.1⟩
set_option maxHeartbeats 4000000 in
theorem rnext_name (s r : ByteArray) (hs : s.size ≤ 1099511627776) (o b : Nat) (ho : o ≤ s.size) (h : Rest s o b r) (hd : isDg (r[0]'h.head) = false) (h32 : preN r.data.toList ≤ 32) (hp0 : 0 < preN r.data.toList) (w : World) : Calls Tryd.prog 8 #[.string s, .int .i64 o] w (NextP w (nextN s o)) := by
  have hE := nextN_tok h (lex_name h.head hd h32 hp0)
  have hnc := name_cases (pre_pos (head_of h.head) (by omega)) hd
  have hlow := lowB_iff (head_of h.head)
  have hple := pre_le r.data.toList
  obtain ⟨n, hn⟩ : ∃ n, n = preN r.data.toList := ⟨_, rfl⟩
  have HP := Lib.hid hn.symm
  rw [← hn] at hE h32 hp0 hple
  have hrl : r.data.toList.length = r.size := by simp
  obtain ⟨u, hu⟩ : ∃ u, r.extract 0 n = u := ⟨_, rfl⟩
  have hud : u.data.toList = r.data.toList.take n := by rw [← hu]; simp
  rw [← hud] at hE
  have HE := Lib.hid hE
  have hnr : n ≤ r.size := by omega
  clear hE hn hud hd hple hrl
  have HN := Lib.hid h.blank
  have h0 := h.head
  have hr := h.ext
  have hrs := h.size
  have hlt := h.lt
  have hrs' : r.size ≤ 1099511627776 := by omega
  have hne : decide (s.size ≤ b) = false := by simp; omega
  have d0 : decide ((o : Int) < 0) = false := by simp
  have HR := Lib.hid h
  rcases hnc with ⟨hc1, hc2⟩ | ⟨hc1, hc2⟩ | ⟨hc1, hc2, hc3⟩
  · have HLO : Hid (lowB r.data.toList = true) := Lib.hid (hlow.2 ⟨hc1, hc2⟩)
    clear hlow
    cases hwd : wordB u.data.toList
    · have HWW := Lib.hid (fun W => rword_any u W)
      rw [hwd] at HWW
      have HK : Hid ((if wordB u.data.toList = true then 3 else if lowB r.data.toList = true then 0 else 1 : Int) = 0) := Lib.hid (by rw [hwd, HLO.out]; rfl)
      clear hwd
      have HB := Lib.hid (rblank_any s hs (o : Int) (by omega))
      go_enter Tryd.func8, Tryd.ntmps8
      go_wp2_with fail
      refine (HB.out _).mono ?_
      rintro e w1 ⟨he, rfl⟩
      rw [HN.out] at he
      subst he
      go_wp2_with fail
      refine (refprefix_any r (by omega) _).mono ?_
      rintro e w2 ⟨rfl, hb2⟩
      rw [HP.out]
      have hR := (Res.new w (.int .i8 0) (.int .i64 0) (.string ⟨#[]⟩) (.int .i64 0) (.int .i64 0) (.int .i64 0)).keep hb2
      go_wp2_with fail
      refine (HWW.out _).mono ?_
      rintro e w3 ⟨rfl, rfl⟩
      have hR3 := hR.keep ((Below.refl _ _).alloc (Nat.le_refl _) (.cells #[.int .i8 0, .int .i64 0, .string u, .int .i64 b] 25))
      have HS := Lib.hid (hR3.set (.int .i8 0) (.int .i64 0) (.string u) (.int .i64 b) (.int .i64 0) (.int .i64 0))
      obtain ⟨⟨x0, x1, x2, x3, u0, u1⟩, y0, y1, y2, y3, v0, v1⟩ := hR3.cells
      have hsz := heap_lt hR.2.2
      clear hR3 hR hb2
      go_wp2_with fail
      exact ret_res HS.out rfl rfl rfl rfl ⟨by rw [HE.out, HK.out]; rfl, HS.out.1⟩
    · have HWW := Lib.hid (fun W => rword_any u W)
      rw [hwd] at HWW
      have HK : Hid ((if wordB u.data.toList = true then 3 else if lowB r.data.toList = true then 0 else 1 : Int) = 3) := Lib.hid (by rw [hwd]; rfl)
      clear hwd
      have HB := Lib.hid (rblank_any s hs (o : Int) (by omega))
      go_enter Tryd.func8, Tryd.ntmps8
      go_wp2_with fail
      refine (HB.out _).mono ?_
      rintro e w1 ⟨he, rfl⟩
      rw [HN.out] at he
      subst he
      go_wp2_with fail
      refine (refprefix_any r (by omega) _).mono ?_
      rintro e w2 ⟨rfl, hb2⟩
      rw [HP.out]
      have hR := (Res.new w (.int .i8 0) (.int .i64 0) (.string ⟨#[]⟩) (.int .i64 0) (.int .i64 0) (.int .i64 0)).keep hb2
      go_wp2_with fail
      refine (HWW.out _).mono ?_
      rintro e w3 ⟨rfl, rfl⟩
      have hR3 := hR.keep ((Below.refl _ _).alloc (Nat.le_refl _) (.cells #[.int .i8 3, .int .i64 0, .string u, .int .i64 b] 25))
      have HS := Lib.hid (hR3.set (.int .i8 3) (.int .i64 0) (.string u) (.int .i64 b) (.int .i64 0) (.int .i64 0))
      obtain ⟨⟨x0, x1, x2, x3, u0, u1⟩, y0, y1, y2, y3, v0, v1⟩ := hR3.cells
      have hsz := heap_lt hR.2.2
      clear hR3 hR hb2
      go_wp2_with fail
      exact ret_res HS.out rfl rfl rfl rfl ⟨by rw [HE.out, HK.out]; rfl, HS.out.1⟩
  · have HLO : Hid (lowB r.data.toList = false) := Lib.hid (by rw [← Bool.not_eq_true, hlow]; omega)
    clear hlow
    cases hwd : wordB u.data.toList
    · have HWW := Lib.hid (fun W => rword_any u W)
      rw [hwd] at HWW
      have HK : Hid ((if wordB u.data.toList = true then 3 else if lowB r.data.toList = true then 0 else 1 : Int) = 1) := Lib.hid (by rw [hwd, HLO.out]; rfl)
      clear hwd
      have HB := Lib.hid (rblank_any s hs (o : Int) (by omega))
      go_enter Tryd.func8, Tryd.ntmps8
      go_wp2_with fail
      refine (HB.out _).mono ?_
      rintro e w1 ⟨he, rfl⟩
      rw [HN.out] at he
      subst he
      go_wp2_with fail
      refine (refprefix_any r (by omega) _).mono ?_
      rintro e w2 ⟨rfl, hb2⟩
      rw [HP.out]
      have hR := (Res.new w (.int .i8 0) (.int .i64 0) (.string ⟨#[]⟩) (.int .i64 0) (.int .i64 0) (.int .i64 0)).keep hb2
      go_wp2_with fail
      refine (HWW.out _).mono ?_
      rintro e w3 ⟨rfl, rfl⟩
      have hR3 := hR.keep ((Below.refl _ _).alloc (Nat.le_refl _) (.cells #[.int .i8 1, .int .i64 0, .string u, .int .i64 b] 25))
      have HS := Lib.hid (hR3.set (.int .i8 1) (.int .i64 0) (.string u) (.int .i64 b) (.int .i64 0) (.int .i64 0))
      obtain ⟨⟨x0, x1, x2, x3, u0, u1⟩, y0, y1, y2, y3, v0, v1⟩ := hR3.cells
      have hsz := heap_lt hR.2.2
      clear hR3 hR hb2
      go_wp2_with fail
      exact ret_res HS.out rfl rfl rfl rfl ⟨by rw [HE.out, HK.out]; rfl, HS.out.1⟩
    · have HWW := Lib.hid (fun W => rword_any u W)
      rw [hwd] at HWW
      have HK : Hid ((if wordB u.data.toList = true then 3 else if lowB r.data.toList = true then 0 else 1 : Int) = 3) := Lib.hid (by rw [hwd]; rfl)
      clear hwd
      have HB := Lib.hid (rblank_any s hs (o : Int) (by omega))
      go_enter Tryd.func8, Tryd.ntmps8
      go_wp2_with fail
      refine (HB.out _).mono ?_
      rintro e w1 ⟨he, rfl⟩
      rw [HN.out] at he
      subst he
      go_wp2_with fail
      refine (refprefix_any r (by omega) _).mono ?_
      rintro e w2 ⟨rfl, hb2⟩
      rw [HP.out]
      have hR := (Res.new w (.int .i8 0) (.int .i64 0) (.string ⟨#[]⟩) (.int .i64 0) (.int .i64 0) (.int .i64 0)).keep hb2
      go_wp2_with fail
      refine (HWW.out _).mono ?_
      rintro e w3 ⟨rfl, rfl⟩
      have hR3 := hR.keep ((Below.refl _ _).alloc (Nat.le_refl _) (.cells #[.int .i8 3, .int .i64 0, .string u, .int .i64 b] 25))
      have HS := Lib.hid (hR3.set (.int .i8 3) (.int .i64 0) (.string u) (.int .i64 b) (.int .i64 0) (.int .i64 0))
      obtain ⟨⟨x0, x1, x2, x3, u0, u1⟩, y0, y1, y2, y3, v0, v1⟩ := hR3.cells
      have hsz := heap_lt hR.2.2
      clear hR3 hR hb2
      go_wp2_with fail
      exact ret_res HS.out rfl rfl rfl rfl ⟨by rw [HE.out, HK.out]; rfl, HS.out.1⟩
  · have HLO : Hid (lowB r.data.toList = false) := Lib.hid (by rw [← Bool.not_eq_true, hlow]; omega)
    clear hlow
    cases hwd : wordB u.data.toList
    · have HWW := Lib.hid (fun W => rword_any u W)
      rw [hwd] at HWW
      have HK : Hid ((if wordB u.data.toList = true then 3 else if lowB r.data.toList = true then 0 else 1 : Int) = 1) := Lib.hid (by rw [hwd, HLO.out]; rfl)
      clear hwd
      have HB := Lib.hid (rblank_any s hs (o : Int) (by omega))
      go_enter Tryd.func8, Tryd.ntmps8
      go_wp2_with fail
      refine (HB.out _).mono ?_
      rintro e w1 ⟨he, rfl⟩
      rw [HN.out] at he
      subst he
      go_wp2_with fail
      refine (refprefix_any r (by omega) _).mono ?_
      rintro e w2 ⟨rfl, hb2⟩
      rw [HP.out]
      have hR := (Res.new w (.int .i8 0) (.int .i64 0) (.string ⟨#[]⟩) (.int .i64 0) (.int .i64 0) (.int .i64 0)).keep hb2
      go_wp2_with fail
      refine (HWW.out _).mono ?_
      rintro e w3 ⟨rfl, rfl⟩
      have hR3 := hR.keep ((Below.refl _ _).alloc (Nat.le_refl _) (.cells #[.int .i8 1, .int .i64 0, .string u, .int .i64 b] 25))
      have HS := Lib.hid (hR3.set (.int .i8 1) (.int .i64 0) (.string u) (.int .i64 b) (.int .i64 0) (.int .i64 0))
      obtain ⟨⟨x0, x1, x2, x3, u0, u1⟩, y0, y1, y2, y3, v0, v1⟩ := hR3.cells
      have hsz := heap_lt hR.2.2
      clear hR3 hR hb2
      go_wp2_with fail
      exact ret_res HS.out rfl rfl rfl rfl ⟨by rw [HE.out, HK.out]; rfl, HS.out.1⟩
    · have HWW := Lib.hid (fun W => rword_any u W)
      rw [hwd] at HWW
      have HK : Hid ((if wordB u.data.toList = true then 3 else if lowB r.data.toList = true then 0 else 1 : Int) = 3) := Lib.hid (by rw [hwd]; rfl)
      clear hwd
      have HB := Lib.hid (rblank_any s hs (o : Int) (by omega))
      go_enter Tryd.func8, Tryd.ntmps8
      go_wp2_with fail
      refine (HB.out _).mono ?_
      rintro e w1 ⟨he, rfl⟩
      rw [HN.out] at he
      subst he
      go_wp2_with fail
      refine (refprefix_any r (by omega) _).mono ?_
      rintro e w2 ⟨rfl, hb2⟩
      rw [HP.out]
      have hR := (Res.new w (.int .i8 0) (.int .i64 0) (.string ⟨#[]⟩) (.int .i64 0) (.int .i64 0) (.int .i64 0)).keep hb2
      go_wp2_with fail
      refine (HWW.out _).mono ?_
      rintro e w3 ⟨rfl, rfl⟩
      have hR3 := hR.keep ((Below.refl _ _).alloc (Nat.le_refl _) (.cells #[.int .i8 3, .int .i64 0, .string u, .int .i64 b] 25))
      have HS := Lib.hid (hR3.set (.int .i8 3) (.int .i64 0) (.string u) (.int .i64 b) (.int .i64 0) (.int .i64 0))
      obtain ⟨⟨x0, x1, x2, x3, u0, u1⟩, y0, y1, y2, y3, v0, v1⟩ := hR3.cells
      have hsz := heap_lt hR.2.2
      clear hR3 hR hb2
      go_wp2_with fail
      exact ret_res HS.out rfl rfl rfl rfl ⟨by rw [HE.out, HK.out]; rfl, HS.out.1⟩
theorem rnext_any (s : ByteArray) (hs : s.size ≤ 1099511627776) (a : Int) (w : World) : Calls Tryd.prog 8 #[.string s, .int .i64 a] w (NextP w (nextV s a)) := by
  by_cases h : a < 0 ∨ (s.size : Int) < a
  · exact rnext_out s hs a h w
  · obtain ⟨o, rfl⟩ : ∃ o : Nat, a = (o : Int) := ⟨a.toNat, by omega⟩
    have e : nextV s (o : Int) = nextN s o := by rw [nextV, if_neg h]; rfl
    rw [e]
    have ho : o ≤ s.size := by omega
    by_cases he : o + blk false (s.data.toList.drop o) = s.size
    · exact rnext_end s hs o ho he w
    · obtain ⟨b, r, hr⟩ := Rest.mk' ho he
      by_cases hd : isDg (r[0]'hr.head) = true
      · exact rnext_dig s r hs o b ho hr hd w
      · have hd' : isDg (r[0]'hr.head) = false := by simpa using hd
        by_cases h32 : 32 < preN r.data.toList
        · exact rnext_long s r hs o b ho hr hd' h32 w
        · by_cases h0 : 0 < preN r.data.toList
          · exact rnext_name s r hs o b ho hr hd' (by omega) h0 w
          · by_cases hc : (r[0]'hr.head) = 46
            · exact rnext_stop s r hs o b ho hr hd' (by omega) hc w
            · exact rnext_mark s r hs o b ho hr hd' (by omega) hc w
end Go.Proofs.YtnhhihmifbjkkaaDoor
