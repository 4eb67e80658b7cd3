/- term.made, term.Tuple. Conditions: the parts read, are not too many; the table of letters reads as laid. -/
import Derived.Test.YthpmdeofdlcccaaGreatDoorWy
namespace Go.Proofs.YthpmdeofdlcccaaGreatDoor
open Go.ChangeShapes Go.WideShapes Go.ChangeAt Go.RowKit
set_option linter.unusedVariables false
set_option linter.unusedSimpArgs false
set_option maxRecDepth 100000
/-- what making a term of parts comes to, so many nodes counted -/
def mdN : List Tm → Int → Int
  | [], n => if 256 < n then 11 else 0
  | x :: l, n => if checkN x = 30 then 30 else mdN l (n + szT x 0)
theorem chkL_false : ∀ (l : List Tm) (c : Int), chkL l (c, false) = (c, false)
  | [], c => by rw [chkL]
  | t :: l, c => by rw [chkL, if_pos (.inr rfl)]
mutual
theorem chk_sz : ∀ (t : Tm) (c : Int), (chk t (c, true)).2 = true → (chk t (c, true)).1 = szT t c
  | .mk k n s u l, c, h => by
    rw [chk] at h ⊢
    rw [szT]
    simp only [Bool.true_and] at h ⊢
    cases ho : oneB k n s u l.length with
    | false =>
      rw [ho, chkL_false] at h
      cases h
    | true =>
      rw [ho] at h
      exact chkL_sz l (c + 1) h
theorem chkL_sz : ∀ (l : List Tm) (c : Int), (chkL l (c, true)).2 = true → (chkL l (c, true)).1 = szL l c
  | [], c, h => by rw [chkL, szL]
  | t :: l, c, h => by
    rw [chkL] at h ⊢
    rw [szL]
    by_cases hc : 256 < c
    · rw [if_pos (.inl hc), if_pos hc]
    · have hn : ¬ (256 < (c, true).1 ∨ (c, true).2 = false) := by simp; omega
      rw [if_neg hn] at h ⊢
      rw [if_neg hc]
      cases ho : (chk t (c, true)).2 with
      | false =>
        have e : chk t (c, true) = ((chk t (c, true)).1, false) := Prod.ext rfl ho
        rw [e, chkL_false] at h
        cases h
      | true =>
        have e : chk t (c, true) = (szT t c, true) := Prod.ext (chk_sz t c ho) ho
        rw [e] at h ⊢
        exact chkL_sz l _ h
end
theorem size_ok {x : Tm} (h : checkN x ≠ 30) (hs : szT x 0 ≤ 256) : okT x ∧ nT x ≤ 256 := by
  apply check_ok
  unfold checkN at h ⊢
  cases ho : (chk x (0, true)).2 with
  | false => rw [ho] at h; simp at h
  | true =>
    rw [if_neg (by simp), chk_sz x 0 ho, if_neg (by omega)]
theorem md_le : ∀ (l : List Tm) (n : Int), mdN l n = 0 → n ≤ 256
  | [], n, h => by
    rw [mdN] at h
    split at h
    · cases h
    · omega
  | x :: l, n, h => by
    rw [mdN] at h
    split at h
    · cases h
    · have := md_le l _ h
      have := szT_le x 0 (by omega) (by omega)
      omega
theorem md_ok : ∀ (l : List Tm) (n : Int), 1 ≤ n → mdN l n = 0 → okL l ∧ n + nL l ≤ 256
  | [], n, h1, h => by
    have := md_le [] n h
    rw [okL, nL]
    exact ⟨trivial, by omega⟩
  | x :: l, n, h1, h => by
    rw [mdN] at h
    split at h
    · cases h
    · rename_i hx
      have h2 := md_le l _ h
      have h3 := szT_le x 0 (by omega) (by omega)
      obtain ⟨h4, h5⟩ := size_ok hx (by omega)
      rw [ok_size h5] at h
      obtain ⟨h6, h7⟩ := md_ok l _ (by omega) h
      rw [okL, nL]
      exact ⟨⟨h4, h6⟩, by omega⟩
theorem md_of : ∀ (l : List Tm) (n : Int), okL l → n + nL l ≤ 256 → 1 ≤ n → mdN l n = 0
  | [], n, _, h, _ => by
    rw [nL] at h
    rw [mdN, if_neg (by omega)]
  | x :: l, n, h1, h, h2 => by
    rw [okL] at h1
    rw [nL] at h
    have h3 : nT x ≤ 256 := by omega
    rw [mdN, if_neg (by rw [ok_check h1.1 h3]; decide), ok_size h3]
    exact md_of l _ h1.2 (by omega) (by omega)
/-- a row's elements, one by one -/
theorem row_tes {S : Nat → Prop} {F : Nat} {w : World} {ao : Option Addr} {n cap : Nat} {L : List Tm} (h : RowS S F w (.slice ao n cap) L) :
    ∃ E : List TE, E.map TE.t = L ∧ (∀ x ∈ E, fields x.k x.n x.s x.u ∧ RowS S F w x.lv x.l) ∧ ∀ ad, ao = some ad → ∀ (j : Nat) (u : Value), (tcs E)[j]? = some u → w.cell? (ad.add j) = some u := by
  have key : ∀ m, m ≤ L.length → ∃ E : List TE, E.map TE.t = L.take m ∧ (∀ x ∈ E, fields x.k x.n x.s x.u ∧ RowS S F w x.lv x.l) ∧ ∀ b off, ao = some ⟨b, off, none⟩ → ∀ (j : Nat) (u : Value), (tcs E)[j]? = some u → w.cell? ⟨b, off + j, none⟩ = some u := by
    intro m
    induction m with
    | zero => exact fun _ => ⟨[], by simp, (fun x hx => by cases hx), fun b off _ j u hj => by simp [tcs] at hj⟩
    | succ m ih =>
      intro hm
      obtain ⟨E, e1, e2, e3⟩ := ih (by omega)
      obtain ⟨t, ht⟩ : ∃ t, L[m]? = some t := ⟨L[m]'(by omega), List.getElem?_eq_getElem _⟩
      obtain ⟨b, off, te, rfl, hte, hf, hr, c0, c1, c2, c3, c4⟩ := row_elem h ht
      have hEl : E.length = m := by
        have := congrArg List.length e1
        rw [List.length_map, List.length_take] at this
        omega
      refine ⟨E ++ [te], by rw [List.map_append, e1, List.take_add_one, ht]; simp [hte], fun x hx => ?_, fun b' off' e j u hj => ?_⟩
      · rw [List.mem_append, List.mem_singleton] at hx
        rcases hx with hx | rfl
        · exact e2 x hx
        · exact ⟨hf, hr⟩
      · simp only [Option.some.injEq, Addr.mk.injEq] at e
        obtain ⟨rfl, rfl, -⟩ := e
        rw [tcs_snoc] at hj
        have hlen := tcs_len E
        by_cases hlt : j < E.length * 5
        · rw [List.getElem?_append_left (by omega)] at hj
          exact e3 _ _ rfl j u hj
        · rw [List.getElem?_append_right (by omega), hlen, hEl] at hj
          obtain ⟨q, rfl⟩ : ∃ q, j = m * 5 + q := ⟨j - m * 5, by omega⟩
          rw [show m * 5 + q - m * 5 = q from by omega] at hj
          rw [← Nat.add_assoc]
          match q, hj with
          | 0, hj => simp [TE.cells] at hj; subst hj; exact c0
          | 1, hj => simp [TE.cells] at hj; subst hj; exact c1
          | 2, hj => simp [TE.cells] at hj; subst hj; exact c2
          | 3, hj => simp [TE.cells] at hj; subst hj; exact c3
          | 4, hj => simp [TE.cells] at hj; subst hj; exact c4
          | q + 5, hj => simp [TE.cells] at hj
  obtain ⟨E, e1, e2, e3⟩ := key L.length (Nat.le_refl _)
  rw [List.take_length] at e1
  refine ⟨E, e1, e2, fun ad e j u hj => ?_⟩
  cases L with
  | nil =>
    have : E = [] := by simpa using e1
    subst this
    simp [tcs] at hj
  | cons a L =>
    obtain ⟨b, off, te, q, -⟩ := row_elem h (i := 0) rfl
    rw [e] at q
    obtain rfl := Option.some.inj q
    rw [Addr.add_lit]
    exact e3 _ _ e j u hj
theorem tcs_one (E : List TE) : ∀ u ∈ tcs E, u.oneCell' = true := fun u hu => by
  simp only [tcs, List.mem_flatMap, TE.cells] at hu
  obtain ⟨x, -, hx⟩ := hu
  simp only [List.mem_cons, List.not_mem_nil, or_false] at hx
  rcases hx with rfl | rfl | rfl | rfl | rfl <;> rfl
theorem te_row {S : Nat → Prop} {F : Nat} {w : World} {te : TE} {t : Tm} (ht : te.t = t) (hf : fields te.k te.n te.s te.u) (hr : RowS S F w te.lv te.l) : TermV F w (.agg te.cells.toArray) t := by
  subst ht
  exact ⟨hf, _, rfl, hr.row⟩
/-- what made answers -/
def MdP (S : Nat → Prop) (W : World) (F : Nat) (k : Int) (L : List Tm) (e : Ending) (W' : World) : Prop :=
  Below W.heap.size W W' ∧ ((mdN L 1 = 0 ∧ ∃ (ao : Option Addr) (cap : Nat), e = .returned (.tuple #[.agg #[.int .i8 k, .int .i64 0, .string ⟨#[]⟩, .string ⟨#[]⟩, .slice ao L.length cap], .int .i64 0]) ∧ RowS (fun k => S k ∨ W.heap.size < k) (F + 1) W' (.slice ao L.length cap) L) ∨
    (mdN L 1 ≠ 0 ∧ e = .returned (.tuple #[.agg zT, .int .i64 (mdN L 1)])))
/-- where made stands -/
structure MdI (W : World) (L : List Tm) (i : Nat) (m : Int) (wx : World) : Prop where
  hb : Below W.heap.size W wx
  hX : wx.heap[W.heap.size]? = some (.cells zT 25 (0, 0))
  he : mdN (L.drop i) m = mdN L 1
theorem MdI.keep {W : World} {L : List Tm} {i : Nat} {m : Int} {wx wy : World} (h : MdI W L i m wx) (hb : Below wx.heap.size wx wy) : MdI W L i m wy := ⟨h.hb.trans (hb.mono h.hb.size), keep_heap h.hX hb, h.he⟩
set_option maxHeartbeats 8000000 in
theorem made_any (S : Nat → Prop) (F : Nat) (k : Int) (L : List Tm) (ao : Option Addr) (cap : Nat) (W : World) (hSW : ∀ k, S k → k < W.heap.size) (hc : Cells W 0 letL) (hr : RowS S F W (.slice ao L.length cap) L) (hno : ao = none → cap = 0) (hlen : L.length ≤ 4000) :
    Calls Tryz.prog 67 #[.int .i8 k, .slice ao L.length cap] W (MdP S W F k L) := by
  have hb1 := (Below.refl W.heap.size W).alloc (Nat.le_refl _) (.cells zT 25)
  have HI0 : Hid (MdI W L 0 1 (W.alloc (.cells zT 25))) := Lib.hid ⟨hb1, heap_new W _, rfl⟩
  have HR := Lib.hid hr
  have HC := Lib.hid hc
  have HNO := Lib.hid hno
  clear hb1 hr hc hno
  go_enter Tryz.func67, Tryz.ntmps67
  go_wp2_with fail
  go_loopw [6, 12] (fun nv iv wr => ∃ (i : Nat) (m : Int), i ≤ L.length ∧ iv = .int .i64 i ∧ nv = .int .i64 m ∧ 1 ≤ m ∧ m ≤ 1 + 257 * (i : Int) ∧ Hid (MdI W L i m wr)) (fun _ iv _ => L.length - (intOf iv).toNat)
  case atStart => exact ⟨0, 1, by omega, rfl, rfl, by omega, by omega, HI0⟩
  case round =>
    clear HI0
    obtain ⟨i, m, hi, rfl, rfl, hm0, hm1, HI⟩ := hrel
    by_cases hlt : i < L.length
    · obtain ⟨x, hxi⟩ : ∃ x, L[i]? = some x := ⟨L[i], by simp [hlt]⟩
      have hra : RowS S F wr (.slice ao L.length cap) L := HR.out.chg (chg_of_below HI.out.hb (fun _ => False)) (fun _ _ _ h => h) (fun _ h _ => h) (Nat.le_refl _)
      obtain ⟨b', off, te, rfl, hte, hfe, hre, c0, c1, c2, c3, c4⟩ := row_elem hra hxi
      have hx : TermV F wr (.agg te.cells.toArray) x := by
        subst hte
        exact ⟨hfe, _, rfl, hre.row⟩
      obtain ⟨gk, gn, gs, gu, gao, gcap, gl⟩ := te
      have hbn := (Below.refl wr.heap.size wr).alloc (Nat.le_refl _) (.cells #[.int .i8 gk, .int .i64 gn, .string gs, .string gu, .slice gao gl.length gcap] 25)
      have H1 := Lib.hid (HI.out.keep hbn)
      have HG1 := Lib.hid (heap_new wr (.cells #[.int .i8 gk, .int .i64 gn, .string gs, .string gu, .slice gao gl.length gcap] 25))
      have HXT : Hid (∀ w, Below wr.heap.size wr w → TermV F w (.agg #[.int .i8 gk, .int .i64 gn, .string gs, .string gu, .slice gao gl.length gcap]) x) := Lib.hid fun w h => hx.keep h
      have HBN := Lib.hid hbn
      have hdr := HI.out.he
      rw [drop_cons hxi, mdN] at hdr
      have HDR := Lib.hid hdr
      have hsz := szT_le x 0 (by omega) (by omega)
      clear hra hte hfe hre hxi hx hbn hdr
      simp only [TE.lv] at c0 c1 c2 c3 c4
      go_wp2_with (with_reducible refine stop_op (o := ⟨_, .store 25 (.tmp 8) (.tmp 15), _, _, _, _⟩) ?_)
      refine Lib.hid ?_
      refine wpList_store_new (o := ⟨none, _, _, _, _, _⟩) rfl 25 (.tmp 8) (.tmp 15) rfl #[.int .i8 gk, .int .i64 gn, .string gs, .string gu, .slice gao gl.length gcap] rfl rfl (infoTM' _ rfl) rfl (by simp [Value.oneCell']) ?_
      clear c0 c1 c2 c3 c4
      generalize wr.alloc (.cells #[.int .i8 gk, .int .i64 gn, .string gs, .string gu, .slice gao gl.length gcap] 25) = W1 at *
      obtain ⟨y0, -⟩ := cells_at HG1.out 0 _ rfl
      obtain ⟨y1, -⟩ := cells_at HG1.out 1 _ rfl
      obtain ⟨y2, -⟩ := cells_at HG1.out 2 _ rfl
      obtain ⟨y3, -⟩ := cells_at HG1.out 3 _ rfl
      obtain ⟨y4, -⟩ := cells_at HG1.out 4 _ rfl
      have hcx := check_any F x _ W1 (cells_chg HC.out (chg_of_below H1.out.hb (fun _ => False)) (fun e => e)) (HXT.out _ HBN.out)
      go_wp2_with fail
      refine hcx.mono ?_
      rintro e w2 ⟨rfl, hb2⟩
      have H2 := Lib.hid (H1.out.keep hb2)
      have HG2 := Lib.hid (keep_heap HG1.out hb2)
      have HB2 := Lib.hid (HBN.out.trans (hb2.mono HBN.out.size))
      clear y0 y1 y2 y3 y4 hcx hb2 H1 HG1 HBN HI
      by_cases h30 : checkN x = 30
      · have hfin : mdN L 1 = 30 := by
          have := HDR.out
          rw [if_pos h30] at this
          exact this.symm
        have HFIN := Lib.hid hfin
        rw [h30]
        clear hfin h30
        go_wp2_with (with_reducible refine stop_op (o := ⟨_, .store 25 (.tmp 4) (.tmp 20), _, _, _, _⟩) ?_)
        refine Lib.hid ?_
        refine wpList_store_row (o := ⟨none, _, _, _, _, _⟩) rfl 25 (.tmp 4) (.tmp 20) rfl W.heap.size zT rfl rfl 25 _ H2.out.hX (infoTM' _ rfl) rfl (by simp [zT, Value.oneCell']) ?_
        rw [setRow_self _ _ _ _ _ H2.out.hX]
        go_wp2_with fail
        exact ret_row (u := .int .i64 30) H2.out.hX rfl Tryz.underlying25 rfl (infoTM' _ rfl) rfl rfl ⟨H2.out.hb, .inr ⟨by rw [HFIN.out]; decide, by rw [HFIN.out]⟩⟩
      · have h30b : (checkN x == 30) = false := by simpa using h30
        have hfin : mdN (L.drop (i + 1)) (m + szT x 0) = mdN L 1 := by
          have := HDR.out
          rw [if_neg h30] at this
          exact this
        have H3 : Hid (MdI W L (i + 1) (m + szT x 0) w2) := Lib.hid ⟨H2.out.hb, H2.out.hX, hfin⟩
        obtain ⟨y0, -⟩ := cells_at HG2.out 0 _ rfl
        obtain ⟨y1, -⟩ := cells_at HG2.out 1 _ rfl
        obtain ⟨y2, -⟩ := cells_at HG2.out 2 _ rfl
        obtain ⟨y3, -⟩ := cells_at HG2.out 3 _ rfl
        obtain ⟨y4, -⟩ := cells_at HG2.out 4 _ rfl
        have hsx := psize_any F x _ w2 (HXT.out _ HB2.out)
        have hwr : IntKind.i64.wrap (m + szT x 0) = m + szT x 0 := IntWalk.i64_in _ (by omega)
        clear hfin H2 HDR
        go_wp2_with fail
        refine hsx.mono ?_
        rintro e w3 ⟨rfl, hb3⟩
        have H4 := Lib.hid (H3.out.keep hb3)
        clear y0 y1 y2 y3 y4 hsx hb3 H3
        go_wp2_with fail
        go_roundw
        case rel => exact ⟨i + 1, m + szT x 0, by omega, by go_num, rfl, by omega, by omega, H4⟩
        case measure => simp [intOf]; omega
    · obtain rfl : i = L.length := by omega
      have hfin := HI.out.he
      rw [List.drop_length, mdN] at hfin
      by_cases hbig : 256 < m
      · have hd : decide (256 < m) = true := by simpa using hbig
        rw [if_pos hbig] at hfin
        have HFIN := Lib.hid hfin
        clear hfin
        go_wp2_with (with_reducible refine stop_op (o := ⟨_, .store 25 (.tmp 4) (.tmp 29), _, _, _, _⟩) ?_)
        refine Lib.hid ?_
        refine wpList_store_row (o := ⟨none, _, _, _, _, _⟩) rfl 25 (.tmp 4) (.tmp 29) rfl W.heap.size zT rfl rfl 25 _ HI.out.hX (infoTM' _ rfl) rfl (by simp [zT, Value.oneCell']) ?_
        rw [setRow_self _ _ _ _ _ HI.out.hX]
        go_wp2_with fail
        exact ret_row (u := .int .i64 11) HI.out.hX rfl Tryz.underlying25 rfl (infoTM' _ rfl) rfl rfl ⟨HI.out.hb, .inr ⟨by rw [← HFIN.out]; decide, by rw [← HFIN.out]⟩⟩
      · have hd : decide (256 < m) = false := by simpa using hbig
        rw [if_neg hbig] at hfin
        have HFIN := Lib.hid hfin
        clear hfin
        have hra : RowS S F wr (.slice ao L.length cap) L := HR.out.chg (chg_of_below HI.out.hb (fun _ => False)) (fun _ _ _ h => h) (fun _ h _ => h) (Nat.le_refl _)
        obtain ⟨E, hE, hEr, hEc⟩ := row_tes hra
        have hEl : E.length = L.length := by rw [← hE]; simp
        have hno2 : ao = none → L.length = 0 ∧ cap = 0 := fun e => by
          refine ⟨?_, HNO.out e⟩
          rcases Nat.eq_zero_or_pos L.length with h | h
          · exact h
          · obtain ⟨b, off, te, q, -⟩ := row_elem hra (i := 0) (t := L[0]) (by simp [h])
            rw [e] at q
            cases q
        have HE := Lib.hid (And.intro hE (And.intro hEr (And.intro hEc (And.intro hEl hno2))))
        clear hra hE hEr hEc hEl hno2
        go_wp2_with (at_builtin; refine stop_here ?_)
        refine Lib.hid ?_
        obtain ⟨i0, z0, q1, q2, q3, q4, q5⟩ := infoTM2
        refine wpList_plain rfl fun K hK => ?_
        refine op_append_any (.const (.slice none 0 0)) (.tmp 31) 23 rfl W.heap.size 25 i0 z0 5 72 Tryz.underlying23 q1 q2 q3 q4 q5 (by decide) _ 0 [] rfl (World.ownsRow_nil _ _ _ _) ao L.length cap (tcs E) rfl (by rw [tcs_len, HE.out.2.2.2.1]) HE.out.2.2.2.2 HE.out.2.2.1 (tcs_one E) (by unfold maxLen; omega) (by omega) HI.out.hb.size ?_
        intro v1 w1 hown1 hg1 hwh1
        refine hK _ _ ?_
        rw [List.nil_append, Nat.zero_add] at hown1
        obtain ⟨vo, vc, rfl⟩ := own_slice hown1
        have hb1 : Below wr.heap.size wr w1 := (chg_grown hg1).below (Nat.le_refl _) (fun k h => by cases h)
        have hrow : TRow S F w1 W.heap.size (.slice vo E.length vc) E := by
          refine ⟨by rw [HE.out.2.2.2.1]; exact hown1, fun y hy => ⟨(HE.out.2.1 y hy).1, (HE.out.2.1 y hy).2.chg (chg_of_below hb1 (fun _ => False)) (fun _ _ _ h => h) (fun k hk _ => ⟨hk, fun e => ?_⟩) (Nat.le_refl _)⟩⟩
          have h1 := own_base hown1 k (by rw [← e]; cases vo <;> rfl)
          have hk := hSW k hk
          omega
        have HI1 := Lib.hid (HI.out.keep hb1)
        have hcs := chg_setRow w1 W.heap.size #[.int .i8 k, .int .i64 0, .string ⟨#[]⟩, .string ⟨#[]⟩, .slice vo L.length vc]
        have HX2 := Lib.hid (setRow_heap w1 W.heap.size _ #[.int .i8 k, .int .i64 0, .string ⟨#[]⟩, .string ⟨#[]⟩, .slice vo L.length vc] _ _ HI1.out.hX)
        have HB2 := Lib.hid (HI1.out.hb.trans (hcs.below (B := W.heap.size) HI1.out.hb.size (fun k e => by have e : k = W.heap.size := e; omega)))
        have hgb : ∀ k, (Value.slice vo E.length vc).ownBlock = some k → W.heap.size < k := fun k hk => by
          have e2 : (Value.slice vo L.length vc).ownBlock = (Value.slice vo E.length vc).ownBlock := by cases vo <;> rfl
          have h6 := heap_lt HI.out.hX
          rcases hwh1 with hw | hw
          · rw [e2, hk] at hw
            cases hw
          · rw [e2, hk] at hw
            have h5 := Option.some.inj hw
            omega
        have hrw2 : RowS (fun k => S k ∨ W.heap.size < k) (F + 1) (w1.setRow W.heap.size #[.int .i8 k, .int .i64 0, .string ⟨#[]⟩, .string ⟨#[]⟩, .slice vo L.length vc]) (.slice vo L.length vc) L := by
          have h3 := hrow.rowS (S' := fun k => S k ∨ W.heap.size < k) (fun k hk => .inl hk) (fun k hk => .inr (hgb k hk))
          rw [HE.out.1] at h3
          refine h3.chg (S' := fun k => S k ∨ W.heap.size < k) hcs (fun j hj _ e => ?_) (fun j hj _ => hj) (Nat.le_refl _)
          have e : j = W.heap.size := e
          rcases hj with hj | hj
          · have := hSW j hj
            omega
          · omega
        have HRW := Lib.hid hrw2
        clear hown1 hg1 hwh1 hb1 hrow hgb hcs hrw2
        simp only [Nat.zero_add]
        go_wp2_with (with_reducible refine stop_op (o := ⟨_, .store 25 (.tmp 4) (.tmp 33), _, _, _, _⟩) ?_)
        refine Lib.hid ?_
        refine wpList_store_row (o := ⟨none, _, _, _, _, _⟩) rfl 25 (.tmp 4) (.tmp 33) rfl W.heap.size #[.int .i8 k, .int .i64 0, .string ⟨#[]⟩, .string ⟨#[]⟩, .slice vo L.length vc] rfl rfl 25 _ HI1.out.hX (infoTM' _ rfl) rfl (by simp [Value.oneCell']) ?_
        go_wp2_with fail
        exact ret_row HX2.out rfl Tryz.underlying25 rfl (infoTM' _ rfl) rfl rfl ⟨HB2.out, .inl ⟨HFIN.out.symm, vo, vc, rfl, HRW.out⟩⟩
set_option maxHeartbeats 8000000 in
theorem tuple_any (S : Nat → Prop) (F : Nat) (L : List Tm) (ao : Option Addr) (cap : Nat) (W : World) (hSW : ∀ k, S k → k < W.heap.size) (hc : Cells W 0 letL) (hr : RowS S F W (.slice ao L.length cap) L) (hno : ao = none → cap = 0) (hlen : L.length ≤ 4000) :
    Calls Tryz.prog 40 #[.slice ao L.length cap] W (MdP S W F 5 L) := by
  have hb1 := (Below.refl W.heap.size W).alloc (Nat.le_refl _) (.cells zT 25)
  have hs1 : (W.alloc (.cells zT 25)).heap.size = W.heap.size + 1 := by simp
  have hr1 : RowS S F (W.alloc (.cells zT 25)) (.slice ao L.length cap) L := hr.chg (chg_of_below hb1 (fun _ => False)) (fun _ _ _ h => h) (fun k hk _ => hk) (Nat.le_refl _)
  have HM := Lib.hid (made_any S F 5 L ao cap _ (fun k hk => by have := hSW k hk; omega) (cells_chg hc (chg_of_below hb1 (fun _ => False)) (fun e => e)) hr1 hno hlen)
  have HX1 := Lib.hid (heap_new W (.cells zT 25))
  have HB1 := Lib.hid hb1
  have HS1 := Lib.hid hs1
  clear hb1 hr1 hc hr hs1
  go_enter Tryz.func40, Tryz.ntmps40
  go_wp2_with fail
  generalize W.alloc (.cells zT 25) = W1 at *
  refine HM.out.mono ?_
  rintro e w2 ⟨hb2, ⟨h0, vo, vc, rfl, hrow⟩ | ⟨h0, rfl⟩⟩
  · have HX2 := Lib.hid (keep_heap HX1.out hb2)
    have hcs := chg_setRow w2 W.heap.size #[.int .i8 5, .int .i64 0, .string ⟨#[]⟩, .string ⟨#[]⟩, .slice vo L.length vc]
    have HX3 := Lib.hid (setRow_heap w2 W.heap.size _ #[.int .i8 5, .int .i64 0, .string ⟨#[]⟩, .string ⟨#[]⟩, .slice vo L.length vc] _ _ HX2.out)
    have hB2 := HB1.out.trans (hb2.mono HB1.out.size)
    have hs1 := HS1.out
    have HFIN : Hid (MdP S W F 5 L (.returned (.tuple #[.agg #[.int .i8 5, .int .i64 0, .string ⟨#[]⟩, .string ⟨#[]⟩, .slice vo L.length vc], .int .i64 0])) (w2.setRow W.heap.size #[.int .i8 5, .int .i64 0, .string ⟨#[]⟩, .string ⟨#[]⟩, .slice vo L.length vc])) := Lib.hid
      ⟨hB2.trans (hcs.below (B := W.heap.size) hB2.size (fun k e => by have e : k = W.heap.size := e; omega)), .inl ⟨h0, vo, vc, rfl, hrow.chg hcs (fun j hj _ e => by
        have e : j = W.heap.size := e
        rcases hj with hj | hj
        · have := hSW j hj
          omega
        · omega) (fun j hj _ => by
        rcases hj with hj | hj
        · exact .inl hj
        · exact .inr (by omega)) (Nat.le_refl _)⟩⟩
    clear hcs hB2 hs1 hrow hb2 h0
    go_wp2_with (with_reducible refine stop_op (o := ⟨_, .store 25 (.tmp 2) (.tmp 6), _, _, _, _⟩) ?_)
    refine Lib.hid ?_
    refine wpList_store_row (o := ⟨none, _, _, _, _, _⟩) rfl 25 (.tmp 2) (.tmp 6) rfl W.heap.size #[.int .i8 5, .int .i64 0, .string ⟨#[]⟩, .string ⟨#[]⟩, .slice vo L.length vc] rfl rfl 25 _ HX2.out (infoTM' _ rfl) rfl (by simp [Value.oneCell']) ?_
    go_wp2_with fail
    exact ret_row HX3.out rfl Tryz.underlying25 rfl (infoTM' _ rfl) rfl rfl HFIN.out
  · have HX2 := Lib.hid (keep_heap HX1.out hb2)
    have HFIN : Hid (MdP S W F 5 L (.returned (.tuple #[.agg zT, .int .i64 (mdN L 1)])) w2) := Lib.hid ⟨HB1.out.trans (hb2.mono HB1.out.size), .inr ⟨h0, rfl⟩⟩
    clear hb2 h0
    go_wp2_with (with_reducible refine stop_op (o := ⟨_, .store 25 (.tmp 2) (.tmp 6), _, _, _, _⟩) ?_)
    refine Lib.hid ?_
    refine wpList_store_row (o := ⟨none, _, _, _, _, _⟩) rfl 25 (.tmp 2) (.tmp 6) rfl W.heap.size zT rfl rfl 25 _ HX2.out (infoTM' _ rfl) rfl (by simp [zT, Value.oneCell']) ?_
    rw [setRow_self _ _ _ _ _ HX2.out]
    go_wp2_with fail
    exact ret_row HX2.out rfl Tryz.underlying25 rfl (infoTM' _ rfl) rfl rfl HFIN.out
end Go.Proofs.YthpmdeofdlcccaaGreatDoor
