/- term.made, term.Tuple. Conditions: the parts read, are not too many; the table of letters reads as laid. -/
/- the reference's GreatAll. Conditions: the row reads. -/
/- a plan for a region that draws its order: a tree (where two or three may come up, each way has a plan of its own). No conditions. -/
/- the law TermParts: its opening; a region of three news in any order. Conditions: the arguments read as data; the tables of letters and of powers read as laid. -/
import Derived.Test.YtaomakhhkjflaaaDoorMa5
import Derived.Test.YtaomakhhkjflaaaDoorK
import Derived.Test.YtaomakhhkjflaaaDoorKi
import Derived.Deep.MidRow
namespace Go.Proofs.YtaomakhhkjflaaaDoor
open Go.ChangeShapes Go.WideShapes Go.ChangeAt Go.RowKit
set_option linter.unusedVariables false
set_option linter.unusedSimpArgs false
set_option maxRecDepth 100000
/-- what making a term of parts comes to, so many nodes counted -/
def mdN : List Tm → Int → Int
  | [], n => if 256 < n then 11 else 0
  | x :: l, n => if checkN x = 30 then 30 else mdN l (n + szT x 0)
theorem chkL_false : ∀ (l : List Tm) (c : Int), chkL l (c, false) = (c, false)
  | [], c => by rw [chkL]
  | t :: l, c => by rw [chkL, if_pos (.inr rfl)]
mutual
theorem chk_sz : ∀ (t : Tm) (c : Int), (chk t (c, true)).2 = true → (chk t (c, true)).1 = szT t c
  | .mk k n s u l, c, h => by
    rw [chk] at h ⊢
    rw [szT]
    simp only [Bool.true_and] at h ⊢
    cases ho : oneB k n s u l.length with
    | false =>
      rw [ho, chkL_false] at h
      cases h
    | true =>
      rw [ho] at h
      exact chkL_sz l (c + 1) h
theorem chkL_sz : ∀ (l : List Tm) (c : Int), (chkL l (c, true)).2 = true → (chkL l (c, true)).1 = szL l c
  | [], c, h => by rw [chkL, szL]
  | t :: l, c, h => by
    rw [chkL] at h ⊢
    rw [szL]
    by_cases hc : 256 < c
    · rw [if_pos (.inl hc), if_pos hc]
    · have hn : ¬ (256 < (c, true).1 ∨ (c, true).2 = false) := by simp; omega
      rw [if_neg hn] at h ⊢
      rw [if_neg hc]
      cases ho : (chk t (c, true)).2 with
      | false =>
        have e : chk t (c, true) = ((chk t (c, true)).1, false) := Prod.ext rfl ho
        rw [e, chkL_false] at h
        cases h
      | true =>
        have e : chk t (c, true) = (szT t c, true) := Prod.ext (chk_sz t c ho) ho
        rw [e] at h ⊢
        exact chkL_sz l _ h
end
theorem size_ok {x : Tm} (h : checkN x ≠ 30) (hs : szT x 0 ≤ 256) : okT x ∧ nT x ≤ 256 := by
  apply check_ok
  unfold checkN at h ⊢
  cases ho : (chk x (0, true)).2 with
  | false => rw [ho] at h; simp at h
  | true =>
    rw [if_neg (by simp), chk_sz x 0 ho, if_neg (by omega)]
theorem md_le : ∀ (l : List Tm) (n : Int), mdN l n = 0 → n ≤ 256
  | [], n, h => by
    rw [mdN] at h
    split at h
    · cases h
    · omega
  | x :: l, n, h => by
    rw [mdN] at h
    split at h
    · cases h
    · have := md_le l _ h
      have := szT_le x 0 (by omega) (by omega)
      omega
theorem md_ok : ∀ (l : List Tm) (n : Int), 1 ≤ n → mdN l n = 0 → okL l ∧ n + nL l ≤ 256
  | [], n, h1, h => by
    have := md_le [] n h
    rw [okL, nL]
    exact ⟨trivial, by omega⟩
  | x :: l, n, h1, h => by
    rw [mdN] at h
    split at h
    · cases h
    · rename_i hx
      have h2 := md_le l _ h
      have h3 := szT_le x 0 (by omega) (by omega)
      obtain ⟨h4, h5⟩ := size_ok hx (by omega)
      rw [ok_size h5] at h
      obtain ⟨h6, h7⟩ := md_ok l _ (by omega) h
      rw [okL, nL]
      exact ⟨⟨h4, h6⟩, by omega⟩
theorem md_of : ∀ (l : List Tm) (n : Int), okL l → n + nL l ≤ 256 → 1 ≤ n → mdN l n = 0
  | [], n, _, h, _ => by
    rw [nL] at h
    rw [mdN, if_neg (by omega)]
  | x :: l, n, h1, h, h2 => by
    rw [okL] at h1
    rw [nL] at h
    have h3 : nT x ≤ 256 := by omega
    rw [mdN, if_neg (by rw [ok_check h1.1 h3]; decide), ok_size h3]
    exact md_of l _ h1.2 (by omega) (by omega)
/-- a row's elements, one by one -/
theorem row_tes {S : Nat → Prop} {F : Nat} {w : World} {ao : Option Addr} {n cap : Nat} {L : List Tm} (h : RowS S F w (.slice ao n cap) L) :
    ∃ E : List TE, E.map TE.t = L ∧ (∀ x ∈ E, fields x.k x.n x.s x.u ∧ RowS S F w x.lv x.l) ∧ ∀ ad, ao = some ad → ∀ (j : Nat) (u : Value), (tcs E)[j]? = some u → w.cell? (ad.add j) = some u := by
  have key : ∀ m, m ≤ L.length → ∃ E : List TE, E.map TE.t = L.take m ∧ (∀ x ∈ E, fields x.k x.n x.s x.u ∧ RowS S F w x.lv x.l) ∧ ∀ b off, ao = some ⟨b, off, none⟩ → ∀ (j : Nat) (u : Value), (tcs E)[j]? = some u → w.cell? ⟨b, off + j, none⟩ = some u := by
    intro m
    induction m with
    | zero => exact fun _ => ⟨[], by simp, (fun x hx => by cases hx), fun b off _ j u hj => by simp [tcs] at hj⟩
    | succ m ih =>
      intro hm
      obtain ⟨E, e1, e2, e3⟩ := ih (by omega)
      obtain ⟨t, ht⟩ : ∃ t, L[m]? = some t := ⟨L[m]'(by omega), List.getElem?_eq_getElem _⟩
      obtain ⟨b, off, te, rfl, hte, hf, hr, c0, c1, c2, c3, c4⟩ := row_elem h ht
      have hEl : E.length = m := by
        have := congrArg List.length e1
        rw [List.length_map, List.length_take] at this
        omega
      refine ⟨E ++ [te], by rw [List.map_append, e1, List.take_add_one, ht]; simp [hte], fun x hx => ?_, fun b' off' e j u hj => ?_⟩
      · rw [List.mem_append, List.mem_singleton] at hx
        rcases hx with hx | rfl
        · exact e2 x hx
        · exact ⟨hf, hr⟩
      · simp only [Option.some.injEq, Addr.mk.injEq] at e
        obtain ⟨rfl, rfl, -⟩ := e
        rw [tcs_snoc] at hj
        have hlen := tcs_len E
        by_cases hlt : j < E.length * 5
        · rw [List.getElem?_append_left (by omega)] at hj
          exact e3 _ _ rfl j u hj
        · rw [List.getElem?_append_right (by omega), hlen, hEl] at hj
          obtain ⟨q, rfl⟩ : ∃ q, j = m * 5 + q := ⟨j - m * 5, by omega⟩
          rw [show m * 5 + q - m * 5 = q from by omega] at hj
          rw [← Nat.add_assoc]
          match q, hj with
          | 0, hj => simp [TE.cells] at hj; subst hj; exact c0
          | 1, hj => simp [TE.cells] at hj; subst hj; exact c1
          | 2, hj => simp [TE.cells] at hj; subst hj; exact c2
          | 3, hj => simp [TE.cells] at hj; subst hj; exact c3
          | 4, hj => simp [TE.cells] at hj; subst hj; exact c4
          | q + 5, hj => simp [TE.cells] at hj
  obtain ⟨E, e1, e2, e3⟩ := key L.length (Nat.le_refl _)
  rw [List.take_length] at e1
  refine ⟨E, e1, e2, fun ad e j u hj => ?_⟩
  cases L with
  | nil =>
    have : E = [] := by simpa using e1
    subst this
    simp [tcs] at hj
  | cons a L =>
    obtain ⟨b, off, te, q, -⟩ := row_elem h (i := 0) rfl
    rw [e] at q
    obtain rfl := Option.some.inj q
    rw [Addr.add_lit]
    exact e3 _ _ e j u hj
theorem tcs_one (E : List TE) : ∀ u ∈ tcs E, u.oneCell' = true := fun u hu => by
  simp only [tcs, List.mem_flatMap, TE.cells] at hu
  obtain ⟨x, -, hx⟩ := hu
  simp only [List.mem_cons, List.not_mem_nil, or_false] at hx
  rcases hx with rfl | rfl | rfl | rfl | rfl <;> rfl
theorem te_row {S : Nat → Prop} {F : Nat} {w : World} {te : TE} {t : Tm} (ht : te.t = t) (hf : fields te.k te.n te.s te.u) (hr : RowS S F w te.lv te.l) : TermV F w (.agg te.cells.toArray) t := by
  subst ht
  exact ⟨hf, _, rfl, hr.row⟩
/-- what made answers -/
def MdP (S : Nat → Prop) (W : World) (F : Nat) (k : Int) (L : List Tm) (e : Ending) (W' : World) : Prop :=
  Below W.heap.size W W' ∧ ((mdN L 1 = 0 ∧ ∃ (ao : Option Addr) (cap : Nat), e = .returned (.tuple #[.agg #[.int .i8 k, .int .i64 0, .string ⟨#[]⟩, .string ⟨#[]⟩, .slice ao L.length cap], .int .i64 0]) ∧ RowS (fun k => S k ∨ W.heap.size < k) (F + 1) W' (.slice ao L.length cap) L) ∨
    (mdN L 1 ≠ 0 ∧ e = .returned (.tuple #[.agg zT, .int .i64 (mdN L 1)])))
/-- where made stands -/
structure MdI (W : World) (L : List Tm) (i : Nat) (m : Int) (wx : World) : Prop where
  hb : Below W.heap.size W wx
  hX : wx.heap[W.heap.size]? = some (.cells zT 25 (0, 0))
  he : mdN (L.drop i) m = mdN L 1
theorem MdI.keep {W : World} {L : List Tm} {i : Nat} {m : Int} {wx wy : World} (h : MdI W L i m wx) (hb : Below wx.heap.size wx wy) : MdI W L i m wy := ⟨h.hb.trans (hb.mono h.hb.size), keep_heap h.hX hb, h.he⟩
set_option maxHeartbeats 8000000 in
theorem made_any (S : Nat → Prop) (F : Nat) (k : Int) (L : List Tm) (ao : Option Addr) (cap : Nat) (W : World) (hSW : ∀ k, S k → k < W.heap.size) (hc : Cells W 0 letL) (hr : RowS S F W (.slice ao L.length cap) L) (hno : ao = none → cap = 0) (hlen : L.length ≤ 4000) :
    Calls Tryd.prog 25 #[.int .i8 k, .slice ao L.length cap] W (MdP S W F k L) := by
  have hb1 := (Below.refl W.heap.size W).alloc (Nat.le_refl _) (.cells zT 25)
  have HI0 : Hid (MdI W L 0 1 (W.alloc (.cells zT 25))) := Lib.hid ⟨hb1, heap_new W _, rfl⟩
  have HR := Lib.hid hr
  have HC := Lib.hid hc
  have HNO := Lib.hid hno
  clear hb1 hr hc hno
  go_enter Tryd.func25, Tryd.ntmps25
  go_wp2_with fail
  go_loopw [6, 12] (fun nv iv wr => ∃ (i : Nat) (m : Int), i ≤ L.length ∧ iv = .int .i64 i ∧ nv = .int .i64 m ∧ 1 ≤ m ∧ m ≤ 1 + 257 * (i : Int) ∧ Hid (MdI W L i m wr)) (fun _ iv _ => L.length - (intOf iv).toNat)
  case atStart => exact ⟨0, 1, by omega, rfl, rfl, by omega, by omega, HI0⟩
  case round =>
    clear HI0
    obtain ⟨i, m, hi, rfl, rfl, hm0, hm1, HI⟩ := hrel
    by_cases hlt : i < L.length
    · obtain ⟨x, hxi⟩ : ∃ x, L[i]? = some x := ⟨L[i], by simp [hlt]⟩
      have hra : RowS S F wr (.slice ao L.length cap) L := HR.out.chg (chg_of_below HI.out.hb (fun _ => False)) (fun _ _ _ h => h) (fun _ h _ => h) (Nat.le_refl _)
      obtain ⟨b', off, te, rfl, hte, hfe, hre, c0, c1, c2, c3, c4⟩ := row_elem hra hxi
      have hx : TermV F wr (.agg te.cells.toArray) x := by
        subst hte
        exact ⟨hfe, _, rfl, hre.row⟩
      obtain ⟨gk, gn, gs, gu, gao, gcap, gl⟩ := te
      have hbn := (Below.refl wr.heap.size wr).alloc (Nat.le_refl _) (.cells #[.int .i8 gk, .int .i64 gn, .string gs, .string gu, .slice gao gl.length gcap] 25)
      have H1 := Lib.hid (HI.out.keep hbn)
      have HG1 := Lib.hid (heap_new wr (.cells #[.int .i8 gk, .int .i64 gn, .string gs, .string gu, .slice gao gl.length gcap] 25))
      have HXT : Hid (∀ w, Below wr.heap.size wr w → TermV F w (.agg #[.int .i8 gk, .int .i64 gn, .string gs, .string gu, .slice gao gl.length gcap]) x) := Lib.hid fun w h => hx.keep h
      have HBN := Lib.hid hbn
      have hdr := HI.out.he
      rw [drop_cons hxi, mdN] at hdr
      have HDR := Lib.hid hdr
      have hsz := szT_le x 0 (by omega) (by omega)
      clear hra hte hfe hre hxi hx hbn hdr
      simp only [TE.lv] at c0 c1 c2 c3 c4
      go_wp2_with (with_reducible refine stop_op (o := ⟨_, .store 25 (.tmp 8) (.tmp 15), _, _, _, _⟩) ?_)
      refine Lib.hid ?_
      refine wpList_store_new (o := ⟨none, _, _, _, _, _⟩) rfl 25 (.tmp 8) (.tmp 15) rfl #[.int .i8 gk, .int .i64 gn, .string gs, .string gu, .slice gao gl.length gcap] rfl rfl (infoTM' _ rfl) rfl (by simp [Value.oneCell']) ?_
      clear c0 c1 c2 c3 c4
      generalize wr.alloc (.cells #[.int .i8 gk, .int .i64 gn, .string gs, .string gu, .slice gao gl.length gcap] 25) = W1 at *
      obtain ⟨y0, -⟩ := cells_at HG1.out 0 _ rfl
      obtain ⟨y1, -⟩ := cells_at HG1.out 1 _ rfl
      obtain ⟨y2, -⟩ := cells_at HG1.out 2 _ rfl
      obtain ⟨y3, -⟩ := cells_at HG1.out 3 _ rfl
      obtain ⟨y4, -⟩ := cells_at HG1.out 4 _ rfl
      have hcx := check_any F x _ W1 (cells_chg HC.out (chg_of_below H1.out.hb (fun _ => False)) (fun e => e)) (HXT.out _ HBN.out)
      go_wp2_with fail
      refine hcx.mono ?_
      rintro e w2 ⟨rfl, hb2⟩
      have H2 := Lib.hid (H1.out.keep hb2)
      have HG2 := Lib.hid (keep_heap HG1.out hb2)
      have HB2 := Lib.hid (HBN.out.trans (hb2.mono HBN.out.size))
      clear y0 y1 y2 y3 y4 hcx hb2 H1 HG1 HBN HI
      by_cases h30 : checkN x = 30
      · have hfin : mdN L 1 = 30 := by
          have := HDR.out
          rw [if_pos h30] at this
          exact this.symm
        have HFIN := Lib.hid hfin
        rw [h30]
        clear hfin h30
        go_wp2_with (with_reducible refine stop_op (o := ⟨_, .store 25 (.tmp 4) (.tmp 20), _, _, _, _⟩) ?_)
        refine Lib.hid ?_
        refine wpList_store_row (o := ⟨none, _, _, _, _, _⟩) rfl 25 (.tmp 4) (.tmp 20) rfl W.heap.size zT rfl rfl 25 _ H2.out.hX (infoTM' _ rfl) rfl (by simp [zT, Value.oneCell']) ?_
        rw [setRow_self _ _ _ _ _ H2.out.hX]
        go_wp2_with fail
        exact ret_row (u := .int .i64 30) H2.out.hX rfl Tryd.underlying25 rfl (infoTM' _ rfl) rfl rfl ⟨H2.out.hb, .inr ⟨by rw [HFIN.out]; decide, by rw [HFIN.out]⟩⟩
      · have h30b : (checkN x == 30) = false := by simpa using h30
        have hfin : mdN (L.drop (i + 1)) (m + szT x 0) = mdN L 1 := by
          have := HDR.out
          rw [if_neg h30] at this
          exact this
        have H3 : Hid (MdI W L (i + 1) (m + szT x 0) w2) := Lib.hid ⟨H2.out.hb, H2.out.hX, hfin⟩
        obtain ⟨y0, -⟩ := cells_at HG2.out 0 _ rfl
        obtain ⟨y1, -⟩ := cells_at HG2.out 1 _ rfl
        obtain ⟨y2, -⟩ := cells_at HG2.out 2 _ rfl
        obtain ⟨y3, -⟩ := cells_at HG2.out 3 _ rfl
        obtain ⟨y4, -⟩ := cells_at HG2.out 4 _ rfl
        have hsx := psize_any F x _ w2 (HXT.out _ HB2.out)
        have hwr : IntKind.i64.wrap (m + szT x 0) = m + szT x 0 := IntWalk.i64_in _ (by omega)
        clear hfin H2 HDR
        go_wp2_with fail
        refine hsx.mono ?_
        rintro e w3 ⟨rfl, hb3⟩
        have H4 := Lib.hid (H3.out.keep hb3)
        clear y0 y1 y2 y3 y4 hsx hb3 H3
        go_wp2_with fail
        go_roundw
        case rel => exact ⟨i + 1, m + szT x 0, by omega, by go_num, rfl, by omega, by omega, H4⟩
        case measure => simp [intOf]; omega
    · obtain rfl : i = L.length := by omega
      have hfin := HI.out.he
      rw [List.drop_length, mdN] at hfin
      by_cases hbig : 256 < m
      · have hd : decide (256 < m) = true := by simpa using hbig
        rw [if_pos hbig] at hfin
        have HFIN := Lib.hid hfin
        clear hfin
        go_wp2_with (with_reducible refine stop_op (o := ⟨_, .store 25 (.tmp 4) (.tmp 29), _, _, _, _⟩) ?_)
        refine Lib.hid ?_
        refine wpList_store_row (o := ⟨none, _, _, _, _, _⟩) rfl 25 (.tmp 4) (.tmp 29) rfl W.heap.size zT rfl rfl 25 _ HI.out.hX (infoTM' _ rfl) rfl (by simp [zT, Value.oneCell']) ?_
        rw [setRow_self _ _ _ _ _ HI.out.hX]
        go_wp2_with fail
        exact ret_row (u := .int .i64 11) HI.out.hX rfl Tryd.underlying25 rfl (infoTM' _ rfl) rfl rfl ⟨HI.out.hb, .inr ⟨by rw [← HFIN.out]; decide, by rw [← HFIN.out]⟩⟩
      · have hd : decide (256 < m) = false := by simpa using hbig
        rw [if_neg hbig] at hfin
        have HFIN := Lib.hid hfin
        clear hfin
        have hra : RowS S F wr (.slice ao L.length cap) L := HR.out.chg (chg_of_below HI.out.hb (fun _ => False)) (fun _ _ _ h => h) (fun _ h _ => h) (Nat.le_refl _)
        obtain ⟨E, hE, hEr, hEc⟩ := row_tes hra
        have hEl : E.length = L.length := by rw [← hE]; simp
        have hno2 : ao = none → L.length = 0 ∧ cap = 0 := fun e => by
          refine ⟨?_, HNO.out e⟩
          rcases Nat.eq_zero_or_pos L.length with h | h
          · exact h
          · obtain ⟨b, off, te, q, -⟩ := row_elem hra (i := 0) (t := L[0]) (by simp [h])
            rw [e] at q
            cases q
        have HE := Lib.hid (And.intro hE (And.intro hEr (And.intro hEc (And.intro hEl hno2))))
        clear hra hE hEr hEc hEl hno2
        go_wp2_with (at_builtin; refine stop_here ?_)
        refine Lib.hid ?_
        obtain ⟨i0, z0, q1, q2, q3, q4, q5⟩ := infoTM2
        refine wpList_plain rfl fun K hK => ?_
        refine op_append_any (.const (.slice none 0 0)) (.tmp 31) 23 rfl W.heap.size 25 i0 z0 5 72 Tryd.underlying23 q1 q2 q3 q4 q5 (by decide) _ 0 [] rfl (World.ownsRow_nil _ _ _ _) ao L.length cap (tcs E) rfl (by rw [tcs_len, HE.out.2.2.2.1]) HE.out.2.2.2.2 HE.out.2.2.1 (tcs_one E) (by unfold maxLen; omega) (by omega) HI.out.hb.size ?_
        intro v1 w1 hown1 hg1 hwh1
        refine hK _ _ ?_
        rw [List.nil_append, Nat.zero_add] at hown1
        obtain ⟨vo, vc, rfl⟩ := own_slice hown1
        have hb1 : Below wr.heap.size wr w1 := (chg_grown hg1).below (Nat.le_refl _) (fun k h => by cases h)
        have hrow : TRow S F w1 W.heap.size (.slice vo E.length vc) E := by
          refine ⟨by rw [HE.out.2.2.2.1]; exact hown1, fun y hy => ⟨(HE.out.2.1 y hy).1, (HE.out.2.1 y hy).2.chg (chg_of_below hb1 (fun _ => False)) (fun _ _ _ h => h) (fun k hk _ => ⟨hk, fun e => ?_⟩) (Nat.le_refl _)⟩⟩
          have h1 := own_base hown1 k (by rw [← e]; cases vo <;> rfl)
          have hk := hSW k hk
          omega
        have HI1 := Lib.hid (HI.out.keep hb1)
        have hcs := chg_setRow w1 W.heap.size #[.int .i8 k, .int .i64 0, .string ⟨#[]⟩, .string ⟨#[]⟩, .slice vo L.length vc]
        have HX2 := Lib.hid (setRow_heap w1 W.heap.size _ #[.int .i8 k, .int .i64 0, .string ⟨#[]⟩, .string ⟨#[]⟩, .slice vo L.length vc] _ _ HI1.out.hX)
        have HB2 := Lib.hid (HI1.out.hb.trans (hcs.below (B := W.heap.size) HI1.out.hb.size (fun k e => by have e : k = W.heap.size := e; omega)))
        have hgb : ∀ k, (Value.slice vo E.length vc).ownBlock = some k → W.heap.size < k := fun k hk => by
          have e2 : (Value.slice vo L.length vc).ownBlock = (Value.slice vo E.length vc).ownBlock := by cases vo <;> rfl
          have h6 := heap_lt HI.out.hX
          rcases hwh1 with hw | hw
          · rw [e2, hk] at hw
            cases hw
          · rw [e2, hk] at hw
            have h5 := Option.some.inj hw
            omega
        have hrw2 : RowS (fun k => S k ∨ W.heap.size < k) (F + 1) (w1.setRow W.heap.size #[.int .i8 k, .int .i64 0, .string ⟨#[]⟩, .string ⟨#[]⟩, .slice vo L.length vc]) (.slice vo L.length vc) L := by
          have h3 := hrow.rowS (S' := fun k => S k ∨ W.heap.size < k) (fun k hk => .inl hk) (fun k hk => .inr (hgb k hk))
          rw [HE.out.1] at h3
          refine h3.chg (S' := fun k => S k ∨ W.heap.size < k) hcs (fun j hj _ e => ?_) (fun j hj _ => hj) (Nat.le_refl _)
          have e : j = W.heap.size := e
          rcases hj with hj | hj
          · have := hSW j hj
            omega
          · omega
        have HRW := Lib.hid hrw2
        clear hown1 hg1 hwh1 hb1 hrow hgb hcs hrw2
        simp only [Nat.zero_add]
        go_wp2_with (with_reducible refine stop_op (o := ⟨_, .store 25 (.tmp 4) (.tmp 33), _, _, _, _⟩) ?_)
        refine Lib.hid ?_
        refine wpList_store_row (o := ⟨none, _, _, _, _, _⟩) rfl 25 (.tmp 4) (.tmp 33) rfl W.heap.size #[.int .i8 k, .int .i64 0, .string ⟨#[]⟩, .string ⟨#[]⟩, .slice vo L.length vc] rfl rfl 25 _ HI1.out.hX (infoTM' _ rfl) rfl (by simp [Value.oneCell']) ?_
        go_wp2_with fail
        exact ret_row HX2.out rfl Tryd.underlying25 rfl (infoTM' _ rfl) rfl rfl ⟨HB2.out, .inl ⟨HFIN.out.symm, vo, vc, rfl, HRW.out⟩⟩
set_option maxHeartbeats 8000000 in
theorem tuple_any (S : Nat → Prop) (F : Nat) (L : List Tm) (ao : Option Addr) (cap : Nat) (W : World) (hSW : ∀ k, S k → k < W.heap.size) (hc : Cells W 0 letL) (hr : RowS S F W (.slice ao L.length cap) L) (hno : ao = none → cap = 0) (hlen : L.length ≤ 4000) :
    Calls Tryd.prog 13 #[.slice ao L.length cap] W (MdP S W F 5 L) := by
  have hb1 := (Below.refl W.heap.size W).alloc (Nat.le_refl _) (.cells zT 25)
  have hs1 : (W.alloc (.cells zT 25)).heap.size = W.heap.size + 1 := by simp
  have hr1 : RowS S F (W.alloc (.cells zT 25)) (.slice ao L.length cap) L := hr.chg (chg_of_below hb1 (fun _ => False)) (fun _ _ _ h => h) (fun k hk _ => hk) (Nat.le_refl _)
  have HM := Lib.hid (made_any S F 5 L ao cap _ (fun k hk => by have := hSW k hk; omega) (cells_chg hc (chg_of_below hb1 (fun _ => False)) (fun e => e)) hr1 hno hlen)
  have HX1 := Lib.hid (heap_new W (.cells zT 25))
  have HB1 := Lib.hid hb1
  have HS1 := Lib.hid hs1
  clear hb1 hr1 hc hr hs1
  go_enter Tryd.func13, Tryd.ntmps13
  go_wp2_with fail
  generalize W.alloc (.cells zT 25) = W1 at *
  refine HM.out.mono ?_
  rintro e w2 ⟨hb2, ⟨h0, vo, vc, rfl, hrow⟩ | ⟨h0, rfl⟩⟩
  · have HX2 := Lib.hid (keep_heap HX1.out hb2)
    have hcs := chg_setRow w2 W.heap.size #[.int .i8 5, .int .i64 0, .string ⟨#[]⟩, .string ⟨#[]⟩, .slice vo L.length vc]
    have HX3 := Lib.hid (setRow_heap w2 W.heap.size _ #[.int .i8 5, .int .i64 0, .string ⟨#[]⟩, .string ⟨#[]⟩, .slice vo L.length vc] _ _ HX2.out)
    have hB2 := HB1.out.trans (hb2.mono HB1.out.size)
    have hs1 := HS1.out
    have HFIN : Hid (MdP S W F 5 L (.returned (.tuple #[.agg #[.int .i8 5, .int .i64 0, .string ⟨#[]⟩, .string ⟨#[]⟩, .slice vo L.length vc], .int .i64 0])) (w2.setRow W.heap.size #[.int .i8 5, .int .i64 0, .string ⟨#[]⟩, .string ⟨#[]⟩, .slice vo L.length vc])) := Lib.hid
      ⟨hB2.trans (hcs.below (B := W.heap.size) hB2.size (fun k e => by have e : k = W.heap.size := e; omega)), .inl ⟨h0, vo, vc, rfl, hrow.chg hcs (fun j hj _ e => by
        have e : j = W.heap.size := e
        rcases hj with hj | hj
        · have := hSW j hj
          omega
        · omega) (fun j hj _ => by
        rcases hj with hj | hj
        · exact .inl hj
        · exact .inr (by omega)) (Nat.le_refl _)⟩⟩
    clear hcs hB2 hs1 hrow hb2 h0
    go_wp2_with (with_reducible refine stop_op (o := ⟨_, .store 25 (.tmp 2) (.tmp 6), _, _, _, _⟩) ?_)
    refine Lib.hid ?_
    refine wpList_store_row (o := ⟨none, _, _, _, _, _⟩) rfl 25 (.tmp 2) (.tmp 6) rfl W.heap.size #[.int .i8 5, .int .i64 0, .string ⟨#[]⟩, .string ⟨#[]⟩, .slice vo L.length vc] rfl rfl 25 _ HX2.out (infoTM' _ rfl) rfl (by simp [Value.oneCell']) ?_
    go_wp2_with fail
    exact ret_row HX3.out rfl Tryd.underlying25 rfl (infoTM' _ rfl) rfl rfl HFIN.out
  · have HX2 := Lib.hid (keep_heap HX1.out hb2)
    have HFIN : Hid (MdP S W F 5 L (.returned (.tuple #[.agg zT, .int .i64 (mdN L 1)])) w2) := Lib.hid ⟨HB1.out.trans (hb2.mono HB1.out.size), .inr ⟨h0, rfl⟩⟩
    clear hb2 h0
    go_wp2_with (with_reducible refine stop_op (o := ⟨_, .store 25 (.tmp 2) (.tmp 6), _, _, _, _⟩) ?_)
    refine Lib.hid ?_
    refine wpList_store_row (o := ⟨none, _, _, _, _, _⟩) rfl 25 (.tmp 2) (.tmp 6) rfl W.heap.size zT rfl rfl 25 _ HX2.out (infoTM' _ rfl) rfl (by simp [zT, Value.oneCell']) ?_
    rw [setRow_self _ _ _ _ _ HX2.out]
    go_wp2_with fail
    exact ret_row HX2.out rfl Tryd.underlying25 rfl (infoTM' _ rfl) rfl rfl HFIN.out
end Go.Proofs.YtaomakhhkjflaaaDoor
namespace Go.Proofs.YtaomakhhkjflaaaDoor
open Go.ChangeShapes Go.WideShapes Go.ChangeAt Go.RowKit
set_option linter.unusedVariables false
set_option linter.unusedSimpArgs false
set_option maxRecDepth 100000
def gaN : List Tm → Int → Int
  | [], n => n
  | x :: l, n => if n < 4000 then gaN l (n + siz x 4000) else n
theorem ga_lt : ∀ (l : List Tm) (n : Int), 0 ≤ n → gaN l n < 4000 → n + nL l < 4000
  | [], n, h0, h => by
    rw [gaN] at h
    rw [nL]
    omega
  | x :: l, n, h0, h => by
    rw [gaN] at h
    split at h
    · have h1 := siz_eq x 4000 (by omega)
      have h2 := nT_pos x
      have h3 := ga_lt l _ (by omega) h
      rw [nL]
      omega
    · omega
set_option maxHeartbeats 8000000 in
theorem greatall_any (S : Nat → Prop) (F : Nat) (L : List Tm) (ao : Option Addr) (cap : Nat) (W : World) (hr : RowS S F W (.slice ao L.length cap) L) :
    Calls Tryd.prog 12 #[.slice ao L.length cap] W (IsPost W (decide (4000 ≤ gaN L L.length))) := by
  have hl63 : L.length ≤ 9223372036854775807 := by
    obtain ⟨ao', cap', e, h1, h2, h3⟩ := hr
    omega
  have HR := Lib.hid hr
  clear hr
  go_enter Tryd.func12, Tryd.ntmps12
  go_wp2_with fail
  go_loopw [3, 4] (fun nv iv wr => ∃ (i : Nat) (n : Int), i ≤ L.length ∧ iv = .int .i64 i ∧ nv = .int .i64 n ∧ 0 ≤ n ∧ n ≤ 9223372036854775807 ∧ Hid (Below W.heap.size W wr ∧ gaN (L.drop i) n = gaN L L.length)) (fun _ iv _ => L.length - (intOf iv).toNat)
  case atStart => exact ⟨0, L.length, by omega, rfl, rfl, by omega, by omega, Lib.hid ⟨Below.refl _ _, rfl⟩⟩
  case round =>
    obtain ⟨i, n, hi, rfl, rfl, hn0, hn1, HI⟩ := hrel
    by_cases hlt : i < L.length
    · by_cases hbig : n < 4000
      · have hd : decide (n < 4000) = true := by simpa using hbig
        obtain ⟨x, hxi⟩ : ∃ x, L[i]? = some x := ⟨L[i], by simp [hlt]⟩
        have hra : RowS (fun _ => True) F wr (.slice ao L.length cap) L := HR.out.chg (chg_of_below HI.out.1 (fun _ => False)) (fun _ _ _ h => h) (fun _ _ _ => trivial) (Nat.le_refl _)
        obtain ⟨b', off, te, rfl, hte, hfe, hre, c0, c1, c2, c3, c4⟩ := row_elem hra hxi
        have hx := te_row hte hfe hre
        obtain ⟨gk, gn, gs, gu, gao, gcap, gl⟩ := te
        have hsz := siz_le x 4000 (by omega)
        have hcall := size_any F x _ wr 4000 hx (by omega) (by omega)
        have hdr := HI.out.2
        rw [drop_cons hxi, gaN, if_pos hbig] at hdr
        have HDR := Lib.hid hdr
        have hwr : IntKind.i64.wrap (n + siz x 4000) = n + siz x 4000 := IntWalk.i64_in _ (by omega)
        simp only [TE.lv, TE.cells] at c0 c1 c2 c3 c4 hcall
        clear hra hte hfe hre hxi hx hdr
        go_wp2_with fail
        refine hcall.mono ?_
        rintro e w2 ⟨rfl, hb2⟩
        have HB2 := Lib.hid (HI.out.1.trans (hb2.mono HI.out.1.size))
        clear hcall hb2 c0 c1 c2 c3 c4 HI
        go_wp2_with fail
        go_roundw
        case rel => exact ⟨i + 1, n + siz x 4000, by omega, by go_num, rfl, by omega, by omega, Lib.hid ⟨HB2.out, HDR.out⟩⟩
        case measure => simp [intOf]; omega
      · have hd : decide (n < 4000) = false := by simpa using hbig
        obtain ⟨x, hxi⟩ : ∃ x, L[i]? = some x := ⟨L[i], by simp [hlt]⟩
        have hdr := HI.out.2
        rw [drop_cons hxi, gaN, if_neg hbig] at hdr
        have HDR := Lib.hid (And.intro HI.out.1 hdr)
        clear hdr hxi HI
        go_wp2_with fail
        go_ret
        exact ⟨by rw [← HDR.out.2, decide_eq_true (by omega)]; rfl, HDR.out.1⟩
    · obtain rfl : i = L.length := by omega
      have hdr := HI.out.2
      rw [List.drop_length, gaN] at hdr
      have HDR := Lib.hid (And.intro HI.out.1 hdr)
      clear hdr HI
      go_wp2_with fail
      go_ret
      exact ⟨by rw [← HDR.out.2]; rfl, HDR.out.1⟩
end Go.Proofs.YtaomakhhkjflaaaDoor
namespace Go.Proofs.YtaomakhhkjflaaaDoor
open Go.ChangeShapes Go.WideShapes Go.ChangeAt Go.RowKit
set_option linter.unusedVariables false
inductive PV
  | done
  | take (i : Nat) (p : PV)
  | run (i : Nat) (p : PV)
  | fork (i : Nat) (p : PV) (j : Nat) (q : PV)
  | forkc (i : Nat) (p : PV) (j : Nat) (q : PV) (k : Nat) (r : PV)
def planFitsV (md : Region.Mode) (ops : Array Oper) : PV → Array Bool → Nat → Bool
  | .done, l, n => (Region.ready md ops l).isEmpty && n == 0
  | .take i p, l, n => n != 0 && Region.free md ops l i && (Region.ready md ops l).contains i && planFitsV md ops p (l.setIfInBounds i true) (n - 1)
  | .run i p, l, n => n != 0 && (Region.ready md ops l == [i]) && planFitsV md ops p (l.setIfInBounds i true) (n - 1)
  | .fork i p j q, l, n => n != 0 && (Region.ready md ops l == [i, j]) && planFitsV md ops p (l.setIfInBounds i true) (n - 1) && planFitsV md ops q (l.setIfInBounds j true) (n - 1)
  | .forkc i p j q k r, l, n => n != 0 && (Region.ready md ops l == [i, j, k]) && planFitsV md ops p (l.setIfInBounds i true) (n - 1) && planFitsV md ops q (l.setIfInBounds j true) (n - 1) && planFitsV md ops r (l.setIfInBounds k true) (n - 1)
section
variable (P : Program) (ops : Array Oper) (Q : Exit → Act → World → Prop) (S : World → Prop)
def planWpV : PV → Act → World → Prop
  | .done, a, w => Q .normal a w
  | .take i p, a, w => ∃ oi v, ops[i]? = some oi ∧ YieldsIf P ops S oi v a ∧ planWpV p (a.put oi.dst v) w
  | .run i p, a, w => wpOp P ops Q i (fun a' w' => S w' ∧ planWpV p a' w') a w
  | .fork i p j q, a, w => wpOp P ops Q i (fun a' w' => S w' ∧ planWpV p a' w') a w ∧ wpOp P ops Q j (fun a' w' => S w' ∧ planWpV q a' w') a w
  | .forkc i p j q k r, a, w => wpOp P ops Q i (fun a' w' => S w' ∧ planWpV p a' w') a w ∧ wpOp P ops Q j (fun a' w' => S w' ∧ planWpV q a' w') a w ∧ wpOp P ops Q k (fun a' w' => S w' ∧ planWpV r a' w') a w
end
section
variable {P : Program} {ops : Array Oper} {Q : Exit → Act → World → Prop} {S : World → Prop} {md : Region.Mode}
theorem planV_held (hs : Region.noSelect ops = true) (hQ : ∀ c a d v w, Q (.panic c) (Act.put a d v) w → Q (.panic c) a w) :
    ∀ (p : PV) (l : Array Bool) (n : Nat) (a : Act) (w : World), planFitsV md ops p l n = true → S w → planWpV P ops Q S p a w → wpAnyH P md ops Q S n l a w
  | .done, l, n, a, w, hf, _, h => by
    simp only [planFitsV, Bool.and_eq_true, beq_iff_eq] at hf
    exact wpAnyH_done (by simpa using hf.1) h n
  | .take i p, l, n, a, w, hf, hS, h => by
    simp only [planFitsV, Bool.and_eq_true, bne_iff_ne] at hf
    obtain ⟨⟨⟨h0, h1⟩, h2⟩, h3⟩ := hf
    obtain ⟨oi, v, e1, e2, e3⟩ := h
    obtain ⟨m, rfl⟩ : ∃ m, n = m + 1 := ⟨n - 1, by omega⟩
    exact wpAnyH_take e1 hs h1 h2 (fun c a w => hQ c a _ _ w) e2 hS (planV_held hs hQ p _ _ _ _ (by simpa using h3) hS e3)
  | .run i p, l, n, a, w, hf, _, h => by
    simp only [planFitsV, Bool.and_eq_true, bne_iff_ne, beq_iff_eq] at hf
    obtain ⟨⟨h0, h1⟩, h2⟩ := hf
    obtain ⟨m, rfl⟩ : ∃ m, n = m + 1 := ⟨n - 1, by omega⟩
    exact wpAnyH_one h1 (wpOp_mono (fun a' w' h' => ⟨h'.1, planV_held hs hQ p _ _ _ _ (by simpa using h2) h'.1 h'.2⟩) h)
  | .fork i p j q, l, n, a, w, hf, _, h => by
    simp only [planFitsV, Bool.and_eq_true, bne_iff_ne, beq_iff_eq] at hf
    obtain ⟨⟨⟨h0, h1⟩, h2⟩, h3⟩ := hf
    obtain ⟨m, rfl⟩ : ∃ m, n = m + 1 := ⟨n - 1, by omega⟩
    refine wpAnyH_all h1 (by simp) fun k hk => ?_
    have hk' : k = i ∨ k = j := by simpa using hk
    rcases hk' with rfl | rfl
    · exact wpOp_mono (fun a' w' h' => ⟨h'.1, planV_held hs hQ p _ _ _ _ (by simpa using h2) h'.1 h'.2⟩) h.1
    · exact wpOp_mono (fun a' w' h' => ⟨h'.1, planV_held hs hQ q _ _ _ _ (by simpa using h3) h'.1 h'.2⟩) h.2
  | .forkc i p j q k r, l, n, a, w, hf, _, h => by
    simp only [planFitsV, Bool.and_eq_true, bne_iff_ne, beq_iff_eq] at hf
    obtain ⟨⟨⟨⟨h0, h1⟩, h2⟩, h3⟩, h4⟩ := hf
    obtain ⟨m, rfl⟩ : ∃ m, n = m + 1 := ⟨n - 1, by omega⟩
    refine wpAnyH_all h1 (by simp) fun x hx => ?_
    have hx' : x = i ∨ x = j ∨ x = k := by simpa using hx
    rcases hx' with rfl | rfl | rfl
    · exact wpOp_mono (fun a' w' h' => ⟨h'.1, planV_held hs hQ p _ _ _ _ (by simpa using h2) h'.1 h'.2⟩) h.1
    · exact wpOp_mono (fun a' w' h' => ⟨h'.1, planV_held hs hQ q _ _ _ _ (by simpa using h3) h'.1 h'.2⟩) h.2.1
    · exact wpOp_mono (fun a' w' h' => ⟨h'.1, planV_held hs hQ r _ _ _ _ (by simpa using h4) h'.1 h'.2⟩) h.2.2
/-- A region that draws its order, by a tree. -/
theorem region_planV {id : Nat} {a : Act} {w : World} (S : World → Prop) (p : PV) (hm : P.follows .mixedOrders = true) (hs : Region.noSelect ops = true)
    (hf : planFitsV .any ops p (Array.replicate ops.size false) ops.size = true) (hS : S w.drew) (h : planWpV P ops (NoPanic Q) S p a w.drew) : (Code.region id ops true).wp P Q a w :=
  wp_region_noPanic (wp_region_held hm (planV_held hs (fun _ _ _ _ _ h => h.elim) p _ _ _ _ hf hS h))
theorem planV_done {a : Act} {w : World} (h : Q .normal a w) : planWpV P ops (NoPanic Q) S .done a w := h
theorem planV_take {i : Nat} {p : PV} {a : Act} {w : World} {oi : Oper} {l : List Oper} {v : Value} (h0 : l[i]? = some oi) (h1 : Region.wanted oi (yielded l.toArray a.tmps) = true)
    (h2 : ∀ w, S w → (execOp a.eval oi).run P w = .ok (.value v) w) (h : planWpV P l.toArray Q S p (a.put oi.dst v) w) : planWpV P l.toArray Q S (.take i p) a w :=
  ⟨oi, v, by simpa using h0, .inl ⟨h1, h2⟩, h⟩
theorem planV_skip {i : Nat} {p : PV} {a : Act} {w : World} {oi : Oper} {l : List Oper} (h0 : l[i]? = some oi) (h1 : Region.wanted oi (yielded l.toArray a.tmps) = false)
    (h : planWpV P l.toArray Q S p (a.put oi.dst undef) w) : planWpV P l.toArray Q S (.take i p) a w :=
  ⟨oi, undef, by simpa using h0, .inr ⟨h1, rfl⟩, h⟩
theorem planV_run {i : Nat} {p : PV} {a : Act} {w : World} {oi : Oper} {l : List Oper} (h0 : l[i]? = some oi) (h1 : Region.wanted oi (yielded l.toArray a.tmps) = true)
    (h : ∀ K : Act → World → Prop, Shut (∀ a' w', S w' → planWpV P l.toArray Q S p a' w' → K a' w') → Oper.wp P oi a w K Q) : planWpV P l.toArray Q S (.run i p) a w :=
  plan_op h0 h1 h
theorem planV_run_skip {i : Nat} {p : PV} {a : Act} {w : World} {oi : Oper} {l : List Oper} (h0 : l[i]? = some oi) (h1 : Region.wanted oi (yielded l.toArray a.tmps) = false)
    (hS : S w) (h : planWpV P l.toArray Q S p (a.put oi.dst undef) w) : planWpV P l.toArray Q S (.run i p) a w := plan_op_skip h0 h1 hS h
theorem planV_fork {i j : Nat} {p q : PV} {a : Act} {w : World} {l : List Oper} (h1 : planWpV P l.toArray Q S (.run i p) a w) (h2 : planWpV P l.toArray Q S (.run j q) a w) : planWpV P l.toArray Q S (.fork i p j q) a w := ⟨h1, h2⟩
theorem planV_forkc {i j k : Nat} {p q r : PV} {a : Act} {w : World} {l : List Oper} (h1 : planWpV P l.toArray Q S (.run i p) a w) (h2 : planWpV P l.toArray Q S (.run j q) a w) (h3 : planWpV P l.toArray Q S (.run k r) a w) : planWpV P l.toArray Q S (.forkc i p j q k r) a w := ⟨h1, h2, h3⟩
end
end Go.Proofs.YtaomakhhkjflaaaDoor
namespace Go.Proofs.YtaomakhhkjflaaaDoor
open Go.ChangeShapes Go.WideShapes Go.ChangeAt Go.RowKit
set_option linter.unusedVariables false
set_option linter.unusedSimpArgs false
set_option maxRecDepth 100000
/-- a region, and what stands behind it, apart -/
theorem region_post {P : Program} {id : Nat} {ops : Array Oper} {a : Act} {w : World} {Q : Exit → Act → World → Prop} (R : Act → Act → World → Prop) (h1 : (Code.region id ops true).wp P (fun e a' w' => match e with
    | .normal => R a a' w'
    | _ => False) a w) (h2 : ∀ a' w', R a a' w' → Q .normal a' w') : (Code.region id ops true).wp P Q a w :=
  Code.wp_mono (fun e a' w' h => by
    cases e <;> first | exact h2 _ _ h | exact h.elim) h1
/-- rows are being made in new blocks -/
structure P4 (W0 w : World) (row : Option (Value × Nat × List Value)) (tc : List Value) (q r : Option Nat) : Prop where
  hb : Below W0.heap.size W0 w
  hrow : ∀ v n xs, row = some (v, n, xs) → w.ownsRow W0.heap.size 25 5 v n xs
  hq : ∀ j, q = some j → W0.heap.size ≤ j ∧ w.heap[j]? = some (.cells tc.toArray 25 (0, 0)) ∧ ∀ v n xs, row = some (v, n, xs) → v.ownBlock ≠ some j
  hr : ∀ j, r = some j → W0.heap.size ≤ j ∧ w.heap[j]? = some (.cells zT 25 (0, 0)) ∧ ∀ v n xs, row = some (v, n, xs) → v.ownBlock ≠ some j
section
variable {W0 w w' : World} {row : Option (Value × Nat × List Value)} {tc : List Value} {q r : Option Nat}
theorem P4.call (h : P4 W0 w row tc q r) (hb : Below w.heap.size w w') : P4 W0 w' row tc q r :=
  ⟨h.hb.trans (hb.mono h.hb.size), fun v n xs e => own_keep (h.hrow v n xs e) hb, fun j e => ⟨(h.hq j e).1, keep_heap (h.hq j e).2.1 hb, (h.hq j e).2.2⟩, fun j e => ⟨(h.hr j e).1, keep_heap (h.hr j e).2.1 hb, (h.hr j e).2.2⟩⟩
theorem P4.empty (h : P4 W0 w none tc q r) : P4 W0 (w.alloc (.cells #[] 25)) (some (.slice (some ⟨w.heap.size, 0, none⟩) 0 0, 0, [])) tc q r := by
  have h1 := h.call ((Below.refl w.heap.size w).alloc (Nat.le_refl _) (.cells #[] 25))
  refine ⟨h1.hb, fun v n xs e => ?_, fun j e => ⟨(h1.hq j e).1, (h1.hq j e).2.1, fun v n xs e2 e3 => ?_⟩, fun j e => ⟨(h1.hr j e).1, (h1.hr j e).2.1, fun v n xs e2 e3 => ?_⟩⟩
  · simp only [Option.some.injEq, Prod.mk.injEq] at e
    obtain ⟨rfl, rfl, rfl⟩ := e
    exact World.ownsRow_made (e := 25) (size := 5) (base := W0.heap.size) w #[] 0 h.hb.size (by decide) rfl
  · simp only [Option.some.injEq, Prod.mk.injEq] at e2
    obtain ⟨rfl, rfl, rfl⟩ := e2
    have := heap_lt (h.hq j e).2.1
    have h9 : w.heap.size = j := Option.some.inj e3
    omega
  · simp only [Option.some.injEq, Prod.mk.injEq] at e2
    obtain ⟨rfl, rfl, rfl⟩ := e2
    have := heap_lt (h.hr j e).2.1
    have h9 : w.heap.size = j := Option.some.inj e3
    omega
theorem P4.putq (h : P4 W0 w row tc none r) : P4 W0 (w.alloc (.cells tc.toArray 25)) row tc (some w.heap.size) r := by
  have h1 := h.call ((Below.refl w.heap.size w).alloc (Nat.le_refl _) (.cells tc.toArray 25))
  refine ⟨h1.hb, h1.hrow, fun j e => ?_, h1.hr⟩
  cases e
  refine ⟨h.hb.size, heap_new w _, fun v n xs e2 e3 => ?_⟩
  have := own_lt (h.hrow v n xs e2) (Nat.le_refl _) _ e3
  omega
theorem P4.putr (h : P4 W0 w row tc q none) : P4 W0 (w.alloc (.cells zT 25)) row tc q (some w.heap.size) := by
  have h1 := h.call ((Below.refl w.heap.size w).alloc (Nat.le_refl _) (.cells zT 25))
  refine ⟨h1.hb, h1.hrow, h1.hq, fun j e => ?_⟩
  cases e
  refine ⟨h.hb.size, heap_new w _, fun v n xs e2 e3 => ?_⟩
  have := own_lt (h.hrow v n xs e2) (Nat.le_refl _) _ e3
  omega
theorem P4.app {v v' : Value} {n n' : Nat} {xs xs' : List Value} (h : P4 W0 w (some (v, n, xs)) tc q r) (hown : w'.ownsRow W0.heap.size 25 5 v' n' xs') (hg : w.grownBy w' v.ownBlock) (hwh : v'.ownBlock = v.ownBlock ∨ v'.ownBlock = some w.heap.size) : P4 W0 w' (some (v', n', xs')) tc q r := by
  have hc := chg_grown hg
  have hba := own_base (h.hrow v n xs rfl)
  have hno : ∀ j, v.ownBlock ≠ some j → j < w.heap.size → v'.ownBlock ≠ some j := fun j h1 h2 e => by
    rcases hwh with hw | hw
    · exact h1 (hw ▸ e)
    · rw [hw] at e
      have := Option.some.inj e
      omega
  refine ⟨h.hb.trans (hc.below h.hb.size fun k e => hba k e.symm), fun u m ys e => ?_, fun j e => ?_, fun j e => ?_⟩
  · simp only [Option.some.injEq, Prod.mk.injEq] at e
    obtain ⟨rfl, rfl, rfl⟩ := e
    exact hown
  · obtain ⟨h1, h2, h3⟩ := h.hq j e
    have h4 := h3 v n xs rfl
    refine ⟨h1, hc.heap h2 (fun e => h4 e.symm), fun u m ys e => ?_⟩
    simp only [Option.some.injEq, Prod.mk.injEq] at e
    obtain ⟨rfl, rfl, rfl⟩ := e
    exact hno j h4 (heap_lt h2)
  · obtain ⟨h1, h2, h3⟩ := h.hr j e
    have h4 := h3 v n xs rfl
    refine ⟨h1, hc.heap h2 (fun e => h4 e.symm), fun u m ys e => ?_⟩
    simp only [Option.some.injEq, Prod.mk.injEq] at e
    obtain ⟨rfl, rfl, rfl⟩ := e
    exact hno j h4 (heap_lt h2)
/-- the row that is made, as parts of a tuple -/
theorem P4.rows {vo : Option Addr} {vc n F : Nat} {E : List TE} (h : P4 W0 w (some (.slice vo n vc, n, tcs E)) tc q r) (hn : n = E.length) (hE : ∀ x ∈ E, fields x.k x.n x.s x.u ∧ RowS (fun k => k < W0.heap.size) F W0 x.lv x.l) :
    RowS (fun k => k < w.heap.size ∧ r ≠ some k) (F + 1) w (.slice vo (E.map TE.t).length vc) (E.map TE.t) ∧ (vo = none → vc = 0) := by
  subst hn
  have hown := h.hrow _ _ _ rfl
  have ht : TRow (fun k => k < W0.heap.size) F w W0.heap.size (.slice vo E.length vc) E := ⟨hown, fun x hx => ⟨(hE x hx).1, (hE x hx).2.chg (chg_of_below h.hb (fun _ => False)) (fun _ _ _ h => h) (fun k hk _ => ⟨hk, fun e => by
    have := own_base hown k e
    have hk : k < W0.heap.size := hk
    omega⟩) (Nat.le_refl _)⟩⟩
  refine ⟨ht.rowS (fun k hk => ⟨Nat.lt_of_lt_of_le hk h.hb.size, fun e => ?_⟩) (fun k hk => ⟨own_lt hown (Nat.le_refl _) k hk, fun e => (h.hr k e).2.2 _ _ _ rfl hk⟩), fun e => ?_⟩
  · have := (h.hr k e).1
    have hk : k < W0.heap.size := hk
    omega
  · rcases hown.2 with ⟨e1, -⟩ | ⟨g, c, cur, e1, -⟩
    · injection e1
    · rw [e] at e1
      cases e1
end
theorem not_r {k j n : Nat} (h : (k < n ∧ some j ≠ some k) ∨ n < k) (hj : j < n) : k ≠ j := by
  rintro rfl
  rcases h with h | h
  · exact h.2 rfl
  · omega
/-- what a tuple's making came to -/
def MdR (D : Nat → Prop) (F : Nat) (L : List Tm) (te : TE) (en : Int) (w : World) : Prop :=
  (mdN L 1 = 0 ∧ en = 0 ∧ te.t = .mk 5 0 ⟨#[]⟩ ⟨#[]⟩ L ∧ fields te.k te.n te.s te.u ∧ RowS D F w te.lv te.l) ∨ (mdN L 1 ≠ 0 ∧ en = mdN L 1)
theorem MdR.of {S : Nat → Prop} {W w : World} {F : Nat} {L : List Tm} {e : Ending} (h : MdP S W F 5 L e w) : ∃ (te : TE) (en : Int), e = .returned (.tuple #[.agg te.cells.toArray, .int .i64 en]) ∧ MdR (fun k => S k ∨ W.heap.size < k) (F + 1) L te en w := by
  obtain ⟨-, ⟨h1, ao, cap, rfl, hr⟩ | ⟨h1, rfl⟩⟩ := h
  · exact ⟨⟨5, 0, ⟨#[]⟩, ⟨#[]⟩, ao, cap, L⟩, 0, rfl, .inl ⟨h1, rfl, rfl, ⟨by simp, by simp, Nat.zero_le _, Nat.zero_le _⟩, hr⟩⟩
  · exact ⟨⟨0, 0, ⟨#[]⟩, ⟨#[]⟩, none, 0, []⟩, mdN L 1, rfl, .inr ⟨h1, rfl⟩⟩
theorem MdR.chg {D D' T : Nat → Prop} {F : Nat} {L : List Tm} {te : TE} {en : Int} {w w' : World} (h : MdR D F L te en w) (hc : Chg T w w') (hd : ∀ k, D k → k < w.heap.size → ¬ T k) (hS : ∀ k, D k → k < w.heap.size → D' k) : MdR D' F L te en w' :=
  h.imp (fun ⟨h1, h2, h3, h4, h5⟩ => ⟨h1, h2, h3, h4, h5.chg hc hd hS (Nat.le_refl _)⟩) id
theorem MdR.term {D : Nat → Prop} {F : Nat} {L : List Tm} {te : TE} {w : World} (h : MdR D F L te 0 w) : mdN L 1 = 0 ∧ TermV F w (.agg te.cells.toArray) (.mk 5 0 ⟨#[]⟩ ⟨#[]⟩ L) := by
  rcases h with ⟨h1, -, h3, h4, h5⟩ | ⟨h1, h2⟩
  · exact ⟨h1, te_row h3 h4 h5⟩
  · exact absurd h2.symm h1
def puts (a0 : Act) (x33 x35 x32 x34 x36 x37 x38 x39 x9 x10 : Value) : Act := ((((((((((((a0.put (some 33) x33).put (some 35) x35).put (some 32) x32).put (some 34) x34).put (some 36) x36).put (some 37) x37).put (some 38) x38).put (some 31) x38).put (some 39) x39).put (some 40) x10).put (some 9) x9).put (some 10) x10)
/-- where region 4 ends -/
def R4 (W0 : World) (F : Nat) (L : List Tm) (a0 a' : Act) (w' : World) : Prop :=
  ∃ (x33 x35 x32 x34 x36 x37 x38 x39 : Value) (r : Nat) (te : TE) (en : Int), a' = puts a0 x33 x35 x32 x34 x36 x37 x38 x39 (.pointer (some ⟨r, 0, none⟩)) (.int .i64 en) ∧ Below W0.heap.size W0 w' ∧ W0.heap.size ≤ r ∧ w'.heap[r]? = some (.cells te.cells.toArray 25 (0, 0)) ∧ MdR (fun k => k ≠ r) F L te en w'
theorem r4_intro {W0 : World} {F : Nat} {L : List Tm} {a0 a' : Act} {w' : World} (x33 x35 x32 x34 x36 x37 x38 x39 : Value) (r : Nat) (te : TE) (en : Int) (ha : a' = puts a0 x33 x35 x32 x34 x36 x37 x38 x39 (.pointer (some ⟨r, 0, none⟩)) (.int .i64 en))
    (h : Below W0.heap.size W0 w' ∧ W0.heap.size ≤ r ∧ w'.heap[r]? = some (.cells te.cells.toArray 25 (0, 0)) ∧ MdR (fun k => k ≠ r) F L te en w') : R4 W0 F L a0 a' w' := ⟨x33, x35, x32, x34, x36, x37, x38, x39, r, te, en, ha, h.1, h.2.1, h.2.2.1, h.2.2.2⟩
def SX (x : Nat) (k n : Int) (s u : ByteArray) (lv : Value) (W : World) : Prop := W.cell? ⟨x, 0, none⟩ = some (.int .i8 k) ∧ W.cell? ⟨x, 1, none⟩ = some (.int .i64 n) ∧ W.cell? ⟨x, 2, none⟩ = some (.string s) ∧ W.cell? ⟨x, 3, none⟩ = some (.string u) ∧ W.cell? ⟨x, 4, none⟩ = some lv
theorem sx_of {x : Nat} {k n : Int} {s u : ByteArray} {lv : Value} {W0 w : World} (hx : W0.heap[x]? = some (.cells #[.int .i8 k, .int .i64 n, .string s, .string u, lv] 25 (0, 0))) (hb : Below W0.heap.size W0 w) : SX x k n s u lv w := by
  have h := keep_heap hx hb
  exact ⟨(cells_at h 0 _ rfl).1, (cells_at h 1 _ rfl).1, (cells_at h 2 _ rfl).1, (cells_at h 3 _ rfl).1, (cells_at h 4 _ rfl).1⟩
theorem chg_setCells : ∀ (vs : List Value) (b o : Nat) (w : World), Chg (fun k => k = b) w (w.setCells b o vs)
  | [], b, o, w => Chg.refl _ _
  | v :: r, b, o, w => by
    rw [World.setCells]
    exact (chg_set (w := w) (p := ⟨b, o, none⟩) v).trans (chg_setCells r b (o + 1) _)
/-- an element of a row is put otherwise -/
theorem rows_set {w : World} {B F g n cap m : Nat} {E : List TE} {te : TE} (hown : w.ownsRow B 25 5 (.slice (some ⟨g, 0, none⟩) n cap) n (tcs E)) (hn : n = E.length) (hm : m < E.length) (hE : ∀ x ∈ E, fields x.k x.n x.s x.u ∧ RowS (fun k => k < B) F w x.lv x.l) (hf : fields te.k te.n te.s te.u) (hr : RowS (fun k => k < B) F w te.lv te.l) :
    w.there g (m * 5) 5 ∧ RowS (fun k => k < B ∨ k = g) (F + 1) (w.setCells g (m * 5) te.cells) (.slice (some ⟨g, 0, none⟩) ((E.map TE.t).set m te.t).length cap) ((E.map TE.t).set m te.t) := by
  subst hn
  have hbg := own_base hown g rfl
  rcases id hown.2 with ⟨e1, -⟩ | ⟨g', cap', cur, e1, hb, hh, h3, h4, h5, h6⟩
  · cases e1
  · simp only [Value.slice.injEq, Option.some.injEq, Addr.mk.injEq] at e1
    obtain ⟨⟨rfl, -, -⟩, -, rfl⟩ := e1
    have hrange : ∀ (i : Nat) (x : TE), E[i]? = some x → w.rangeAt g (i * 5) x.cells := fun i x hx j v hj => by
      have hi := (List.getElem?_eq_some_iff.1 hx).1
      have hj5 : j < 5 := by have := (List.getElem?_eq_some_iff.1 hj).1; simpa [TE.cells] using this
      rw [hown.cellAt (i * 5 + j) (by omega), tcs_at E i j x hx hj5]
      exact hj
    have hthere : w.there g (m * 5) 5 := fun j hj => by
      have hlt : m * 5 + j < cur.size := by
        rw [h5]
        have : m * 5 + 5 ≤ E.length * 5 := by omega
        have : E.length * 5 ≤ cap * 5 := Nat.mul_le_mul_right 5 h3
        omega
      have h7 := cells_at hh (m * 5 + j) cur[m * 5 + j] (by simp [hlt])
      exact ⟨by rw [h7.1]; rfl, h7.2⟩
    have hc := chg_setCells te.cells g (m * 5) w
    refine ⟨hthere, some ⟨g, 0, none⟩, cap, rfl, by simpa using h3, by unfold maxLen at h4; omega, fun i t hi => ?_⟩
    have hmap : (E.map TE.t).set m te.t = (E.set m te).map TE.t := by rw [List.map_set]
    rw [hmap, List.getElem?_map] at hi
    obtain ⟨x, hx, rfl⟩ := Option.map_eq_some_iff.1 hi
    have hcells : (w.setCells g (m * 5) te.cells).rangeAt g (i * 5) x.cells := by
      by_cases him : m = i
      · subst him
        have : x = te := by
          rw [List.getElem?_set_self hm] at hx
          exact (Option.some.inj hx).symm
        subst this
        exact World.rangeAt_setCells_same w g (m * 5) x.cells (by simpa [TE.cells] using hthere)
      · rw [List.getElem?_set_ne him] at hx
        refine World.rangeAt_setCells_apart (hrange i x hx) g (m * 5) te.cells (.inr ?_)
        simp only [TE.cells, List.length_cons, List.length_nil]
        omega
    have hxr : fields x.k x.n x.s x.u ∧ RowS (fun k => k < B) F w x.lv x.l := by
      rcases List.mem_or_eq_of_mem_set (List.mem_of_getElem? hx) with h | h
      · exact hE x h
      · subst h
        exact ⟨hf, hr⟩
    obtain ⟨hxf, xao, xcap, e, l1, l2, l3⟩ := hxr
    injection e with e1 e2 e3
    have key : ∀ j u, x.cells[j]? = some u → (w.setCells g (m * 5) te.cells).cell? ⟨g, 0 + i * 5 + j, none⟩ = some u := fun j u hj => by
      rw [Nat.zero_add]
      exact hcells j u hj
    refine ⟨g, 0, rfl, .inr rfl, hxf, x.ao, x.cap, ⟨key 0 _ rfl, key 1 _ rfl, key 2 _ rfl, key 3 _ rfl, key 4 _ rfl⟩, by rw [e3]; exact l1, by rw [e3]; exact l2, fun j t hj => ?_⟩
    obtain ⟨b', off, e', h⟩ := l3 j t hj
    exact ⟨b', off, by rw [e1]; exact e', h.chg hc (fun k hk _ e => by have e : k = g := e; have hk : k < B := hk; omega) (fun k hk _ => .inl hk) (Nat.le_refl _)⟩
theorem ok_tuple {L : List Tm} (h1 : okL L) (h2 : 1 + (nL L : Int) ≤ 256) : checkN (.mk 5 0 ⟨#[]⟩ ⟨#[]⟩ L) = 0 := by
  refine ok_check ?_ (by rw [nT]; omega)
  rw [okT]
  exact ⟨by simp [oneB, bareB, empty], h1⟩
theorem cmp_tuples {L M : List Tm} (h1 : mdN L 1 = 0) (h2 : mdN M 1 = 0) : cmpT (.mk 5 0 ⟨#[]⟩ ⟨#[]⟩ L) (.mk 5 0 ⟨#[]⟩ ⟨#[]⟩ M) = if cmpI L.length M.length = 0 then ordL L M else cmpI L.length M.length := by
  obtain ⟨a1, a2⟩ := md_ok L 1 (by omega) h1
  obtain ⟨b1, b2⟩ := md_ok M 1 (by omega) h2
  have e : cmpS ⟨#[]⟩ ⟨#[]⟩ = 0 := by kernel_rfl
  rw [cmpT, if_pos (ok_tuple a1 a2), if_pos (ok_tuple b1 b2), ord, if_pos rfl]
  simp only [orL, e, cmpI_self, if_true]
  by_cases h : cmpI L.length M.length = 0
  · rw [if_pos h, if_pos h]
    split <;> simp_all
  · rw [if_neg h, if_neg h]
/-- what region 14 reads -/
def Z14 (pa pc eb eo x : Nat) (ak an : Int) (as' au : ByteArray) (av : Value) (ck cn : Int) (cs cu : ByteArray) (cv : Value) (ek en : Int) (es eu : ByteArray) (ev : Value) (gk gn : Int) (gs gu : ByteArray) (gv : Value) (W : World) : Prop :=
  W.cell? ⟨pa, 0, none⟩ = some (.int .i8 ak) ∧ W.cell? ⟨pa, 1, none⟩ = some (.int .i64 an) ∧ W.cell? ⟨pa, 2, none⟩ = some (.string as') ∧ W.cell? ⟨pa, 3, none⟩ = some (.string au) ∧ W.cell? ⟨pa, 4, none⟩ = some av ∧ W.cell? ⟨pc, 0, none⟩ = some (.int .i8 ck) ∧ W.cell? ⟨pc, 1, none⟩ = some (.int .i64 cn) ∧ W.cell? ⟨pc, 2, none⟩ = some (.string cs) ∧ W.cell? ⟨pc, 3, none⟩ = some (.string cu) ∧ W.cell? ⟨pc, 4, none⟩ = some cv ∧ W.cell? ⟨eb, eo, none⟩ = some (.int .i8 ek) ∧ W.cell? ⟨eb, eo + 1, none⟩ = some (.int .i64 en) ∧ W.cell? ⟨eb, eo + 2, none⟩ = some (.string es) ∧ W.cell? ⟨eb, eo + 3, none⟩ = some (.string eu) ∧ W.cell? ⟨eb, eo + 4, none⟩ = some ev ∧ W.cell? ⟨x, 0, none⟩ = some (.int .i8 gk) ∧ W.cell? ⟨x, 1, none⟩ = some (.int .i64 gn) ∧ W.cell? ⟨x, 2, none⟩ = some (.string gs) ∧ W.cell? ⟨x, 3, none⟩ = some (.string gu) ∧ W.cell? ⟨x, 4, none⟩ = some gv
theorem Z14.of {pa pc eb eo x : Nat} {ak an : Int} {as' au : ByteArray} {av : Value} {ck cn : Int} {cs cu : ByteArray} {cv : Value} {ek en : Int} {es eu : ByteArray} {ev : Value} {gk gn : Int} {gs gu : ByteArray} {gv : Value} {W w : World} (h1 : W.heap[pa]? = some (.cells #[.int .i8 ak, .int .i64 an, .string as', .string au, av] 25 (0, 0))) (h2 : W.heap[pc]? = some (.cells #[.int .i8 ck, .int .i64 cn, .string cs, .string cu, cv] 25 (0, 0)))
    (h4 : W.heap[x]? = some (.cells #[.int .i8 gk, .int .i64 gn, .string gs, .string gu, gv] 25 (0, 0))) (c0 : W.cell? ⟨eb, eo, none⟩ = some (.int .i8 ek)) (c1 : W.cell? ⟨eb, eo + 1, none⟩ = some (.int .i64 en)) (c2 : W.cell? ⟨eb, eo + 2, none⟩ = some (.string es)) (c3 : W.cell? ⟨eb, eo + 3, none⟩ = some (.string eu)) (c4 : W.cell? ⟨eb, eo + 4, none⟩ = some ev) (hb : Below W.heap.size W w) :
    Z14 pa pc eb eo x ak an as' au av ck cn cs cu cv ek en es eu ev gk gn gs gu gv w := by
  have k1 := keep_heap h1 hb
  have k2 := keep_heap h2 hb
  have k4 := keep_heap h4 hb
  exact ⟨(cells_at k1 0 _ rfl).1, (cells_at k1 1 _ rfl).1, (cells_at k1 2 _ rfl).1, (cells_at k1 3 _ rfl).1, (cells_at k1 4 _ rfl).1, (cells_at k2 0 _ rfl).1, (cells_at k2 1 _ rfl).1, (cells_at k2 2 _ rfl).1, (cells_at k2 3 _ rfl).1, (cells_at k2 4 _ rfl).1,
    keep_cell c0 hb, keep_cell c1 hb, keep_cell c2 hb, keep_cell c3 hb, keep_cell c4 hb, (cells_at k4 0 _ rfl).1, (cells_at k4 1 _ rfl).1, (cells_at k4 2 _ rfl).1, (cells_at k4 3 _ rfl).1, (cells_at k4 4 _ rfl).1⟩
/-- a term stands in a box -/
structure St1 (W : World) (a : TE) (wx : World) : Prop where
  hb : Below W.heap.size W wx
  hX : wx.heap[W.heap.size]? = some (.cells a.cells.toArray 25 (0, 0))
theorem St1.keep {W : World} {a : TE} {wx wy : World} (h : St1 W a wx) (hb : Below wx.heap.size wx wy) : St1 W a wy := ⟨h.hb.trans (hb.mono h.hb.size), keep_heap h.hX hb⟩
theorem St1.see {W : World} {a : TE} {wx : World} (h : St1 W a wx) : SX W.heap.size a.k a.n a.s a.u (.slice a.ao a.l.length a.cap) wx :=
  ⟨(cells_at h.hX 0 _ rfl).1, (cells_at h.hX 1 _ rfl).1, (cells_at h.hX 2 _ rfl).1, (cells_at h.hX 3 _ rfl).1, (cells_at h.hX 4 _ rfl).1⟩
set_option maxHeartbeats 32000000 in
theorem parts_core (F f : Nat) (L : List Tm) (ao : Option Addr) (cap : Nat) (t : Tm) (v1 : Value) (kk : Int) (W : World) (hc : Cells W 0 letL) (ht : Lib.TabIs Tryd.prog W "internal/strconv.uint64pow10" .u64 Lib.pow10Tab) (hr : RowS (fun k => k < W.heap.size) F W (.slice ao L.length cap) L) (hno : ao = none → cap = 0) (ha : TermV f W v1 t) :
    Calls Tryd.prog 4 #[.slice ao L.length cap, v1, .int .i64 kk] W (IsPost W true) := by
  obtain ⟨te, rfl, hta, hfa, hra⟩ := ha.te
  have HA := Lib.hid (show ∀ w, Below W.heap.size W w → TermV f w (.agg te.cells.toArray) t from fun w h => ha.keep h)
  have HC := Lib.hid hc
  have HTB := Lib.hid (Lib.tabBelow_of_tabIs ht)
  have HRA := Lib.hid (And.intro hta (And.intro hfa hra))
  have HR := Lib.hid (show ∀ w, Below W.heap.size W w → RowS (fun k => k < W.heap.size) F w (.slice ao L.length cap) L from fun w h => hr.chg (chg_of_below h (fun _ => False)) (fun _ _ _ h => h) (fun _ h _ => h) (Nat.le_refl _))
  have HNO := Lib.hid hno
  have H0 := Lib.hid (show St1 W te (W.alloc (.cells te.cells.toArray 25)) from ⟨(Below.refl W.heap.size W).alloc (Nat.le_refl _) _, heap_new W _⟩)
  clear ha hc ht hta hfa hra hr hno
  obtain ⟨gk, gn, gs, gu, gao, gcap, gl⟩ := te
  simp only [TE.cells] at *
  have HGA := Lib.hid (greatall_any _ F L ao cap _ (HR.out _ H0.out.hb))
  go_enter Tryd.func4, Tryd.ntmps4
  go_wp2_with fail
  generalize W.alloc (.cells #[.int .i8 gk, .int .i64 gn, .string gs, .string gu, .slice gao gl.length gcap] 25) = W0 at *
  refine HGA.out.mono ?_
  rintro e w1 ⟨rfl, hb1⟩
  have H1 := Lib.hid (H0.out.keep hb1)
  clear HGA hb1 H0
  by_cases hga : 4000 ≤ gaN L L.length
  · rw [decide_eq_true hga]
    have HWK := Lib.hid (wakes_any _ (cells_chg HC.out (chg_of_below H1.out.hb (fun _ => False)) (fun e => e)) (HTB.out _ H1.out.hb))
    go_wp2_with fail
    refine HWK.out.mono ?_
    rintro e w99 ⟨rfl, hb99⟩
    have HB99 := Lib.hid (H1.out.hb.trans (hb99.mono H1.out.hb.size))
    clear hb99 HWK
    go_wp2_with fail
    go_ret
    exact ⟨rfl, HB99.out⟩
  rw [decide_eq_false hga]
  have hln := ga_lt L L.length (by omega) (by omega)
  have hL4 : L.length < 4000 := by omega
  clear hga hln
  have HGR := Lib.hid (great_any f t _ _ (HA.out _ H1.out.hb))
  obtain ⟨x0, x1, x2, x3, x4⟩ := H1.out.see
  dsimp only at x0 x1 x2 x3 x4
  go_wp2_with fail
  refine HGR.out.mono ?_
  rintro e w2 ⟨rfl, hb2⟩
  clear x0 x1 x2 x3 x4
  have H2 := Lib.hid (H1.out.keep hb2)
  clear HGR hb2 H1
  cases hga : greatB t
  rotate_left
  · skip
    have HWK := Lib.hid (wakes_any _ (cells_chg HC.out (chg_of_below H2.out.hb (fun _ => False)) (fun e => e)) (HTB.out _ H2.out.hb))
    go_wp2_with fail
    refine HWK.out.mono ?_
    rintro e w99 ⟨rfl, hb99⟩
    have HB99 := Lib.hid (H2.out.hb.trans (hb99.mono H2.out.hb.size))
    clear hb99 HWK
    go_wp2_with fail
    go_ret
    exact ⟨rfl, HB99.out⟩
  clear hga
  have HCK := Lib.hid (check_any f t _ _ (cells_chg HC.out (chg_of_below H2.out.hb (fun _ => False)) (fun e => e)) (HA.out _ H2.out.hb))
  obtain ⟨x0, x1, x2, x3, x4⟩ := H2.out.see
  dsimp only at x0 x1 x2 x3 x4
  go_wp2_with fail
  refine HCK.out.mono ?_
  rintro e w3 ⟨rfl, hb3⟩
  clear x0 x1 x2 x3 x4
  have H3 := Lib.hid (H2.out.keep hb3)
  clear HCK hb3 H2
  by_cases hca : checkN t = 0
  rotate_left
  · have d1 : (checkN t != 0) = true := by simpa using hca
    have HWK := Lib.hid (wakes_any _ (cells_chg HC.out (chg_of_below H3.out.hb (fun _ => False)) (fun e => e)) (HTB.out _ H3.out.hb))
    go_wp2_with fail
    refine HWK.out.mono ?_
    rintro e w99 ⟨rfl, hb99⟩
    have HB99 := Lib.hid (H3.out.hb.trans (hb99.mono H3.out.hb.size))
    clear hb99 HWK
    go_wp2_with fail
    go_ret
    exact ⟨rfl, HB99.out⟩
  rw [hca]
  have hT1 := tuple_any (fun k => k < W.heap.size) F L ao cap w3 (fun k hk => Nat.lt_of_lt_of_le hk H3.out.hb.size) (cells_chg HC.out (chg_of_below H3.out.hb (fun _ => False)) (fun e => e)) (HR.out _ H3.out.hb) HNO.out (by omega)
  go_wp2_with fail
  refine hT1.mono ?_
  rintro e w4 hmd
  obtain ⟨ta, ea, rfl, hma⟩ := MdR.of hmd
  have hb4 := hmd.1
  have hb5 := (Below.refl w4.heap.size w4).alloc (Nat.le_refl _) (.cells ta.cells.toArray 25)
  have H5 := Lib.hid (H3.out.keep (hb4.trans (hb5.mono hb4.size)))
  have HMA := Lib.hid (hma.chg (D' := fun _ => True) (chg_of_below hb5 (fun _ => False)) (fun _ _ _ h => h) (fun _ _ _ => trivial))
  have HPA := Lib.hid (heap_new w4 (.cells ta.cells.toArray 25))
  obtain ⟨ik, im, is', iu, iao, icap, il⟩ := ta
  clear hT1 hmd hma hb4 hb5 H3
  simp only [TE.cells] at *
  go_wp2_with (with_reducible refine stop_op (o := ⟨_, .store 25 (.tmp 7) (.tmp 29), _, _, _, _⟩) ?_)
  refine Lib.hid ?_
  refine wpList_store_new (o := ⟨none, _, _, _, _, _⟩) rfl 25 (.tmp 7) (.tmp 29) rfl #[.int .i8 ik, .int .i64 im, .string is', .string iu, .slice iao il.length icap] rfl rfl (infoTM' _ rfl) rfl (by simp [Value.oneCell']) ?_
  generalize w4.alloc (.cells #[.int .i8 ik, .int .i64 im, .string is', .string iu, .slice iao il.length icap] 25) = W5 at *
  generalize w4.heap.size = pa at *
  go_wp2_with fail
  have hd := (Below.refl W5.heap.size W5).drew
  have H6 := Lib.hid (H5.out.keep hd)
  have HPA6 := Lib.hid (keep_heap HPA.out hd)
  have HMA6 := Lib.hid (HMA.out.chg (D' := fun _ => True) (chg_of_below hd (fun _ => False)) (fun _ _ _ h => h) (fun _ _ _ => trivial))
  clear hd H5 HPA HMA
  obtain ⟨L2, hL2⟩ : ∃ L2, L2 = L ++ [t] := ⟨_, rfl⟩
  have hlen2 : L2.length = L.length + 1 := by rw [hL2]; simp
  refine region_post (R4 W5.drew (F + f + 1 + 1) L2) ?_ ?_
  · obtain ⟨E, hE, hEr, hEc⟩ := row_tes (HR.out _ H6.out.hb)
    have hEl : E.length = L.length := by rw [← hE]; simp
    have hno2 : ao = none → L.length = 0 ∧ cap = 0 := fun e => by
      refine ⟨?_, HNO.out e⟩
      rcases Nat.eq_zero_or_pos L.length with h | h
      · exact h
      · obtain ⟨b, off, te, q, -⟩ := row_elem (HR.out _ H6.out.hb) (i := 0) (t := L[0]) (by simp [h])
        rw [e] at q
        cases q
    have hsz6 := H6.out.hb.size
    have hE2 : ∀ x ∈ E ++ [(⟨gk, gn, gs, gu, gao, gcap, gl⟩ : TE)], fields x.k x.n x.s x.u ∧ RowS (fun k => k < W5.drew.heap.size) (F + f) W5.drew x.lv x.l := fun x hx => by
      rw [List.mem_append, List.mem_singleton] at hx
      rcases hx with hx | rfl
      · exact ⟨(hEr x hx).1, (hEr x hx).2.chg (Chg.refl (fun _ => False) _) (fun _ _ _ h => h) (fun k hk _ => Nat.lt_of_lt_of_le hk hsz6) (by omega)⟩
      · exact ⟨HRA.out.2.1, HRA.out.2.2.chg (chg_of_below H6.out.hb (fun _ => False)) (fun _ _ _ h => h) (fun k hk _ => Nat.lt_of_lt_of_le hk hsz6) (by omega)⟩
    have HE := Lib.hid (And.intro hE (And.intro hEr (And.intro hEc (And.intro hEl hno2))))
    have HE2 := Lib.hid (And.intro hE2 (And.intro (show L.length + 1 = (E ++ [(⟨gk, gn, gs, gu, gao, gcap, gl⟩ : TE)]).length by simp [hEl]) (And.intro (show tcs E ++ [.int .i8 gk, .int .i64 gn, .string gs, .string gu, .slice gao gl.length gcap] = tcs (E ++ [(⟨gk, gn, gs, gu, gao, gcap, gl⟩ : TE)]) from (tcs_snoc E ⟨gk, gn, gs, gu, gao, gcap, gl⟩).symm) (And.intro (show (E ++ [(⟨gk, gn, gs, gu, gao, gcap, gl⟩ : TE)]).map TE.t = L2 by rw [List.map_append, hE, hL2, ← HRA.out.1]; rfl) hlen2))))
    have HXD := Lib.hid H6.out.hX
    have HBD := Lib.hid H6.out.hb
    have hS : SX W.heap.size gk gn gs gu (.slice gao gl.length gcap) W5.drew := H6.out.see
    have H0 := Lib.hid (show P4 W5.drew W5.drew none [.int .i8 gk, .int .i64 gn, .string gs, .string gu, .slice gao gl.length gcap] none none from ⟨Below.refl _ _, (fun v n xs e => by cases e), (fun j e => by cases e), (fun j e => by cases e)⟩)
    clear hE hEr hEc hEl hno2 hE2 hsz6 H6 HPA6 HMA6 hca
    obtain ⟨i0, z0, q1, q2, q3, q4, q5⟩ := infoTM2
    simp only [TE.cells] at HXD
    refine region_planV (SX W.heap.size gk gn gs gu (.slice gao gl.length gcap)) (.take 1 (.take 3 (.forkc 0 (.forkc 2 (.fork 4 (.fork 5 (.fork 6 (.take 7 (.take 8 (.take 9 (.run 10 (.run 11 (.take 12 .done)))))) 10 (.run 6 (.take 7 (.take 8 (.take 9 (.run 11 (.take 12 .done))))))) 10 (.run 5 (.run 6 (.take 7 (.take 8 (.take 9 (.run 11 (.take 12 .done)))))))) 10 (.run 4 (.run 5 (.run 6 (.take 7 (.take 8 (.take 9 (.run 11 (.take 12 .done))))))))) 4 (.fork 2 (.fork 5 (.fork 6 (.take 7 (.take 8 (.take 9 (.run 10 (.run 11 (.take 12 .done)))))) 10 (.run 6 (.take 7 (.take 8 (.take 9 (.run 11 (.take 12 .done))))))) 10 (.run 5 (.run 6 (.take 7 (.take 8 (.take 9 (.run 11 (.take 12 .done)))))))) 10 (.run 2 (.run 5 (.run 6 (.take 7 (.take 8 (.take 9 (.run 11 (.take 12 .done))))))))) 10 (.fork 2 (.run 4 (.run 5 (.run 6 (.take 7 (.take 8 (.take 9 (.run 11 (.take 12 .done)))))))) 4 (.run 2 (.run 5 (.run 6 (.take 7 (.take 8 (.take 9 (.run 11 (.take 12 .done)))))))))) 4 (.fork 0 (.fork 2 (.fork 5 (.fork 6 (.take 7 (.take 8 (.take 9 (.run 10 (.run 11 (.take 12 .done)))))) 10 (.run 6 (.take 7 (.take 8 (.take 9 (.run 11 (.take 12 .done))))))) 10 (.run 5 (.run 6 (.take 7 (.take 8 (.take 9 (.run 11 (.take 12 .done)))))))) 10 (.run 2 (.run 5 (.run 6 (.take 7 (.take 8 (.take 9 (.run 11 (.take 12 .done))))))))) 10 (.run 0 (.run 2 (.run 5 (.run 6 (.take 7 (.take 8 (.take 9 (.run 11 (.take 12 .done)))))))))) 10 (.fork 0 (.fork 2 (.run 4 (.run 5 (.run 6 (.take 7 (.take 8 (.take 9 (.run 11 (.take 12 .done)))))))) 4 (.run 2 (.run 5 (.run 6 (.take 7 (.take 8 (.take 9 (.run 11 (.take 12 .done))))))))) 4 (.run 0 (.run 2 (.run 5 (.run 6 (.take 7 (.take 8 (.take 9 (.run 11 (.take 12 .done))))))))))))) (by kernel_rfl) (by kernel_rfl) (by kernel_rfl) hS ?_
    generalize W5.drew = WD at *
    --TREE BEGINS
    iterate 2 (first | (refine planV_skip rfl ?_ ?_; (focus (rfl)); (try simp only [Act.put, List.setIfInBounds_toArray, List.set_cons_zero, List.set_cons_succ])) | (refine planV_take (v := ?_) rfl ?_ (fun w hSw => ?_) ?_; rotate_left; (focus (rfl)); (focus (unfold SX at hSw; (go_simp <;> with_reducible rfl))); (try simp only [Act.put, List.setIfInBounds_toArray, List.set_cons_zero, List.set_cons_succ])))
    refine planV_forkc ?_ ?_ ?_
    · skip
      have H1 := Lib.hid (H0.out.empty)
      have hS1 := sx_of HXD.out H1.out.hb
      refine planV_run rfl ?_ (fun K hK => ?_)
      focus (rfl)
      go_simp
      refine hK.out _ _ (hS1) ?_
      clear hK K
      (try simp only [Act.put, List.setIfInBounds_toArray, List.set_cons_zero, List.set_cons_succ])
      generalize WD.alloc (.cells #[] 25) = w1 at *
      clear hS H0
      refine planV_forkc ?_ ?_ ?_
      · skip
        refine planV_run rfl ?_ (fun K hK => ?_)
        focus (rfl)
        refine op_append_any (.tmp 32) (.tmp 33) 23 rfl WD.heap.size 25 i0 z0 5 72 Tryd.underlying23 q1 q2 q3 q4 q5 (by decide) (.slice (some ⟨WD.heap.size, 0, none⟩) 0 0) 0 [] rfl (H1.out.hrow _ _ _ rfl) ao L.length cap (tcs E) rfl (by rw [tcs_len, HE.out.2.2.2.1]) HE.out.2.2.2.2 (fun ad e j u hj => keep_cell (HE.out.2.2.1 ad e j u hj) H1.out.hb) (tcs_one E) (by unfold maxLen; omega) (by omega) H1.out.hb.size ?_
        intro v34 w2 hown hg hwh
        rw [List.nil_append, Nat.zero_add] at hown
        have hj := H1.out.app hown hg hwh
        obtain ⟨vo, vc, rfl⟩ := own_slice hown
        have H2 := Lib.hid hj
        have hS2 := sx_of HXD.out H2.out.hb
        refine hK.out _ _ (hS2) ?_
        clear hK K
        (try simp only [Act.put, List.setIfInBounds_toArray, List.set_cons_zero, List.set_cons_succ])
        clear hS1 H1 hown hg hwh hj
        refine planV_fork ?_ ?_
        · skip
          have H3 := Lib.hid (H2.out.putq)
          have hS3 := sx_of HXD.out H3.out.hb
          refine planV_run rfl ?_ (fun K hK => ?_)
          focus (rfl)
          go_simp
          refine hK.out _ _ (hS3) ?_
          clear hK K
          (try simp only [Act.put, List.setIfInBounds_toArray, List.set_cons_zero, List.set_cons_succ])
          generalize w2.alloc (.cells #[.int .i8 gk, .int .i64 gn, .string gs, .string gu, .slice gao gl.length gcap] 25) = w3 at *
          clear hS2 H2
          refine planV_fork ?_ ?_
          · skip
            refine planV_run rfl ?_ (fun K hK => ?_)
            focus (rfl)
            refine op_append_own2 (.tmp 34) (.tmp 36) 23 rfl WD.heap.size 25 i0 z0 5 72 Tryd.underlying23 q1 q2 q3 q4 q5 (by decide) (.slice vo L.length vc) L.length (tcs E) rfl (H3.out.hrow _ _ _ rfl) ⟨w2.heap.size, 0, none⟩ 1 1 [.int .i8 gk, .int .i64 gn, .string gs, .string gu, .slice gao gl.length gcap] rfl rfl (fun j u hj => by
              rw [Addr.add_lit, Nat.zero_add]
              exact (cells_at (H3.out.hq _ rfl).2.1 j u (by simpa using hj)).1) (by simp [Value.oneCell']) (by unfold maxLen; omega) (by omega) H3.out.hb.size ?_
            intro v37 w4 hown hg hwh
            have hj := H3.out.app hown hg hwh
            obtain ⟨uo, uc, rfl⟩ := own_slice hown
            rw [HE2.out.2.2.1] at hj
            have H4 := Lib.hid hj
            have hS4 := sx_of HXD.out H4.out.hb
            refine hK.out _ _ (hS4) ?_
            clear hK K
            (try simp only [Act.put, List.setIfInBounds_toArray, List.set_cons_zero, List.set_cons_succ])
            clear hS3 H3 hown hg hwh hj
            refine planV_fork ?_ ?_
            · skip
              obtain ⟨hrw, hnil⟩ := H4.out.rows (F := F + f) (E := E ++ [⟨gk, gn, gs, gu, gao, gcap, gl⟩]) HE2.out.2.1 HE2.out.1
              rw [HE2.out.2.2.2.1] at hrw
              have hT := tuple_any _ (F + f + 1) L2 uo uc w4 (fun k hk => hk.1) (cells_chg HC.out (chg_of_below (HBD.out.trans (H4.out.hb.mono HBD.out.size)) (fun _ => False)) (fun e => e)) hrw hnil (by have := HE2.out.2.2.2.2; omega)
              rw [HE2.out.2.2.2.2] at hT
              refine planV_run rfl ?_ (fun K hK => ?_)
              focus (rfl)
              go_simp
              refine (hT).mono ?_
              rintro e w5 hmd
              obtain ⟨te6, en6, rfl, hm6⟩ := MdR.of hmd
              have H5 := Lib.hid (H4.out.call hmd.1)
              have HM := Lib.hid (hm6.chg (D' := fun _ => True) (Chg.refl (fun _ => False) _) (fun _ _ _ h => h) (fun _ _ _ => trivial))
              have hS5 := sx_of HXD.out H5.out.hb
              refine hK.out _ _ hS5 ?_
              clear hK K 
              (try simp only [Act.put, List.setIfInBounds_toArray, List.set_cons_zero, List.set_cons_succ])
              obtain ⟨jk, jn, js, ju, jao, jcap, jl⟩ := te6
              simp only [TE.cells]
              clear hS4 H4 hrw hnil hT hmd hm6
              iterate 3 (first | (refine planV_skip rfl ?_ ?_; (focus (rfl)); (try simp only [Act.put, List.setIfInBounds_toArray, List.set_cons_zero, List.set_cons_succ])) | (refine planV_take (v := ?_) rfl ?_ (fun w hSw => ?_) ?_; rotate_left; (focus (rfl)); (focus (unfold SX at hSw; (go_simp <;> with_reducible rfl))); (try simp only [Act.put, List.setIfInBounds_toArray, List.set_cons_zero, List.set_cons_succ])))
              have H6 := Lib.hid (H5.out.putr)
              have hS6 := sx_of HXD.out H6.out.hb
              have hM2 := HM.out.chg (D' := fun k => k ≠ w5.heap.size) (chg_alloc (fun _ => False) w5 (.cells zT 25)) (fun _ _ _ h => h) (fun k _ hk => Nat.ne_of_lt hk)
              clear HM
              have HM := Lib.hid hM2
              clear hM2
              refine planV_run rfl ?_ (fun K hK => ?_)
              focus (rfl)
              go_simp
              refine hK.out _ _ (hS6) ?_
              clear hK K
              (try simp only [Act.put, List.setIfInBounds_toArray, List.set_cons_zero, List.set_cons_succ])
              generalize w5.alloc (.cells zT 25) = w6 at *
              clear hS5 H5
              refine planV_run rfl ?_ (fun K hK => ?_)
              focus (rfl)
              refine wp_store_row 25 (.tmp 9) (.tmp 39) rfl w5.heap.size #[.int .i8 jk, .int .i64 jn, .string js, .string ju, .slice jao jl.length jcap] rfl rfl 25 zT (H6.out.hr _ rfl).2.1 (infoTM' _ rfl) rfl (by simp [Value.oneCell']) ?_
              have hcs := chg_setRow w6 w5.heap.size #[.int .i8 jk, .int .i64 jn, .string js, .string ju, .slice jao jl.length jcap]
              have hr11 := (H6.out.hr _ rfl).1
              have hb11 := H6.out.hb.trans (hcs.below (B := WD.heap.size) H6.out.hb.size (fun k e => by have e : k = w5.heap.size := e; omega))
              have hS7 := sx_of HXD.out hb11
              have HFIN := Lib.hid (And.intro hb11 (And.intro hr11 (And.intro (setRow_heap w6 w5.heap.size _ #[.int .i8 jk, .int .i64 jn, .string js, .string ju, .slice jao jl.length jcap] _ _ (H6.out.hr _ rfl).2.1) (HM.out.chg (D' := fun k => k ≠ w5.heap.size) hcs (fun k hk _ e => hk e) (fun k hk _ => hk)))))
              refine hK.out _ _ (hS7) ?_
              clear hK K
              (try simp only [Act.put, List.setIfInBounds_toArray, List.set_cons_zero, List.set_cons_succ])
              clear hS6 H6 hcs hr11 hb11
              iterate 1 (first | (refine planV_skip rfl ?_ ?_; (focus (rfl)); (try simp only [Act.put, List.setIfInBounds_toArray, List.set_cons_zero, List.set_cons_succ])) | (refine planV_take (v := ?_) rfl ?_ (fun w hSw => ?_) ?_; rotate_left; (focus (rfl)); (focus (unfold SX at hSw; (go_simp <;> with_reducible rfl))); (try simp only [Act.put, List.setIfInBounds_toArray, List.set_cons_zero, List.set_cons_succ])))
              refine planV_done ?_
              refine r4_intro (.slice ao L.length cap) (.agg #[.int .i8 gk, .int .i64 gn, .string gs, .string gu, .slice gao gl.length gcap]) (.slice (some ⟨WD.heap.size, 0, none⟩) 0 0) (.slice vo L.length vc) (.slice (some ⟨w2.heap.size, 0, none⟩) 1 1) (.slice uo (L.length + 1) uc) (.tuple #[.agg #[.int .i8 jk, .int .i64 jn, .string js, .string ju, .slice jao jl.length jcap], .int .i64 en6]) (.agg #[.int .i8 jk, .int .i64 jn, .string js, .string ju, .slice jao jl.length jcap]) w5.heap.size ⟨jk, jn, js, ju, jao, jcap, jl⟩ en6 ?_ HFIN.out
              simp only [puts, Act.put, List.setIfInBounds_toArray, List.set_cons_zero, List.set_cons_succ]
            · skip
              have H5 := Lib.hid (H4.out.putr)
              have hS5 := sx_of HXD.out H5.out.hb
              refine planV_run rfl ?_ (fun K hK => ?_)
              focus (rfl)
              go_simp
              refine hK.out _ _ (hS5) ?_
              clear hK K
              (try simp only [Act.put, List.setIfInBounds_toArray, List.set_cons_zero, List.set_cons_succ])
              generalize w4.alloc (.cells zT 25) = w5 at *
              clear hS4 H4
              obtain ⟨hrw, hnil⟩ := H5.out.rows (F := F + f) (E := E ++ [⟨gk, gn, gs, gu, gao, gcap, gl⟩]) HE2.out.2.1 HE2.out.1
              rw [HE2.out.2.2.2.1] at hrw
              have hT := tuple_any _ (F + f + 1) L2 uo uc w5 (fun k hk => hk.1) (cells_chg HC.out (chg_of_below (HBD.out.trans (H5.out.hb.mono HBD.out.size)) (fun _ => False)) (fun e => e)) hrw hnil (by have := HE2.out.2.2.2.2; omega)
              rw [HE2.out.2.2.2.2] at hT
              refine planV_run rfl ?_ (fun K hK => ?_)
              focus (rfl)
              go_simp
              refine (hT).mono ?_
              rintro e w6 hmd
              obtain ⟨te6, en6, rfl, hm6⟩ := MdR.of hmd
              have H6 := Lib.hid (H5.out.call hmd.1)
              have HM := Lib.hid (hm6.chg (D' := fun k => k ≠ w4.heap.size) (Chg.refl (fun _ => False) _) (fun _ _ _ h => h) (fun k hk _ => not_r hk (heap_lt (H5.out.hr _ rfl).2.1)))
              have hS6 := sx_of HXD.out H6.out.hb
              refine hK.out _ _ hS6 ?_
              clear hK K 
              (try simp only [Act.put, List.setIfInBounds_toArray, List.set_cons_zero, List.set_cons_succ])
              obtain ⟨jk, jn, js, ju, jao, jcap, jl⟩ := te6
              simp only [TE.cells]
              clear hS5 H5 hrw hnil hT hmd hm6
              iterate 3 (first | (refine planV_skip rfl ?_ ?_; (focus (rfl)); (try simp only [Act.put, List.setIfInBounds_toArray, List.set_cons_zero, List.set_cons_succ])) | (refine planV_take (v := ?_) rfl ?_ (fun w hSw => ?_) ?_; rotate_left; (focus (rfl)); (focus (unfold SX at hSw; (go_simp <;> with_reducible rfl))); (try simp only [Act.put, List.setIfInBounds_toArray, List.set_cons_zero, List.set_cons_succ])))
              refine planV_run rfl ?_ (fun K hK => ?_)
              focus (rfl)
              refine wp_store_row 25 (.tmp 9) (.tmp 39) rfl w4.heap.size #[.int .i8 jk, .int .i64 jn, .string js, .string ju, .slice jao jl.length jcap] rfl rfl 25 zT (H6.out.hr _ rfl).2.1 (infoTM' _ rfl) rfl (by simp [Value.oneCell']) ?_
              have hcs := chg_setRow w6 w4.heap.size #[.int .i8 jk, .int .i64 jn, .string js, .string ju, .slice jao jl.length jcap]
              have hr11 := (H6.out.hr _ rfl).1
              have hb11 := H6.out.hb.trans (hcs.below (B := WD.heap.size) H6.out.hb.size (fun k e => by have e : k = w4.heap.size := e; omega))
              have hS7 := sx_of HXD.out hb11
              have HFIN := Lib.hid (And.intro hb11 (And.intro hr11 (And.intro (setRow_heap w6 w4.heap.size _ #[.int .i8 jk, .int .i64 jn, .string js, .string ju, .slice jao jl.length jcap] _ _ (H6.out.hr _ rfl).2.1) (HM.out.chg (D' := fun k => k ≠ w4.heap.size) hcs (fun k hk _ e => hk e) (fun k hk _ => hk)))))
              refine hK.out _ _ (hS7) ?_
              clear hK K
              (try simp only [Act.put, List.setIfInBounds_toArray, List.set_cons_zero, List.set_cons_succ])
              clear hS6 H6 hcs hr11 hb11
              iterate 1 (first | (refine planV_skip rfl ?_ ?_; (focus (rfl)); (try simp only [Act.put, List.setIfInBounds_toArray, List.set_cons_zero, List.set_cons_succ])) | (refine planV_take (v := ?_) rfl ?_ (fun w hSw => ?_) ?_; rotate_left; (focus (rfl)); (focus (unfold SX at hSw; (go_simp <;> with_reducible rfl))); (try simp only [Act.put, List.setIfInBounds_toArray, List.set_cons_zero, List.set_cons_succ])))
              refine planV_done ?_
              refine r4_intro (.slice ao L.length cap) (.agg #[.int .i8 gk, .int .i64 gn, .string gs, .string gu, .slice gao gl.length gcap]) (.slice (some ⟨WD.heap.size, 0, none⟩) 0 0) (.slice vo L.length vc) (.slice (some ⟨w2.heap.size, 0, none⟩) 1 1) (.slice uo (L.length + 1) uc) (.tuple #[.agg #[.int .i8 jk, .int .i64 jn, .string js, .string ju, .slice jao jl.length jcap], .int .i64 en6]) (.agg #[.int .i8 jk, .int .i64 jn, .string js, .string ju, .slice jao jl.length jcap]) w4.heap.size ⟨jk, jn, js, ju, jao, jcap, jl⟩ en6 ?_ HFIN.out
              simp only [puts, Act.put, List.setIfInBounds_toArray, List.set_cons_zero, List.set_cons_succ]
          · skip
            have H4 := Lib.hid (H3.out.putr)
            have hS4 := sx_of HXD.out H4.out.hb
            refine planV_run rfl ?_ (fun K hK => ?_)
            focus (rfl)
            go_simp
            refine hK.out _ _ (hS4) ?_
            clear hK K
            (try simp only [Act.put, List.setIfInBounds_toArray, List.set_cons_zero, List.set_cons_succ])
            generalize w3.alloc (.cells zT 25) = w4 at *
            clear hS3 H3
            refine planV_run rfl ?_ (fun K hK => ?_)
            focus (rfl)
            refine op_append_own2 (.tmp 34) (.tmp 36) 23 rfl WD.heap.size 25 i0 z0 5 72 Tryd.underlying23 q1 q2 q3 q4 q5 (by decide) (.slice vo L.length vc) L.length (tcs E) rfl (H4.out.hrow _ _ _ rfl) ⟨w2.heap.size, 0, none⟩ 1 1 [.int .i8 gk, .int .i64 gn, .string gs, .string gu, .slice gao gl.length gcap] rfl rfl (fun j u hj => by
              rw [Addr.add_lit, Nat.zero_add]
              exact (cells_at (H4.out.hq _ rfl).2.1 j u (by simpa using hj)).1) (by simp [Value.oneCell']) (by unfold maxLen; omega) (by omega) H4.out.hb.size ?_
            intro v37 w5 hown hg hwh
            have hj := H4.out.app hown hg hwh
            obtain ⟨uo, uc, rfl⟩ := own_slice hown
            rw [HE2.out.2.2.1] at hj
            have H5 := Lib.hid hj
            have hS5 := sx_of HXD.out H5.out.hb
            refine hK.out _ _ (hS5) ?_
            clear hK K
            (try simp only [Act.put, List.setIfInBounds_toArray, List.set_cons_zero, List.set_cons_succ])
            clear hS4 H4 hown hg hwh hj
            obtain ⟨hrw, hnil⟩ := H5.out.rows (F := F + f) (E := E ++ [⟨gk, gn, gs, gu, gao, gcap, gl⟩]) HE2.out.2.1 HE2.out.1
            rw [HE2.out.2.2.2.1] at hrw
            have hT := tuple_any _ (F + f + 1) L2 uo uc w5 (fun k hk => hk.1) (cells_chg HC.out (chg_of_below (HBD.out.trans (H5.out.hb.mono HBD.out.size)) (fun _ => False)) (fun e => e)) hrw hnil (by have := HE2.out.2.2.2.2; omega)
            rw [HE2.out.2.2.2.2] at hT
            refine planV_run rfl ?_ (fun K hK => ?_)
            focus (rfl)
            go_simp
            refine (hT).mono ?_
            rintro e w6 hmd
            obtain ⟨te6, en6, rfl, hm6⟩ := MdR.of hmd
            have H6 := Lib.hid (H5.out.call hmd.1)
            have HM := Lib.hid (hm6.chg (D' := fun k => k ≠ w3.heap.size) (Chg.refl (fun _ => False) _) (fun _ _ _ h => h) (fun k hk _ => not_r hk (heap_lt (H5.out.hr _ rfl).2.1)))
            have hS6 := sx_of HXD.out H6.out.hb
            refine hK.out _ _ hS6 ?_
            clear hK K 
            (try simp only [Act.put, List.setIfInBounds_toArray, List.set_cons_zero, List.set_cons_succ])
            obtain ⟨jk, jn, js, ju, jao, jcap, jl⟩ := te6
            simp only [TE.cells]
            clear hS5 H5 hrw hnil hT hmd hm6
            iterate 3 (first | (refine planV_skip rfl ?_ ?_; (focus (rfl)); (try simp only [Act.put, List.setIfInBounds_toArray, List.set_cons_zero, List.set_cons_succ])) | (refine planV_take (v := ?_) rfl ?_ (fun w hSw => ?_) ?_; rotate_left; (focus (rfl)); (focus (unfold SX at hSw; (go_simp <;> with_reducible rfl))); (try simp only [Act.put, List.setIfInBounds_toArray, List.set_cons_zero, List.set_cons_succ])))
            refine planV_run rfl ?_ (fun K hK => ?_)
            focus (rfl)
            refine wp_store_row 25 (.tmp 9) (.tmp 39) rfl w3.heap.size #[.int .i8 jk, .int .i64 jn, .string js, .string ju, .slice jao jl.length jcap] rfl rfl 25 zT (H6.out.hr _ rfl).2.1 (infoTM' _ rfl) rfl (by simp [Value.oneCell']) ?_
            have hcs := chg_setRow w6 w3.heap.size #[.int .i8 jk, .int .i64 jn, .string js, .string ju, .slice jao jl.length jcap]
            have hr11 := (H6.out.hr _ rfl).1
            have hb11 := H6.out.hb.trans (hcs.below (B := WD.heap.size) H6.out.hb.size (fun k e => by have e : k = w3.heap.size := e; omega))
            have hS7 := sx_of HXD.out hb11
            have HFIN := Lib.hid (And.intro hb11 (And.intro hr11 (And.intro (setRow_heap w6 w3.heap.size _ #[.int .i8 jk, .int .i64 jn, .string js, .string ju, .slice jao jl.length jcap] _ _ (H6.out.hr _ rfl).2.1) (HM.out.chg (D' := fun k => k ≠ w3.heap.size) hcs (fun k hk _ e => hk e) (fun k hk _ => hk)))))
            refine hK.out _ _ (hS7) ?_
            clear hK K
            (try simp only [Act.put, List.setIfInBounds_toArray, List.set_cons_zero, List.set_cons_succ])
            clear hS6 H6 hcs hr11 hb11
            iterate 1 (first | (refine planV_skip rfl ?_ ?_; (focus (rfl)); (try simp only [Act.put, List.setIfInBounds_toArray, List.set_cons_zero, List.set_cons_succ])) | (refine planV_take (v := ?_) rfl ?_ (fun w hSw => ?_) ?_; rotate_left; (focus (rfl)); (focus (unfold SX at hSw; (go_simp <;> with_reducible rfl))); (try simp only [Act.put, List.setIfInBounds_toArray, List.set_cons_zero, List.set_cons_succ])))
            refine planV_done ?_
            refine r4_intro (.slice ao L.length cap) (.agg #[.int .i8 gk, .int .i64 gn, .string gs, .string gu, .slice gao gl.length gcap]) (.slice (some ⟨WD.heap.size, 0, none⟩) 0 0) (.slice vo L.length vc) (.slice (some ⟨w2.heap.size, 0, none⟩) 1 1) (.slice uo (L.length + 1) uc) (.tuple #[.agg #[.int .i8 jk, .int .i64 jn, .string js, .string ju, .slice jao jl.length jcap], .int .i64 en6]) (.agg #[.int .i8 jk, .int .i64 jn, .string js, .string ju, .slice jao jl.length jcap]) w3.heap.size ⟨jk, jn, js, ju, jao, jcap, jl⟩ en6 ?_ HFIN.out
            simp only [puts, Act.put, List.setIfInBounds_toArray, List.set_cons_zero, List.set_cons_succ]
        · skip
          have H3 := Lib.hid (H2.out.putr)
          have hS3 := sx_of HXD.out H3.out.hb
          refine planV_run rfl ?_ (fun K hK => ?_)
          focus (rfl)
          go_simp
          refine hK.out _ _ (hS3) ?_
          clear hK K
          (try simp only [Act.put, List.setIfInBounds_toArray, List.set_cons_zero, List.set_cons_succ])
          generalize w2.alloc (.cells zT 25) = w3 at *
          clear hS2 H2
          have H4 := Lib.hid (H3.out.putq)
          have hS4 := sx_of HXD.out H4.out.hb
          refine planV_run rfl ?_ (fun K hK => ?_)
          focus (rfl)
          go_simp
          refine hK.out _ _ (hS4) ?_
          clear hK K
          (try simp only [Act.put, List.setIfInBounds_toArray, List.set_cons_zero, List.set_cons_succ])
          generalize w3.alloc (.cells #[.int .i8 gk, .int .i64 gn, .string gs, .string gu, .slice gao gl.length gcap] 25) = w4 at *
          clear hS3 H3
          refine planV_run rfl ?_ (fun K hK => ?_)
          focus (rfl)
          refine op_append_own2 (.tmp 34) (.tmp 36) 23 rfl WD.heap.size 25 i0 z0 5 72 Tryd.underlying23 q1 q2 q3 q4 q5 (by decide) (.slice vo L.length vc) L.length (tcs E) rfl (H4.out.hrow _ _ _ rfl) ⟨w3.heap.size, 0, none⟩ 1 1 [.int .i8 gk, .int .i64 gn, .string gs, .string gu, .slice gao gl.length gcap] rfl rfl (fun j u hj => by
            rw [Addr.add_lit, Nat.zero_add]
            exact (cells_at (H4.out.hq _ rfl).2.1 j u (by simpa using hj)).1) (by simp [Value.oneCell']) (by unfold maxLen; omega) (by omega) H4.out.hb.size ?_
          intro v37 w5 hown hg hwh
          have hj := H4.out.app hown hg hwh
          obtain ⟨uo, uc, rfl⟩ := own_slice hown
          rw [HE2.out.2.2.1] at hj
          have H5 := Lib.hid hj
          have hS5 := sx_of HXD.out H5.out.hb
          refine hK.out _ _ (hS5) ?_
          clear hK K
          (try simp only [Act.put, List.setIfInBounds_toArray, List.set_cons_zero, List.set_cons_succ])
          clear hS4 H4 hown hg hwh hj
          obtain ⟨hrw, hnil⟩ := H5.out.rows (F := F + f) (E := E ++ [⟨gk, gn, gs, gu, gao, gcap, gl⟩]) HE2.out.2.1 HE2.out.1
          rw [HE2.out.2.2.2.1] at hrw
          have hT := tuple_any _ (F + f + 1) L2 uo uc w5 (fun k hk => hk.1) (cells_chg HC.out (chg_of_below (HBD.out.trans (H5.out.hb.mono HBD.out.size)) (fun _ => False)) (fun e => e)) hrw hnil (by have := HE2.out.2.2.2.2; omega)
          rw [HE2.out.2.2.2.2] at hT
          refine planV_run rfl ?_ (fun K hK => ?_)
          focus (rfl)
          go_simp
          refine (hT).mono ?_
          rintro e w6 hmd
          obtain ⟨te6, en6, rfl, hm6⟩ := MdR.of hmd
          have H6 := Lib.hid (H5.out.call hmd.1)
          have HM := Lib.hid (hm6.chg (D' := fun k => k ≠ w2.heap.size) (Chg.refl (fun _ => False) _) (fun _ _ _ h => h) (fun k hk _ => not_r hk (heap_lt (H5.out.hr _ rfl).2.1)))
          have hS6 := sx_of HXD.out H6.out.hb
          refine hK.out _ _ hS6 ?_
          clear hK K 
          (try simp only [Act.put, List.setIfInBounds_toArray, List.set_cons_zero, List.set_cons_succ])
          obtain ⟨jk, jn, js, ju, jao, jcap, jl⟩ := te6
          simp only [TE.cells]
          clear hS5 H5 hrw hnil hT hmd hm6
          iterate 3 (first | (refine planV_skip rfl ?_ ?_; (focus (rfl)); (try simp only [Act.put, List.setIfInBounds_toArray, List.set_cons_zero, List.set_cons_succ])) | (refine planV_take (v := ?_) rfl ?_ (fun w hSw => ?_) ?_; rotate_left; (focus (rfl)); (focus (unfold SX at hSw; (go_simp <;> with_reducible rfl))); (try simp only [Act.put, List.setIfInBounds_toArray, List.set_cons_zero, List.set_cons_succ])))
          refine planV_run rfl ?_ (fun K hK => ?_)
          focus (rfl)
          refine wp_store_row 25 (.tmp 9) (.tmp 39) rfl w2.heap.size #[.int .i8 jk, .int .i64 jn, .string js, .string ju, .slice jao jl.length jcap] rfl rfl 25 zT (H6.out.hr _ rfl).2.1 (infoTM' _ rfl) rfl (by simp [Value.oneCell']) ?_
          have hcs := chg_setRow w6 w2.heap.size #[.int .i8 jk, .int .i64 jn, .string js, .string ju, .slice jao jl.length jcap]
          have hr11 := (H6.out.hr _ rfl).1
          have hb11 := H6.out.hb.trans (hcs.below (B := WD.heap.size) H6.out.hb.size (fun k e => by have e : k = w2.heap.size := e; omega))
          have hS7 := sx_of HXD.out hb11
          have HFIN := Lib.hid (And.intro hb11 (And.intro hr11 (And.intro (setRow_heap w6 w2.heap.size _ #[.int .i8 jk, .int .i64 jn, .string js, .string ju, .slice jao jl.length jcap] _ _ (H6.out.hr _ rfl).2.1) (HM.out.chg (D' := fun k => k ≠ w2.heap.size) hcs (fun k hk _ e => hk e) (fun k hk _ => hk)))))
          refine hK.out _ _ (hS7) ?_
          clear hK K
          (try simp only [Act.put, List.setIfInBounds_toArray, List.set_cons_zero, List.set_cons_succ])
          clear hS6 H6 hcs hr11 hb11
          iterate 1 (first | (refine planV_skip rfl ?_ ?_; (focus (rfl)); (try simp only [Act.put, List.setIfInBounds_toArray, List.set_cons_zero, List.set_cons_succ])) | (refine planV_take (v := ?_) rfl ?_ (fun w hSw => ?_) ?_; rotate_left; (focus (rfl)); (focus (unfold SX at hSw; (go_simp <;> with_reducible rfl))); (try simp only [Act.put, List.setIfInBounds_toArray, List.set_cons_zero, List.set_cons_succ])))
          refine planV_done ?_
          refine r4_intro (.slice ao L.length cap) (.agg #[.int .i8 gk, .int .i64 gn, .string gs, .string gu, .slice gao gl.length gcap]) (.slice (some ⟨WD.heap.size, 0, none⟩) 0 0) (.slice vo L.length vc) (.slice (some ⟨w3.heap.size, 0, none⟩) 1 1) (.slice uo (L.length + 1) uc) (.tuple #[.agg #[.int .i8 jk, .int .i64 jn, .string js, .string ju, .slice jao jl.length jcap], .int .i64 en6]) (.agg #[.int .i8 jk, .int .i64 jn, .string js, .string ju, .slice jao jl.length jcap]) w2.heap.size ⟨jk, jn, js, ju, jao, jcap, jl⟩ en6 ?_ HFIN.out
          simp only [puts, Act.put, List.setIfInBounds_toArray, List.set_cons_zero, List.set_cons_succ]
      · skip
        have H2 := Lib.hid (H1.out.putq)
        have hS2 := sx_of HXD.out H2.out.hb
        refine planV_run rfl ?_ (fun K hK => ?_)
        focus (rfl)
        go_simp
        refine hK.out _ _ (hS2) ?_
        clear hK K
        (try simp only [Act.put, List.setIfInBounds_toArray, List.set_cons_zero, List.set_cons_succ])
        generalize w1.alloc (.cells #[.int .i8 gk, .int .i64 gn, .string gs, .string gu, .slice gao gl.length gcap] 25) = w2 at *
        clear hS1 H1
        refine planV_fork ?_ ?_
        · skip
          refine planV_run rfl ?_ (fun K hK => ?_)
          focus (rfl)
          refine op_append_any (.tmp 32) (.tmp 33) 23 rfl WD.heap.size 25 i0 z0 5 72 Tryd.underlying23 q1 q2 q3 q4 q5 (by decide) (.slice (some ⟨WD.heap.size, 0, none⟩) 0 0) 0 [] rfl (H2.out.hrow _ _ _ rfl) ao L.length cap (tcs E) rfl (by rw [tcs_len, HE.out.2.2.2.1]) HE.out.2.2.2.2 (fun ad e j u hj => keep_cell (HE.out.2.2.1 ad e j u hj) H2.out.hb) (tcs_one E) (by unfold maxLen; omega) (by omega) H2.out.hb.size ?_
          intro v34 w3 hown hg hwh
          rw [List.nil_append, Nat.zero_add] at hown
          have hj := H2.out.app hown hg hwh
          obtain ⟨vo, vc, rfl⟩ := own_slice hown
          have H3 := Lib.hid hj
          have hS3 := sx_of HXD.out H3.out.hb
          refine hK.out _ _ (hS3) ?_
          clear hK K
          (try simp only [Act.put, List.setIfInBounds_toArray, List.set_cons_zero, List.set_cons_succ])
          clear hS2 H2 hown hg hwh hj
          refine planV_fork ?_ ?_
          · skip
            refine planV_run rfl ?_ (fun K hK => ?_)
            focus (rfl)
            refine op_append_own2 (.tmp 34) (.tmp 36) 23 rfl WD.heap.size 25 i0 z0 5 72 Tryd.underlying23 q1 q2 q3 q4 q5 (by decide) (.slice vo L.length vc) L.length (tcs E) rfl (H3.out.hrow _ _ _ rfl) ⟨w1.heap.size, 0, none⟩ 1 1 [.int .i8 gk, .int .i64 gn, .string gs, .string gu, .slice gao gl.length gcap] rfl rfl (fun j u hj => by
              rw [Addr.add_lit, Nat.zero_add]
              exact (cells_at (H3.out.hq _ rfl).2.1 j u (by simpa using hj)).1) (by simp [Value.oneCell']) (by unfold maxLen; omega) (by omega) H3.out.hb.size ?_
            intro v37 w4 hown hg hwh
            have hj := H3.out.app hown hg hwh
            obtain ⟨uo, uc, rfl⟩ := own_slice hown
            rw [HE2.out.2.2.1] at hj
            have H4 := Lib.hid hj
            have hS4 := sx_of HXD.out H4.out.hb
            refine hK.out _ _ (hS4) ?_
            clear hK K
            (try simp only [Act.put, List.setIfInBounds_toArray, List.set_cons_zero, List.set_cons_succ])
            clear hS3 H3 hown hg hwh hj
            refine planV_fork ?_ ?_
            · skip
              obtain ⟨hrw, hnil⟩ := H4.out.rows (F := F + f) (E := E ++ [⟨gk, gn, gs, gu, gao, gcap, gl⟩]) HE2.out.2.1 HE2.out.1
              rw [HE2.out.2.2.2.1] at hrw
              have hT := tuple_any _ (F + f + 1) L2 uo uc w4 (fun k hk => hk.1) (cells_chg HC.out (chg_of_below (HBD.out.trans (H4.out.hb.mono HBD.out.size)) (fun _ => False)) (fun e => e)) hrw hnil (by have := HE2.out.2.2.2.2; omega)
              rw [HE2.out.2.2.2.2] at hT
              refine planV_run rfl ?_ (fun K hK => ?_)
              focus (rfl)
              go_simp
              refine (hT).mono ?_
              rintro e w5 hmd
              obtain ⟨te6, en6, rfl, hm6⟩ := MdR.of hmd
              have H5 := Lib.hid (H4.out.call hmd.1)
              have HM := Lib.hid (hm6.chg (D' := fun _ => True) (Chg.refl (fun _ => False) _) (fun _ _ _ h => h) (fun _ _ _ => trivial))
              have hS5 := sx_of HXD.out H5.out.hb
              refine hK.out _ _ hS5 ?_
              clear hK K 
              (try simp only [Act.put, List.setIfInBounds_toArray, List.set_cons_zero, List.set_cons_succ])
              obtain ⟨jk, jn, js, ju, jao, jcap, jl⟩ := te6
              simp only [TE.cells]
              clear hS4 H4 hrw hnil hT hmd hm6
              iterate 3 (first | (refine planV_skip rfl ?_ ?_; (focus (rfl)); (try simp only [Act.put, List.setIfInBounds_toArray, List.set_cons_zero, List.set_cons_succ])) | (refine planV_take (v := ?_) rfl ?_ (fun w hSw => ?_) ?_; rotate_left; (focus (rfl)); (focus (unfold SX at hSw; (go_simp <;> with_reducible rfl))); (try simp only [Act.put, List.setIfInBounds_toArray, List.set_cons_zero, List.set_cons_succ])))
              have H6 := Lib.hid (H5.out.putr)
              have hS6 := sx_of HXD.out H6.out.hb
              have hM2 := HM.out.chg (D' := fun k => k ≠ w5.heap.size) (chg_alloc (fun _ => False) w5 (.cells zT 25)) (fun _ _ _ h => h) (fun k _ hk => Nat.ne_of_lt hk)
              clear HM
              have HM := Lib.hid hM2
              clear hM2
              refine planV_run rfl ?_ (fun K hK => ?_)
              focus (rfl)
              go_simp
              refine hK.out _ _ (hS6) ?_
              clear hK K
              (try simp only [Act.put, List.setIfInBounds_toArray, List.set_cons_zero, List.set_cons_succ])
              generalize w5.alloc (.cells zT 25) = w6 at *
              clear hS5 H5
              refine planV_run rfl ?_ (fun K hK => ?_)
              focus (rfl)
              refine wp_store_row 25 (.tmp 9) (.tmp 39) rfl w5.heap.size #[.int .i8 jk, .int .i64 jn, .string js, .string ju, .slice jao jl.length jcap] rfl rfl 25 zT (H6.out.hr _ rfl).2.1 (infoTM' _ rfl) rfl (by simp [Value.oneCell']) ?_
              have hcs := chg_setRow w6 w5.heap.size #[.int .i8 jk, .int .i64 jn, .string js, .string ju, .slice jao jl.length jcap]
              have hr11 := (H6.out.hr _ rfl).1
              have hb11 := H6.out.hb.trans (hcs.below (B := WD.heap.size) H6.out.hb.size (fun k e => by have e : k = w5.heap.size := e; omega))
              have hS7 := sx_of HXD.out hb11
              have HFIN := Lib.hid (And.intro hb11 (And.intro hr11 (And.intro (setRow_heap w6 w5.heap.size _ #[.int .i8 jk, .int .i64 jn, .string js, .string ju, .slice jao jl.length jcap] _ _ (H6.out.hr _ rfl).2.1) (HM.out.chg (D' := fun k => k ≠ w5.heap.size) hcs (fun k hk _ e => hk e) (fun k hk _ => hk)))))
              refine hK.out _ _ (hS7) ?_
              clear hK K
              (try simp only [Act.put, List.setIfInBounds_toArray, List.set_cons_zero, List.set_cons_succ])
              clear hS6 H6 hcs hr11 hb11
              iterate 1 (first | (refine planV_skip rfl ?_ ?_; (focus (rfl)); (try simp only [Act.put, List.setIfInBounds_toArray, List.set_cons_zero, List.set_cons_succ])) | (refine planV_take (v := ?_) rfl ?_ (fun w hSw => ?_) ?_; rotate_left; (focus (rfl)); (focus (unfold SX at hSw; (go_simp <;> with_reducible rfl))); (try simp only [Act.put, List.setIfInBounds_toArray, List.set_cons_zero, List.set_cons_succ])))
              refine planV_done ?_
              refine r4_intro (.slice ao L.length cap) (.agg #[.int .i8 gk, .int .i64 gn, .string gs, .string gu, .slice gao gl.length gcap]) (.slice (some ⟨WD.heap.size, 0, none⟩) 0 0) (.slice vo L.length vc) (.slice (some ⟨w1.heap.size, 0, none⟩) 1 1) (.slice uo (L.length + 1) uc) (.tuple #[.agg #[.int .i8 jk, .int .i64 jn, .string js, .string ju, .slice jao jl.length jcap], .int .i64 en6]) (.agg #[.int .i8 jk, .int .i64 jn, .string js, .string ju, .slice jao jl.length jcap]) w5.heap.size ⟨jk, jn, js, ju, jao, jcap, jl⟩ en6 ?_ HFIN.out
              simp only [puts, Act.put, List.setIfInBounds_toArray, List.set_cons_zero, List.set_cons_succ]
            · skip
              have H5 := Lib.hid (H4.out.putr)
              have hS5 := sx_of HXD.out H5.out.hb
              refine planV_run rfl ?_ (fun K hK => ?_)
              focus (rfl)
              go_simp
              refine hK.out _ _ (hS5) ?_
              clear hK K
              (try simp only [Act.put, List.setIfInBounds_toArray, List.set_cons_zero, List.set_cons_succ])
              generalize w4.alloc (.cells zT 25) = w5 at *
              clear hS4 H4
              obtain ⟨hrw, hnil⟩ := H5.out.rows (F := F + f) (E := E ++ [⟨gk, gn, gs, gu, gao, gcap, gl⟩]) HE2.out.2.1 HE2.out.1
              rw [HE2.out.2.2.2.1] at hrw
              have hT := tuple_any _ (F + f + 1) L2 uo uc w5 (fun k hk => hk.1) (cells_chg HC.out (chg_of_below (HBD.out.trans (H5.out.hb.mono HBD.out.size)) (fun _ => False)) (fun e => e)) hrw hnil (by have := HE2.out.2.2.2.2; omega)
              rw [HE2.out.2.2.2.2] at hT
              refine planV_run rfl ?_ (fun K hK => ?_)
              focus (rfl)
              go_simp
              refine (hT).mono ?_
              rintro e w6 hmd
              obtain ⟨te6, en6, rfl, hm6⟩ := MdR.of hmd
              have H6 := Lib.hid (H5.out.call hmd.1)
              have HM := Lib.hid (hm6.chg (D' := fun k => k ≠ w4.heap.size) (Chg.refl (fun _ => False) _) (fun _ _ _ h => h) (fun k hk _ => not_r hk (heap_lt (H5.out.hr _ rfl).2.1)))
              have hS6 := sx_of HXD.out H6.out.hb
              refine hK.out _ _ hS6 ?_
              clear hK K 
              (try simp only [Act.put, List.setIfInBounds_toArray, List.set_cons_zero, List.set_cons_succ])
              obtain ⟨jk, jn, js, ju, jao, jcap, jl⟩ := te6
              simp only [TE.cells]
              clear hS5 H5 hrw hnil hT hmd hm6
              iterate 3 (first | (refine planV_skip rfl ?_ ?_; (focus (rfl)); (try simp only [Act.put, List.setIfInBounds_toArray, List.set_cons_zero, List.set_cons_succ])) | (refine planV_take (v := ?_) rfl ?_ (fun w hSw => ?_) ?_; rotate_left; (focus (rfl)); (focus (unfold SX at hSw; (go_simp <;> with_reducible rfl))); (try simp only [Act.put, List.setIfInBounds_toArray, List.set_cons_zero, List.set_cons_succ])))
              refine planV_run rfl ?_ (fun K hK => ?_)
              focus (rfl)
              refine wp_store_row 25 (.tmp 9) (.tmp 39) rfl w4.heap.size #[.int .i8 jk, .int .i64 jn, .string js, .string ju, .slice jao jl.length jcap] rfl rfl 25 zT (H6.out.hr _ rfl).2.1 (infoTM' _ rfl) rfl (by simp [Value.oneCell']) ?_
              have hcs := chg_setRow w6 w4.heap.size #[.int .i8 jk, .int .i64 jn, .string js, .string ju, .slice jao jl.length jcap]
              have hr11 := (H6.out.hr _ rfl).1
              have hb11 := H6.out.hb.trans (hcs.below (B := WD.heap.size) H6.out.hb.size (fun k e => by have e : k = w4.heap.size := e; omega))
              have hS7 := sx_of HXD.out hb11
              have HFIN := Lib.hid (And.intro hb11 (And.intro hr11 (And.intro (setRow_heap w6 w4.heap.size _ #[.int .i8 jk, .int .i64 jn, .string js, .string ju, .slice jao jl.length jcap] _ _ (H6.out.hr _ rfl).2.1) (HM.out.chg (D' := fun k => k ≠ w4.heap.size) hcs (fun k hk _ e => hk e) (fun k hk _ => hk)))))
              refine hK.out _ _ (hS7) ?_
              clear hK K
              (try simp only [Act.put, List.setIfInBounds_toArray, List.set_cons_zero, List.set_cons_succ])
              clear hS6 H6 hcs hr11 hb11
              iterate 1 (first | (refine planV_skip rfl ?_ ?_; (focus (rfl)); (try simp only [Act.put, List.setIfInBounds_toArray, List.set_cons_zero, List.set_cons_succ])) | (refine planV_take (v := ?_) rfl ?_ (fun w hSw => ?_) ?_; rotate_left; (focus (rfl)); (focus (unfold SX at hSw; (go_simp <;> with_reducible rfl))); (try simp only [Act.put, List.setIfInBounds_toArray, List.set_cons_zero, List.set_cons_succ])))
              refine planV_done ?_
              refine r4_intro (.slice ao L.length cap) (.agg #[.int .i8 gk, .int .i64 gn, .string gs, .string gu, .slice gao gl.length gcap]) (.slice (some ⟨WD.heap.size, 0, none⟩) 0 0) (.slice vo L.length vc) (.slice (some ⟨w1.heap.size, 0, none⟩) 1 1) (.slice uo (L.length + 1) uc) (.tuple #[.agg #[.int .i8 jk, .int .i64 jn, .string js, .string ju, .slice jao jl.length jcap], .int .i64 en6]) (.agg #[.int .i8 jk, .int .i64 jn, .string js, .string ju, .slice jao jl.length jcap]) w4.heap.size ⟨jk, jn, js, ju, jao, jcap, jl⟩ en6 ?_ HFIN.out
              simp only [puts, Act.put, List.setIfInBounds_toArray, List.set_cons_zero, List.set_cons_succ]
          · skip
            have H4 := Lib.hid (H3.out.putr)
            have hS4 := sx_of HXD.out H4.out.hb
            refine planV_run rfl ?_ (fun K hK => ?_)
            focus (rfl)
            go_simp
            refine hK.out _ _ (hS4) ?_
            clear hK K
            (try simp only [Act.put, List.setIfInBounds_toArray, List.set_cons_zero, List.set_cons_succ])
            generalize w3.alloc (.cells zT 25) = w4 at *
            clear hS3 H3
            refine planV_run rfl ?_ (fun K hK => ?_)
            focus (rfl)
            refine op_append_own2 (.tmp 34) (.tmp 36) 23 rfl WD.heap.size 25 i0 z0 5 72 Tryd.underlying23 q1 q2 q3 q4 q5 (by decide) (.slice vo L.length vc) L.length (tcs E) rfl (H4.out.hrow _ _ _ rfl) ⟨w1.heap.size, 0, none⟩ 1 1 [.int .i8 gk, .int .i64 gn, .string gs, .string gu, .slice gao gl.length gcap] rfl rfl (fun j u hj => by
              rw [Addr.add_lit, Nat.zero_add]
              exact (cells_at (H4.out.hq _ rfl).2.1 j u (by simpa using hj)).1) (by simp [Value.oneCell']) (by unfold maxLen; omega) (by omega) H4.out.hb.size ?_
            intro v37 w5 hown hg hwh
            have hj := H4.out.app hown hg hwh
            obtain ⟨uo, uc, rfl⟩ := own_slice hown
            rw [HE2.out.2.2.1] at hj
            have H5 := Lib.hid hj
            have hS5 := sx_of HXD.out H5.out.hb
            refine hK.out _ _ (hS5) ?_
            clear hK K
            (try simp only [Act.put, List.setIfInBounds_toArray, List.set_cons_zero, List.set_cons_succ])
            clear hS4 H4 hown hg hwh hj
            obtain ⟨hrw, hnil⟩ := H5.out.rows (F := F + f) (E := E ++ [⟨gk, gn, gs, gu, gao, gcap, gl⟩]) HE2.out.2.1 HE2.out.1
            rw [HE2.out.2.2.2.1] at hrw
            have hT := tuple_any _ (F + f + 1) L2 uo uc w5 (fun k hk => hk.1) (cells_chg HC.out (chg_of_below (HBD.out.trans (H5.out.hb.mono HBD.out.size)) (fun _ => False)) (fun e => e)) hrw hnil (by have := HE2.out.2.2.2.2; omega)
            rw [HE2.out.2.2.2.2] at hT
            refine planV_run rfl ?_ (fun K hK => ?_)
            focus (rfl)
            go_simp
            refine (hT).mono ?_
            rintro e w6 hmd
            obtain ⟨te6, en6, rfl, hm6⟩ := MdR.of hmd
            have H6 := Lib.hid (H5.out.call hmd.1)
            have HM := Lib.hid (hm6.chg (D' := fun k => k ≠ w3.heap.size) (Chg.refl (fun _ => False) _) (fun _ _ _ h => h) (fun k hk _ => not_r hk (heap_lt (H5.out.hr _ rfl).2.1)))
            have hS6 := sx_of HXD.out H6.out.hb
            refine hK.out _ _ hS6 ?_
            clear hK K 
            (try simp only [Act.put, List.setIfInBounds_toArray, List.set_cons_zero, List.set_cons_succ])
            obtain ⟨jk, jn, js, ju, jao, jcap, jl⟩ := te6
            simp only [TE.cells]
            clear hS5 H5 hrw hnil hT hmd hm6
            iterate 3 (first | (refine planV_skip rfl ?_ ?_; (focus (rfl)); (try simp only [Act.put, List.setIfInBounds_toArray, List.set_cons_zero, List.set_cons_succ])) | (refine planV_take (v := ?_) rfl ?_ (fun w hSw => ?_) ?_; rotate_left; (focus (rfl)); (focus (unfold SX at hSw; (go_simp <;> with_reducible rfl))); (try simp only [Act.put, List.setIfInBounds_toArray, List.set_cons_zero, List.set_cons_succ])))
            refine planV_run rfl ?_ (fun K hK => ?_)
            focus (rfl)
            refine wp_store_row 25 (.tmp 9) (.tmp 39) rfl w3.heap.size #[.int .i8 jk, .int .i64 jn, .string js, .string ju, .slice jao jl.length jcap] rfl rfl 25 zT (H6.out.hr _ rfl).2.1 (infoTM' _ rfl) rfl (by simp [Value.oneCell']) ?_
            have hcs := chg_setRow w6 w3.heap.size #[.int .i8 jk, .int .i64 jn, .string js, .string ju, .slice jao jl.length jcap]
            have hr11 := (H6.out.hr _ rfl).1
            have hb11 := H6.out.hb.trans (hcs.below (B := WD.heap.size) H6.out.hb.size (fun k e => by have e : k = w3.heap.size := e; omega))
            have hS7 := sx_of HXD.out hb11
            have HFIN := Lib.hid (And.intro hb11 (And.intro hr11 (And.intro (setRow_heap w6 w3.heap.size _ #[.int .i8 jk, .int .i64 jn, .string js, .string ju, .slice jao jl.length jcap] _ _ (H6.out.hr _ rfl).2.1) (HM.out.chg (D' := fun k => k ≠ w3.heap.size) hcs (fun k hk _ e => hk e) (fun k hk _ => hk)))))
            refine hK.out _ _ (hS7) ?_
            clear hK K
            (try simp only [Act.put, List.setIfInBounds_toArray, List.set_cons_zero, List.set_cons_succ])
            clear hS6 H6 hcs hr11 hb11
            iterate 1 (first | (refine planV_skip rfl ?_ ?_; (focus (rfl)); (try simp only [Act.put, List.setIfInBounds_toArray, List.set_cons_zero, List.set_cons_succ])) | (refine planV_take (v := ?_) rfl ?_ (fun w hSw => ?_) ?_; rotate_left; (focus (rfl)); (focus (unfold SX at hSw; (go_simp <;> with_reducible rfl))); (try simp only [Act.put, List.setIfInBounds_toArray, List.set_cons_zero, List.set_cons_succ])))
            refine planV_done ?_
            refine r4_intro (.slice ao L.length cap) (.agg #[.int .i8 gk, .int .i64 gn, .string gs, .string gu, .slice gao gl.length gcap]) (.slice (some ⟨WD.heap.size, 0, none⟩) 0 0) (.slice vo L.length vc) (.slice (some ⟨w1.heap.size, 0, none⟩) 1 1) (.slice uo (L.length + 1) uc) (.tuple #[.agg #[.int .i8 jk, .int .i64 jn, .string js, .string ju, .slice jao jl.length jcap], .int .i64 en6]) (.agg #[.int .i8 jk, .int .i64 jn, .string js, .string ju, .slice jao jl.length jcap]) w3.heap.size ⟨jk, jn, js, ju, jao, jcap, jl⟩ en6 ?_ HFIN.out
            simp only [puts, Act.put, List.setIfInBounds_toArray, List.set_cons_zero, List.set_cons_succ]
        · skip
          have H3 := Lib.hid (H2.out.putr)
          have hS3 := sx_of HXD.out H3.out.hb
          refine planV_run rfl ?_ (fun K hK => ?_)
          focus (rfl)
          go_simp
          refine hK.out _ _ (hS3) ?_
          clear hK K
          (try simp only [Act.put, List.setIfInBounds_toArray, List.set_cons_zero, List.set_cons_succ])
          generalize w2.alloc (.cells zT 25) = w3 at *
          clear hS2 H2
          refine planV_run rfl ?_ (fun K hK => ?_)
          focus (rfl)
          refine op_append_any (.tmp 32) (.tmp 33) 23 rfl WD.heap.size 25 i0 z0 5 72 Tryd.underlying23 q1 q2 q3 q4 q5 (by decide) (.slice (some ⟨WD.heap.size, 0, none⟩) 0 0) 0 [] rfl (H3.out.hrow _ _ _ rfl) ao L.length cap (tcs E) rfl (by rw [tcs_len, HE.out.2.2.2.1]) HE.out.2.2.2.2 (fun ad e j u hj => keep_cell (HE.out.2.2.1 ad e j u hj) H3.out.hb) (tcs_one E) (by unfold maxLen; omega) (by omega) H3.out.hb.size ?_
          intro v34 w4 hown hg hwh
          rw [List.nil_append, Nat.zero_add] at hown
          have hj := H3.out.app hown hg hwh
          obtain ⟨vo, vc, rfl⟩ := own_slice hown
          have H4 := Lib.hid hj
          have hS4 := sx_of HXD.out H4.out.hb
          refine hK.out _ _ (hS4) ?_
          clear hK K
          (try simp only [Act.put, List.setIfInBounds_toArray, List.set_cons_zero, List.set_cons_succ])
          clear hS3 H3 hown hg hwh hj
          refine planV_run rfl ?_ (fun K hK => ?_)
          focus (rfl)
          refine op_append_own2 (.tmp 34) (.tmp 36) 23 rfl WD.heap.size 25 i0 z0 5 72 Tryd.underlying23 q1 q2 q3 q4 q5 (by decide) (.slice vo L.length vc) L.length (tcs E) rfl (H4.out.hrow _ _ _ rfl) ⟨w1.heap.size, 0, none⟩ 1 1 [.int .i8 gk, .int .i64 gn, .string gs, .string gu, .slice gao gl.length gcap] rfl rfl (fun j u hj => by
            rw [Addr.add_lit, Nat.zero_add]
            exact (cells_at (H4.out.hq _ rfl).2.1 j u (by simpa using hj)).1) (by simp [Value.oneCell']) (by unfold maxLen; omega) (by omega) H4.out.hb.size ?_
          intro v37 w5 hown hg hwh
          have hj := H4.out.app hown hg hwh
          obtain ⟨uo, uc, rfl⟩ := own_slice hown
          rw [HE2.out.2.2.1] at hj
          have H5 := Lib.hid hj
          have hS5 := sx_of HXD.out H5.out.hb
          refine hK.out _ _ (hS5) ?_
          clear hK K
          (try simp only [Act.put, List.setIfInBounds_toArray, List.set_cons_zero, List.set_cons_succ])
          clear hS4 H4 hown hg hwh hj
          obtain ⟨hrw, hnil⟩ := H5.out.rows (F := F + f) (E := E ++ [⟨gk, gn, gs, gu, gao, gcap, gl⟩]) HE2.out.2.1 HE2.out.1
          rw [HE2.out.2.2.2.1] at hrw
          have hT := tuple_any _ (F + f + 1) L2 uo uc w5 (fun k hk => hk.1) (cells_chg HC.out (chg_of_below (HBD.out.trans (H5.out.hb.mono HBD.out.size)) (fun _ => False)) (fun e => e)) hrw hnil (by have := HE2.out.2.2.2.2; omega)
          rw [HE2.out.2.2.2.2] at hT
          refine planV_run rfl ?_ (fun K hK => ?_)
          focus (rfl)
          go_simp
          refine (hT).mono ?_
          rintro e w6 hmd
          obtain ⟨te6, en6, rfl, hm6⟩ := MdR.of hmd
          have H6 := Lib.hid (H5.out.call hmd.1)
          have HM := Lib.hid (hm6.chg (D' := fun k => k ≠ w2.heap.size) (Chg.refl (fun _ => False) _) (fun _ _ _ h => h) (fun k hk _ => not_r hk (heap_lt (H5.out.hr _ rfl).2.1)))
          have hS6 := sx_of HXD.out H6.out.hb
          refine hK.out _ _ hS6 ?_
          clear hK K 
          (try simp only [Act.put, List.setIfInBounds_toArray, List.set_cons_zero, List.set_cons_succ])
          obtain ⟨jk, jn, js, ju, jao, jcap, jl⟩ := te6
          simp only [TE.cells]
          clear hS5 H5 hrw hnil hT hmd hm6
          iterate 3 (first | (refine planV_skip rfl ?_ ?_; (focus (rfl)); (try simp only [Act.put, List.setIfInBounds_toArray, List.set_cons_zero, List.set_cons_succ])) | (refine planV_take (v := ?_) rfl ?_ (fun w hSw => ?_) ?_; rotate_left; (focus (rfl)); (focus (unfold SX at hSw; (go_simp <;> with_reducible rfl))); (try simp only [Act.put, List.setIfInBounds_toArray, List.set_cons_zero, List.set_cons_succ])))
          refine planV_run rfl ?_ (fun K hK => ?_)
          focus (rfl)
          refine wp_store_row 25 (.tmp 9) (.tmp 39) rfl w2.heap.size #[.int .i8 jk, .int .i64 jn, .string js, .string ju, .slice jao jl.length jcap] rfl rfl 25 zT (H6.out.hr _ rfl).2.1 (infoTM' _ rfl) rfl (by simp [Value.oneCell']) ?_
          have hcs := chg_setRow w6 w2.heap.size #[.int .i8 jk, .int .i64 jn, .string js, .string ju, .slice jao jl.length jcap]
          have hr11 := (H6.out.hr _ rfl).1
          have hb11 := H6.out.hb.trans (hcs.below (B := WD.heap.size) H6.out.hb.size (fun k e => by have e : k = w2.heap.size := e; omega))
          have hS7 := sx_of HXD.out hb11
          have HFIN := Lib.hid (And.intro hb11 (And.intro hr11 (And.intro (setRow_heap w6 w2.heap.size _ #[.int .i8 jk, .int .i64 jn, .string js, .string ju, .slice jao jl.length jcap] _ _ (H6.out.hr _ rfl).2.1) (HM.out.chg (D' := fun k => k ≠ w2.heap.size) hcs (fun k hk _ e => hk e) (fun k hk _ => hk)))))
          refine hK.out _ _ (hS7) ?_
          clear hK K
          (try simp only [Act.put, List.setIfInBounds_toArray, List.set_cons_zero, List.set_cons_succ])
          clear hS6 H6 hcs hr11 hb11
          iterate 1 (first | (refine planV_skip rfl ?_ ?_; (focus (rfl)); (try simp only [Act.put, List.setIfInBounds_toArray, List.set_cons_zero, List.set_cons_succ])) | (refine planV_take (v := ?_) rfl ?_ (fun w hSw => ?_) ?_; rotate_left; (focus (rfl)); (focus (unfold SX at hSw; (go_simp <;> with_reducible rfl))); (try simp only [Act.put, List.setIfInBounds_toArray, List.set_cons_zero, List.set_cons_succ])))
          refine planV_done ?_
          refine r4_intro (.slice ao L.length cap) (.agg #[.int .i8 gk, .int .i64 gn, .string gs, .string gu, .slice gao gl.length gcap]) (.slice (some ⟨WD.heap.size, 0, none⟩) 0 0) (.slice vo L.length vc) (.slice (some ⟨w1.heap.size, 0, none⟩) 1 1) (.slice uo (L.length + 1) uc) (.tuple #[.agg #[.int .i8 jk, .int .i64 jn, .string js, .string ju, .slice jao jl.length jcap], .int .i64 en6]) (.agg #[.int .i8 jk, .int .i64 jn, .string js, .string ju, .slice jao jl.length jcap]) w2.heap.size ⟨jk, jn, js, ju, jao, jcap, jl⟩ en6 ?_ HFIN.out
          simp only [puts, Act.put, List.setIfInBounds_toArray, List.set_cons_zero, List.set_cons_succ]
      · skip
        have H2 := Lib.hid (H1.out.putr)
        have hS2 := sx_of HXD.out H2.out.hb
        refine planV_run rfl ?_ (fun K hK => ?_)
        focus (rfl)
        go_simp
        refine hK.out _ _ (hS2) ?_
        clear hK K
        (try simp only [Act.put, List.setIfInBounds_toArray, List.set_cons_zero, List.set_cons_succ])
        generalize w1.alloc (.cells zT 25) = w2 at *
        clear hS1 H1
        refine planV_fork ?_ ?_
        · skip
          refine planV_run rfl ?_ (fun K hK => ?_)
          focus (rfl)
          refine op_append_any (.tmp 32) (.tmp 33) 23 rfl WD.heap.size 25 i0 z0 5 72 Tryd.underlying23 q1 q2 q3 q4 q5 (by decide) (.slice (some ⟨WD.heap.size, 0, none⟩) 0 0) 0 [] rfl (H2.out.hrow _ _ _ rfl) ao L.length cap (tcs E) rfl (by rw [tcs_len, HE.out.2.2.2.1]) HE.out.2.2.2.2 (fun ad e j u hj => keep_cell (HE.out.2.2.1 ad e j u hj) H2.out.hb) (tcs_one E) (by unfold maxLen; omega) (by omega) H2.out.hb.size ?_
          intro v34 w3 hown hg hwh
          rw [List.nil_append, Nat.zero_add] at hown
          have hj := H2.out.app hown hg hwh
          obtain ⟨vo, vc, rfl⟩ := own_slice hown
          have H3 := Lib.hid hj
          have hS3 := sx_of HXD.out H3.out.hb
          refine hK.out _ _ (hS3) ?_
          clear hK K
          (try simp only [Act.put, List.setIfInBounds_toArray, List.set_cons_zero, List.set_cons_succ])
          clear hS2 H2 hown hg hwh hj
          have H4 := Lib.hid (H3.out.putq)
          have hS4 := sx_of HXD.out H4.out.hb
          refine planV_run rfl ?_ (fun K hK => ?_)
          focus (rfl)
          go_simp
          refine hK.out _ _ (hS4) ?_
          clear hK K
          (try simp only [Act.put, List.setIfInBounds_toArray, List.set_cons_zero, List.set_cons_succ])
          generalize w3.alloc (.cells #[.int .i8 gk, .int .i64 gn, .string gs, .string gu, .slice gao gl.length gcap] 25) = w4 at *
          clear hS3 H3
          refine planV_run rfl ?_ (fun K hK => ?_)
          focus (rfl)
          refine op_append_own2 (.tmp 34) (.tmp 36) 23 rfl WD.heap.size 25 i0 z0 5 72 Tryd.underlying23 q1 q2 q3 q4 q5 (by decide) (.slice vo L.length vc) L.length (tcs E) rfl (H4.out.hrow _ _ _ rfl) ⟨w3.heap.size, 0, none⟩ 1 1 [.int .i8 gk, .int .i64 gn, .string gs, .string gu, .slice gao gl.length gcap] rfl rfl (fun j u hj => by
            rw [Addr.add_lit, Nat.zero_add]
            exact (cells_at (H4.out.hq _ rfl).2.1 j u (by simpa using hj)).1) (by simp [Value.oneCell']) (by unfold maxLen; omega) (by omega) H4.out.hb.size ?_
          intro v37 w5 hown hg hwh
          have hj := H4.out.app hown hg hwh
          obtain ⟨uo, uc, rfl⟩ := own_slice hown
          rw [HE2.out.2.2.1] at hj
          have H5 := Lib.hid hj
          have hS5 := sx_of HXD.out H5.out.hb
          refine hK.out _ _ (hS5) ?_
          clear hK K
          (try simp only [Act.put, List.setIfInBounds_toArray, List.set_cons_zero, List.set_cons_succ])
          clear hS4 H4 hown hg hwh hj
          obtain ⟨hrw, hnil⟩ := H5.out.rows (F := F + f) (E := E ++ [⟨gk, gn, gs, gu, gao, gcap, gl⟩]) HE2.out.2.1 HE2.out.1
          rw [HE2.out.2.2.2.1] at hrw
          have hT := tuple_any _ (F + f + 1) L2 uo uc w5 (fun k hk => hk.1) (cells_chg HC.out (chg_of_below (HBD.out.trans (H5.out.hb.mono HBD.out.size)) (fun _ => False)) (fun e => e)) hrw hnil (by have := HE2.out.2.2.2.2; omega)
          rw [HE2.out.2.2.2.2] at hT
          refine planV_run rfl ?_ (fun K hK => ?_)
          focus (rfl)
          go_simp
          refine (hT).mono ?_
          rintro e w6 hmd
          obtain ⟨te6, en6, rfl, hm6⟩ := MdR.of hmd
          have H6 := Lib.hid (H5.out.call hmd.1)
          have HM := Lib.hid (hm6.chg (D' := fun k => k ≠ w1.heap.size) (Chg.refl (fun _ => False) _) (fun _ _ _ h => h) (fun k hk _ => not_r hk (heap_lt (H5.out.hr _ rfl).2.1)))
          have hS6 := sx_of HXD.out H6.out.hb
          refine hK.out _ _ hS6 ?_
          clear hK K 
          (try simp only [Act.put, List.setIfInBounds_toArray, List.set_cons_zero, List.set_cons_succ])
          obtain ⟨jk, jn, js, ju, jao, jcap, jl⟩ := te6
          simp only [TE.cells]
          clear hS5 H5 hrw hnil hT hmd hm6
          iterate 3 (first | (refine planV_skip rfl ?_ ?_; (focus (rfl)); (try simp only [Act.put, List.setIfInBounds_toArray, List.set_cons_zero, List.set_cons_succ])) | (refine planV_take (v := ?_) rfl ?_ (fun w hSw => ?_) ?_; rotate_left; (focus (rfl)); (focus (unfold SX at hSw; (go_simp <;> with_reducible rfl))); (try simp only [Act.put, List.setIfInBounds_toArray, List.set_cons_zero, List.set_cons_succ])))
          refine planV_run rfl ?_ (fun K hK => ?_)
          focus (rfl)
          refine wp_store_row 25 (.tmp 9) (.tmp 39) rfl w1.heap.size #[.int .i8 jk, .int .i64 jn, .string js, .string ju, .slice jao jl.length jcap] rfl rfl 25 zT (H6.out.hr _ rfl).2.1 (infoTM' _ rfl) rfl (by simp [Value.oneCell']) ?_
          have hcs := chg_setRow w6 w1.heap.size #[.int .i8 jk, .int .i64 jn, .string js, .string ju, .slice jao jl.length jcap]
          have hr11 := (H6.out.hr _ rfl).1
          have hb11 := H6.out.hb.trans (hcs.below (B := WD.heap.size) H6.out.hb.size (fun k e => by have e : k = w1.heap.size := e; omega))
          have hS7 := sx_of HXD.out hb11
          have HFIN := Lib.hid (And.intro hb11 (And.intro hr11 (And.intro (setRow_heap w6 w1.heap.size _ #[.int .i8 jk, .int .i64 jn, .string js, .string ju, .slice jao jl.length jcap] _ _ (H6.out.hr _ rfl).2.1) (HM.out.chg (D' := fun k => k ≠ w1.heap.size) hcs (fun k hk _ e => hk e) (fun k hk _ => hk)))))
          refine hK.out _ _ (hS7) ?_
          clear hK K
          (try simp only [Act.put, List.setIfInBounds_toArray, List.set_cons_zero, List.set_cons_succ])
          clear hS6 H6 hcs hr11 hb11
          iterate 1 (first | (refine planV_skip rfl ?_ ?_; (focus (rfl)); (try simp only [Act.put, List.setIfInBounds_toArray, List.set_cons_zero, List.set_cons_succ])) | (refine planV_take (v := ?_) rfl ?_ (fun w hSw => ?_) ?_; rotate_left; (focus (rfl)); (focus (unfold SX at hSw; (go_simp <;> with_reducible rfl))); (try simp only [Act.put, List.setIfInBounds_toArray, List.set_cons_zero, List.set_cons_succ])))
          refine planV_done ?_
          refine r4_intro (.slice ao L.length cap) (.agg #[.int .i8 gk, .int .i64 gn, .string gs, .string gu, .slice gao gl.length gcap]) (.slice (some ⟨WD.heap.size, 0, none⟩) 0 0) (.slice vo L.length vc) (.slice (some ⟨w3.heap.size, 0, none⟩) 1 1) (.slice uo (L.length + 1) uc) (.tuple #[.agg #[.int .i8 jk, .int .i64 jn, .string js, .string ju, .slice jao jl.length jcap], .int .i64 en6]) (.agg #[.int .i8 jk, .int .i64 jn, .string js, .string ju, .slice jao jl.length jcap]) w1.heap.size ⟨jk, jn, js, ju, jao, jcap, jl⟩ en6 ?_ HFIN.out
          simp only [puts, Act.put, List.setIfInBounds_toArray, List.set_cons_zero, List.set_cons_succ]
        · skip
          have H3 := Lib.hid (H2.out.putq)
          have hS3 := sx_of HXD.out H3.out.hb
          refine planV_run rfl ?_ (fun K hK => ?_)
          focus (rfl)
          go_simp
          refine hK.out _ _ (hS3) ?_
          clear hK K
          (try simp only [Act.put, List.setIfInBounds_toArray, List.set_cons_zero, List.set_cons_succ])
          generalize w2.alloc (.cells #[.int .i8 gk, .int .i64 gn, .string gs, .string gu, .slice gao gl.length gcap] 25) = w3 at *
          clear hS2 H2
          refine planV_run rfl ?_ (fun K hK => ?_)
          focus (rfl)
          refine op_append_any (.tmp 32) (.tmp 33) 23 rfl WD.heap.size 25 i0 z0 5 72 Tryd.underlying23 q1 q2 q3 q4 q5 (by decide) (.slice (some ⟨WD.heap.size, 0, none⟩) 0 0) 0 [] rfl (H3.out.hrow _ _ _ rfl) ao L.length cap (tcs E) rfl (by rw [tcs_len, HE.out.2.2.2.1]) HE.out.2.2.2.2 (fun ad e j u hj => keep_cell (HE.out.2.2.1 ad e j u hj) H3.out.hb) (tcs_one E) (by unfold maxLen; omega) (by omega) H3.out.hb.size ?_
          intro v34 w4 hown hg hwh
          rw [List.nil_append, Nat.zero_add] at hown
          have hj := H3.out.app hown hg hwh
          obtain ⟨vo, vc, rfl⟩ := own_slice hown
          have H4 := Lib.hid hj
          have hS4 := sx_of HXD.out H4.out.hb
          refine hK.out _ _ (hS4) ?_
          clear hK K
          (try simp only [Act.put, List.setIfInBounds_toArray, List.set_cons_zero, List.set_cons_succ])
          clear hS3 H3 hown hg hwh hj
          refine planV_run rfl ?_ (fun K hK => ?_)
          focus (rfl)
          refine op_append_own2 (.tmp 34) (.tmp 36) 23 rfl WD.heap.size 25 i0 z0 5 72 Tryd.underlying23 q1 q2 q3 q4 q5 (by decide) (.slice vo L.length vc) L.length (tcs E) rfl (H4.out.hrow _ _ _ rfl) ⟨w2.heap.size, 0, none⟩ 1 1 [.int .i8 gk, .int .i64 gn, .string gs, .string gu, .slice gao gl.length gcap] rfl rfl (fun j u hj => by
            rw [Addr.add_lit, Nat.zero_add]
            exact (cells_at (H4.out.hq _ rfl).2.1 j u (by simpa using hj)).1) (by simp [Value.oneCell']) (by unfold maxLen; omega) (by omega) H4.out.hb.size ?_
          intro v37 w5 hown hg hwh
          have hj := H4.out.app hown hg hwh
          obtain ⟨uo, uc, rfl⟩ := own_slice hown
          rw [HE2.out.2.2.1] at hj
          have H5 := Lib.hid hj
          have hS5 := sx_of HXD.out H5.out.hb
          refine hK.out _ _ (hS5) ?_
          clear hK K
          (try simp only [Act.put, List.setIfInBounds_toArray, List.set_cons_zero, List.set_cons_succ])
          clear hS4 H4 hown hg hwh hj
          obtain ⟨hrw, hnil⟩ := H5.out.rows (F := F + f) (E := E ++ [⟨gk, gn, gs, gu, gao, gcap, gl⟩]) HE2.out.2.1 HE2.out.1
          rw [HE2.out.2.2.2.1] at hrw
          have hT := tuple_any _ (F + f + 1) L2 uo uc w5 (fun k hk => hk.1) (cells_chg HC.out (chg_of_below (HBD.out.trans (H5.out.hb.mono HBD.out.size)) (fun _ => False)) (fun e => e)) hrw hnil (by have := HE2.out.2.2.2.2; omega)
          rw [HE2.out.2.2.2.2] at hT
          refine planV_run rfl ?_ (fun K hK => ?_)
          focus (rfl)
          go_simp
          refine (hT).mono ?_
          rintro e w6 hmd
          obtain ⟨te6, en6, rfl, hm6⟩ := MdR.of hmd
          have H6 := Lib.hid (H5.out.call hmd.1)
          have HM := Lib.hid (hm6.chg (D' := fun k => k ≠ w1.heap.size) (Chg.refl (fun _ => False) _) (fun _ _ _ h => h) (fun k hk _ => not_r hk (heap_lt (H5.out.hr _ rfl).2.1)))
          have hS6 := sx_of HXD.out H6.out.hb
          refine hK.out _ _ hS6 ?_
          clear hK K 
          (try simp only [Act.put, List.setIfInBounds_toArray, List.set_cons_zero, List.set_cons_succ])
          obtain ⟨jk, jn, js, ju, jao, jcap, jl⟩ := te6
          simp only [TE.cells]
          clear hS5 H5 hrw hnil hT hmd hm6
          iterate 3 (first | (refine planV_skip rfl ?_ ?_; (focus (rfl)); (try simp only [Act.put, List.setIfInBounds_toArray, List.set_cons_zero, List.set_cons_succ])) | (refine planV_take (v := ?_) rfl ?_ (fun w hSw => ?_) ?_; rotate_left; (focus (rfl)); (focus (unfold SX at hSw; (go_simp <;> with_reducible rfl))); (try simp only [Act.put, List.setIfInBounds_toArray, List.set_cons_zero, List.set_cons_succ])))
          refine planV_run rfl ?_ (fun K hK => ?_)
          focus (rfl)
          refine wp_store_row 25 (.tmp 9) (.tmp 39) rfl w1.heap.size #[.int .i8 jk, .int .i64 jn, .string js, .string ju, .slice jao jl.length jcap] rfl rfl 25 zT (H6.out.hr _ rfl).2.1 (infoTM' _ rfl) rfl (by simp [Value.oneCell']) ?_
          have hcs := chg_setRow w6 w1.heap.size #[.int .i8 jk, .int .i64 jn, .string js, .string ju, .slice jao jl.length jcap]
          have hr11 := (H6.out.hr _ rfl).1
          have hb11 := H6.out.hb.trans (hcs.below (B := WD.heap.size) H6.out.hb.size (fun k e => by have e : k = w1.heap.size := e; omega))
          have hS7 := sx_of HXD.out hb11
          have HFIN := Lib.hid (And.intro hb11 (And.intro hr11 (And.intro (setRow_heap w6 w1.heap.size _ #[.int .i8 jk, .int .i64 jn, .string js, .string ju, .slice jao jl.length jcap] _ _ (H6.out.hr _ rfl).2.1) (HM.out.chg (D' := fun k => k ≠ w1.heap.size) hcs (fun k hk _ e => hk e) (fun k hk _ => hk)))))
          refine hK.out _ _ (hS7) ?_
          clear hK K
          (try simp only [Act.put, List.setIfInBounds_toArray, List.set_cons_zero, List.set_cons_succ])
          clear hS6 H6 hcs hr11 hb11
          iterate 1 (first | (refine planV_skip rfl ?_ ?_; (focus (rfl)); (try simp only [Act.put, List.setIfInBounds_toArray, List.set_cons_zero, List.set_cons_succ])) | (refine planV_take (v := ?_) rfl ?_ (fun w hSw => ?_) ?_; rotate_left; (focus (rfl)); (focus (unfold SX at hSw; (go_simp <;> with_reducible rfl))); (try simp only [Act.put, List.setIfInBounds_toArray, List.set_cons_zero, List.set_cons_succ])))
          refine planV_done ?_
          refine r4_intro (.slice ao L.length cap) (.agg #[.int .i8 gk, .int .i64 gn, .string gs, .string gu, .slice gao gl.length gcap]) (.slice (some ⟨WD.heap.size, 0, none⟩) 0 0) (.slice vo L.length vc) (.slice (some ⟨w2.heap.size, 0, none⟩) 1 1) (.slice uo (L.length + 1) uc) (.tuple #[.agg #[.int .i8 jk, .int .i64 jn, .string js, .string ju, .slice jao jl.length jcap], .int .i64 en6]) (.agg #[.int .i8 jk, .int .i64 jn, .string js, .string ju, .slice jao jl.length jcap]) w1.heap.size ⟨jk, jn, js, ju, jao, jcap, jl⟩ en6 ?_ HFIN.out
          simp only [puts, Act.put, List.setIfInBounds_toArray, List.set_cons_zero, List.set_cons_succ]
    · skip
      have H1 := Lib.hid (H0.out.putq)
      have hS1 := sx_of HXD.out H1.out.hb
      refine planV_run rfl ?_ (fun K hK => ?_)
      focus (rfl)
      go_simp
      refine hK.out _ _ (hS1) ?_
      clear hK K
      (try simp only [Act.put, List.setIfInBounds_toArray, List.set_cons_zero, List.set_cons_succ])
      generalize WD.alloc (.cells #[.int .i8 gk, .int .i64 gn, .string gs, .string gu, .slice gao gl.length gcap] 25) = w1 at *
      clear hS H0
      refine planV_fork ?_ ?_
      · skip
        have H2 := Lib.hid (H1.out.empty)
        have hS2 := sx_of HXD.out H2.out.hb
        refine planV_run rfl ?_ (fun K hK => ?_)
        focus (rfl)
        go_simp
        refine hK.out _ _ (hS2) ?_
        clear hK K
        (try simp only [Act.put, List.setIfInBounds_toArray, List.set_cons_zero, List.set_cons_succ])
        generalize w1.alloc (.cells #[] 25) = w2 at *
        clear hS1 H1
        refine planV_fork ?_ ?_
        · skip
          refine planV_run rfl ?_ (fun K hK => ?_)
          focus (rfl)
          refine op_append_any (.tmp 32) (.tmp 33) 23 rfl WD.heap.size 25 i0 z0 5 72 Tryd.underlying23 q1 q2 q3 q4 q5 (by decide) (.slice (some ⟨w1.heap.size, 0, none⟩) 0 0) 0 [] rfl (H2.out.hrow _ _ _ rfl) ao L.length cap (tcs E) rfl (by rw [tcs_len, HE.out.2.2.2.1]) HE.out.2.2.2.2 (fun ad e j u hj => keep_cell (HE.out.2.2.1 ad e j u hj) H2.out.hb) (tcs_one E) (by unfold maxLen; omega) (by omega) H2.out.hb.size ?_
          intro v34 w3 hown hg hwh
          rw [List.nil_append, Nat.zero_add] at hown
          have hj := H2.out.app hown hg hwh
          obtain ⟨vo, vc, rfl⟩ := own_slice hown
          have H3 := Lib.hid hj
          have hS3 := sx_of HXD.out H3.out.hb
          refine hK.out _ _ (hS3) ?_
          clear hK K
          (try simp only [Act.put, List.setIfInBounds_toArray, List.set_cons_zero, List.set_cons_succ])
          clear hS2 H2 hown hg hwh hj
          refine planV_fork ?_ ?_
          · skip
            refine planV_run rfl ?_ (fun K hK => ?_)
            focus (rfl)
            refine op_append_own2 (.tmp 34) (.tmp 36) 23 rfl WD.heap.size 25 i0 z0 5 72 Tryd.underlying23 q1 q2 q3 q4 q5 (by decide) (.slice vo L.length vc) L.length (tcs E) rfl (H3.out.hrow _ _ _ rfl) ⟨WD.heap.size, 0, none⟩ 1 1 [.int .i8 gk, .int .i64 gn, .string gs, .string gu, .slice gao gl.length gcap] rfl rfl (fun j u hj => by
              rw [Addr.add_lit, Nat.zero_add]
              exact (cells_at (H3.out.hq _ rfl).2.1 j u (by simpa using hj)).1) (by simp [Value.oneCell']) (by unfold maxLen; omega) (by omega) H3.out.hb.size ?_
            intro v37 w4 hown hg hwh
            have hj := H3.out.app hown hg hwh
            obtain ⟨uo, uc, rfl⟩ := own_slice hown
            rw [HE2.out.2.2.1] at hj
            have H4 := Lib.hid hj
            have hS4 := sx_of HXD.out H4.out.hb
            refine hK.out _ _ (hS4) ?_
            clear hK K
            (try simp only [Act.put, List.setIfInBounds_toArray, List.set_cons_zero, List.set_cons_succ])
            clear hS3 H3 hown hg hwh hj
            refine planV_fork ?_ ?_
            · skip
              obtain ⟨hrw, hnil⟩ := H4.out.rows (F := F + f) (E := E ++ [⟨gk, gn, gs, gu, gao, gcap, gl⟩]) HE2.out.2.1 HE2.out.1
              rw [HE2.out.2.2.2.1] at hrw
              have hT := tuple_any _ (F + f + 1) L2 uo uc w4 (fun k hk => hk.1) (cells_chg HC.out (chg_of_below (HBD.out.trans (H4.out.hb.mono HBD.out.size)) (fun _ => False)) (fun e => e)) hrw hnil (by have := HE2.out.2.2.2.2; omega)
              rw [HE2.out.2.2.2.2] at hT
              refine planV_run rfl ?_ (fun K hK => ?_)
              focus (rfl)
              go_simp
              refine (hT).mono ?_
              rintro e w5 hmd
              obtain ⟨te6, en6, rfl, hm6⟩ := MdR.of hmd
              have H5 := Lib.hid (H4.out.call hmd.1)
              have HM := Lib.hid (hm6.chg (D' := fun _ => True) (Chg.refl (fun _ => False) _) (fun _ _ _ h => h) (fun _ _ _ => trivial))
              have hS5 := sx_of HXD.out H5.out.hb
              refine hK.out _ _ hS5 ?_
              clear hK K 
              (try simp only [Act.put, List.setIfInBounds_toArray, List.set_cons_zero, List.set_cons_succ])
              obtain ⟨jk, jn, js, ju, jao, jcap, jl⟩ := te6
              simp only [TE.cells]
              clear hS4 H4 hrw hnil hT hmd hm6
              iterate 3 (first | (refine planV_skip rfl ?_ ?_; (focus (rfl)); (try simp only [Act.put, List.setIfInBounds_toArray, List.set_cons_zero, List.set_cons_succ])) | (refine planV_take (v := ?_) rfl ?_ (fun w hSw => ?_) ?_; rotate_left; (focus (rfl)); (focus (unfold SX at hSw; (go_simp <;> with_reducible rfl))); (try simp only [Act.put, List.setIfInBounds_toArray, List.set_cons_zero, List.set_cons_succ])))
              have H6 := Lib.hid (H5.out.putr)
              have hS6 := sx_of HXD.out H6.out.hb
              have hM2 := HM.out.chg (D' := fun k => k ≠ w5.heap.size) (chg_alloc (fun _ => False) w5 (.cells zT 25)) (fun _ _ _ h => h) (fun k _ hk => Nat.ne_of_lt hk)
              clear HM
              have HM := Lib.hid hM2
              clear hM2
              refine planV_run rfl ?_ (fun K hK => ?_)
              focus (rfl)
              go_simp
              refine hK.out _ _ (hS6) ?_
              clear hK K
              (try simp only [Act.put, List.setIfInBounds_toArray, List.set_cons_zero, List.set_cons_succ])
              generalize w5.alloc (.cells zT 25) = w6 at *
              clear hS5 H5
              refine planV_run rfl ?_ (fun K hK => ?_)
              focus (rfl)
              refine wp_store_row 25 (.tmp 9) (.tmp 39) rfl w5.heap.size #[.int .i8 jk, .int .i64 jn, .string js, .string ju, .slice jao jl.length jcap] rfl rfl 25 zT (H6.out.hr _ rfl).2.1 (infoTM' _ rfl) rfl (by simp [Value.oneCell']) ?_
              have hcs := chg_setRow w6 w5.heap.size #[.int .i8 jk, .int .i64 jn, .string js, .string ju, .slice jao jl.length jcap]
              have hr11 := (H6.out.hr _ rfl).1
              have hb11 := H6.out.hb.trans (hcs.below (B := WD.heap.size) H6.out.hb.size (fun k e => by have e : k = w5.heap.size := e; omega))
              have hS7 := sx_of HXD.out hb11
              have HFIN := Lib.hid (And.intro hb11 (And.intro hr11 (And.intro (setRow_heap w6 w5.heap.size _ #[.int .i8 jk, .int .i64 jn, .string js, .string ju, .slice jao jl.length jcap] _ _ (H6.out.hr _ rfl).2.1) (HM.out.chg (D' := fun k => k ≠ w5.heap.size) hcs (fun k hk _ e => hk e) (fun k hk _ => hk)))))
              refine hK.out _ _ (hS7) ?_
              clear hK K
              (try simp only [Act.put, List.setIfInBounds_toArray, List.set_cons_zero, List.set_cons_succ])
              clear hS6 H6 hcs hr11 hb11
              iterate 1 (first | (refine planV_skip rfl ?_ ?_; (focus (rfl)); (try simp only [Act.put, List.setIfInBounds_toArray, List.set_cons_zero, List.set_cons_succ])) | (refine planV_take (v := ?_) rfl ?_ (fun w hSw => ?_) ?_; rotate_left; (focus (rfl)); (focus (unfold SX at hSw; (go_simp <;> with_reducible rfl))); (try simp only [Act.put, List.setIfInBounds_toArray, List.set_cons_zero, List.set_cons_succ])))
              refine planV_done ?_
              refine r4_intro (.slice ao L.length cap) (.agg #[.int .i8 gk, .int .i64 gn, .string gs, .string gu, .slice gao gl.length gcap]) (.slice (some ⟨w1.heap.size, 0, none⟩) 0 0) (.slice vo L.length vc) (.slice (some ⟨WD.heap.size, 0, none⟩) 1 1) (.slice uo (L.length + 1) uc) (.tuple #[.agg #[.int .i8 jk, .int .i64 jn, .string js, .string ju, .slice jao jl.length jcap], .int .i64 en6]) (.agg #[.int .i8 jk, .int .i64 jn, .string js, .string ju, .slice jao jl.length jcap]) w5.heap.size ⟨jk, jn, js, ju, jao, jcap, jl⟩ en6 ?_ HFIN.out
              simp only [puts, Act.put, List.setIfInBounds_toArray, List.set_cons_zero, List.set_cons_succ]
            · skip
              have H5 := Lib.hid (H4.out.putr)
              have hS5 := sx_of HXD.out H5.out.hb
              refine planV_run rfl ?_ (fun K hK => ?_)
              focus (rfl)
              go_simp
              refine hK.out _ _ (hS5) ?_
              clear hK K
              (try simp only [Act.put, List.setIfInBounds_toArray, List.set_cons_zero, List.set_cons_succ])
              generalize w4.alloc (.cells zT 25) = w5 at *
              clear hS4 H4
              obtain ⟨hrw, hnil⟩ := H5.out.rows (F := F + f) (E := E ++ [⟨gk, gn, gs, gu, gao, gcap, gl⟩]) HE2.out.2.1 HE2.out.1
              rw [HE2.out.2.2.2.1] at hrw
              have hT := tuple_any _ (F + f + 1) L2 uo uc w5 (fun k hk => hk.1) (cells_chg HC.out (chg_of_below (HBD.out.trans (H5.out.hb.mono HBD.out.size)) (fun _ => False)) (fun e => e)) hrw hnil (by have := HE2.out.2.2.2.2; omega)
              rw [HE2.out.2.2.2.2] at hT
              refine planV_run rfl ?_ (fun K hK => ?_)
              focus (rfl)
              go_simp
              refine (hT).mono ?_
              rintro e w6 hmd
              obtain ⟨te6, en6, rfl, hm6⟩ := MdR.of hmd
              have H6 := Lib.hid (H5.out.call hmd.1)
              have HM := Lib.hid (hm6.chg (D' := fun k => k ≠ w4.heap.size) (Chg.refl (fun _ => False) _) (fun _ _ _ h => h) (fun k hk _ => not_r hk (heap_lt (H5.out.hr _ rfl).2.1)))
              have hS6 := sx_of HXD.out H6.out.hb
              refine hK.out _ _ hS6 ?_
              clear hK K 
              (try simp only [Act.put, List.setIfInBounds_toArray, List.set_cons_zero, List.set_cons_succ])
              obtain ⟨jk, jn, js, ju, jao, jcap, jl⟩ := te6
              simp only [TE.cells]
              clear hS5 H5 hrw hnil hT hmd hm6
              iterate 3 (first | (refine planV_skip rfl ?_ ?_; (focus (rfl)); (try simp only [Act.put, List.setIfInBounds_toArray, List.set_cons_zero, List.set_cons_succ])) | (refine planV_take (v := ?_) rfl ?_ (fun w hSw => ?_) ?_; rotate_left; (focus (rfl)); (focus (unfold SX at hSw; (go_simp <;> with_reducible rfl))); (try simp only [Act.put, List.setIfInBounds_toArray, List.set_cons_zero, List.set_cons_succ])))
              refine planV_run rfl ?_ (fun K hK => ?_)
              focus (rfl)
              refine wp_store_row 25 (.tmp 9) (.tmp 39) rfl w4.heap.size #[.int .i8 jk, .int .i64 jn, .string js, .string ju, .slice jao jl.length jcap] rfl rfl 25 zT (H6.out.hr _ rfl).2.1 (infoTM' _ rfl) rfl (by simp [Value.oneCell']) ?_
              have hcs := chg_setRow w6 w4.heap.size #[.int .i8 jk, .int .i64 jn, .string js, .string ju, .slice jao jl.length jcap]
              have hr11 := (H6.out.hr _ rfl).1
              have hb11 := H6.out.hb.trans (hcs.below (B := WD.heap.size) H6.out.hb.size (fun k e => by have e : k = w4.heap.size := e; omega))
              have hS7 := sx_of HXD.out hb11
              have HFIN := Lib.hid (And.intro hb11 (And.intro hr11 (And.intro (setRow_heap w6 w4.heap.size _ #[.int .i8 jk, .int .i64 jn, .string js, .string ju, .slice jao jl.length jcap] _ _ (H6.out.hr _ rfl).2.1) (HM.out.chg (D' := fun k => k ≠ w4.heap.size) hcs (fun k hk _ e => hk e) (fun k hk _ => hk)))))
              refine hK.out _ _ (hS7) ?_
              clear hK K
              (try simp only [Act.put, List.setIfInBounds_toArray, List.set_cons_zero, List.set_cons_succ])
              clear hS6 H6 hcs hr11 hb11
              iterate 1 (first | (refine planV_skip rfl ?_ ?_; (focus (rfl)); (try simp only [Act.put, List.setIfInBounds_toArray, List.set_cons_zero, List.set_cons_succ])) | (refine planV_take (v := ?_) rfl ?_ (fun w hSw => ?_) ?_; rotate_left; (focus (rfl)); (focus (unfold SX at hSw; (go_simp <;> with_reducible rfl))); (try simp only [Act.put, List.setIfInBounds_toArray, List.set_cons_zero, List.set_cons_succ])))
              refine planV_done ?_
              refine r4_intro (.slice ao L.length cap) (.agg #[.int .i8 gk, .int .i64 gn, .string gs, .string gu, .slice gao gl.length gcap]) (.slice (some ⟨w1.heap.size, 0, none⟩) 0 0) (.slice vo L.length vc) (.slice (some ⟨WD.heap.size, 0, none⟩) 1 1) (.slice uo (L.length + 1) uc) (.tuple #[.agg #[.int .i8 jk, .int .i64 jn, .string js, .string ju, .slice jao jl.length jcap], .int .i64 en6]) (.agg #[.int .i8 jk, .int .i64 jn, .string js, .string ju, .slice jao jl.length jcap]) w4.heap.size ⟨jk, jn, js, ju, jao, jcap, jl⟩ en6 ?_ HFIN.out
              simp only [puts, Act.put, List.setIfInBounds_toArray, List.set_cons_zero, List.set_cons_succ]
          · skip
            have H4 := Lib.hid (H3.out.putr)
            have hS4 := sx_of HXD.out H4.out.hb
            refine planV_run rfl ?_ (fun K hK => ?_)
            focus (rfl)
            go_simp
            refine hK.out _ _ (hS4) ?_
            clear hK K
            (try simp only [Act.put, List.setIfInBounds_toArray, List.set_cons_zero, List.set_cons_succ])
            generalize w3.alloc (.cells zT 25) = w4 at *
            clear hS3 H3
            refine planV_run rfl ?_ (fun K hK => ?_)
            focus (rfl)
            refine op_append_own2 (.tmp 34) (.tmp 36) 23 rfl WD.heap.size 25 i0 z0 5 72 Tryd.underlying23 q1 q2 q3 q4 q5 (by decide) (.slice vo L.length vc) L.length (tcs E) rfl (H4.out.hrow _ _ _ rfl) ⟨WD.heap.size, 0, none⟩ 1 1 [.int .i8 gk, .int .i64 gn, .string gs, .string gu, .slice gao gl.length gcap] rfl rfl (fun j u hj => by
              rw [Addr.add_lit, Nat.zero_add]
              exact (cells_at (H4.out.hq _ rfl).2.1 j u (by simpa using hj)).1) (by simp [Value.oneCell']) (by unfold maxLen; omega) (by omega) H4.out.hb.size ?_
            intro v37 w5 hown hg hwh
            have hj := H4.out.app hown hg hwh
            obtain ⟨uo, uc, rfl⟩ := own_slice hown
            rw [HE2.out.2.2.1] at hj
            have H5 := Lib.hid hj
            have hS5 := sx_of HXD.out H5.out.hb
            refine hK.out _ _ (hS5) ?_
            clear hK K
            (try simp only [Act.put, List.setIfInBounds_toArray, List.set_cons_zero, List.set_cons_succ])
            clear hS4 H4 hown hg hwh hj
            obtain ⟨hrw, hnil⟩ := H5.out.rows (F := F + f) (E := E ++ [⟨gk, gn, gs, gu, gao, gcap, gl⟩]) HE2.out.2.1 HE2.out.1
            rw [HE2.out.2.2.2.1] at hrw
            have hT := tuple_any _ (F + f + 1) L2 uo uc w5 (fun k hk => hk.1) (cells_chg HC.out (chg_of_below (HBD.out.trans (H5.out.hb.mono HBD.out.size)) (fun _ => False)) (fun e => e)) hrw hnil (by have := HE2.out.2.2.2.2; omega)
            rw [HE2.out.2.2.2.2] at hT
            refine planV_run rfl ?_ (fun K hK => ?_)
            focus (rfl)
            go_simp
            refine (hT).mono ?_
            rintro e w6 hmd
            obtain ⟨te6, en6, rfl, hm6⟩ := MdR.of hmd
            have H6 := Lib.hid (H5.out.call hmd.1)
            have HM := Lib.hid (hm6.chg (D' := fun k => k ≠ w3.heap.size) (Chg.refl (fun _ => False) _) (fun _ _ _ h => h) (fun k hk _ => not_r hk (heap_lt (H5.out.hr _ rfl).2.1)))
            have hS6 := sx_of HXD.out H6.out.hb
            refine hK.out _ _ hS6 ?_
            clear hK K 
            (try simp only [Act.put, List.setIfInBounds_toArray, List.set_cons_zero, List.set_cons_succ])
            obtain ⟨jk, jn, js, ju, jao, jcap, jl⟩ := te6
            simp only [TE.cells]
            clear hS5 H5 hrw hnil hT hmd hm6
            iterate 3 (first | (refine planV_skip rfl ?_ ?_; (focus (rfl)); (try simp only [Act.put, List.setIfInBounds_toArray, List.set_cons_zero, List.set_cons_succ])) | (refine planV_take (v := ?_) rfl ?_ (fun w hSw => ?_) ?_; rotate_left; (focus (rfl)); (focus (unfold SX at hSw; (go_simp <;> with_reducible rfl))); (try simp only [Act.put, List.setIfInBounds_toArray, List.set_cons_zero, List.set_cons_succ])))
            refine planV_run rfl ?_ (fun K hK => ?_)
            focus (rfl)
            refine wp_store_row 25 (.tmp 9) (.tmp 39) rfl w3.heap.size #[.int .i8 jk, .int .i64 jn, .string js, .string ju, .slice jao jl.length jcap] rfl rfl 25 zT (H6.out.hr _ rfl).2.1 (infoTM' _ rfl) rfl (by simp [Value.oneCell']) ?_
            have hcs := chg_setRow w6 w3.heap.size #[.int .i8 jk, .int .i64 jn, .string js, .string ju, .slice jao jl.length jcap]
            have hr11 := (H6.out.hr _ rfl).1
            have hb11 := H6.out.hb.trans (hcs.below (B := WD.heap.size) H6.out.hb.size (fun k e => by have e : k = w3.heap.size := e; omega))
            have hS7 := sx_of HXD.out hb11
            have HFIN := Lib.hid (And.intro hb11 (And.intro hr11 (And.intro (setRow_heap w6 w3.heap.size _ #[.int .i8 jk, .int .i64 jn, .string js, .string ju, .slice jao jl.length jcap] _ _ (H6.out.hr _ rfl).2.1) (HM.out.chg (D' := fun k => k ≠ w3.heap.size) hcs (fun k hk _ e => hk e) (fun k hk _ => hk)))))
            refine hK.out _ _ (hS7) ?_
            clear hK K
            (try simp only [Act.put, List.setIfInBounds_toArray, List.set_cons_zero, List.set_cons_succ])
            clear hS6 H6 hcs hr11 hb11
            iterate 1 (first | (refine planV_skip rfl ?_ ?_; (focus (rfl)); (try simp only [Act.put, List.setIfInBounds_toArray, List.set_cons_zero, List.set_cons_succ])) | (refine planV_take (v := ?_) rfl ?_ (fun w hSw => ?_) ?_; rotate_left; (focus (rfl)); (focus (unfold SX at hSw; (go_simp <;> with_reducible rfl))); (try simp only [Act.put, List.setIfInBounds_toArray, List.set_cons_zero, List.set_cons_succ])))
            refine planV_done ?_
            refine r4_intro (.slice ao L.length cap) (.agg #[.int .i8 gk, .int .i64 gn, .string gs, .string gu, .slice gao gl.length gcap]) (.slice (some ⟨w1.heap.size, 0, none⟩) 0 0) (.slice vo L.length vc) (.slice (some ⟨WD.heap.size, 0, none⟩) 1 1) (.slice uo (L.length + 1) uc) (.tuple #[.agg #[.int .i8 jk, .int .i64 jn, .string js, .string ju, .slice jao jl.length jcap], .int .i64 en6]) (.agg #[.int .i8 jk, .int .i64 jn, .string js, .string ju, .slice jao jl.length jcap]) w3.heap.size ⟨jk, jn, js, ju, jao, jcap, jl⟩ en6 ?_ HFIN.out
            simp only [puts, Act.put, List.setIfInBounds_toArray, List.set_cons_zero, List.set_cons_succ]
        · skip
          have H3 := Lib.hid (H2.out.putr)
          have hS3 := sx_of HXD.out H3.out.hb
          refine planV_run rfl ?_ (fun K hK => ?_)
          focus (rfl)
          go_simp
          refine hK.out _ _ (hS3) ?_
          clear hK K
          (try simp only [Act.put, List.setIfInBounds_toArray, List.set_cons_zero, List.set_cons_succ])
          generalize w2.alloc (.cells zT 25) = w3 at *
          clear hS2 H2
          refine planV_run rfl ?_ (fun K hK => ?_)
          focus (rfl)
          refine op_append_any (.tmp 32) (.tmp 33) 23 rfl WD.heap.size 25 i0 z0 5 72 Tryd.underlying23 q1 q2 q3 q4 q5 (by decide) (.slice (some ⟨w1.heap.size, 0, none⟩) 0 0) 0 [] rfl (H3.out.hrow _ _ _ rfl) ao L.length cap (tcs E) rfl (by rw [tcs_len, HE.out.2.2.2.1]) HE.out.2.2.2.2 (fun ad e j u hj => keep_cell (HE.out.2.2.1 ad e j u hj) H3.out.hb) (tcs_one E) (by unfold maxLen; omega) (by omega) H3.out.hb.size ?_
          intro v34 w4 hown hg hwh
          rw [List.nil_append, Nat.zero_add] at hown
          have hj := H3.out.app hown hg hwh
          obtain ⟨vo, vc, rfl⟩ := own_slice hown
          have H4 := Lib.hid hj
          have hS4 := sx_of HXD.out H4.out.hb
          refine hK.out _ _ (hS4) ?_
          clear hK K
          (try simp only [Act.put, List.setIfInBounds_toArray, List.set_cons_zero, List.set_cons_succ])
          clear hS3 H3 hown hg hwh hj
          refine planV_run rfl ?_ (fun K hK => ?_)
          focus (rfl)
          refine op_append_own2 (.tmp 34) (.tmp 36) 23 rfl WD.heap.size 25 i0 z0 5 72 Tryd.underlying23 q1 q2 q3 q4 q5 (by decide) (.slice vo L.length vc) L.length (tcs E) rfl (H4.out.hrow _ _ _ rfl) ⟨WD.heap.size, 0, none⟩ 1 1 [.int .i8 gk, .int .i64 gn, .string gs, .string gu, .slice gao gl.length gcap] rfl rfl (fun j u hj => by
            rw [Addr.add_lit, Nat.zero_add]
            exact (cells_at (H4.out.hq _ rfl).2.1 j u (by simpa using hj)).1) (by simp [Value.oneCell']) (by unfold maxLen; omega) (by omega) H4.out.hb.size ?_
          intro v37 w5 hown hg hwh
          have hj := H4.out.app hown hg hwh
          obtain ⟨uo, uc, rfl⟩ := own_slice hown
          rw [HE2.out.2.2.1] at hj
          have H5 := Lib.hid hj
          have hS5 := sx_of HXD.out H5.out.hb
          refine hK.out _ _ (hS5) ?_
          clear hK K
          (try simp only [Act.put, List.setIfInBounds_toArray, List.set_cons_zero, List.set_cons_succ])
          clear hS4 H4 hown hg hwh hj
          obtain ⟨hrw, hnil⟩ := H5.out.rows (F := F + f) (E := E ++ [⟨gk, gn, gs, gu, gao, gcap, gl⟩]) HE2.out.2.1 HE2.out.1
          rw [HE2.out.2.2.2.1] at hrw
          have hT := tuple_any _ (F + f + 1) L2 uo uc w5 (fun k hk => hk.1) (cells_chg HC.out (chg_of_below (HBD.out.trans (H5.out.hb.mono HBD.out.size)) (fun _ => False)) (fun e => e)) hrw hnil (by have := HE2.out.2.2.2.2; omega)
          rw [HE2.out.2.2.2.2] at hT
          refine planV_run rfl ?_ (fun K hK => ?_)
          focus (rfl)
          go_simp
          refine (hT).mono ?_
          rintro e w6 hmd
          obtain ⟨te6, en6, rfl, hm6⟩ := MdR.of hmd
          have H6 := Lib.hid (H5.out.call hmd.1)
          have HM := Lib.hid (hm6.chg (D' := fun k => k ≠ w2.heap.size) (Chg.refl (fun _ => False) _) (fun _ _ _ h => h) (fun k hk _ => not_r hk (heap_lt (H5.out.hr _ rfl).2.1)))
          have hS6 := sx_of HXD.out H6.out.hb
          refine hK.out _ _ hS6 ?_
          clear hK K 
          (try simp only [Act.put, List.setIfInBounds_toArray, List.set_cons_zero, List.set_cons_succ])
          obtain ⟨jk, jn, js, ju, jao, jcap, jl⟩ := te6
          simp only [TE.cells]
          clear hS5 H5 hrw hnil hT hmd hm6
          iterate 3 (first | (refine planV_skip rfl ?_ ?_; (focus (rfl)); (try simp only [Act.put, List.setIfInBounds_toArray, List.set_cons_zero, List.set_cons_succ])) | (refine planV_take (v := ?_) rfl ?_ (fun w hSw => ?_) ?_; rotate_left; (focus (rfl)); (focus (unfold SX at hSw; (go_simp <;> with_reducible rfl))); (try simp only [Act.put, List.setIfInBounds_toArray, List.set_cons_zero, List.set_cons_succ])))
          refine planV_run rfl ?_ (fun K hK => ?_)
          focus (rfl)
          refine wp_store_row 25 (.tmp 9) (.tmp 39) rfl w2.heap.size #[.int .i8 jk, .int .i64 jn, .string js, .string ju, .slice jao jl.length jcap] rfl rfl 25 zT (H6.out.hr _ rfl).2.1 (infoTM' _ rfl) rfl (by simp [Value.oneCell']) ?_
          have hcs := chg_setRow w6 w2.heap.size #[.int .i8 jk, .int .i64 jn, .string js, .string ju, .slice jao jl.length jcap]
          have hr11 := (H6.out.hr _ rfl).1
          have hb11 := H6.out.hb.trans (hcs.below (B := WD.heap.size) H6.out.hb.size (fun k e => by have e : k = w2.heap.size := e; omega))
          have hS7 := sx_of HXD.out hb11
          have HFIN := Lib.hid (And.intro hb11 (And.intro hr11 (And.intro (setRow_heap w6 w2.heap.size _ #[.int .i8 jk, .int .i64 jn, .string js, .string ju, .slice jao jl.length jcap] _ _ (H6.out.hr _ rfl).2.1) (HM.out.chg (D' := fun k => k ≠ w2.heap.size) hcs (fun k hk _ e => hk e) (fun k hk _ => hk)))))
          refine hK.out _ _ (hS7) ?_
          clear hK K
          (try simp only [Act.put, List.setIfInBounds_toArray, List.set_cons_zero, List.set_cons_succ])
          clear hS6 H6 hcs hr11 hb11
          iterate 1 (first | (refine planV_skip rfl ?_ ?_; (focus (rfl)); (try simp only [Act.put, List.setIfInBounds_toArray, List.set_cons_zero, List.set_cons_succ])) | (refine planV_take (v := ?_) rfl ?_ (fun w hSw => ?_) ?_; rotate_left; (focus (rfl)); (focus (unfold SX at hSw; (go_simp <;> with_reducible rfl))); (try simp only [Act.put, List.setIfInBounds_toArray, List.set_cons_zero, List.set_cons_succ])))
          refine planV_done ?_
          refine r4_intro (.slice ao L.length cap) (.agg #[.int .i8 gk, .int .i64 gn, .string gs, .string gu, .slice gao gl.length gcap]) (.slice (some ⟨w1.heap.size, 0, none⟩) 0 0) (.slice vo L.length vc) (.slice (some ⟨WD.heap.size, 0, none⟩) 1 1) (.slice uo (L.length + 1) uc) (.tuple #[.agg #[.int .i8 jk, .int .i64 jn, .string js, .string ju, .slice jao jl.length jcap], .int .i64 en6]) (.agg #[.int .i8 jk, .int .i64 jn, .string js, .string ju, .slice jao jl.length jcap]) w2.heap.size ⟨jk, jn, js, ju, jao, jcap, jl⟩ en6 ?_ HFIN.out
          simp only [puts, Act.put, List.setIfInBounds_toArray, List.set_cons_zero, List.set_cons_succ]
      · skip
        have H2 := Lib.hid (H1.out.putr)
        have hS2 := sx_of HXD.out H2.out.hb
        refine planV_run rfl ?_ (fun K hK => ?_)
        focus (rfl)
        go_simp
        refine hK.out _ _ (hS2) ?_
        clear hK K
        (try simp only [Act.put, List.setIfInBounds_toArray, List.set_cons_zero, List.set_cons_succ])
        generalize w1.alloc (.cells zT 25) = w2 at *
        clear hS1 H1
        have H3 := Lib.hid (H2.out.empty)
        have hS3 := sx_of HXD.out H3.out.hb
        refine planV_run rfl ?_ (fun K hK => ?_)
        focus (rfl)
        go_simp
        refine hK.out _ _ (hS3) ?_
        clear hK K
        (try simp only [Act.put, List.setIfInBounds_toArray, List.set_cons_zero, List.set_cons_succ])
        generalize w2.alloc (.cells #[] 25) = w3 at *
        clear hS2 H2
        refine planV_run rfl ?_ (fun K hK => ?_)
        focus (rfl)
        refine op_append_any (.tmp 32) (.tmp 33) 23 rfl WD.heap.size 25 i0 z0 5 72 Tryd.underlying23 q1 q2 q3 q4 q5 (by decide) (.slice (some ⟨w2.heap.size, 0, none⟩) 0 0) 0 [] rfl (H3.out.hrow _ _ _ rfl) ao L.length cap (tcs E) rfl (by rw [tcs_len, HE.out.2.2.2.1]) HE.out.2.2.2.2 (fun ad e j u hj => keep_cell (HE.out.2.2.1 ad e j u hj) H3.out.hb) (tcs_one E) (by unfold maxLen; omega) (by omega) H3.out.hb.size ?_
        intro v34 w4 hown hg hwh
        rw [List.nil_append, Nat.zero_add] at hown
        have hj := H3.out.app hown hg hwh
        obtain ⟨vo, vc, rfl⟩ := own_slice hown
        have H4 := Lib.hid hj
        have hS4 := sx_of HXD.out H4.out.hb
        refine hK.out _ _ (hS4) ?_
        clear hK K
        (try simp only [Act.put, List.setIfInBounds_toArray, List.set_cons_zero, List.set_cons_succ])
        clear hS3 H3 hown hg hwh hj
        refine planV_run rfl ?_ (fun K hK => ?_)
        focus (rfl)
        refine op_append_own2 (.tmp 34) (.tmp 36) 23 rfl WD.heap.size 25 i0 z0 5 72 Tryd.underlying23 q1 q2 q3 q4 q5 (by decide) (.slice vo L.length vc) L.length (tcs E) rfl (H4.out.hrow _ _ _ rfl) ⟨WD.heap.size, 0, none⟩ 1 1 [.int .i8 gk, .int .i64 gn, .string gs, .string gu, .slice gao gl.length gcap] rfl rfl (fun j u hj => by
          rw [Addr.add_lit, Nat.zero_add]
          exact (cells_at (H4.out.hq _ rfl).2.1 j u (by simpa using hj)).1) (by simp [Value.oneCell']) (by unfold maxLen; omega) (by omega) H4.out.hb.size ?_
        intro v37 w5 hown hg hwh
        have hj := H4.out.app hown hg hwh
        obtain ⟨uo, uc, rfl⟩ := own_slice hown
        rw [HE2.out.2.2.1] at hj
        have H5 := Lib.hid hj
        have hS5 := sx_of HXD.out H5.out.hb
        refine hK.out _ _ (hS5) ?_
        clear hK K
        (try simp only [Act.put, List.setIfInBounds_toArray, List.set_cons_zero, List.set_cons_succ])
        clear hS4 H4 hown hg hwh hj
        obtain ⟨hrw, hnil⟩ := H5.out.rows (F := F + f) (E := E ++ [⟨gk, gn, gs, gu, gao, gcap, gl⟩]) HE2.out.2.1 HE2.out.1
        rw [HE2.out.2.2.2.1] at hrw
        have hT := tuple_any _ (F + f + 1) L2 uo uc w5 (fun k hk => hk.1) (cells_chg HC.out (chg_of_below (HBD.out.trans (H5.out.hb.mono HBD.out.size)) (fun _ => False)) (fun e => e)) hrw hnil (by have := HE2.out.2.2.2.2; omega)
        rw [HE2.out.2.2.2.2] at hT
        refine planV_run rfl ?_ (fun K hK => ?_)
        focus (rfl)
        go_simp
        refine (hT).mono ?_
        rintro e w6 hmd
        obtain ⟨te6, en6, rfl, hm6⟩ := MdR.of hmd
        have H6 := Lib.hid (H5.out.call hmd.1)
        have HM := Lib.hid (hm6.chg (D' := fun k => k ≠ w1.heap.size) (Chg.refl (fun _ => False) _) (fun _ _ _ h => h) (fun k hk _ => not_r hk (heap_lt (H5.out.hr _ rfl).2.1)))
        have hS6 := sx_of HXD.out H6.out.hb
        refine hK.out _ _ hS6 ?_
        clear hK K 
        (try simp only [Act.put, List.setIfInBounds_toArray, List.set_cons_zero, List.set_cons_succ])
        obtain ⟨jk, jn, js, ju, jao, jcap, jl⟩ := te6
        simp only [TE.cells]
        clear hS5 H5 hrw hnil hT hmd hm6
        iterate 3 (first | (refine planV_skip rfl ?_ ?_; (focus (rfl)); (try simp only [Act.put, List.setIfInBounds_toArray, List.set_cons_zero, List.set_cons_succ])) | (refine planV_take (v := ?_) rfl ?_ (fun w hSw => ?_) ?_; rotate_left; (focus (rfl)); (focus (unfold SX at hSw; (go_simp <;> with_reducible rfl))); (try simp only [Act.put, List.setIfInBounds_toArray, List.set_cons_zero, List.set_cons_succ])))
        refine planV_run rfl ?_ (fun K hK => ?_)
        focus (rfl)
        refine wp_store_row 25 (.tmp 9) (.tmp 39) rfl w1.heap.size #[.int .i8 jk, .int .i64 jn, .string js, .string ju, .slice jao jl.length jcap] rfl rfl 25 zT (H6.out.hr _ rfl).2.1 (infoTM' _ rfl) rfl (by simp [Value.oneCell']) ?_
        have hcs := chg_setRow w6 w1.heap.size #[.int .i8 jk, .int .i64 jn, .string js, .string ju, .slice jao jl.length jcap]
        have hr11 := (H6.out.hr _ rfl).1
        have hb11 := H6.out.hb.trans (hcs.below (B := WD.heap.size) H6.out.hb.size (fun k e => by have e : k = w1.heap.size := e; omega))
        have hS7 := sx_of HXD.out hb11
        have HFIN := Lib.hid (And.intro hb11 (And.intro hr11 (And.intro (setRow_heap w6 w1.heap.size _ #[.int .i8 jk, .int .i64 jn, .string js, .string ju, .slice jao jl.length jcap] _ _ (H6.out.hr _ rfl).2.1) (HM.out.chg (D' := fun k => k ≠ w1.heap.size) hcs (fun k hk _ e => hk e) (fun k hk _ => hk)))))
        refine hK.out _ _ (hS7) ?_
        clear hK K
        (try simp only [Act.put, List.setIfInBounds_toArray, List.set_cons_zero, List.set_cons_succ])
        clear hS6 H6 hcs hr11 hb11
        iterate 1 (first | (refine planV_skip rfl ?_ ?_; (focus (rfl)); (try simp only [Act.put, List.setIfInBounds_toArray, List.set_cons_zero, List.set_cons_succ])) | (refine planV_take (v := ?_) rfl ?_ (fun w hSw => ?_) ?_; rotate_left; (focus (rfl)); (focus (unfold SX at hSw; (go_simp <;> with_reducible rfl))); (try simp only [Act.put, List.setIfInBounds_toArray, List.set_cons_zero, List.set_cons_succ])))
        refine planV_done ?_
        refine r4_intro (.slice ao L.length cap) (.agg #[.int .i8 gk, .int .i64 gn, .string gs, .string gu, .slice gao gl.length gcap]) (.slice (some ⟨w2.heap.size, 0, none⟩) 0 0) (.slice vo L.length vc) (.slice (some ⟨WD.heap.size, 0, none⟩) 1 1) (.slice uo (L.length + 1) uc) (.tuple #[.agg #[.int .i8 jk, .int .i64 jn, .string js, .string ju, .slice jao jl.length jcap], .int .i64 en6]) (.agg #[.int .i8 jk, .int .i64 jn, .string js, .string ju, .slice jao jl.length jcap]) w1.heap.size ⟨jk, jn, js, ju, jao, jcap, jl⟩ en6 ?_ HFIN.out
        simp only [puts, Act.put, List.setIfInBounds_toArray, List.set_cons_zero, List.set_cons_succ]
    · skip
      have H1 := Lib.hid (H0.out.putr)
      have hS1 := sx_of HXD.out H1.out.hb
      refine planV_run rfl ?_ (fun K hK => ?_)
      focus (rfl)
      go_simp
      refine hK.out _ _ (hS1) ?_
      clear hK K
      (try simp only [Act.put, List.setIfInBounds_toArray, List.set_cons_zero, List.set_cons_succ])
      generalize WD.alloc (.cells zT 25) = w1 at *
      clear hS H0
      refine planV_fork ?_ ?_
      · skip
        have H2 := Lib.hid (H1.out.empty)
        have hS2 := sx_of HXD.out H2.out.hb
        refine planV_run rfl ?_ (fun K hK => ?_)
        focus (rfl)
        go_simp
        refine hK.out _ _ (hS2) ?_
        clear hK K
        (try simp only [Act.put, List.setIfInBounds_toArray, List.set_cons_zero, List.set_cons_succ])
        generalize w1.alloc (.cells #[] 25) = w2 at *
        clear hS1 H1
        refine planV_fork ?_ ?_
        · skip
          refine planV_run rfl ?_ (fun K hK => ?_)
          focus (rfl)
          refine op_append_any (.tmp 32) (.tmp 33) 23 rfl WD.heap.size 25 i0 z0 5 72 Tryd.underlying23 q1 q2 q3 q4 q5 (by decide) (.slice (some ⟨w1.heap.size, 0, none⟩) 0 0) 0 [] rfl (H2.out.hrow _ _ _ rfl) ao L.length cap (tcs E) rfl (by rw [tcs_len, HE.out.2.2.2.1]) HE.out.2.2.2.2 (fun ad e j u hj => keep_cell (HE.out.2.2.1 ad e j u hj) H2.out.hb) (tcs_one E) (by unfold maxLen; omega) (by omega) H2.out.hb.size ?_
          intro v34 w3 hown hg hwh
          rw [List.nil_append, Nat.zero_add] at hown
          have hj := H2.out.app hown hg hwh
          obtain ⟨vo, vc, rfl⟩ := own_slice hown
          have H3 := Lib.hid hj
          have hS3 := sx_of HXD.out H3.out.hb
          refine hK.out _ _ (hS3) ?_
          clear hK K
          (try simp only [Act.put, List.setIfInBounds_toArray, List.set_cons_zero, List.set_cons_succ])
          clear hS2 H2 hown hg hwh hj
          have H4 := Lib.hid (H3.out.putq)
          have hS4 := sx_of HXD.out H4.out.hb
          refine planV_run rfl ?_ (fun K hK => ?_)
          focus (rfl)
          go_simp
          refine hK.out _ _ (hS4) ?_
          clear hK K
          (try simp only [Act.put, List.setIfInBounds_toArray, List.set_cons_zero, List.set_cons_succ])
          generalize w3.alloc (.cells #[.int .i8 gk, .int .i64 gn, .string gs, .string gu, .slice gao gl.length gcap] 25) = w4 at *
          clear hS3 H3
          refine planV_run rfl ?_ (fun K hK => ?_)
          focus (rfl)
          refine op_append_own2 (.tmp 34) (.tmp 36) 23 rfl WD.heap.size 25 i0 z0 5 72 Tryd.underlying23 q1 q2 q3 q4 q5 (by decide) (.slice vo L.length vc) L.length (tcs E) rfl (H4.out.hrow _ _ _ rfl) ⟨w3.heap.size, 0, none⟩ 1 1 [.int .i8 gk, .int .i64 gn, .string gs, .string gu, .slice gao gl.length gcap] rfl rfl (fun j u hj => by
            rw [Addr.add_lit, Nat.zero_add]
            exact (cells_at (H4.out.hq _ rfl).2.1 j u (by simpa using hj)).1) (by simp [Value.oneCell']) (by unfold maxLen; omega) (by omega) H4.out.hb.size ?_
          intro v37 w5 hown hg hwh
          have hj := H4.out.app hown hg hwh
          obtain ⟨uo, uc, rfl⟩ := own_slice hown
          rw [HE2.out.2.2.1] at hj
          have H5 := Lib.hid hj
          have hS5 := sx_of HXD.out H5.out.hb
          refine hK.out _ _ (hS5) ?_
          clear hK K
          (try simp only [Act.put, List.setIfInBounds_toArray, List.set_cons_zero, List.set_cons_succ])
          clear hS4 H4 hown hg hwh hj
          obtain ⟨hrw, hnil⟩ := H5.out.rows (F := F + f) (E := E ++ [⟨gk, gn, gs, gu, gao, gcap, gl⟩]) HE2.out.2.1 HE2.out.1
          rw [HE2.out.2.2.2.1] at hrw
          have hT := tuple_any _ (F + f + 1) L2 uo uc w5 (fun k hk => hk.1) (cells_chg HC.out (chg_of_below (HBD.out.trans (H5.out.hb.mono HBD.out.size)) (fun _ => False)) (fun e => e)) hrw hnil (by have := HE2.out.2.2.2.2; omega)
          rw [HE2.out.2.2.2.2] at hT
          refine planV_run rfl ?_ (fun K hK => ?_)
          focus (rfl)
          go_simp
          refine (hT).mono ?_
          rintro e w6 hmd
          obtain ⟨te6, en6, rfl, hm6⟩ := MdR.of hmd
          have H6 := Lib.hid (H5.out.call hmd.1)
          have HM := Lib.hid (hm6.chg (D' := fun k => k ≠ WD.heap.size) (Chg.refl (fun _ => False) _) (fun _ _ _ h => h) (fun k hk _ => not_r hk (heap_lt (H5.out.hr _ rfl).2.1)))
          have hS6 := sx_of HXD.out H6.out.hb
          refine hK.out _ _ hS6 ?_
          clear hK K 
          (try simp only [Act.put, List.setIfInBounds_toArray, List.set_cons_zero, List.set_cons_succ])
          obtain ⟨jk, jn, js, ju, jao, jcap, jl⟩ := te6
          simp only [TE.cells]
          clear hS5 H5 hrw hnil hT hmd hm6
          iterate 3 (first | (refine planV_skip rfl ?_ ?_; (focus (rfl)); (try simp only [Act.put, List.setIfInBounds_toArray, List.set_cons_zero, List.set_cons_succ])) | (refine planV_take (v := ?_) rfl ?_ (fun w hSw => ?_) ?_; rotate_left; (focus (rfl)); (focus (unfold SX at hSw; (go_simp <;> with_reducible rfl))); (try simp only [Act.put, List.setIfInBounds_toArray, List.set_cons_zero, List.set_cons_succ])))
          refine planV_run rfl ?_ (fun K hK => ?_)
          focus (rfl)
          refine wp_store_row 25 (.tmp 9) (.tmp 39) rfl WD.heap.size #[.int .i8 jk, .int .i64 jn, .string js, .string ju, .slice jao jl.length jcap] rfl rfl 25 zT (H6.out.hr _ rfl).2.1 (infoTM' _ rfl) rfl (by simp [Value.oneCell']) ?_
          have hcs := chg_setRow w6 WD.heap.size #[.int .i8 jk, .int .i64 jn, .string js, .string ju, .slice jao jl.length jcap]
          have hr11 := (H6.out.hr _ rfl).1
          have hb11 := H6.out.hb.trans (hcs.below (B := WD.heap.size) H6.out.hb.size (fun k e => by have e : k = WD.heap.size := e; omega))
          have hS7 := sx_of HXD.out hb11
          have HFIN := Lib.hid (And.intro hb11 (And.intro hr11 (And.intro (setRow_heap w6 WD.heap.size _ #[.int .i8 jk, .int .i64 jn, .string js, .string ju, .slice jao jl.length jcap] _ _ (H6.out.hr _ rfl).2.1) (HM.out.chg (D' := fun k => k ≠ WD.heap.size) hcs (fun k hk _ e => hk e) (fun k hk _ => hk)))))
          refine hK.out _ _ (hS7) ?_
          clear hK K
          (try simp only [Act.put, List.setIfInBounds_toArray, List.set_cons_zero, List.set_cons_succ])
          clear hS6 H6 hcs hr11 hb11
          iterate 1 (first | (refine planV_skip rfl ?_ ?_; (focus (rfl)); (try simp only [Act.put, List.setIfInBounds_toArray, List.set_cons_zero, List.set_cons_succ])) | (refine planV_take (v := ?_) rfl ?_ (fun w hSw => ?_) ?_; rotate_left; (focus (rfl)); (focus (unfold SX at hSw; (go_simp <;> with_reducible rfl))); (try simp only [Act.put, List.setIfInBounds_toArray, List.set_cons_zero, List.set_cons_succ])))
          refine planV_done ?_
          refine r4_intro (.slice ao L.length cap) (.agg #[.int .i8 gk, .int .i64 gn, .string gs, .string gu, .slice gao gl.length gcap]) (.slice (some ⟨w1.heap.size, 0, none⟩) 0 0) (.slice vo L.length vc) (.slice (some ⟨w3.heap.size, 0, none⟩) 1 1) (.slice uo (L.length + 1) uc) (.tuple #[.agg #[.int .i8 jk, .int .i64 jn, .string js, .string ju, .slice jao jl.length jcap], .int .i64 en6]) (.agg #[.int .i8 jk, .int .i64 jn, .string js, .string ju, .slice jao jl.length jcap]) WD.heap.size ⟨jk, jn, js, ju, jao, jcap, jl⟩ en6 ?_ HFIN.out
          simp only [puts, Act.put, List.setIfInBounds_toArray, List.set_cons_zero, List.set_cons_succ]
        · skip
          have H3 := Lib.hid (H2.out.putq)
          have hS3 := sx_of HXD.out H3.out.hb
          refine planV_run rfl ?_ (fun K hK => ?_)
          focus (rfl)
          go_simp
          refine hK.out _ _ (hS3) ?_
          clear hK K
          (try simp only [Act.put, List.setIfInBounds_toArray, List.set_cons_zero, List.set_cons_succ])
          generalize w2.alloc (.cells #[.int .i8 gk, .int .i64 gn, .string gs, .string gu, .slice gao gl.length gcap] 25) = w3 at *
          clear hS2 H2
          refine planV_run rfl ?_ (fun K hK => ?_)
          focus (rfl)
          refine op_append_any (.tmp 32) (.tmp 33) 23 rfl WD.heap.size 25 i0 z0 5 72 Tryd.underlying23 q1 q2 q3 q4 q5 (by decide) (.slice (some ⟨w1.heap.size, 0, none⟩) 0 0) 0 [] rfl (H3.out.hrow _ _ _ rfl) ao L.length cap (tcs E) rfl (by rw [tcs_len, HE.out.2.2.2.1]) HE.out.2.2.2.2 (fun ad e j u hj => keep_cell (HE.out.2.2.1 ad e j u hj) H3.out.hb) (tcs_one E) (by unfold maxLen; omega) (by omega) H3.out.hb.size ?_
          intro v34 w4 hown hg hwh
          rw [List.nil_append, Nat.zero_add] at hown
          have hj := H3.out.app hown hg hwh
          obtain ⟨vo, vc, rfl⟩ := own_slice hown
          have H4 := Lib.hid hj
          have hS4 := sx_of HXD.out H4.out.hb
          refine hK.out _ _ (hS4) ?_
          clear hK K
          (try simp only [Act.put, List.setIfInBounds_toArray, List.set_cons_zero, List.set_cons_succ])
          clear hS3 H3 hown hg hwh hj
          refine planV_run rfl ?_ (fun K hK => ?_)
          focus (rfl)
          refine op_append_own2 (.tmp 34) (.tmp 36) 23 rfl WD.heap.size 25 i0 z0 5 72 Tryd.underlying23 q1 q2 q3 q4 q5 (by decide) (.slice vo L.length vc) L.length (tcs E) rfl (H4.out.hrow _ _ _ rfl) ⟨w2.heap.size, 0, none⟩ 1 1 [.int .i8 gk, .int .i64 gn, .string gs, .string gu, .slice gao gl.length gcap] rfl rfl (fun j u hj => by
            rw [Addr.add_lit, Nat.zero_add]
            exact (cells_at (H4.out.hq _ rfl).2.1 j u (by simpa using hj)).1) (by simp [Value.oneCell']) (by unfold maxLen; omega) (by omega) H4.out.hb.size ?_
          intro v37 w5 hown hg hwh
          have hj := H4.out.app hown hg hwh
          obtain ⟨uo, uc, rfl⟩ := own_slice hown
          rw [HE2.out.2.2.1] at hj
          have H5 := Lib.hid hj
          have hS5 := sx_of HXD.out H5.out.hb
          refine hK.out _ _ (hS5) ?_
          clear hK K
          (try simp only [Act.put, List.setIfInBounds_toArray, List.set_cons_zero, List.set_cons_succ])
          clear hS4 H4 hown hg hwh hj
          obtain ⟨hrw, hnil⟩ := H5.out.rows (F := F + f) (E := E ++ [⟨gk, gn, gs, gu, gao, gcap, gl⟩]) HE2.out.2.1 HE2.out.1
          rw [HE2.out.2.2.2.1] at hrw
          have hT := tuple_any _ (F + f + 1) L2 uo uc w5 (fun k hk => hk.1) (cells_chg HC.out (chg_of_below (HBD.out.trans (H5.out.hb.mono HBD.out.size)) (fun _ => False)) (fun e => e)) hrw hnil (by have := HE2.out.2.2.2.2; omega)
          rw [HE2.out.2.2.2.2] at hT
          refine planV_run rfl ?_ (fun K hK => ?_)
          focus (rfl)
          go_simp
          refine (hT).mono ?_
          rintro e w6 hmd
          obtain ⟨te6, en6, rfl, hm6⟩ := MdR.of hmd
          have H6 := Lib.hid (H5.out.call hmd.1)
          have HM := Lib.hid (hm6.chg (D' := fun k => k ≠ WD.heap.size) (Chg.refl (fun _ => False) _) (fun _ _ _ h => h) (fun k hk _ => not_r hk (heap_lt (H5.out.hr _ rfl).2.1)))
          have hS6 := sx_of HXD.out H6.out.hb
          refine hK.out _ _ hS6 ?_
          clear hK K 
          (try simp only [Act.put, List.setIfInBounds_toArray, List.set_cons_zero, List.set_cons_succ])
          obtain ⟨jk, jn, js, ju, jao, jcap, jl⟩ := te6
          simp only [TE.cells]
          clear hS5 H5 hrw hnil hT hmd hm6
          iterate 3 (first | (refine planV_skip rfl ?_ ?_; (focus (rfl)); (try simp only [Act.put, List.setIfInBounds_toArray, List.set_cons_zero, List.set_cons_succ])) | (refine planV_take (v := ?_) rfl ?_ (fun w hSw => ?_) ?_; rotate_left; (focus (rfl)); (focus (unfold SX at hSw; (go_simp <;> with_reducible rfl))); (try simp only [Act.put, List.setIfInBounds_toArray, List.set_cons_zero, List.set_cons_succ])))
          refine planV_run rfl ?_ (fun K hK => ?_)
          focus (rfl)
          refine wp_store_row 25 (.tmp 9) (.tmp 39) rfl WD.heap.size #[.int .i8 jk, .int .i64 jn, .string js, .string ju, .slice jao jl.length jcap] rfl rfl 25 zT (H6.out.hr _ rfl).2.1 (infoTM' _ rfl) rfl (by simp [Value.oneCell']) ?_
          have hcs := chg_setRow w6 WD.heap.size #[.int .i8 jk, .int .i64 jn, .string js, .string ju, .slice jao jl.length jcap]
          have hr11 := (H6.out.hr _ rfl).1
          have hb11 := H6.out.hb.trans (hcs.below (B := WD.heap.size) H6.out.hb.size (fun k e => by have e : k = WD.heap.size := e; omega))
          have hS7 := sx_of HXD.out hb11
          have HFIN := Lib.hid (And.intro hb11 (And.intro hr11 (And.intro (setRow_heap w6 WD.heap.size _ #[.int .i8 jk, .int .i64 jn, .string js, .string ju, .slice jao jl.length jcap] _ _ (H6.out.hr _ rfl).2.1) (HM.out.chg (D' := fun k => k ≠ WD.heap.size) hcs (fun k hk _ e => hk e) (fun k hk _ => hk)))))
          refine hK.out _ _ (hS7) ?_
          clear hK K
          (try simp only [Act.put, List.setIfInBounds_toArray, List.set_cons_zero, List.set_cons_succ])
          clear hS6 H6 hcs hr11 hb11
          iterate 1 (first | (refine planV_skip rfl ?_ ?_; (focus (rfl)); (try simp only [Act.put, List.setIfInBounds_toArray, List.set_cons_zero, List.set_cons_succ])) | (refine planV_take (v := ?_) rfl ?_ (fun w hSw => ?_) ?_; rotate_left; (focus (rfl)); (focus (unfold SX at hSw; (go_simp <;> with_reducible rfl))); (try simp only [Act.put, List.setIfInBounds_toArray, List.set_cons_zero, List.set_cons_succ])))
          refine planV_done ?_
          refine r4_intro (.slice ao L.length cap) (.agg #[.int .i8 gk, .int .i64 gn, .string gs, .string gu, .slice gao gl.length gcap]) (.slice (some ⟨w1.heap.size, 0, none⟩) 0 0) (.slice vo L.length vc) (.slice (some ⟨w2.heap.size, 0, none⟩) 1 1) (.slice uo (L.length + 1) uc) (.tuple #[.agg #[.int .i8 jk, .int .i64 jn, .string js, .string ju, .slice jao jl.length jcap], .int .i64 en6]) (.agg #[.int .i8 jk, .int .i64 jn, .string js, .string ju, .slice jao jl.length jcap]) WD.heap.size ⟨jk, jn, js, ju, jao, jcap, jl⟩ en6 ?_ HFIN.out
          simp only [puts, Act.put, List.setIfInBounds_toArray, List.set_cons_zero, List.set_cons_succ]
      · skip
        have H2 := Lib.hid (H1.out.putq)
        have hS2 := sx_of HXD.out H2.out.hb
        refine planV_run rfl ?_ (fun K hK => ?_)
        focus (rfl)
        go_simp
        refine hK.out _ _ (hS2) ?_
        clear hK K
        (try simp only [Act.put, List.setIfInBounds_toArray, List.set_cons_zero, List.set_cons_succ])
        generalize w1.alloc (.cells #[.int .i8 gk, .int .i64 gn, .string gs, .string gu, .slice gao gl.length gcap] 25) = w2 at *
        clear hS1 H1
        have H3 := Lib.hid (H2.out.empty)
        have hS3 := sx_of HXD.out H3.out.hb
        refine planV_run rfl ?_ (fun K hK => ?_)
        focus (rfl)
        go_simp
        refine hK.out _ _ (hS3) ?_
        clear hK K
        (try simp only [Act.put, List.setIfInBounds_toArray, List.set_cons_zero, List.set_cons_succ])
        generalize w2.alloc (.cells #[] 25) = w3 at *
        clear hS2 H2
        refine planV_run rfl ?_ (fun K hK => ?_)
        focus (rfl)
        refine op_append_any (.tmp 32) (.tmp 33) 23 rfl WD.heap.size 25 i0 z0 5 72 Tryd.underlying23 q1 q2 q3 q4 q5 (by decide) (.slice (some ⟨w2.heap.size, 0, none⟩) 0 0) 0 [] rfl (H3.out.hrow _ _ _ rfl) ao L.length cap (tcs E) rfl (by rw [tcs_len, HE.out.2.2.2.1]) HE.out.2.2.2.2 (fun ad e j u hj => keep_cell (HE.out.2.2.1 ad e j u hj) H3.out.hb) (tcs_one E) (by unfold maxLen; omega) (by omega) H3.out.hb.size ?_
        intro v34 w4 hown hg hwh
        rw [List.nil_append, Nat.zero_add] at hown
        have hj := H3.out.app hown hg hwh
        obtain ⟨vo, vc, rfl⟩ := own_slice hown
        have H4 := Lib.hid hj
        have hS4 := sx_of HXD.out H4.out.hb
        refine hK.out _ _ (hS4) ?_
        clear hK K
        (try simp only [Act.put, List.setIfInBounds_toArray, List.set_cons_zero, List.set_cons_succ])
        clear hS3 H3 hown hg hwh hj
        refine planV_run rfl ?_ (fun K hK => ?_)
        focus (rfl)
        refine op_append_own2 (.tmp 34) (.tmp 36) 23 rfl WD.heap.size 25 i0 z0 5 72 Tryd.underlying23 q1 q2 q3 q4 q5 (by decide) (.slice vo L.length vc) L.length (tcs E) rfl (H4.out.hrow _ _ _ rfl) ⟨w1.heap.size, 0, none⟩ 1 1 [.int .i8 gk, .int .i64 gn, .string gs, .string gu, .slice gao gl.length gcap] rfl rfl (fun j u hj => by
          rw [Addr.add_lit, Nat.zero_add]
          exact (cells_at (H4.out.hq _ rfl).2.1 j u (by simpa using hj)).1) (by simp [Value.oneCell']) (by unfold maxLen; omega) (by omega) H4.out.hb.size ?_
        intro v37 w5 hown hg hwh
        have hj := H4.out.app hown hg hwh
        obtain ⟨uo, uc, rfl⟩ := own_slice hown
        rw [HE2.out.2.2.1] at hj
        have H5 := Lib.hid hj
        have hS5 := sx_of HXD.out H5.out.hb
        refine hK.out _ _ (hS5) ?_
        clear hK K
        (try simp only [Act.put, List.setIfInBounds_toArray, List.set_cons_zero, List.set_cons_succ])
        clear hS4 H4 hown hg hwh hj
        obtain ⟨hrw, hnil⟩ := H5.out.rows (F := F + f) (E := E ++ [⟨gk, gn, gs, gu, gao, gcap, gl⟩]) HE2.out.2.1 HE2.out.1
        rw [HE2.out.2.2.2.1] at hrw
        have hT := tuple_any _ (F + f + 1) L2 uo uc w5 (fun k hk => hk.1) (cells_chg HC.out (chg_of_below (HBD.out.trans (H5.out.hb.mono HBD.out.size)) (fun _ => False)) (fun e => e)) hrw hnil (by have := HE2.out.2.2.2.2; omega)
        rw [HE2.out.2.2.2.2] at hT
        refine planV_run rfl ?_ (fun K hK => ?_)
        focus (rfl)
        go_simp
        refine (hT).mono ?_
        rintro e w6 hmd
        obtain ⟨te6, en6, rfl, hm6⟩ := MdR.of hmd
        have H6 := Lib.hid (H5.out.call hmd.1)
        have HM := Lib.hid (hm6.chg (D' := fun k => k ≠ WD.heap.size) (Chg.refl (fun _ => False) _) (fun _ _ _ h => h) (fun k hk _ => not_r hk (heap_lt (H5.out.hr _ rfl).2.1)))
        have hS6 := sx_of HXD.out H6.out.hb
        refine hK.out _ _ hS6 ?_
        clear hK K 
        (try simp only [Act.put, List.setIfInBounds_toArray, List.set_cons_zero, List.set_cons_succ])
        obtain ⟨jk, jn, js, ju, jao, jcap, jl⟩ := te6
        simp only [TE.cells]
        clear hS5 H5 hrw hnil hT hmd hm6
        iterate 3 (first | (refine planV_skip rfl ?_ ?_; (focus (rfl)); (try simp only [Act.put, List.setIfInBounds_toArray, List.set_cons_zero, List.set_cons_succ])) | (refine planV_take (v := ?_) rfl ?_ (fun w hSw => ?_) ?_; rotate_left; (focus (rfl)); (focus (unfold SX at hSw; (go_simp <;> with_reducible rfl))); (try simp only [Act.put, List.setIfInBounds_toArray, List.set_cons_zero, List.set_cons_succ])))
        refine planV_run rfl ?_ (fun K hK => ?_)
        focus (rfl)
        refine wp_store_row 25 (.tmp 9) (.tmp 39) rfl WD.heap.size #[.int .i8 jk, .int .i64 jn, .string js, .string ju, .slice jao jl.length jcap] rfl rfl 25 zT (H6.out.hr _ rfl).2.1 (infoTM' _ rfl) rfl (by simp [Value.oneCell']) ?_
        have hcs := chg_setRow w6 WD.heap.size #[.int .i8 jk, .int .i64 jn, .string js, .string ju, .slice jao jl.length jcap]
        have hr11 := (H6.out.hr _ rfl).1
        have hb11 := H6.out.hb.trans (hcs.below (B := WD.heap.size) H6.out.hb.size (fun k e => by have e : k = WD.heap.size := e; omega))
        have hS7 := sx_of HXD.out hb11
        have HFIN := Lib.hid (And.intro hb11 (And.intro hr11 (And.intro (setRow_heap w6 WD.heap.size _ #[.int .i8 jk, .int .i64 jn, .string js, .string ju, .slice jao jl.length jcap] _ _ (H6.out.hr _ rfl).2.1) (HM.out.chg (D' := fun k => k ≠ WD.heap.size) hcs (fun k hk _ e => hk e) (fun k hk _ => hk)))))
        refine hK.out _ _ (hS7) ?_
        clear hK K
        (try simp only [Act.put, List.setIfInBounds_toArray, List.set_cons_zero, List.set_cons_succ])
        clear hS6 H6 hcs hr11 hb11
        iterate 1 (first | (refine planV_skip rfl ?_ ?_; (focus (rfl)); (try simp only [Act.put, List.setIfInBounds_toArray, List.set_cons_zero, List.set_cons_succ])) | (refine planV_take (v := ?_) rfl ?_ (fun w hSw => ?_) ?_; rotate_left; (focus (rfl)); (focus (unfold SX at hSw; (go_simp <;> with_reducible rfl))); (try simp only [Act.put, List.setIfInBounds_toArray, List.set_cons_zero, List.set_cons_succ])))
        refine planV_done ?_
        refine r4_intro (.slice ao L.length cap) (.agg #[.int .i8 gk, .int .i64 gn, .string gs, .string gu, .slice gao gl.length gcap]) (.slice (some ⟨w2.heap.size, 0, none⟩) 0 0) (.slice vo L.length vc) (.slice (some ⟨w1.heap.size, 0, none⟩) 1 1) (.slice uo (L.length + 1) uc) (.tuple #[.agg #[.int .i8 jk, .int .i64 jn, .string js, .string ju, .slice jao jl.length jcap], .int .i64 en6]) (.agg #[.int .i8 jk, .int .i64 jn, .string js, .string ju, .slice jao jl.length jcap]) WD.heap.size ⟨jk, jn, js, ju, jao, jcap, jl⟩ en6 ?_ HFIN.out
        simp only [puts, Act.put, List.setIfInBounds_toArray, List.set_cons_zero, List.set_cons_succ]
  --TREE ENDS
  · rintro a' w7 ⟨x33, x35, x32, x34, x36, x37, x38, x39, pb, tb, eb, rfl, hb7, hr7, hrb, hmb⟩
    simp only [puts, Act.put, List.setIfInBounds_toArray, List.set_cons_zero, List.set_cons_succ]
    have H7 := Lib.hid (H6.out.keep hb7)
    have HPA7 := Lib.hid (keep_heap HPA6.out hb7)
    have HMA7 := Lib.hid (HMA6.out.chg (D' := fun _ => True) (chg_of_below hb7 (fun _ => False)) (fun _ _ _ h => h) (fun _ _ _ => trivial))
    have HPB7 := Lib.hid hrb
    have HMB7 := Lib.hid (hmb.chg (D' := fun _ => True) (Chg.refl (fun _ => False) _) (fun _ _ _ h => h) (fun _ _ _ => trivial))
    clear H6 HPA6 HMA6 hb7 hr7 hrb hmb
    generalize W5.drew = W6 at *
    obtain ⟨bk, bn, bs, bu, bao, bcap, bl⟩ := tb
    by_cases hea : ea = 0
    rotate_left
    · have d1 : (ea != 0) = true := by simpa using hea
      have HWK := Lib.hid (wakes_any _ (cells_chg HC.out (chg_of_below H7.out.hb (fun _ => False)) (fun e => e)) (HTB.out _ H7.out.hb))
      go_wp2_with fail
      refine HWK.out.mono ?_
      rintro e w99 ⟨rfl, hb99⟩
      have HB99 := Lib.hid (H7.out.hb.trans (hb99.mono H7.out.hb.size))
      clear hb99 HWK
      go_wp2_with fail
      go_ret
      exact ⟨rfl, HB99.out⟩
    by_cases heb : eb = 0
    rotate_left
    · have d1 : (eb != 0) = true := by simpa using heb
      subst hea
      have HWK := Lib.hid (wakes_any _ (cells_chg HC.out (chg_of_below H7.out.hb (fun _ => False)) (fun e => e)) (HTB.out _ H7.out.hb))
      go_wp2_with fail
      refine HWK.out.mono ?_
      rintro e w99 ⟨rfl, hb99⟩
      have HB99 := Lib.hid (H7.out.hb.trans (hb99.mono H7.out.hb.size))
      clear hb99 HWK
      go_wp2_with fail
      go_ret
      exact ⟨rfl, HB99.out⟩
    subst hea heb
    obtain ⟨hmd1, htva⟩ := HMA7.out.term
    obtain ⟨hmd2, htvb⟩ := HMB7.out.term
    have hbl : bl = L2 := by
      rcases HMB7.out with ⟨-, -, h3, -⟩ | ⟨h, e⟩
      · simp only [TE.t, Tm.mk.injEq] at h3
        exact h3.2.2.2.2
      · exact absurd e.symm h
    have hq : ((bl.length : Int) != (L.length : Int) + 1) = false := by
      rw [hbl, hlen2]
      simp
    have hc1 : cmpI (L.length : Int) (L2.length : Int) = -1 := by rw [hlen2]; unfold cmpI; rw [if_pos (by omega)]
    have hc2 : cmpI (L2.length : Int) (L.length : Int) = 1 := by rw [hlen2]; unfold cmpI; rw [if_neg (by omega), if_pos (by omega)]
    have hcab := compare_any _ _ _ _ _ _ w7 (cells_chg HC.out (chg_of_below H7.out.hb (fun _ => False)) (fun e => e)) htva htvb
    rw [cmp_tuples hmd1 hmd2, hc1, if_neg (by decide)] at hcab
    have hcba := fun w hw => compare_any _ _ _ _ _ _ w (cells_chg HC.out (chg_of_below (H7.out.hb.trans ((hw : Below w7.heap.size w7 w).mono H7.out.hb.size)) (fun _ => False)) (fun e => e)) (htvb.keep hw) (htva.keep hw)
    rw [cmp_tuples hmd2 hmd1, hc2, if_neg (by decide)] at hcba
    have HBA := Lib.hid hcba
    have HTVA := Lib.hid htva
    have HMD := Lib.hid (And.intro hmd1 hmd2)
    simp only [TE.cells] at hcab HPA7 HPB7 HBA HTVA
    clear hcba hbl hc1 hc2 htva htvb hmd1 hmd2 HMA7 HMB7
    obtain ⟨p0, -⟩ := cells_at HPA7.out 0 _ rfl
    obtain ⟨p1, -⟩ := cells_at HPA7.out 1 _ rfl
    obtain ⟨p2, -⟩ := cells_at HPA7.out 2 _ rfl
    obtain ⟨p3, -⟩ := cells_at HPA7.out 3 _ rfl
    obtain ⟨p4, -⟩ := cells_at HPA7.out 4 _ rfl
    obtain ⟨r0, -⟩ := cells_at HPB7.out 0 _ rfl
    obtain ⟨r1, -⟩ := cells_at HPB7.out 1 _ rfl
    obtain ⟨r2, -⟩ := cells_at HPB7.out 2 _ rfl
    obtain ⟨r3, -⟩ := cells_at HPB7.out 3 _ rfl
    obtain ⟨r4, -⟩ := cells_at HPB7.out 4 _ rfl
    go_wp2_with fail
    refine hcab.mono ?_
    rintro e w8 ⟨rfl, hb8⟩
    have HBA8 := HBA.out w8 hb8
    have H8 := Lib.hid (H7.out.keep hb8)
    have HPA8 := Lib.hid (keep_heap HPA7.out hb8)
    have HPB8 := Lib.hid (keep_heap HPB7.out hb8)
    have HTVA8 := Lib.hid (HTVA.out.keep hb8)
    clear p0 p1 p2 p3 p4 r0 r1 r2 r3 r4 hcab hb8 H7 HPA7 HPB7 HTVA HBA
    obtain ⟨p0, -⟩ := cells_at HPA8.out 0 _ rfl
    obtain ⟨p1, -⟩ := cells_at HPA8.out 1 _ rfl
    obtain ⟨p2, -⟩ := cells_at HPA8.out 2 _ rfl
    obtain ⟨p3, -⟩ := cells_at HPA8.out 3 _ rfl
    obtain ⟨p4, -⟩ := cells_at HPA8.out 4 _ rfl
    obtain ⟨r0, -⟩ := cells_at HPB8.out 0 _ rfl
    obtain ⟨r1, -⟩ := cells_at HPB8.out 1 _ rfl
    obtain ⟨r2, -⟩ := cells_at HPB8.out 2 _ rfl
    obtain ⟨r3, -⟩ := cells_at HPB8.out 3 _ rfl
    obtain ⟨r4, -⟩ := cells_at HPB8.out 4 _ rfl
    go_wp2_with fail
    refine HBA8.mono ?_
    rintro e w9 ⟨rfl, hb9⟩
    have H9 := Lib.hid (H8.out.keep hb9)
    have HPA9 := Lib.hid (keep_heap HPA8.out hb9)
    have HPB9 := Lib.hid (keep_heap HPB8.out hb9)
    have HTVA9 := Lib.hid (HTVA8.out.keep hb9)
    clear p0 p1 p2 p3 p4 r0 r1 r2 r3 r4 hb9 H8 HPA8 HPB8 HTVA8 HBA8
    obtain ⟨r4, -⟩ := cells_at HPB9.out 4 _ rfl
    have hwl : IntKind.i64.wrap ((L.length : Int) + 1) = (L.length : Int) + 1 := IntWalk.i64_in _ (by omega)
    by_cases hk0 : kk < 0
    · have d1 : decide (kk < 0) = true := by simpa using hk0
      have HWK := Lib.hid (wakes_any _ (cells_chg HC.out (chg_of_below H9.out.hb (fun _ => False)) (fun e => e)) (HTB.out _ H9.out.hb))
      go_wp2_with fail
      refine HWK.out.mono ?_
      rintro e w99 ⟨rfl, hb99⟩
      have HB99 := Lib.hid (H9.out.hb.trans (hb99.mono H9.out.hb.size))
      clear hb99 HWK
      go_wp2_with fail
      go_ret
      exact ⟨rfl, HB99.out⟩
    have d1 : decide (kk < 0) = false := by simpa using hk0
    by_cases hk1 : (L.length : Int) ≤ kk
    · have d2 : decide ((L.length : Int) ≤ kk) = true := by simpa using hk1
      have HWK := Lib.hid (wakes_any _ (cells_chg HC.out (chg_of_below H9.out.hb (fun _ => False)) (fun e => e)) (HTB.out _ H9.out.hb))
      go_wp2_with fail
      refine HWK.out.mono ?_
      rintro e w99 ⟨rfl, hb99⟩
      have HB99 := Lib.hid (H9.out.hb.trans (hb99.mono H9.out.hb.size))
      clear hb99 HWK
      go_wp2_with fail
      go_ret
      exact ⟨rfl, HB99.out⟩
    have d2 : decide ((L.length : Int) ≤ kk) = false := by simpa using hk1
    obtain ⟨m, rfl⟩ : ∃ m : Nat, kk = m := ⟨kk.toNat, by omega⟩
    have hm : m < L.length := by omega
    go_wp2_with (at_builtin; refine stop_here ?_)
    refine Lib.hid ?_
    obtain ⟨E, hE, hEr, hEc⟩ := row_tes (HR.out _ H9.out.hb)
    have hEl : E.length = L.length := by rw [← hE]; simp
    have hno2 : ao = none → L.length = 0 ∧ cap = 0 := fun e => by
      obtain ⟨b, off, te, q, -⟩ := row_elem (HR.out _ H9.out.hb) (i := 0) (t := L[0]'(by omega)) (by simp)
      rw [e] at q
      cases q
    have hP := (show P4 w9 w9 none [] none none from ⟨Below.refl _ _, (fun v n xs e => by cases e), (fun j e => by cases e), (fun j e => by cases e)⟩).empty
    obtain ⟨i0, z0, q1, q2, q3, q4, q5⟩ := infoTM2
    generalize w9.alloc (.cells #[] 25) = w10 at *
    refine wpList_plain rfl fun K hK => ?_
    refine op_append_any (.tmp 76) (.tmp 77) 23 rfl w9.heap.size 25 i0 z0 5 72 Tryd.underlying23 q1 q2 q3 q4 q5 (by decide) (.slice (some ⟨w9.heap.size, 0, none⟩) 0 0) 0 [] rfl (hP.hrow _ _ _ rfl) ao L.length cap (tcs E) rfl (by rw [tcs_len, hEl]) hno2 (fun ad e j u hj => keep_cell (hEc ad e j u hj) hP.hb) (tcs_one E) (by unfold maxLen; omega) (by omega) hP.hb.size ?_
    intro v11 w11 hown hg hwh
    refine hK _ _ ?_
    rw [List.nil_append, Nat.zero_add] at hown
    have hP2 := hP.app hown hg hwh
    rcases id hown.2 with ⟨-, h0⟩ | ⟨g, vc, cur, rfl, hbg, hh, -⟩
    · omega
    have hszW := H9.out.hb.size
    have hrs := rows_set (F := F + f) (E := E) (m := m) (te := ⟨gk, gn, gs, gu, gao, gcap, gl⟩) hown hEl.symm (by rw [hEl]; exact hm) (fun x hx => ⟨(hEr x hx).1, (hEr x hx).2.chg (chg_of_below hP2.hb (fun _ => False)) (fun _ _ _ h => h) (fun k hk _ => Nat.lt_of_lt_of_le hk hszW) (by omega)⟩) HRA.out.2.1 (HRA.out.2.2.chg (chg_of_below (H9.out.hb.trans (hP2.hb.mono hszW)) (fun _ => False)) (fun _ _ _ h => h) (fun k hk _ => Nat.lt_of_lt_of_le hk hszW) (by omega))
    rw [hE, HRA.out.1] at hrs
    obtain ⟨hthere, hrows⟩ := hrs
    have hlen3 : (L.set m t).length = L.length := by simp
    have hb12 := hP2.hb.trans ((chg_setCells [.int .i8 gk, .int .i64 gn, .string gs, .string gu, .slice gao gl.length gcap] g (m * 5) w11).below (B := w9.heap.size) hP2.hb.size (fun k e => by have e : k = g := e; omega))
    have HTH := Lib.hid (And.intro hthere (And.intro (chg_setCells [.int .i8 gk, .int .i64 gn, .string gs, .string gu, .slice gao gl.length gcap] g (m * 5) w11) hh))
    have H11 := Lib.hid (H9.out.keep hP2.hb)
    have HRW := Lib.hid hrows
    have HB12 := Lib.hid hb12
    clear hE hEr hEc hEl hno2 hP hown hg hwh hP2 hthere hrows hb12 hK r4 hh
    obtain ⟨x0, x1, x2, x3, x4⟩ := H11.out.see
    dsimp only at x0 x1 x2 x3 x4
    go_wp2_with (with_reducible refine stop_op (o := ⟨_, .store 25 (.tmp 82) (.tmp 81), _, _, _, _⟩) ?_)
    refine Lib.hid ?_
    refine wpList_store_mid (op := ⟨none, _, _, _, _, _⟩) rfl 25 (.tmp 82) (.tmp 81) rfl g (m * 5) #[.int .i8 gk, .int .i64 gn, .string gs, .string gu, .slice gao gl.length gcap] rfl rfl HTH.out.1 (infoTM' _ rfl) (by simp [Value.oneCell']) ?_
    have hb12 := HB12.out
    have hws := HTH.out.2.1.size
    have H12 := Lib.hid (H9.out.keep hb12)
    have HPA12 := Lib.hid (keep_heap HPA9.out hb12)
    have HTVA12 := Lib.hid (HTVA9.out.keep hb12)
    have hT3 := tuple_any (fun k => k < w9.heap.size ∨ k = g) (F + f + 1) (L.set m t) (some ⟨g, 0, none⟩) vc (w11.setCells g (m * 5) [.int .i8 gk, .int .i64 gn, .string gs, .string gu, .slice gao gl.length gcap]) (fun k hk => by
      have h1 := hb12.size
      have h2 := heap_lt HTH.out.2.2
      have h3 : w11.heap.size ≤ (w11.setCells g (m * 5) [.int .i8 gk, .int .i64 gn, .string gs, .string gu, .slice gao gl.length gcap]).heap.size := hws
      rcases hk with hk | hk
      · have h4 : w9.heap.size ≤ (w11.setCells g (m * 5) [.int .i8 gk, .int .i64 gn, .string gs, .string gu, .slice gao gl.length gcap]).heap.size := h1
        omega
      · omega) (cells_chg HC.out (chg_of_below H12.out.hb (fun _ => False)) (fun e => e)) HRW.out (fun e => by cases e) (by omega)
    rw [hlen3] at hT3
    clear hb12 hws x0 x1 x2 x3 x4 H11 HTH HRW HB12 H9 HPA9 HPB9 HTVA9
    generalize w11.setCells g (m * 5) [.int .i8 gk, .int .i64 gn, .string gs, .string gu, .slice gao gl.length gcap] = w12 at *
    go_wp2_with fail
    refine hT3.mono ?_
    rintro e w13 hmd
    obtain ⟨tc, ec, rfl, hmc⟩ := MdR.of hmd
    obtain ⟨ck, cn, cs, cu, cao, ccap, cl⟩ := tc
    have hb13 := hmd.1
    have hb14 := hb13.trans (((Below.refl w13.heap.size w13).alloc (Nat.le_refl _) (.cells #[.int .i8 ck, .int .i64 cn, .string cs, .string cu, .slice cao cl.length ccap] 25)).mono hb13.size)
    have H14 := Lib.hid (H12.out.keep hb14)
    have HPA14 := Lib.hid (keep_heap HPA12.out hb14)
    have HTVA14 := Lib.hid (HTVA12.out.keep hb14)
    have HMC := Lib.hid (hmc.chg (D' := fun _ => True) (chg_of_below ((Below.refl w13.heap.size w13).alloc (Nat.le_refl _) (.cells #[.int .i8 ck, .int .i64 cn, .string cs, .string cu, .slice cao cl.length ccap] 25)) (fun _ => False)) (fun _ _ _ h => h) (fun _ _ _ => trivial))
    have HPC := Lib.hid (heap_new w13 (.cells #[.int .i8 ck, .int .i64 cn, .string cs, .string cu, .slice cao cl.length ccap] 25))
    clear hT3 hmd hmc hb13 hb14 H12 HPA12 HTVA12
    simp only [TE.cells]
    go_wp2_with (with_reducible refine stop_op (o := ⟨_, .store 25 (.tmp 12) (.tmp 86), _, _, _, _⟩) ?_)
    refine Lib.hid ?_
    refine wpList_store_new (o := ⟨none, _, _, _, _, _⟩) rfl 25 (.tmp 12) (.tmp 86) rfl #[.int .i8 ck, .int .i64 cn, .string cs, .string cu, .slice cao cl.length ccap] rfl rfl (infoTM' _ rfl) rfl (by simp [Value.oneCell']) ?_
    generalize w13.alloc (.cells #[.int .i8 ck, .int .i64 cn, .string cs, .string cu, .slice cao cl.length ccap] 25) = w14 at *
    generalize w13.heap.size = pc at *
    go_wp2_with fail
    obtain ⟨x, hx⟩ : ∃ x, L[m]? = some x := ⟨L[m], by simp [hm]⟩
    have hd := (Below.refl w14.heap.size w14).drew
    have H15 := Lib.hid (H14.out.keep hd)
    have HPA15 := Lib.hid (keep_heap HPA14.out hd)
    have HPC15 := Lib.hid (keep_heap HPC.out hd)
    have HTVA15 := Lib.hid (HTVA14.out.keep hd)
    have HMC15 := Lib.hid (HMC.out.chg (D' := fun _ => True) (chg_of_below hd (fun _ => False)) (fun _ _ _ h => h) (fun _ _ _ => trivial))
    obtain ⟨eb, eo, xe, rfl, hxe, hxf, hxr, c0, c1, c2, c3, c4⟩ := row_elem (HR.out _ H15.out.hb) hx
    have htx := te_row hxe hxf hxr
    obtain ⟨ek, en, es, eu, eao, ecap, el⟩ := xe
    simp only [TE.lv, TE.cells] at c0 c1 c2 c3 c4 htx
    have HZ : Hid (∀ w, Below w14.drew.heap.size w14.drew w → Z14 pa pc eb (eo + m * 5) W.heap.size ik im is' iu (.slice iao il.length icap) ck cn cs cu (.slice cao cl.length ccap) ek en es eu (.slice eao el.length ecap) gk gn gs gu (.slice gao gl.length gcap) w) := Lib.hid fun w hw => Z14.of HPA15.out HPC15.out H15.out.hX c0 c1 c2 c3 c4 hw
    have hS := HZ.out _ (Below.refl _ _)
    have HTXE := Lib.hid htx
    clear hd H14 HPA14 HPC HTVA14 HMC hxe hxf hxr c0 c1 c2 c3 c4 htx
    by_cases hec : ec = 0
    · subst hec
      obtain ⟨hmd3, htvc⟩ := HMC15.out.term
      have hox := okL_at (md_ok L 1 (by omega) HMD.out.1).1 hx
      have hnx : nT x ≤ 256 := by
        have h1 := (md_ok L 1 (by omega) HMD.out.1).2
        have h2 := nT_mem (List.mem_of_getElem? hx)
        omega
      have hcac := compare_any _ _ _ _ _ _ w14.drew (cells_chg HC.out (chg_of_below H15.out.hb (fun _ => False)) (fun e => e)) HTVA15.out htvc
      rw [cmp_tuples HMD.out.1 hmd3, hlen3, cmpI_self, if_pos rfl, ordL_set L m x t hx] at hcac
      have HXT : Hid (∀ w, Below w14.drew.heap.size w14.drew w → Calls Tryd.prog 10 #[.agg #[.int .i8 ek, .int .i64 en, .string es, .string eu, .slice eao el.length ecap], .agg #[.int .i8 gk, .int .i64 gn, .string gs, .string gu, .slice gao gl.length gcap]] w (IntPost w (ord x t))) := Lib.hid fun w hw => by
        have h1 := compare_any _ _ _ _ _ _ w (cells_chg HC.out (chg_of_below (H15.out.hb.trans (hw.mono H15.out.hb.size)) (fun _ => False)) (fun e => e)) (HTXE.out.keep hw) (HA.out w (H15.out.hb.trans (hw.mono H15.out.hb.size)))
        rw [cmpT, if_pos (ok_check hox hnx), if_pos hca] at h1
        exact h1
      simp only [TE.cells] at hcac
      generalize ord x t = o at *
      have HCAC := Lib.hid hcac
      clear hcac hmd3 htvc hox hnx HMC15
      refine region_plan (Z14 pa pc eb (eo + m * 5) W.heap.size ik im is' iu (.slice iao il.length icap) ck cn cs cu (.slice cao cl.length ccap) ek en es eu (.slice eao el.length ecap) gk gn gs gu (.slice gao gl.length gcap)) [(0, 0), (1, 0), (2, 0), (3, 0), (4, 0), (6, 0), (7, 0), (8, 0), (9, 0), (10, 0), (5, 1), (11, 1), (12, 0), (13, 0), (14, 0), (15, 1), (16, 0), (17, 0)] (by kernel_rfl) (by kernel_rfl) (by kernel_rfl) hS ?_
      generalize w14.drew = WD at *
      iterate 10 (first | (refine plan_skip rfl ?_ ?_; (focus (rfl)); (try simp only [Act.put, List.setIfInBounds_toArray, List.set_cons_zero, List.set_cons_succ])) | (refine plan_take (v := ?_) rfl ?_ (fun w hSw => ?_) ?_; rotate_left; (focus (rfl)); (focus (unfold Z14 at hSw; (go_simp <;> with_reducible rfl))); (try simp only [Act.put, List.setIfInBounds_toArray, List.set_cons_zero, List.set_cons_succ])))
      refine plan_run rfl ?_ (fun K hK => ?_)
      focus (rfl)
      go_simp
      refine (HCAC.out).mono ?_
      rintro e w21 ⟨rfl, hb21⟩
      have hS21 := HZ.out _ hb21
      have HX21 := Lib.hid (HXT.out _ hb21)
      refine hK.out _ _ hS21 ?_
      clear hK K 
      (try simp only [Act.put, List.setIfInBounds_toArray, List.set_cons_zero, List.set_cons_succ])
      refine plan_run rfl ?_ (fun K hK => ?_)
      focus (rfl)
      go_simp
      refine (HX21.out).mono ?_
      rintro e w22 ⟨rfl, hb22⟩
      have hb23 := hb21.trans (hb22.mono hb21.size)
      have hS22 := HZ.out _ hb23
      refine hK.out _ _ hS22 ?_
      clear hK K 
      (try simp only [Act.put, List.setIfInBounds_toArray, List.set_cons_zero, List.set_cons_succ])
      iterate 3 (first | (refine plan_skip rfl ?_ ?_; (focus (rfl)); (try simp only [Act.put, List.setIfInBounds_toArray, List.set_cons_zero, List.set_cons_succ])) | (refine plan_take (v := ?_) rfl ?_ (fun w hSw => ?_) ?_; rotate_left; (focus (rfl)); (focus (unfold Z14 at hSw; (go_simp <;> with_reducible rfl))); (try simp only [Act.put, List.setIfInBounds_toArray, List.set_cons_zero, List.set_cons_succ])))
      have hwk := wakes_any w22 (cells_chg HC.out (chg_of_below (H15.out.hb.trans (hb23.mono H15.out.hb.size)) (fun _ => False)) (fun e => e)) (HTB.out _ (H15.out.hb.trans (hb23.mono H15.out.hb.size)))
      refine plan_run rfl ?_ (fun K hK => ?_)
      focus (rfl)
      go_simp
      refine (hwk).mono ?_
      rintro e w24 ⟨rfl, hb24⟩
      have hb25 := hb23.trans (hb24.mono hb23.size)
      have hS24 := HZ.out _ hb25
      refine hK.out _ _ hS24 ?_
      clear hK K 
      (try simp only [Act.put, List.setIfInBounds_toArray, List.set_cons_zero, List.set_cons_succ])
      iterate 2 (first | (refine plan_skip rfl ?_ ?_; (focus (rfl)); (try simp only [Act.put, List.setIfInBounds_toArray, List.set_cons_zero, List.set_cons_succ])) | (refine plan_take (v := ?_) rfl ?_ (fun w hSw => ?_) ?_; rotate_left; (focus (rfl)); (focus (unfold Z14 at hSw; (go_simp <;> with_reducible rfl))); (try simp only [Act.put, List.setIfInBounds_toArray, List.set_cons_zero, List.set_cons_succ])))
      refine plan_done ?_
      have HF := Lib.hid (H15.out.hb.trans (hb25.mono H15.out.hb.size))
      clear hb21 hb22 hb23 hb24 hb25 hS hS21 hS22 hS24 HX21 hwk
      go_wp2_with fail
      go_ret
      exact ⟨rfl, HF.out⟩
    · have d3 : (ec != 0) = true := by simpa using hec
      have hwk := wakes_any w14.drew (cells_chg HC.out (chg_of_below H15.out.hb (fun _ => False)) (fun e => e)) (HTB.out _ H15.out.hb)
      refine region_plan (Z14 pa pc eb (eo + m * 5) W.heap.size ik im is' iu (.slice iao il.length icap) ck cn cs cu (.slice cao cl.length ccap) ek en es eu (.slice eao el.length ecap) gk gn gs gu (.slice gao gl.length gcap)) [(0, 0), (1, 0), (2, 0), (3, 0), (4, 0), (6, 0), (7, 0), (8, 0), (9, 0), (10, 0), (5, 1), (11, 1), (12, 0), (13, 0), (14, 0), (15, 1), (16, 0), (17, 0)] (by kernel_rfl) (by kernel_rfl) (by kernel_rfl) hS ?_
      generalize w14.drew = WD at *
      iterate 10 (first | (refine plan_skip rfl ?_ ?_; (focus (rfl)); (try simp only [Act.put, List.setIfInBounds_toArray, List.set_cons_zero, List.set_cons_succ])) | (refine plan_take (v := ?_) rfl ?_ (fun w hSw => ?_) ?_; rotate_left; (focus (rfl)); (focus (unfold Z14 at hSw; (go_simp <;> with_reducible rfl))); (try simp only [Act.put, List.setIfInBounds_toArray, List.set_cons_zero, List.set_cons_succ])))
      (refine plan_run_skip rfl ?_ hS ?_; (focus (rfl)); (try simp only [Act.put, List.setIfInBounds_toArray, List.set_cons_zero, List.set_cons_succ]))
      (refine plan_run_skip rfl ?_ hS ?_; (focus (rfl)); (try simp only [Act.put, List.setIfInBounds_toArray, List.set_cons_zero, List.set_cons_succ]))
      iterate 3 (first | (refine plan_skip rfl ?_ ?_; (focus (rfl)); (try simp only [Act.put, List.setIfInBounds_toArray, List.set_cons_zero, List.set_cons_succ])) | (refine plan_take (v := ?_) rfl ?_ (fun w hSw => ?_) ?_; rotate_left; (focus (rfl)); (focus (unfold Z14 at hSw; (go_simp <;> with_reducible rfl))); (try simp only [Act.put, List.setIfInBounds_toArray, List.set_cons_zero, List.set_cons_succ])))
      refine plan_run rfl ?_ (fun K hK => ?_)
      focus (rfl)
      go_simp
      refine (hwk).mono ?_
      rintro e w24 ⟨rfl, hb24⟩
      have hS24 := HZ.out _ hb24
      refine hK.out _ _ hS24 ?_
      clear hK K 
      (try simp only [Act.put, List.setIfInBounds_toArray, List.set_cons_zero, List.set_cons_succ])
      iterate 2 (first | (refine plan_skip rfl ?_ ?_; (focus (rfl)); (try simp only [Act.put, List.setIfInBounds_toArray, List.set_cons_zero, List.set_cons_succ])) | (refine plan_take (v := ?_) rfl ?_ (fun w hSw => ?_) ?_; rotate_left; (focus (rfl)); (focus (unfold Z14 at hSw; (go_simp <;> with_reducible rfl))); (try simp only [Act.put, List.setIfInBounds_toArray, List.set_cons_zero, List.set_cons_succ])))
      refine plan_done ?_
      have HF := Lib.hid (H15.out.hb.trans (hb24.mono H15.out.hb.size))
      clear hb24 hS hS24 hwk
      go_wp2_with fail
      go_ret
      exact ⟨rfl, HF.out⟩
/-- a row that is nothing has no room -/
theorem nil_cap {H : Type} {enc : TypeId × Value → H} {W : World} {n : Nat} {v : Value} {y : DataW H × List MemPlace} (h : Rd enc Tryd.prog W n 23 [v] y) (len cap : Nat) (e : v = .slice none len cap) : cap = 0 := by
  subst e
  rcases DataW.trod_slice Tryd.underlying23 h with ⟨e4, _⟩ | ⟨a, len', cap', elems, rest, n', hn, e4, _, _, hlc, hcm, hel, hcell, _, _⟩
  · simp at e4
    exact e4.2
  · simp at e4
theorem termParts_true {H : Type} {enc : TypeId × Value → H} (W : World) {base : Nat} {v0 v1 v2 : Value} {d0 d1 d2 : DataW H} {p0 p1 p2 : List MemPlace} (hv0 : Value.okWide Tryd.prog W .any base 23 v0) (h0 : DataW.Trod enc Tryd.prog W 0 (fun _ => true) true 23 v0 d0 p0)
    (hv1 : Value.okWide Tryd.prog W .any base 25 v1) (h1 : DataW.Trod enc Tryd.prog W 0 (fun _ => true) true 25 v1 d1 p1) (hv2 : Value.okWide Tryd.prog W .any base 3 v2) (h2 : DataW.Trod enc Tryd.prog W 0 (fun _ => true) true 3 v2 d2 p2)
    (hL : laidMetH Tryd.prog [("internal/strconv.uint64pow10", powD), ("pleach/atoms.letters", letD)] W) : Calls Tryd.prog 4 #[v0, v1, v2] W (IsPost W true) := by
  obtain ⟨ao0, n0, cap0, rfl⟩ := okWide_slice Tryd.underlying23 hv0
  obtain ⟨fuel, hf⟩ := h0
  obtain ⟨L, hr⟩ := row_of_trod hf
  have hcap := nil_cap hf
  obtain ⟨f, t, ha⟩ := term_of_trod hv1 h1
  obtain ⟨n, rfl, rfl, rfl, wn⟩ := open_int Tryd.underlying3 hv2 h2
  obtain ⟨hc, ht⟩ := tabs_of W hL
  obtain ⟨ao, cap, e, -⟩ := id hr
  injection e with e1 e2 e3
  subst e1 e2 e3
  exact parts_core fuel f L ao0 cap0 t v1 n W hc ht hr.toS (fun e => hcap L.length cap0 (by rw [e])) ha
end Go.Proofs.YtaomakhhkjflaaaDoor
