/- term.List of a term that may be. Conditions: the term reads, the table of letters reads as laid. -/
/- term.made, term.Tuple. Conditions: the parts read, are not too many; the table of letters reads as laid. -/
/- term.FromList of parts that may be. Conditions: the parts read, may be, are not too many; the table of letters reads as laid. -/
/- the law's proper: does a list end with nothing? Conditions: the term reads, may be. -/
/- terms' order is -1, 0 or 1; a list's parts counted, made again, in plain Lean. No conditions. -/
/- the law TermOrder. Conditions: the arguments read as data; the tables of letters and of powers read as laid. -/
import Derived.Test.YtaomakhhkjflaaaDoorMa5
import Derived.Deep.LoopGhost
namespace Go.Proofs.YtaomakhhkjflaaaDoor
open Go.ChangeShapes Go.WideShapes Go.ChangeAt Go.RowKit
set_option linter.unusedVariables false
set_option linter.unusedSimpArgs false
set_option maxRecDepth 100000
/-- a list's parts, if its tail is nothing -/
def LstP (W : World) (F : Nat) (t : Tm) (e : Ending) (W' : World) : Prop :=
  Below W.heap.size W W' ∧ (((spE t).k = 6 ∧ ∃ (ao : Option Addr) (cap : Nat), e = .returned (.tuple #[.slice ao (spL t).length cap, .bool true]) ∧ (ao = none → cap = 0) ∧ Row (F + 1) W' (.slice ao (spL t).length cap) (spL t)) ∨ ((spE t).k ≠ 6 ∧ e = .returned (.tuple #[.slice none 0 0, .bool false])))
set_option maxHeartbeats 8000000 in
theorem plist_any (F : Nat) (t : Tm) (v : Value) (W : World) (hc : Cells W 0 letL) (h : TermV F W v t) (hok : checkN t = 0) : Calls Tryd.prog 16 #[v] W (LstP W F t) := by
  obtain ⟨hokt, hn⟩ := check_ok hok
  obtain ⟨te, rfl, rfl, hf, hrs⟩ := h.te
  obtain ⟨gk, gn, gs, gu, gao, gcap, gl⟩ := te
  have hb1 := (Below.refl W.heap.size W).alloc (Nat.le_refl _) (.cells #[.int .i8 gk, .int .i64 gn, .string gs, .string gu, .slice gao gl.length gcap] 25)
  have HCH := Lib.hid (check_any F _ _ _ (cells_chg hc (chg_of_below hb1 (fun _ => False)) (fun e => e)) (h.keep hb1))
  have HN1 := Lib.hid (heap_new W (.cells #[.int .i8 gk, .int .i64 gn, .string gs, .string gu, .slice gao gl.length gcap] 25))
  have HB1 := Lib.hid hb1
  have HRS := Lib.hid hrs
  have HOK := Lib.hid (And.intro hokt hn)
  rw [hok] at HCH
  obtain ⟨y0, -⟩ := cells_at HN1.out 0 _ rfl
  obtain ⟨y1, -⟩ := cells_at HN1.out 1 _ rfl
  obtain ⟨y2, -⟩ := cells_at HN1.out 2 _ rfl
  obtain ⟨y3, -⟩ := cells_at HN1.out 3 _ rfl
  obtain ⟨y4, -⟩ := cells_at HN1.out 4 _ rfl
  clear hc h hok hb1 hrs hokt hn
  have HF := Lib.hid hf
  clear hf
  generalize hT : TE.t ⟨gk, gn, gs, gu, gao, gcap, gl⟩ = T at *
  simp only [TE.cells, TE.lv] at *
  go_enter Tryd.func16, Tryd.ntmps16
  go_wp2_with fail
  refine HCH.out.mono ?_
  rintro e w2 ⟨rfl, hb2⟩
  have HN2 := Lib.hid (keep_heap HN1.out hb2)
  have hB2 := HB1.out.trans (hb2.mono HB1.out.size)
  have hrs2 : RowS (fun k => k < w2.heap.size) F w2 (.slice gao gl.length gcap) gl := HRS.out.chg (chg_of_below hB2 (fun _ => False)) (fun _ _ _ h => h) (fun k hk _ => by have := hB2.size; have hk : k < W.heap.size := hk; show k < w2.heap.size; omega) (Nat.le_refl _)
  have HS := Lib.hid (spine_any (fun k => k < w2.heap.size) F ⟨gk, gn, gs, gu, gao, gcap, gl⟩ (by rw [hT]; exact HOK.out.1) (by rw [hT]; exact HOK.out.2) w2 (fun k hk => hk) HF.out hrs2)
  rw [hT] at HS
  simp only [TE.cells] at HS
  have HB2 := Lib.hid hB2
  clear y0 y1 y2 y3 y4 hb2 hB2 hrs2
  obtain ⟨y0, -⟩ := cells_at HN2.out 0 _ rfl
  obtain ⟨y1, -⟩ := cells_at HN2.out 1 _ rfl
  obtain ⟨y2, -⟩ := cells_at HN2.out 2 _ rfl
  obtain ⟨y3, -⟩ := cells_at HN2.out 3 _ rfl
  obtain ⟨y4, -⟩ := cells_at HN2.out 4 _ rfl
  go_wp2_with fail
  refine HS.out.mono ?_
  rintro e w3 ⟨ao, cap, E, te2, rfl, hE, hte2, hf2, hb3, hrow3, hrs3⟩
  obtain ⟨tk, tn, ts, tu, tao, tcap, tl⟩ := te2
  have hEl : E.length = (spL T).length := by rw [← hE]; simp
  have hrw3 := (hrow3.rowS (S' := fun _ => True) (fun _ _ => trivial) (fun _ _ => trivial)).row
  rw [hE] at hrw3
  have hno : ao = none → cap = 0 := fun e => by
    rcases hrow3.1.2 with ⟨e1, -⟩ | ⟨g, c, cur, e1, -⟩
    · injection e1
    · rw [e] at e1
      cases e1
  have HNO := Lib.hid hno
  have hk2 : tk = (spE T).k := by rw [← hte2]; rfl
  rw [hEl]
  have hb4 := (Below.refl w3.heap.size w3).alloc (Nat.le_refl _) (.cells #[.int .i8 tk, .int .i64 tn, .string ts, .string tu, .slice tao tl.length tcap] 25)
  have hB4 := (HB2.out.trans (hb3.mono HB2.out.size)).trans (hb4.mono (Nat.le_trans HB2.out.size hb3.size))
  have HR4 := Lib.hid (hrw3.keep hb4)
  have HN4 := Lib.hid (heap_new w3 (.cells #[.int .i8 tk, .int .i64 tn, .string ts, .string tu, .slice tao tl.length tcap] 25))
  have HB4 := Lib.hid hB4
  have HK := Lib.hid hk2
  simp only [TE.cells]
  clear y0 y1 y2 y3 y4 hE hte2 hf2 hb3 hrow3 hrs3 hEl hrw3 hk2 hno hb4 hB4 HS HN1 HB1 HB2 HCH HN2
  go_wp2_with (with_reducible refine stop_op (o := ⟨_, .store 25 (.tmp 5) (.tmp 13), _, _, _, _⟩) ?_)
  refine Lib.hid ?_
  refine wpList_store_new (o := ⟨none, _, _, _, _, _⟩) rfl 25 (.tmp 5) (.tmp 13) rfl #[.int .i8 tk, .int .i64 tn, .string ts, .string tu, .slice tao tl.length tcap] rfl rfl (infoTM' _ rfl) rfl (by simp [Value.oneCell']) ?_
  generalize w3.alloc (.cells #[.int .i8 tk, .int .i64 tn, .string ts, .string tu, .slice tao tl.length tcap] 25) = W4 at *
  obtain ⟨z0, -⟩ := cells_at HN4.out 0 _ rfl
  by_cases h6 : tk = 6
  · subst h6
    go_wp2_with fail
    go_ret2
    exact ⟨HB4.out, .inl ⟨HK.out.symm, ao, cap, rfl, HNO.out, HR4.out⟩⟩
  · have h6b : (tk == 6) = false := by simpa using h6
    go_wp2_with fail
    go_ret2
    exact ⟨HB4.out, .inr ⟨by rw [← HK.out]; exact h6, rfl⟩⟩
end Go.Proofs.YtaomakhhkjflaaaDoor
namespace Go.Proofs.YtaomakhhkjflaaaDoor
open Go.ChangeShapes Go.WideShapes Go.ChangeAt Go.RowKit
set_option linter.unusedVariables false
set_option linter.unusedSimpArgs false
set_option maxRecDepth 100000
/-- what making a term of parts comes to, so many nodes counted -/
def mdN : List Tm → Int → Int
  | [], n => if 256 < n then 11 else 0
  | x :: l, n => if checkN x = 30 then 30 else mdN l (n + szT x 0)
theorem chkL_false : ∀ (l : List Tm) (c : Int), chkL l (c, false) = (c, false)
  | [], c => by rw [chkL]
  | t :: l, c => by rw [chkL, if_pos (.inr rfl)]
mutual
theorem chk_sz : ∀ (t : Tm) (c : Int), (chk t (c, true)).2 = true → (chk t (c, true)).1 = szT t c
  | .mk k n s u l, c, h => by
    rw [chk] at h ⊢
    rw [szT]
    simp only [Bool.true_and] at h ⊢
    cases ho : oneB k n s u l.length with
    | false =>
      rw [ho, chkL_false] at h
      cases h
    | true =>
      rw [ho] at h
      exact chkL_sz l (c + 1) h
theorem chkL_sz : ∀ (l : List Tm) (c : Int), (chkL l (c, true)).2 = true → (chkL l (c, true)).1 = szL l c
  | [], c, h => by rw [chkL, szL]
  | t :: l, c, h => by
    rw [chkL] at h ⊢
    rw [szL]
    by_cases hc : 256 < c
    · rw [if_pos (.inl hc), if_pos hc]
    · have hn : ¬ (256 < (c, true).1 ∨ (c, true).2 = false) := by simp; omega
      rw [if_neg hn] at h ⊢
      rw [if_neg hc]
      cases ho : (chk t (c, true)).2 with
      | false =>
        have e : chk t (c, true) = ((chk t (c, true)).1, false) := Prod.ext rfl ho
        rw [e, chkL_false] at h
        cases h
      | true =>
        have e : chk t (c, true) = (szT t c, true) := Prod.ext (chk_sz t c ho) ho
        rw [e] at h ⊢
        exact chkL_sz l _ h
end
theorem size_ok {x : Tm} (h : checkN x ≠ 30) (hs : szT x 0 ≤ 256) : okT x ∧ nT x ≤ 256 := by
  apply check_ok
  unfold checkN at h ⊢
  cases ho : (chk x (0, true)).2 with
  | false => rw [ho] at h; simp at h
  | true =>
    rw [if_neg (by simp), chk_sz x 0 ho, if_neg (by omega)]
theorem md_le : ∀ (l : List Tm) (n : Int), mdN l n = 0 → n ≤ 256
  | [], n, h => by
    rw [mdN] at h
    split at h
    · cases h
    · omega
  | x :: l, n, h => by
    rw [mdN] at h
    split at h
    · cases h
    · have := md_le l _ h
      have := szT_le x 0 (by omega) (by omega)
      omega
theorem md_ok : ∀ (l : List Tm) (n : Int), 1 ≤ n → mdN l n = 0 → okL l ∧ n + nL l ≤ 256
  | [], n, h1, h => by
    have := md_le [] n h
    rw [okL, nL]
    exact ⟨trivial, by omega⟩
  | x :: l, n, h1, h => by
    rw [mdN] at h
    split at h
    · cases h
    · rename_i hx
      have h2 := md_le l _ h
      have h3 := szT_le x 0 (by omega) (by omega)
      obtain ⟨h4, h5⟩ := size_ok hx (by omega)
      rw [ok_size h5] at h
      obtain ⟨h6, h7⟩ := md_ok l _ (by omega) h
      rw [okL, nL]
      exact ⟨⟨h4, h6⟩, by omega⟩
theorem md_of : ∀ (l : List Tm) (n : Int), okL l → n + nL l ≤ 256 → 1 ≤ n → mdN l n = 0
  | [], n, _, h, _ => by
    rw [nL] at h
    rw [mdN, if_neg (by omega)]
  | x :: l, n, h1, h, h2 => by
    rw [okL] at h1
    rw [nL] at h
    have h3 : nT x ≤ 256 := by omega
    rw [mdN, if_neg (by rw [ok_check h1.1 h3]; decide), ok_size h3]
    exact md_of l _ h1.2 (by omega) (by omega)
/-- a row's elements, one by one -/
theorem row_tes {S : Nat → Prop} {F : Nat} {w : World} {ao : Option Addr} {n cap : Nat} {L : List Tm} (h : RowS S F w (.slice ao n cap) L) :
    ∃ E : List TE, E.map TE.t = L ∧ (∀ x ∈ E, fields x.k x.n x.s x.u ∧ RowS S F w x.lv x.l) ∧ ∀ ad, ao = some ad → ∀ (j : Nat) (u : Value), (tcs E)[j]? = some u → w.cell? (ad.add j) = some u := by
  have key : ∀ m, m ≤ L.length → ∃ E : List TE, E.map TE.t = L.take m ∧ (∀ x ∈ E, fields x.k x.n x.s x.u ∧ RowS S F w x.lv x.l) ∧ ∀ b off, ao = some ⟨b, off, none⟩ → ∀ (j : Nat) (u : Value), (tcs E)[j]? = some u → w.cell? ⟨b, off + j, none⟩ = some u := by
    intro m
    induction m with
    | zero => exact fun _ => ⟨[], by simp, (fun x hx => by cases hx), fun b off _ j u hj => by simp [tcs] at hj⟩
    | succ m ih =>
      intro hm
      obtain ⟨E, e1, e2, e3⟩ := ih (by omega)
      obtain ⟨t, ht⟩ : ∃ t, L[m]? = some t := ⟨L[m]'(by omega), List.getElem?_eq_getElem _⟩
      obtain ⟨b, off, te, rfl, hte, hf, hr, c0, c1, c2, c3, c4⟩ := row_elem h ht
      have hEl : E.length = m := by
        have := congrArg List.length e1
        rw [List.length_map, List.length_take] at this
        omega
      refine ⟨E ++ [te], by rw [List.map_append, e1, List.take_add_one, ht]; simp [hte], fun x hx => ?_, fun b' off' e j u hj => ?_⟩
      · rw [List.mem_append, List.mem_singleton] at hx
        rcases hx with hx | rfl
        · exact e2 x hx
        · exact ⟨hf, hr⟩
      · simp only [Option.some.injEq, Addr.mk.injEq] at e
        obtain ⟨rfl, rfl, -⟩ := e
        rw [tcs_snoc] at hj
        have hlen := tcs_len E
        by_cases hlt : j < E.length * 5
        · rw [List.getElem?_append_left (by omega)] at hj
          exact e3 _ _ rfl j u hj
        · rw [List.getElem?_append_right (by omega), hlen, hEl] at hj
          obtain ⟨q, rfl⟩ : ∃ q, j = m * 5 + q := ⟨j - m * 5, by omega⟩
          rw [show m * 5 + q - m * 5 = q from by omega] at hj
          rw [← Nat.add_assoc]
          match q, hj with
          | 0, hj => simp [TE.cells] at hj; subst hj; exact c0
          | 1, hj => simp [TE.cells] at hj; subst hj; exact c1
          | 2, hj => simp [TE.cells] at hj; subst hj; exact c2
          | 3, hj => simp [TE.cells] at hj; subst hj; exact c3
          | 4, hj => simp [TE.cells] at hj; subst hj; exact c4
          | q + 5, hj => simp [TE.cells] at hj
  obtain ⟨E, e1, e2, e3⟩ := key L.length (Nat.le_refl _)
  rw [List.take_length] at e1
  refine ⟨E, e1, e2, fun ad e j u hj => ?_⟩
  cases L with
  | nil =>
    have : E = [] := by simpa using e1
    subst this
    simp [tcs] at hj
  | cons a L =>
    obtain ⟨b, off, te, q, -⟩ := row_elem h (i := 0) rfl
    rw [e] at q
    obtain rfl := Option.some.inj q
    rw [Addr.add_lit]
    exact e3 _ _ e j u hj
theorem tcs_one (E : List TE) : ∀ u ∈ tcs E, u.oneCell' = true := fun u hu => by
  simp only [tcs, List.mem_flatMap, TE.cells] at hu
  obtain ⟨x, -, hx⟩ := hu
  simp only [List.mem_cons, List.not_mem_nil, or_false] at hx
  rcases hx with rfl | rfl | rfl | rfl | rfl <;> rfl
theorem te_row {S : Nat → Prop} {F : Nat} {w : World} {te : TE} {t : Tm} (ht : te.t = t) (hf : fields te.k te.n te.s te.u) (hr : RowS S F w te.lv te.l) : TermV F w (.agg te.cells.toArray) t := by
  subst ht
  exact ⟨hf, _, rfl, hr.row⟩
/-- what made answers -/
def MdP (S : Nat → Prop) (W : World) (F : Nat) (k : Int) (L : List Tm) (e : Ending) (W' : World) : Prop :=
  Below W.heap.size W W' ∧ ((mdN L 1 = 0 ∧ ∃ (ao : Option Addr) (cap : Nat), e = .returned (.tuple #[.agg #[.int .i8 k, .int .i64 0, .string ⟨#[]⟩, .string ⟨#[]⟩, .slice ao L.length cap], .int .i64 0]) ∧ RowS (fun k => S k ∨ W.heap.size < k) (F + 1) W' (.slice ao L.length cap) L) ∨
    (mdN L 1 ≠ 0 ∧ e = .returned (.tuple #[.agg zT, .int .i64 (mdN L 1)])))
/-- where made stands -/
structure MdI (W : World) (L : List Tm) (i : Nat) (m : Int) (wx : World) : Prop where
  hb : Below W.heap.size W wx
  hX : wx.heap[W.heap.size]? = some (.cells zT 25 (0, 0))
  he : mdN (L.drop i) m = mdN L 1
theorem MdI.keep {W : World} {L : List Tm} {i : Nat} {m : Int} {wx wy : World} (h : MdI W L i m wx) (hb : Below wx.heap.size wx wy) : MdI W L i m wy := ⟨h.hb.trans (hb.mono h.hb.size), keep_heap h.hX hb, h.he⟩
set_option maxHeartbeats 8000000 in
theorem made_any (S : Nat → Prop) (F : Nat) (k : Int) (L : List Tm) (ao : Option Addr) (cap : Nat) (W : World) (hSW : ∀ k, S k → k < W.heap.size) (hc : Cells W 0 letL) (hr : RowS S F W (.slice ao L.length cap) L) (hno : ao = none → cap = 0) (hlen : L.length ≤ 4000) :
    Calls Tryd.prog 25 #[.int .i8 k, .slice ao L.length cap] W (MdP S W F k L) := by
  have hb1 := (Below.refl W.heap.size W).alloc (Nat.le_refl _) (.cells zT 25)
  have HI0 : Hid (MdI W L 0 1 (W.alloc (.cells zT 25))) := Lib.hid ⟨hb1, heap_new W _, rfl⟩
  have HR := Lib.hid hr
  have HC := Lib.hid hc
  have HNO := Lib.hid hno
  clear hb1 hr hc hno
  go_enter Tryd.func25, Tryd.ntmps25
  go_wp2_with fail
  go_loopw [6, 12] (fun nv iv wr => ∃ (i : Nat) (m : Int), i ≤ L.length ∧ iv = .int .i64 i ∧ nv = .int .i64 m ∧ 1 ≤ m ∧ m ≤ 1 + 257 * (i : Int) ∧ Hid (MdI W L i m wr)) (fun _ iv _ => L.length - (intOf iv).toNat)
  case atStart => exact ⟨0, 1, by omega, rfl, rfl, by omega, by omega, HI0⟩
  case round =>
    clear HI0
    obtain ⟨i, m, hi, rfl, rfl, hm0, hm1, HI⟩ := hrel
    by_cases hlt : i < L.length
    · obtain ⟨x, hxi⟩ : ∃ x, L[i]? = some x := ⟨L[i], by simp [hlt]⟩
      have hra : RowS S F wr (.slice ao L.length cap) L := HR.out.chg (chg_of_below HI.out.hb (fun _ => False)) (fun _ _ _ h => h) (fun _ h _ => h) (Nat.le_refl _)
      obtain ⟨b', off, te, rfl, hte, hfe, hre, c0, c1, c2, c3, c4⟩ := row_elem hra hxi
      have hx : TermV F wr (.agg te.cells.toArray) x := by
        subst hte
        exact ⟨hfe, _, rfl, hre.row⟩
      obtain ⟨gk, gn, gs, gu, gao, gcap, gl⟩ := te
      have hbn := (Below.refl wr.heap.size wr).alloc (Nat.le_refl _) (.cells #[.int .i8 gk, .int .i64 gn, .string gs, .string gu, .slice gao gl.length gcap] 25)
      have H1 := Lib.hid (HI.out.keep hbn)
      have HG1 := Lib.hid (heap_new wr (.cells #[.int .i8 gk, .int .i64 gn, .string gs, .string gu, .slice gao gl.length gcap] 25))
      have HXT : Hid (∀ w, Below wr.heap.size wr w → TermV F w (.agg #[.int .i8 gk, .int .i64 gn, .string gs, .string gu, .slice gao gl.length gcap]) x) := Lib.hid fun w h => hx.keep h
      have HBN := Lib.hid hbn
      have hdr := HI.out.he
      rw [drop_cons hxi, mdN] at hdr
      have HDR := Lib.hid hdr
      have hsz := szT_le x 0 (by omega) (by omega)
      clear hra hte hfe hre hxi hx hbn hdr
      simp only [TE.lv] at c0 c1 c2 c3 c4
      go_wp2_with (with_reducible refine stop_op (o := ⟨_, .store 25 (.tmp 8) (.tmp 15), _, _, _, _⟩) ?_)
      refine Lib.hid ?_
      refine wpList_store_new (o := ⟨none, _, _, _, _, _⟩) rfl 25 (.tmp 8) (.tmp 15) rfl #[.int .i8 gk, .int .i64 gn, .string gs, .string gu, .slice gao gl.length gcap] rfl rfl (infoTM' _ rfl) rfl (by simp [Value.oneCell']) ?_
      clear c0 c1 c2 c3 c4
      generalize wr.alloc (.cells #[.int .i8 gk, .int .i64 gn, .string gs, .string gu, .slice gao gl.length gcap] 25) = W1 at *
      obtain ⟨y0, -⟩ := cells_at HG1.out 0 _ rfl
      obtain ⟨y1, -⟩ := cells_at HG1.out 1 _ rfl
      obtain ⟨y2, -⟩ := cells_at HG1.out 2 _ rfl
      obtain ⟨y3, -⟩ := cells_at HG1.out 3 _ rfl
      obtain ⟨y4, -⟩ := cells_at HG1.out 4 _ rfl
      have hcx := check_any F x _ W1 (cells_chg HC.out (chg_of_below H1.out.hb (fun _ => False)) (fun e => e)) (HXT.out _ HBN.out)
      go_wp2_with fail
      refine hcx.mono ?_
      rintro e w2 ⟨rfl, hb2⟩
      have H2 := Lib.hid (H1.out.keep hb2)
      have HG2 := Lib.hid (keep_heap HG1.out hb2)
      have HB2 := Lib.hid (HBN.out.trans (hb2.mono HBN.out.size))
      clear y0 y1 y2 y3 y4 hcx hb2 H1 HG1 HBN HI
      by_cases h30 : checkN x = 30
      · have hfin : mdN L 1 = 30 := by
          have := HDR.out
          rw [if_pos h30] at this
          exact this.symm
        have HFIN := Lib.hid hfin
        rw [h30]
        clear hfin h30
        go_wp2_with (with_reducible refine stop_op (o := ⟨_, .store 25 (.tmp 4) (.tmp 20), _, _, _, _⟩) ?_)
        refine Lib.hid ?_
        refine wpList_store_row (o := ⟨none, _, _, _, _, _⟩) rfl 25 (.tmp 4) (.tmp 20) rfl W.heap.size zT rfl rfl 25 _ H2.out.hX (infoTM' _ rfl) rfl (by simp [zT, Value.oneCell']) ?_
        rw [setRow_self _ _ _ _ _ H2.out.hX]
        go_wp2_with fail
        exact ret_row (u := .int .i64 30) H2.out.hX rfl Tryd.underlying25 rfl (infoTM' _ rfl) rfl rfl ⟨H2.out.hb, .inr ⟨by rw [HFIN.out]; decide, by rw [HFIN.out]⟩⟩
      · have h30b : (checkN x == 30) = false := by simpa using h30
        have hfin : mdN (L.drop (i + 1)) (m + szT x 0) = mdN L 1 := by
          have := HDR.out
          rw [if_neg h30] at this
          exact this
        have H3 : Hid (MdI W L (i + 1) (m + szT x 0) w2) := Lib.hid ⟨H2.out.hb, H2.out.hX, hfin⟩
        obtain ⟨y0, -⟩ := cells_at HG2.out 0 _ rfl
        obtain ⟨y1, -⟩ := cells_at HG2.out 1 _ rfl
        obtain ⟨y2, -⟩ := cells_at HG2.out 2 _ rfl
        obtain ⟨y3, -⟩ := cells_at HG2.out 3 _ rfl
        obtain ⟨y4, -⟩ := cells_at HG2.out 4 _ rfl
        have hsx := psize_any F x _ w2 (HXT.out _ HB2.out)
        have hwr : IntKind.i64.wrap (m + szT x 0) = m + szT x 0 := IntWalk.i64_in _ (by omega)
        clear hfin H2 HDR
        go_wp2_with fail
        refine hsx.mono ?_
        rintro e w3 ⟨rfl, hb3⟩
        have H4 := Lib.hid (H3.out.keep hb3)
        clear y0 y1 y2 y3 y4 hsx hb3 H3
        go_wp2_with fail
        go_roundw
        case rel => exact ⟨i + 1, m + szT x 0, by omega, by go_num, rfl, by omega, by omega, H4⟩
        case measure => simp [intOf]; omega
    · obtain rfl : i = L.length := by omega
      have hfin := HI.out.he
      rw [List.drop_length, mdN] at hfin
      by_cases hbig : 256 < m
      · have hd : decide (256 < m) = true := by simpa using hbig
        rw [if_pos hbig] at hfin
        have HFIN := Lib.hid hfin
        clear hfin
        go_wp2_with (with_reducible refine stop_op (o := ⟨_, .store 25 (.tmp 4) (.tmp 29), _, _, _, _⟩) ?_)
        refine Lib.hid ?_
        refine wpList_store_row (o := ⟨none, _, _, _, _, _⟩) rfl 25 (.tmp 4) (.tmp 29) rfl W.heap.size zT rfl rfl 25 _ HI.out.hX (infoTM' _ rfl) rfl (by simp [zT, Value.oneCell']) ?_
        rw [setRow_self _ _ _ _ _ HI.out.hX]
        go_wp2_with fail
        exact ret_row (u := .int .i64 11) HI.out.hX rfl Tryd.underlying25 rfl (infoTM' _ rfl) rfl rfl ⟨HI.out.hb, .inr ⟨by rw [← HFIN.out]; decide, by rw [← HFIN.out]⟩⟩
      · have hd : decide (256 < m) = false := by simpa using hbig
        rw [if_neg hbig] at hfin
        have HFIN := Lib.hid hfin
        clear hfin
        have hra : RowS S F wr (.slice ao L.length cap) L := HR.out.chg (chg_of_below HI.out.hb (fun _ => False)) (fun _ _ _ h => h) (fun _ h _ => h) (Nat.le_refl _)
        obtain ⟨E, hE, hEr, hEc⟩ := row_tes hra
        have hEl : E.length = L.length := by rw [← hE]; simp
        have hno2 : ao = none → L.length = 0 ∧ cap = 0 := fun e => by
          refine ⟨?_, HNO.out e⟩
          rcases Nat.eq_zero_or_pos L.length with h | h
          · exact h
          · obtain ⟨b, off, te, q, -⟩ := row_elem hra (i := 0) (t := L[0]) (by simp [h])
            rw [e] at q
            cases q
        have HE := Lib.hid (And.intro hE (And.intro hEr (And.intro hEc (And.intro hEl hno2))))
        clear hra hE hEr hEc hEl hno2
        go_wp2_with (at_builtin; refine stop_here ?_)
        refine Lib.hid ?_
        obtain ⟨i0, z0, q1, q2, q3, q4, q5⟩ := infoTM2
        refine wpList_plain rfl fun K hK => ?_
        refine op_append_any (.const (.slice none 0 0)) (.tmp 31) 23 rfl W.heap.size 25 i0 z0 5 72 Tryd.underlying23 q1 q2 q3 q4 q5 (by decide) _ 0 [] rfl (World.ownsRow_nil _ _ _ _) ao L.length cap (tcs E) rfl (by rw [tcs_len, HE.out.2.2.2.1]) HE.out.2.2.2.2 HE.out.2.2.1 (tcs_one E) (by unfold maxLen; omega) (by omega) HI.out.hb.size ?_
        intro v1 w1 hown1 hg1 hwh1
        refine hK _ _ ?_
        rw [List.nil_append, Nat.zero_add] at hown1
        obtain ⟨vo, vc, rfl⟩ := own_slice hown1
        have hb1 : Below wr.heap.size wr w1 := (chg_grown hg1).below (Nat.le_refl _) (fun k h => by cases h)
        have hrow : TRow S F w1 W.heap.size (.slice vo E.length vc) E := by
          refine ⟨by rw [HE.out.2.2.2.1]; exact hown1, fun y hy => ⟨(HE.out.2.1 y hy).1, (HE.out.2.1 y hy).2.chg (chg_of_below hb1 (fun _ => False)) (fun _ _ _ h => h) (fun k hk _ => ⟨hk, fun e => ?_⟩) (Nat.le_refl _)⟩⟩
          have h1 := own_base hown1 k (by rw [← e]; cases vo <;> rfl)
          have hk := hSW k hk
          omega
        have HI1 := Lib.hid (HI.out.keep hb1)
        have hcs := chg_setRow w1 W.heap.size #[.int .i8 k, .int .i64 0, .string ⟨#[]⟩, .string ⟨#[]⟩, .slice vo L.length vc]
        have HX2 := Lib.hid (setRow_heap w1 W.heap.size _ #[.int .i8 k, .int .i64 0, .string ⟨#[]⟩, .string ⟨#[]⟩, .slice vo L.length vc] _ _ HI1.out.hX)
        have HB2 := Lib.hid (HI1.out.hb.trans (hcs.below (B := W.heap.size) HI1.out.hb.size (fun k e => by have e : k = W.heap.size := e; omega)))
        have hgb : ∀ k, (Value.slice vo E.length vc).ownBlock = some k → W.heap.size < k := fun k hk => by
          have e2 : (Value.slice vo L.length vc).ownBlock = (Value.slice vo E.length vc).ownBlock := by cases vo <;> rfl
          have h6 := heap_lt HI.out.hX
          rcases hwh1 with hw | hw
          · rw [e2, hk] at hw
            cases hw
          · rw [e2, hk] at hw
            have h5 := Option.some.inj hw
            omega
        have hrw2 : RowS (fun k => S k ∨ W.heap.size < k) (F + 1) (w1.setRow W.heap.size #[.int .i8 k, .int .i64 0, .string ⟨#[]⟩, .string ⟨#[]⟩, .slice vo L.length vc]) (.slice vo L.length vc) L := by
          have h3 := hrow.rowS (S' := fun k => S k ∨ W.heap.size < k) (fun k hk => .inl hk) (fun k hk => .inr (hgb k hk))
          rw [HE.out.1] at h3
          refine h3.chg (S' := fun k => S k ∨ W.heap.size < k) hcs (fun j hj _ e => ?_) (fun j hj _ => hj) (Nat.le_refl _)
          have e : j = W.heap.size := e
          rcases hj with hj | hj
          · have := hSW j hj
            omega
          · omega
        have HRW := Lib.hid hrw2
        clear hown1 hg1 hwh1 hb1 hrow hgb hcs hrw2
        simp only [Nat.zero_add]
        go_wp2_with (with_reducible refine stop_op (o := ⟨_, .store 25 (.tmp 4) (.tmp 33), _, _, _, _⟩) ?_)
        refine Lib.hid ?_
        refine wpList_store_row (o := ⟨none, _, _, _, _, _⟩) rfl 25 (.tmp 4) (.tmp 33) rfl W.heap.size #[.int .i8 k, .int .i64 0, .string ⟨#[]⟩, .string ⟨#[]⟩, .slice vo L.length vc] rfl rfl 25 _ HI1.out.hX (infoTM' _ rfl) rfl (by simp [Value.oneCell']) ?_
        go_wp2_with fail
        exact ret_row HX2.out rfl Tryd.underlying25 rfl (infoTM' _ rfl) rfl rfl ⟨HB2.out, .inl ⟨HFIN.out.symm, vo, vc, rfl, HRW.out⟩⟩
set_option maxHeartbeats 8000000 in
theorem tuple_any (S : Nat → Prop) (F : Nat) (L : List Tm) (ao : Option Addr) (cap : Nat) (W : World) (hSW : ∀ k, S k → k < W.heap.size) (hc : Cells W 0 letL) (hr : RowS S F W (.slice ao L.length cap) L) (hno : ao = none → cap = 0) (hlen : L.length ≤ 4000) :
    Calls Tryd.prog 13 #[.slice ao L.length cap] W (MdP S W F 5 L) := by
  have hb1 := (Below.refl W.heap.size W).alloc (Nat.le_refl _) (.cells zT 25)
  have hs1 : (W.alloc (.cells zT 25)).heap.size = W.heap.size + 1 := by simp
  have hr1 : RowS S F (W.alloc (.cells zT 25)) (.slice ao L.length cap) L := hr.chg (chg_of_below hb1 (fun _ => False)) (fun _ _ _ h => h) (fun k hk _ => hk) (Nat.le_refl _)
  have HM := Lib.hid (made_any S F 5 L ao cap _ (fun k hk => by have := hSW k hk; omega) (cells_chg hc (chg_of_below hb1 (fun _ => False)) (fun e => e)) hr1 hno hlen)
  have HX1 := Lib.hid (heap_new W (.cells zT 25))
  have HB1 := Lib.hid hb1
  have HS1 := Lib.hid hs1
  clear hb1 hr1 hc hr hs1
  go_enter Tryd.func13, Tryd.ntmps13
  go_wp2_with fail
  generalize W.alloc (.cells zT 25) = W1 at *
  refine HM.out.mono ?_
  rintro e w2 ⟨hb2, ⟨h0, vo, vc, rfl, hrow⟩ | ⟨h0, rfl⟩⟩
  · have HX2 := Lib.hid (keep_heap HX1.out hb2)
    have hcs := chg_setRow w2 W.heap.size #[.int .i8 5, .int .i64 0, .string ⟨#[]⟩, .string ⟨#[]⟩, .slice vo L.length vc]
    have HX3 := Lib.hid (setRow_heap w2 W.heap.size _ #[.int .i8 5, .int .i64 0, .string ⟨#[]⟩, .string ⟨#[]⟩, .slice vo L.length vc] _ _ HX2.out)
    have hB2 := HB1.out.trans (hb2.mono HB1.out.size)
    have hs1 := HS1.out
    have HFIN : Hid (MdP S W F 5 L (.returned (.tuple #[.agg #[.int .i8 5, .int .i64 0, .string ⟨#[]⟩, .string ⟨#[]⟩, .slice vo L.length vc], .int .i64 0])) (w2.setRow W.heap.size #[.int .i8 5, .int .i64 0, .string ⟨#[]⟩, .string ⟨#[]⟩, .slice vo L.length vc])) := Lib.hid
      ⟨hB2.trans (hcs.below (B := W.heap.size) hB2.size (fun k e => by have e : k = W.heap.size := e; omega)), .inl ⟨h0, vo, vc, rfl, hrow.chg hcs (fun j hj _ e => by
        have e : j = W.heap.size := e
        rcases hj with hj | hj
        · have := hSW j hj
          omega
        · omega) (fun j hj _ => by
        rcases hj with hj | hj
        · exact .inl hj
        · exact .inr (by omega)) (Nat.le_refl _)⟩⟩
    clear hcs hB2 hs1 hrow hb2 h0
    go_wp2_with (with_reducible refine stop_op (o := ⟨_, .store 25 (.tmp 2) (.tmp 6), _, _, _, _⟩) ?_)
    refine Lib.hid ?_
    refine wpList_store_row (o := ⟨none, _, _, _, _, _⟩) rfl 25 (.tmp 2) (.tmp 6) rfl W.heap.size #[.int .i8 5, .int .i64 0, .string ⟨#[]⟩, .string ⟨#[]⟩, .slice vo L.length vc] rfl rfl 25 _ HX2.out (infoTM' _ rfl) rfl (by simp [Value.oneCell']) ?_
    go_wp2_with fail
    exact ret_row HX3.out rfl Tryd.underlying25 rfl (infoTM' _ rfl) rfl rfl HFIN.out
  · have HX2 := Lib.hid (keep_heap HX1.out hb2)
    have HFIN : Hid (MdP S W F 5 L (.returned (.tuple #[.agg zT, .int .i64 (mdN L 1)])) w2) := Lib.hid ⟨HB1.out.trans (hb2.mono HB1.out.size), .inr ⟨h0, rfl⟩⟩
    clear hb2 h0
    go_wp2_with (with_reducible refine stop_op (o := ⟨_, .store 25 (.tmp 2) (.tmp 6), _, _, _, _⟩) ?_)
    refine Lib.hid ?_
    refine wpList_store_row (o := ⟨none, _, _, _, _, _⟩) rfl 25 (.tmp 2) (.tmp 6) rfl W.heap.size zT rfl rfl 25 _ HX2.out (infoTM' _ rfl) rfl (by simp [zT, Value.oneCell']) ?_
    rw [setRow_self _ _ _ _ _ HX2.out]
    go_wp2_with fail
    exact ret_row HX2.out rfl Tryd.underlying25 rfl (infoTM' _ rfl) rfl rfl HFIN.out
end Go.Proofs.YtaomakhhkjflaaaDoor
namespace Go.Proofs.YtaomakhhkjflaaaDoor
open Go.ChangeShapes Go.WideShapes Go.ChangeAt Go.RowKit
set_option linter.unusedVariables false
set_option linter.unusedSimpArgs false
set_option maxRecDepth 100000
abbrev nilT : Tm := .mk 6 0 ⟨#[]⟩ ⟨#[]⟩ []
/-- where FromList stands -/
structure FlI (S : Nat → Prop) (W : World) (Y : Nat) (L : List Tm) (j : Nat) (te : TE) (wx : World) : Prop where
  hb : Below W.heap.size W wx
  hX : wx.heap[W.heap.size]? = some (.cells zT 25 (0, 0))
  hY : wx.heap[Y]? = some (.cells te.cells.toArray 25 (0, 0))
  ht : te.t = rebuild (L.drop j) nilT
  hf : fields te.k te.n te.s te.u
  hrs : ∃ G, RowS (fun k => S k ∨ Y < k) G wx te.lv te.l
theorem FlI.keep {S : Nat → Prop} {W : World} {Y : Nat} {L : List Tm} {j : Nat} {te : TE} {wx wy : World} (h : FlI S W Y L j te wx) (hb : Below wx.heap.size wx wy) : FlI S W Y L j te wy :=
  ⟨h.hb.trans (hb.mono h.hb.size), keep_heap h.hX hb, keep_heap h.hY hb, h.ht, h.hf, by
    obtain ⟨G, h1⟩ := h.hrs
    exact ⟨G, h1.chg (chg_of_below hb (fun _ => False)) (fun _ _ _ h => h) (fun _ h _ => h) (Nat.le_refl _)⟩⟩
theorem FlI.put {S : Nat → Prop} {W : World} {Y : Nat} {L : List Tm} {j i : Nat} {te te' : TE} {wx : World} {G : Nat} (h : FlI S W Y L j te wx) (hSW : ∀ k, S k → k < W.heap.size) (hWY : W.heap.size < Y) (ht : te'.t = rebuild (L.drop i) nilT) (hf : fields te'.k te'.n te'.s te'.u) (hr : RowS (fun k => S k ∨ Y < k) G wx te'.lv te'.l) :
    FlI S W Y L i te' (wx.setRow Y te'.cells.toArray) := by
  have hc := chg_setRow wx Y te'.cells.toArray
  exact ⟨h.hb.trans (hc.below (B := W.heap.size) h.hb.size (fun k e => by have e : k = Y := e; omega)), hc.heap h.hX (fun e => by have e : W.heap.size = Y := e; omega), setRow_heap wx Y _ te'.cells.toArray _ _ h.hY, ht, hf, G, hr.chg hc (fun k hk _ e => by
    have e : k = Y := e
    rcases hk with hk | hk
    · have := hSW k hk
      omega
    · omega) (fun _ h _ => h) (Nat.le_refl _)⟩
/-- a list made of parts -/
def FrP (W : World) (L : List Tm) (e : Ending) (W' : World) : Prop :=
  Below W.heap.size W W' ∧ ∃ (te : TE) (G : Nat), e = .returned (.tuple #[.agg te.cells.toArray, .int .i64 0]) ∧ te.t = rebuild L nilT ∧ TermV G W' (.agg te.cells.toArray) te.t
set_option maxHeartbeats 16000000 in
theorem fromlist_any (S : Nat → Prop) (F : Nat) (L : List Tm) (ao : Option Addr) (cap : Nat) (W : World) (hSW : ∀ k, S k → k < W.heap.size) (hc : Cells W 0 letL) (hr : RowS S F W (.slice ao L.length cap) L) (hno : ao = none → cap = 0) (hok : okL L) (hn : 1 + nL L + L.length ≤ 256) :
    Calls Tryd.prog 17 #[.slice ao L.length cap] W (FrP W L) := by
  have hb1 := (Below.refl W.heap.size W).alloc (Nat.le_refl _) (.cells zT 25)
  have hs1 : (W.alloc (.cells zT 25)).heap.size = W.heap.size + 1 := by simp
  have hr1 : RowS S F (W.alloc (.cells zT 25)) (.slice ao L.length cap) L := hr.chg (chg_of_below hb1 (fun _ => False)) (fun _ _ _ h => h) (fun k hk _ => hk) (Nat.le_refl _)
  have HM := Lib.hid (made_any S F 5 L ao cap _ (fun k hk => by have := hSW k hk; omega) (cells_chg hc (chg_of_below hb1 (fun _ => False)) (fun e => e)) hr1 hno (by omega))
  have HX1 := Lib.hid (heap_new W (.cells zT 25))
  have HB1 := Lib.hid hb1
  have HS1 := Lib.hid hs1
  have HC := Lib.hid hc
  have HR := Lib.hid hr
  have HOK := Lib.hid hok
  have hmd := md_of L 1 hok (by omega) (by omega)
  clear hb1 hr1 hc hr hs1 hok
  go_enter Tryd.func17, Tryd.ntmps17
  go_wp2_with fail
  generalize W.alloc (.cells zT 25) = W1 at *
  refine HM.out.mono ?_
  rintro e w2 ⟨hb2, ⟨h0, vo, vc, rfl, hrow⟩ | ⟨h0, rfl⟩⟩
  rotate_left
  · exact absurd hmd h0
  have hb3 := (Below.refl w2.heap.size w2).alloc (Nat.le_refl _) (.cells #[.int .i8 5, .int .i64 0, .string ⟨#[]⟩, .string ⟨#[]⟩, .slice vo L.length vc] 25)
  have HN3 := Lib.hid (heap_new w2 (.cells #[.int .i8 5, .int .i64 0, .string ⟨#[]⟩, .string ⟨#[]⟩, .slice vo L.length vc] 25))
  have hB2 := HB1.out.trans (hb2.mono HB1.out.size)
  have HB3 := Lib.hid (hB2.trans (hb3.mono hB2.size))
  have HX3 := Lib.hid (keep_heap (keep_heap HX1.out hb2) hb3)
  have HTV : Hid (TermV (F + 1) (w2.alloc (.cells #[.int .i8 5, .int .i64 0, .string ⟨#[]⟩, .string ⟨#[]⟩, .slice vo L.length vc] 25)) (.agg #[.int .i8 5, .int .i64 0, .string ⟨#[]⟩, .string ⟨#[]⟩, .slice vo L.length vc]) (.mk 5 0 ⟨#[]⟩ ⟨#[]⟩ L)) := Lib.hid ⟨⟨by simp [Tm.k], by simp [Tm.n], Nat.zero_le _, Nat.zero_le _⟩, _, rfl, (hrow.row).keep hb3⟩
  clear hb2 hrow hb3 hB2 h0 HM HX1 HB1
  go_wp2_with (with_reducible refine stop_op (o := ⟨_, .store 25 (.tmp 4) (.tmp 11), _, _, _, _⟩) ?_)
  refine Lib.hid ?_
  refine wpList_store_new (o := ⟨none, _, _, _, _, _⟩) rfl 25 (.tmp 4) (.tmp 11) rfl #[.int .i8 5, .int .i64 0, .string ⟨#[]⟩, .string ⟨#[]⟩, .slice vo L.length vc] rfl rfl (infoTM' _ rfl) rfl (by simp [Value.oneCell']) ?_
  generalize w2.alloc (.cells #[.int .i8 5, .int .i64 0, .string ⟨#[]⟩, .string ⟨#[]⟩, .slice vo L.length vc] 25) = W3 at *
  obtain ⟨y0, -⟩ := cells_at HN3.out 0 _ rfl
  obtain ⟨y1, -⟩ := cells_at HN3.out 1 _ rfl
  obtain ⟨y2, -⟩ := cells_at HN3.out 2 _ rfl
  obtain ⟨y3, -⟩ := cells_at HN3.out 3 _ rfl
  obtain ⟨y4, -⟩ := cells_at HN3.out 4 _ rfl
  have hsz := psize_any (F + 1) (.mk 5 0 ⟨#[]⟩ ⟨#[]⟩ L) _ W3 HTV.out
  rw [ok_size (by rw [nT]; omega)] at hsz
  have hnt : ((nT (.mk 5 0 ⟨#[]⟩ ⟨#[]⟩ L) : Nat) : Int) = 1 + nL L := by rw [nT]; omega
  rw [hnt] at hsz
  have hw1 : IntKind.i64.wrap (1 + (nL L : Int) + (L.length : Int)) = 1 + (nL L : Int) + (L.length : Int) := IntWalk.i64_in _ (by omega)
  have hw2 : ¬ (256 : Int) < 1 + (nL L : Int) + (L.length : Int) := by omega
  have hw3 : decide ((256 : Int) < 1 + (nL L : Int) + (L.length : Int)) = false := by simpa using hw2
  go_wp2_with fail
  refine hsz.mono ?_
  rintro e w4 ⟨rfl, hb4⟩
  have hb5 := (Below.refl w4.heap.size w4).alloc (Nat.le_refl _) (.cells nilC 25)
  have hB4 := HB3.out.trans (hb4.mono HB3.out.size)
  have hB5 := hB4.trans (hb5.mono hB4.size)
  have HN5 := Lib.hid (heap_new w4 (.cells nilC 25))
  have HX5 := Lib.hid (keep_heap (keep_heap HX3.out hb4) hb5)
  have hx5 := heap_lt (keep_heap HX3.out hb4)
  have HB5 := Lib.hid hB5
  clear y0 y1 y2 y3 y4 hsz hnt hb4 hb5 hB4 hB5 HTV HN3 HX3 HB3
  go_wp2_with (with_reducible refine stop_op (o := ⟨_, .store 25 (.tmp 6) (.tmp 26), _, _, _, _⟩) ?_)
  refine Lib.hid ?_
  refine wpList_store_new (o := ⟨none, _, _, _, _, _⟩) rfl 25 (.tmp 6) (.tmp 26) rfl nilC rfl rfl (infoTM' _ rfl) rfl (by simp [Value.oneCell']) ?_
  have HI0 : Hid (FlI S W w4.heap.size L L.length ⟨6, 0, ⟨#[]⟩, ⟨#[]⟩, none, 0, []⟩ (w4.alloc (.cells nilC 25))) := Lib.hid ⟨HB5.out, HX5.out, HN5.out, by rw [List.drop_length, rebuild]; rfl, ⟨by decide, by decide, by decide, by decide⟩, 0, rowS_nil _ _ _⟩
  generalize w4.alloc (.cells nilC 25) = W5 at *
  generalize w4.heap.size = Y at *
  clear HN5 HX5 HB5
  have hw6 : IntKind.i64.wrap ((L.length : Int) - 1) = (L.length : Int) - 1 := IntWalk.i64_in _ (by omega)
  go_wp2_with fail
  go_loopw [7] (fun iv wr => ∃ (j : Nat) (te : TE), j ≤ L.length ∧ iv = .int .i64 ((j : Int) - 1) ∧ Hid (FlI S W Y L j te wr)) (fun iv _ => (intOf iv + 1).toNat)
  case atStart => exact ⟨L.length, _, Nat.le_refl _, rfl, HI0⟩
  case round =>
    clear HI0
    obtain ⟨j, te, hj, rfl, HI⟩ := hrel
    by_cases hj0 : 1 ≤ j
    · obtain ⟨m, rfl⟩ : ∃ m, j = m + 1 := ⟨j - 1, by omega⟩
      have e0 : (((m + 1 : Nat) : Int) - 1) = m := by omega
      rw [e0]
      obtain ⟨x, hx⟩ : ∃ x, L[m]? = some x := ⟨L[m]'(by omega), List.getElem?_eq_getElem _⟩
      have hdr := (Below.refl wr.heap.size wr).drew
      have hra : RowS S F wr.drew (.slice ao L.length cap) L := HR.out.chg (chg_of_below (HI.out.hb.trans (hdr.mono HI.out.hb.size)) (fun _ => False)) (fun _ _ _ h => h) (fun _ h _ => h) (Nat.le_refl _)
      obtain ⟨b', off, xe, rfl, hxe, hxf, hxr, c0, c1, c2, c3, c4⟩ := row_elem hra hx
      obtain ⟨xk, xn, xs, xu, xao, xcap, xl⟩ := xe
      obtain ⟨yk, yn, ys, yu, yao, ycap, yl⟩ := te
      have hI2 := HI.out.keep hdr
      have hS : X18 b' (off + m * 5) Y xk xn xs xu (.slice xao xl.length xcap) yk yn ys yu (.slice yao yl.length ycap) wr.drew := by
        have hy := hI2.hY
        exact ⟨c0, c1, c2, c3, c4, (cells_at hy 0 _ rfl).1, (cells_at hy 1 _ rfl).1, (cells_at hy 2 _ rfl).1, (cells_at hy 3 _ rfl).1, (cells_at hy 4 _ rfl).1⟩
      have HI2 := Lib.hid hI2
      have HXE := Lib.hid (And.intro hxe (And.intro hxf hxr))
      have HXL := Lib.hid hx
      have hYl : Hid (Y < wr.drew.heap.size) := Lib.hid (heap_lt hI2.hY)
      have hml : m < L.length := by omega
      clear hra hxe hxf hxr c0 c1 c2 c3 c4 hI2 hdr HI hx e0 hj0
      go_wp2_with fail
      refine region_planZ 7 (X18 b' (off + m * 5) Y xk xn xs xu (.slice xao xl.length xcap) yk yn ys yu (.slice yao yl.length ycap)) [(0, 0), (1, 0), (2, 0), (3, 0), (4, 0), (5, 1), (6, 0), (7, 1)] (by kernel_rfl) (by kernel_rfl) (by kernel_rfl) hS ?_
      generalize wr.drew = WD at *
      iterate 5 (first | (refine planZ_skip rfl ?_ ?_; (focus (rfl)); (try simp only [Act.put, List.setIfInBounds_toArray, List.set_cons_zero, List.set_cons_succ])) | (refine planZ_take (v := ?_) rfl ?_ (fun w hSw => ?_) ?_; rotate_left; (focus (rfl)); (focus (unfold X18 at hSw; (go_simp <;> with_reducible rfl))); (try simp only [Act.put, List.setIfInBounds_toArray, List.set_cons_zero, List.set_cons_succ])))
      have hba := (Below.refl WD.heap.size WD).alloc (Nat.le_refl _) (.cells #[.int .i8 xk, .int .i64 xn, .string xs, .string xu, .slice xao xl.length xcap, .int .i8 yk, .int .i64 yn, .string ys, .string yu, .slice yao yl.length ycap] 25)
      have hSa := hS.keep hba
      refine planZ_run rfl ?_ (fun K hK => ?_)
      focus (rfl)
      go_simp
      refine hK.out _ _ (fun _ => hSa) ?_
      clear hK K
      (try simp only [Act.put, List.setIfInBounds_toArray, List.set_cons_zero, List.set_cons_succ])
      iterate 1 (first | (refine planZ_skip rfl ?_ ?_; (focus (rfl)); (try simp only [Act.put, List.setIfInBounds_toArray, List.set_cons_zero, List.set_cons_succ])) | (refine planZ_take (v := ?_) rfl ?_ (fun w hSw => ?_) ?_; rotate_left; (focus (rfl)); (focus (unfold X18 at hSw; (go_simp <;> with_reducible rfl))); (try simp only [Act.put, List.setIfInBounds_toArray, List.set_cons_zero, List.set_cons_succ])))
      obtain ⟨G, hyr⟩ := HI2.out.hrs
      have hrc := row_cons (S := fun k => S k ∨ Y < k) (x := ⟨xk, xn, xs, xu, xao, xcap, xl⟩) (y := ⟨yk, yn, ys, yu, yao, ycap, yl⟩) (.inr hYl.out) HXE.out.2.1 (HXE.out.2.2.chg (S' := fun k => S k ∨ Y < k) (Chg.refl (fun _ => False) WD) (fun _ _ _ h => h) (fun _ h _ => .inl h) (Nat.le_refl _)) HI2.out.hf hyr
      have hI3 := (HI2.out.keep hba).put (i := m) (te' := ⟨7, 0, ⟨#[]⟩, ⟨#[]⟩, some ⟨WD.heap.size, 0, none⟩, 2, [⟨xk, xn, xs, xu, xao, xcap, xl⟩, ⟨yk, yn, ys, yu, yao, ycap, yl⟩].map TE.t⟩) hSW (by omega) (by
        rw [drop_cons HXL.out, rebuild, ← HI2.out.ht, ← HXE.out.1]
        rfl) ⟨by simp, by simp, Nat.zero_le _, Nat.zero_le _⟩ hrc
      have hY2 := (HI2.out.keep hba).hY
      refine planZ_run rfl ?_ (fun K hK => ?_)
      focus (rfl)
      refine wp_store_row 25 (.tmp 6) (.tmp 40) rfl Y #[.int .i8 7, .int .i64 0, .string ⟨#[]⟩, .string ⟨#[]⟩, .slice (some ⟨WD.heap.size, 0, none⟩) 2 2] rfl rfl 25 _ hY2 (infoTM' _ rfl) (by simp [TE.cells]) (by simp [Value.oneCell']) ?_
      refine hK.out _ _ (fun h => absurd rfl h) ?_
      clear hK K
      (try simp only [Act.put, List.setIfInBounds_toArray, List.set_cons_zero, List.set_cons_succ])
      refine planZ_done ?_
      have HF := Lib.hid hI3
      clear hba hSa hyr hrc hI3 hY2 hS
      go_wp2_with fail
      go_roundw
      case rel => exact ⟨m, _, by omega, rfl, HF⟩
      case measure => simp [intOf]
    · obtain rfl : j = 0 := by omega
      obtain ⟨yk, yn, ys, yu, yao, ycap, yl⟩ := te
      have hcs := chg_setRow wr W.heap.size #[.int .i8 yk, .int .i64 yn, .string ys, .string yu, .slice yao yl.length ycap]
      have HX := Lib.hid (setRow_heap wr W.heap.size _ #[.int .i8 yk, .int .i64 yn, .string ys, .string yu, .slice yao yl.length ycap] _ _ HI.out.hX)
      have HFIN : Hid (FrP W L (.returned (.tuple #[.agg #[.int .i8 yk, .int .i64 yn, .string ys, .string yu, .slice yao yl.length ycap], .int .i64 0])) (wr.setRow W.heap.size #[.int .i8 yk, .int .i64 yn, .string ys, .string yu, .slice yao yl.length ycap])) := Lib.hid (by
        obtain ⟨G, hyr⟩ := HI.out.hrs
        refine ⟨HI.out.hb.trans (hcs.below (B := W.heap.size) HI.out.hb.size (fun k e => by have e : k = W.heap.size := e; omega)), ⟨yk, yn, ys, yu, yao, ycap, yl⟩, G, rfl, HI.out.ht, ?_⟩
        exact te_row rfl HI.out.hf (hyr.chg (S' := fun _ => True) hcs (fun k hk _ e => by
          have e : k = W.heap.size := e
          rcases hk with hk | hk
          · have := hSW k hk
            omega
          · omega) (fun _ _ _ => trivial) (Nat.le_refl _)))
      clear hcs
      go_wp2_with (with_reducible refine stop_op (o := ⟨_, .load 25 (.tmp 6), _, _, _, _⟩) ?_)
      refine Lib.hid ?_
      refine wpList_load_row (o := ⟨_, _, _, _, _, _⟩) rfl 25 (.tmp 6) rfl Y rfl 25 #[.int .i8 yk, .int .i64 yn, .string ys, .string yu, .slice yao yl.length ycap] (0, 0) _ HI.out.hY Tryd.underlying25 rfl (infoTM' _ rfl) ?_
      go_wp2_with (with_reducible refine stop_op (o := ⟨_, .store 25 (.tmp 2) (.tmp 41), _, _, _, _⟩) ?_)
      refine Lib.hid ?_
      refine wpList_store_row (o := ⟨none, _, _, _, _, _⟩) rfl 25 (.tmp 2) (.tmp 41) rfl W.heap.size #[.int .i8 yk, .int .i64 yn, .string ys, .string yu, .slice yao yl.length ycap] rfl rfl 25 zT HI.out.hX (infoTM' _ rfl) rfl (by simp [Value.oneCell']) ?_
      go_wp2_with fail
      exact ret_row HX.out rfl Tryd.underlying25 rfl (infoTM' _ rfl) rfl rfl HFIN.out
end Go.Proofs.YtaomakhhkjflaaaDoor
namespace Go.Proofs.YtaomakhhkjflaaaDoor
open Go.ChangeShapes Go.WideShapes Go.ChangeAt Go.RowKit
set_option linter.unusedVariables false
set_option linter.unusedSimpArgs false
set_option maxRecDepth 100000
/-- where proper stands -/
structure PrI (W : World) (F : Nat) (t d : Tm) (te : TE) (wx : World) : Prop where
  hb : Below W.heap.size W wx
  hX : wx.heap[W.heap.size]? = some (.cells te.cells.toArray 25 (0, 0))
  ht : te.t = d
  hf : fields te.k te.n te.s te.u
  hrs : RowS (fun k => k < W.heap.size) F wx te.lv te.l
  se : spE t = spE d
  ok : okT d
set_option maxHeartbeats 8000000 in
theorem proper_any (F : Nat) (t : Tm) (v : Value) (W : World) (h : TermV F W v t) (hok : okT t) : Calls Tryd.prog 18 #[v] W (IsPost W (decide ((spE t).k = 6))) := by
  obtain ⟨te, rfl, hte, hf, hrs⟩ := h.te
  have hb1 := (Below.refl W.heap.size W).alloc (Nat.le_refl _) (.cells te.cells.toArray 25)
  have HI0 : Hid (PrI W F t t te (W.alloc (.cells te.cells.toArray 25))) := Lib.hid ⟨hb1, heap_new W _, hte, hf, hrs.chg (chg_of_below hb1 (fun _ => False)) (fun _ _ _ h => h) (fun _ h _ => h) (Nat.le_refl _), rfl, hok⟩
  obtain ⟨gk, gn, gs, gu, gao, gcap, gl⟩ := te
  clear hb1 h hte hf hrs hok
  simp only [TE.cells] at HI0 ⊢
  go_enter Tryd.func18, Tryd.ntmps18
  go_wp2_with fail
  go_loopg [] (nT t) (fun g wr => ∃ (d : Tm) (te : TE), nT d ≤ g ∧ Hid (PrI W F t d te wr))
  case atStart => exact ⟨t, _, Nat.le_refl _, HI0⟩
  case round =>
    clear HI0
    obtain ⟨d, te, hg, HI⟩ := hrel
    by_cases h7 : te.k = 7
    · obtain ⟨yk, yn, ys, yu, yao, ycap, yl⟩ := te
      have h7 : yk = 7 := h7
      have hdd : d = .mk yk yn ys yu yl := HI.out.ht.symm
      subst hdd
      obtain ⟨e1, e2, e3, a, b, e4, ha, hb⟩ := okT_cons HI.out.ok h7
      subst e1 e2 e3 e4 h7
      obtain ⟨b', off, te2, hao, hte2, hfe2, hre2, d0, d1, d2, d3, d4⟩ := row_elem (show RowS _ F wr (.slice yao 2 ycap) [a, b] from HI.out.hrs) (i := 1) rfl
      subst hao
      obtain ⟨bk, bn, bs, bu, bao, bcap, bl⟩ := te2
      simp only [Nat.one_mul, TE.lv] at d0 d1 d2 d3 d4
      have x0 : wr.cell? ⟨W.heap.size, 0, none⟩ = some (.int .i8 7) := (cells_at HI.out.hX 0 _ rfl).1
      have x4 : wr.cell? ⟨W.heap.size, 4, none⟩ = some (.slice (some ⟨b', off, none⟩) 2 ycap) := (cells_at HI.out.hX 4 _ rfl).1
      have hcs := chg_setRow wr W.heap.size #[.int .i8 bk, .int .i64 bn, .string bs, .string bu, .slice bao bl.length bcap]
      have HN : Hid (PrI W F t b ⟨bk, bn, bs, bu, bao, bcap, bl⟩ (wr.setRow W.heap.size #[.int .i8 bk, .int .i64 bn, .string bs, .string bu, .slice bao bl.length bcap])) := Lib.hid
        ⟨HI.out.hb.trans (hcs.below (B := W.heap.size) HI.out.hb.size (fun k e => by have e : k = W.heap.size := e; omega)), setRow_heap wr W.heap.size _ #[.int .i8 bk, .int .i64 bn, .string bs, .string bu, .slice bao bl.length bcap] _ _ HI.out.hX, hte2, hfe2, hre2.chg hcs (fun k hk _ e => by have e : k = W.heap.size := e; have hk : k < W.heap.size := hk; omega) (fun _ h _ => h) (Nat.le_refl _), by rw [HI.out.se, sp_step.2], hb⟩
      have hnn : nT (.mk 7 0 ⟨#[]⟩ ⟨#[]⟩ [a, b]) = nT a + nT b + 1 := by rw [nT, nL, nL, nL]; omega
      have hpa := nT_pos a
      have HXX := Lib.hid HI.out.hX
      clear hte2 hfe2 hre2 hcs ha hb
      go_wp2_with (with_reducible refine stop_op (o := ⟨_, .store 25 (.tmp 1) (.tmp 15), _, _, _, _⟩) ?_)
      refine Lib.hid ?_
      refine wpList_store_row (o := ⟨none, _, _, _, _, _⟩) rfl 25 (.tmp 1) (.tmp 15) rfl W.heap.size #[.int .i8 bk, .int .i64 bn, .string bs, .string bu, .slice bao bl.length bcap] rfl rfl 25 _ HXX.out (infoTM' _ rfl) (by simp [TE.cells]) (by simp [Value.oneCell']) ?_
      clear d0 d1 d2 d3 d4 x0 x4 HXX HI
      go_wp2_with fail
      go_roundg (nT b)
      case rel => exact ⟨_, _, Nat.le_refl _, HN⟩
      case measure => omega
    · obtain ⟨yk, yn, ys, yu, yao, ycap, yl⟩ := te
      have h7 : yk ≠ 7 := h7
      have h7b : (yk == 7) = false := by simpa using h7
      have x0 : wr.cell? ⟨W.heap.size, 0, none⟩ = some (.int .i8 yk) := (cells_at HI.out.hX 0 _ rfl).1
      have hdd : d = .mk yk yn ys yu yl := HI.out.ht.symm
      have hst := sp_stop (t := .mk yk yn ys yu yl) h7
      have hke : (spE t).k = yk := by rw [HI.out.se, hdd, hst.2]; rfl
      have HB := Lib.hid HI.out.hb
      have HK := Lib.hid hke
      clear hst hdd hke HI
      go_wp2_with fail
      go_ret
      refine ⟨?_, HB.out⟩
      rw [HK.out]
      rfl
end Go.Proofs.YtaomakhhkjflaaaDoor
namespace Go.Proofs.YtaomakhhkjflaaaDoor
open Go.ChangeShapes Go.WideShapes Go.ChangeAt Go.RowKit
set_option linter.unusedVariables false
theorem lexI_range : ∀ l m : List Int, lexI l m = -1 ∨ lexI l m = 0 ∨ lexI l m = 1
  | [], [] => by simp [lexI]
  | [], _ :: _ => by simp [lexI]
  | _ :: _, [] => by simp [lexI]
  | x :: l, y :: m => by
    rw [lexI]
    split
    · exact lexI_range l m
    · unfold cmpI
      split
      · exact .inl rfl
      · split
        · exact .inr (.inr rfl)
        · exact .inr (.inl rfl)
theorem ord_range (a b : Tm) : ord a b = -1 ∨ ord a b = 0 ∨ ord a b = 1 := by
  rw [ord_lex]
  exact lexI_range _ _
theorem nT_rebuild : ∀ (l : List Tm) (d : Tm), nT (rebuild l d) = nL l + l.length + nT d
  | [], d => by simp [rebuild, nL]
  | a :: l, d => by
    have h : nT (rebuild (a :: l) d) = nT a + nT (rebuild l d) + 1 := by rw [rebuild, nT, nL, nL, nL]; omega
    rw [h, nT_rebuild l d, nL, List.length_cons]
    omega
/-- a proper list that may be -/
theorem list_facts {t : Tm} (hok : okT t) (hn : nT t ≤ 256) (h6 : (spE t).k = 6) : rebuild (spL t) nilT = t ∧ okL (spL t) ∧ 1 + nL (spL t) + (spL t).length ≤ 256 := by
  obtain ⟨h1, -, h3, -, h5, -⟩ := sp_all (nT t) t (Nat.le_refl _) hok
  have hd0 : ∀ d : Tm, okT d → d.k = 6 → d = nilT := fun d h1 h2 => by
    obtain ⟨k, n, s, u, l⟩ := d
    obtain ⟨rfl, rfl, rfl, rfl⟩ := okT_nil h1 h2
    have h2 : k = 6 := h2
    rw [h2]
  have hd := hd0 _ h3 h6
  rw [hd] at h1
  have h7 := nT_rebuild (spL t) nilT
  rw [h1] at h7
  have h8 : nT nilT = 1 := by simp [nT, nL]
  exact ⟨h1, okL_of h5, by omega⟩
theorem spE_other {t : Tm} (h : t.k ≠ 7) : spE t = t := (sp_stop h).2
end Go.Proofs.YtaomakhhkjflaaaDoor
namespace Go.Proofs.YtaomakhhkjflaaaDoor
open Go.ChangeShapes Go.WideShapes Go.ChangeAt Go.RowKit
set_option linter.unusedVariables false
set_option linter.unusedSimpArgs false
set_option maxRecDepth 100000
/-- three terms stand in boxes -/
structure St3 (W : World) (a b c : TE) (wx : World) : Prop where
  hb : Below W.heap.size W wx
  hX : wx.heap[W.heap.size]? = some (.cells a.cells.toArray 25 (0, 0))
  hY : wx.heap[W.heap.size + 1]? = some (.cells b.cells.toArray 25 (0, 0))
  hZ : wx.heap[W.heap.size + 2]? = some (.cells c.cells.toArray 25 (0, 0))
theorem St3.keep {W : World} {a b c : TE} {wx wy : World} (h : St3 W a b c wx) (hb : Below wx.heap.size wx wy) : St3 W a b c wy :=
  ⟨h.hb.trans (hb.mono h.hb.size), keep_heap h.hX hb, keep_heap h.hY hb, keep_heap h.hZ hb⟩
theorem St3.new (W : World) (a b c : TE) : St3 W a b c (((W.alloc (.cells a.cells.toArray 25)).alloc (.cells b.cells.toArray 25)).alloc (.cells c.cells.toArray 25)) := by
  have h1 : (W.alloc (.cells a.cells.toArray 25)).heap.size = W.heap.size + 1 := by simp
  have h3 : ((W.alloc (.cells a.cells.toArray 25)).alloc (.cells b.cells.toArray 25)).heap.size = W.heap.size + 2 := by simp
  have h2 := heap_new (W.alloc (.cells a.cells.toArray 25)) (.cells b.cells.toArray 25)
  have h4 := heap_new ((W.alloc (.cells a.cells.toArray 25)).alloc (.cells b.cells.toArray 25)) (.cells c.cells.toArray 25)
  rw [h1] at h2
  rw [h3] at h4
  exact ⟨(((Below.refl W.heap.size W).alloc (Nat.le_refl _) _).alloc (by simp) _).alloc (by simp; omega) _, heap_old (heap_old (heap_new W _) _) _, heap_old h2 _, h4⟩
theorem St3.see {W : World} {a b c : TE} {wx : World} (h : St3 W a b c wx) : wx.cell? ⟨W.heap.size, 0, none⟩ = some (.int .i8 a.k) ∧ wx.cell? ⟨W.heap.size, 1, none⟩ = some (.int .i64 a.n) ∧ wx.cell? ⟨W.heap.size, 2, none⟩ = some (.string a.s) ∧ wx.cell? ⟨W.heap.size, 3, none⟩ = some (.string a.u) ∧ wx.cell? ⟨W.heap.size, 4, none⟩ = some (.slice a.ao a.l.length a.cap) ∧
    wx.cell? ⟨W.heap.size + 1, 0, none⟩ = some (.int .i8 b.k) ∧ wx.cell? ⟨W.heap.size + 1, 1, none⟩ = some (.int .i64 b.n) ∧ wx.cell? ⟨W.heap.size + 1, 2, none⟩ = some (.string b.s) ∧ wx.cell? ⟨W.heap.size + 1, 3, none⟩ = some (.string b.u) ∧ wx.cell? ⟨W.heap.size + 1, 4, none⟩ = some (.slice b.ao b.l.length b.cap) ∧
    wx.cell? ⟨W.heap.size + 2, 0, none⟩ = some (.int .i8 c.k) ∧ wx.cell? ⟨W.heap.size + 2, 1, none⟩ = some (.int .i64 c.n) ∧ wx.cell? ⟨W.heap.size + 2, 2, none⟩ = some (.string c.s) ∧ wx.cell? ⟨W.heap.size + 2, 3, none⟩ = some (.string c.u) ∧ wx.cell? ⟨W.heap.size + 2, 4, none⟩ = some (.slice c.ao c.l.length c.cap) :=
  ⟨(cells_at h.hX 0 _ rfl).1, (cells_at h.hX 1 _ rfl).1, (cells_at h.hX 2 _ rfl).1, (cells_at h.hX 3 _ rfl).1, (cells_at h.hX 4 _ rfl).1, (cells_at h.hY 0 _ rfl).1, (cells_at h.hY 1 _ rfl).1, (cells_at h.hY 2 _ rfl).1, (cells_at h.hY 3 _ rfl).1, (cells_at h.hY 4 _ rfl).1,
    (cells_at h.hZ 0 _ rfl).1, (cells_at h.hZ 1 _ rfl).1, (cells_at h.hZ 2 _ rfl).1, (cells_at h.hZ 3 _ rfl).1, (cells_at h.hZ 4 _ rfl).1⟩
/-- what a region reads of them -/
def See3 (x : Nat) (ak an : Int) (as' au : ByteArray) (av : Value) (bk bn : Int) (bs bu : ByteArray) (bv : Value) (ck cn : Int) (cs cu : ByteArray) (cv : Value) (wx : World) : Prop := wx.cell? ⟨x, 0, none⟩ = some (.int .i8 ak) ∧ wx.cell? ⟨x, 1, none⟩ = some (.int .i64 an) ∧ wx.cell? ⟨x, 2, none⟩ = some (.string as') ∧ wx.cell? ⟨x, 3, none⟩ = some (.string au) ∧ wx.cell? ⟨x, 4, none⟩ = some av ∧
    wx.cell? ⟨x + 1, 0, none⟩ = some (.int .i8 bk) ∧ wx.cell? ⟨x + 1, 1, none⟩ = some (.int .i64 bn) ∧ wx.cell? ⟨x + 1, 2, none⟩ = some (.string bs) ∧ wx.cell? ⟨x + 1, 3, none⟩ = some (.string bu) ∧ wx.cell? ⟨x + 1, 4, none⟩ = some bv ∧
    wx.cell? ⟨x + 2, 0, none⟩ = some (.int .i8 ck) ∧ wx.cell? ⟨x + 2, 1, none⟩ = some (.int .i64 cn) ∧ wx.cell? ⟨x + 2, 2, none⟩ = some (.string cs) ∧ wx.cell? ⟨x + 2, 3, none⟩ = some (.string cu) ∧ wx.cell? ⟨x + 2, 4, none⟩ = some cv
/-- the seven ways in which three comparisons may fall out -/
def Cases7 (n1 n2 n3 n4 : Int) (q : Bool) : Prop :=
  (n1 = -1 ∧ n2 = 1 ∧ q = false ∧ decide (n3 ≤ 0) = true ∧ decide (0 < n4) = false) ∨ (n1 = -1 ∧ n2 = 1 ∧ q = false ∧ decide (n3 ≤ 0) = false) ∨
  (n1 = 0 ∧ n2 = 0 ∧ q = true ∧ n3 = 0 ∧ n4 = 0) ∨ (n1 = 0 ∧ n2 = 0 ∧ q = true ∧ n3 = -1 ∧ decide (0 < n4) = false) ∨ (n1 = 0 ∧ n2 = 0 ∧ q = true ∧ n3 = 1 ∧ decide (n4 < 0) = false) ∨
  (n1 = 1 ∧ n2 = -1 ∧ q = false ∧ decide (0 ≤ n3) = true ∧ decide (n4 < 0) = false) ∨ (n1 = 1 ∧ n2 = -1 ∧ q = false ∧ decide (0 ≤ n3) = false)
theorem cases7 (a b c : Tm) : Cases7 (ord a b) (ord b a) (ord b c) (ord a c) (eqT a b) := by
  have h2 := ord_neg b a
  have h3 := ord_range b c
  have h5 := @ord_le a b c
  have h6 := @ord_ge a b c
  have hq := eqT_ord a b
  unfold Cases7
  rcases ord_range a b with h | h | h
  · rw [h] at hq h2 h5 h6
    by_cases h7 : ord b c ≤ 0
    · exact .inl ⟨h, h2, by rw [hq]; rfl, by simpa using h7, by simpa using h5 (by decide) h7⟩
    · exact .inr (.inl ⟨h, h2, by rw [hq]; rfl, by simpa using h7⟩)
  · rw [h] at hq h2 h5 h6
    rcases h3 with h3 | h3 | h3
    · exact .inr (.inr (.inr (.inl ⟨h, h2, by rw [hq]; rfl, h3, by simpa using h5 (by decide) (by omega)⟩)))
    · exact .inr (.inr (.inl ⟨h, h2, by rw [hq]; rfl, h3, by have := h5 (by decide) (by omega); have := h6 (by decide) (by omega); omega⟩))
    · exact .inr (.inr (.inr (.inr (.inl ⟨h, h2, by rw [hq]; rfl, h3, by simpa using h6 (by decide) (by omega)⟩))))
  · rw [h] at hq h2 h5 h6
    by_cases h7 : 0 ≤ ord b c
    · exact .inr (.inr (.inr (.inr (.inr (.inl ⟨h, h2, by rw [hq]; rfl, by simpa using h7, by simpa using h6 (by decide) h7⟩)))))
    · exact .inr (.inr (.inr (.inr (.inr (.inr ⟨h, h2, by rw [hq]; rfl, by simpa using h7⟩)))))
set_option maxHeartbeats 16000000 in
theorem order_core (f g h : Nat) (a b c : Tm) (v0 v1 v2 : Value) (W : World) (hc : Cells W 0 letL) (ht : Lib.TabIs Tryd.prog W "internal/strconv.uint64pow10" .u64 Lib.pow10Tab) (ha : TermV f W v0 a) (hb : TermV g W v1 b) (hcc : TermV h W v2 c) : Calls Tryd.prog 5 #[v0, v1, v2] W (IsPost W true) := by
  obtain ⟨te, rfl, hta, hfa, hra⟩ := ha.te
  obtain ⟨tf, rfl, htb, hfb, hrb⟩ := hb.te
  obtain ⟨tg, rfl, htc, hfc, hrc⟩ := hcc.te
  have HA0 : ∀ w, Below W.heap.size W w → TermV f w (.agg te.cells.toArray) a := fun w h => ha.keep h
  have HB0 : ∀ w, Below W.heap.size W w → TermV g w (.agg tf.cells.toArray) b := fun w h => hb.keep h
  have HC0 : ∀ w, Below W.heap.size W w → TermV h w (.agg tg.cells.toArray) c := fun w h => hcc.keep h
  have HA := Lib.hid HA0
  have HB := Lib.hid HB0
  have HD := Lib.hid HC0
  have HC := Lib.hid hc
  have HTB := Lib.hid (Lib.tabBelow_of_tabIs ht)
  have H0 := Lib.hid (St3.new W te tf tg)
  have HK : Hid (te.k = a.k) := Lib.hid (by rw [← hta]; rfl)
  clear ha hb hcc hc ht hta htb htc hfa hfb hfc hra hrb hrc HA0 HB0 HC0
  obtain ⟨ak, an, as', au, aao, acap, al⟩ := te
  obtain ⟨bk, bn, bs, bu, bao, bcap, bl⟩ := tf
  obtain ⟨ck, cn, cs, cu, cao, ccap, cl⟩ := tg
  simp only [TE.cells] at *
  go_enter Tryd.func5, Tryd.ntmps5
  have HGR := Lib.hid (great_any f a _ _ (HA.out _ H0.out.hb))
  obtain ⟨x0, x1, x2, x3, x4, y0, y1, y2, y3, y4, z0, z1, z2, z3, z4⟩ := H0.out.see
  dsimp only at x0 x1 x2 x3 x4 y0 y1 y2 y3 y4 z0 z1 z2 z3 z4
  skip
  go_wp2_with fail
  refine HGR.out.mono ?_
  rintro e w1 ⟨rfl, hb1⟩
  clear x0 x1 x2 x3 x4 y0 y1 y2 y3 y4 z0 z1 z2 z3 z4
  have H1 := Lib.hid (H0.out.keep hb1)
  clear HGR hb1 H0
  cases hga : greatB a
  rotate_left
  · skip
    have HWK := Lib.hid (wakes_any _ (cells_chg HC.out (chg_of_below H1.out.hb (fun _ => False)) (fun e => e)) (HTB.out _ H1.out.hb))
    go_wp2_with fail
    refine HWK.out.mono ?_
    rintro e w99 ⟨rfl, hb99⟩
    have HB99 := Lib.hid (H1.out.hb.trans (hb99.mono H1.out.hb.size))
    clear hb99 HWK
    go_wp2_with fail
    go_ret
    exact ⟨rfl, HB99.out⟩
  clear hga
  have HGR := Lib.hid (great_any g b _ _ (HB.out _ H1.out.hb))
  obtain ⟨x0, x1, x2, x3, x4, y0, y1, y2, y3, y4, z0, z1, z2, z3, z4⟩ := H1.out.see
  dsimp only at x0 x1 x2 x3 x4 y0 y1 y2 y3 y4 z0 z1 z2 z3 z4
  skip
  go_wp2_with fail
  refine HGR.out.mono ?_
  rintro e w2 ⟨rfl, hb1⟩
  clear x0 x1 x2 x3 x4 y0 y1 y2 y3 y4 z0 z1 z2 z3 z4
  have H2 := Lib.hid (H1.out.keep hb1)
  clear HGR hb1 H1
  cases hga : greatB b
  rotate_left
  · skip
    have HWK := Lib.hid (wakes_any _ (cells_chg HC.out (chg_of_below H2.out.hb (fun _ => False)) (fun e => e)) (HTB.out _ H2.out.hb))
    go_wp2_with fail
    refine HWK.out.mono ?_
    rintro e w99 ⟨rfl, hb99⟩
    have HB99 := Lib.hid (H2.out.hb.trans (hb99.mono H2.out.hb.size))
    clear hb99 HWK
    go_wp2_with fail
    go_ret
    exact ⟨rfl, HB99.out⟩
  clear hga
  have HGR := Lib.hid (great_any h c _ _ (HD.out _ H2.out.hb))
  obtain ⟨x0, x1, x2, x3, x4, y0, y1, y2, y3, y4, z0, z1, z2, z3, z4⟩ := H2.out.see
  dsimp only at x0 x1 x2 x3 x4 y0 y1 y2 y3 y4 z0 z1 z2 z3 z4
  skip
  go_wp2_with fail
  refine HGR.out.mono ?_
  rintro e w3 ⟨rfl, hb1⟩
  clear x0 x1 x2 x3 x4 y0 y1 y2 y3 y4 z0 z1 z2 z3 z4
  have H3 := Lib.hid (H2.out.keep hb1)
  clear HGR hb1 H2
  cases hga : greatB c
  rotate_left
  · skip
    have HWK := Lib.hid (wakes_any _ (cells_chg HC.out (chg_of_below H3.out.hb (fun _ => False)) (fun e => e)) (HTB.out _ H3.out.hb))
    go_wp2_with fail
    refine HWK.out.mono ?_
    rintro e w99 ⟨rfl, hb99⟩
    have HB99 := Lib.hid (H3.out.hb.trans (hb99.mono H3.out.hb.size))
    clear hb99 HWK
    go_wp2_with fail
    go_ret
    exact ⟨rfl, HB99.out⟩
  clear hga
  have HCK := Lib.hid (check_any f a _ _ (cells_chg HC.out (chg_of_below H3.out.hb (fun _ => False)) (fun e => e)) (HA.out _ H3.out.hb))
  obtain ⟨x0, x1, x2, x3, x4, y0, y1, y2, y3, y4, z0, z1, z2, z3, z4⟩ := H3.out.see
  dsimp only at x0 x1 x2 x3 x4 y0 y1 y2 y3 y4 z0 z1 z2 z3 z4
  go_wp2_with fail
  refine HCK.out.mono ?_
  rintro e w4 ⟨rfl, hb1⟩
  clear x0 x1 x2 x3 x4 y0 y1 y2 y3 y4 z0 z1 z2 z3 z4
  have H4 := Lib.hid (H3.out.keep hb1)
  clear HCK hb1 H3
  by_cases hca : checkN a = 0
  rotate_left
  · have d1 : (checkN a != 0) = true := by simpa using hca
    have HWK := Lib.hid (wakes_any _ (cells_chg HC.out (chg_of_below H4.out.hb (fun _ => False)) (fun e => e)) (HTB.out _ H4.out.hb))
    go_wp2_with fail
    refine HWK.out.mono ?_
    rintro e w99 ⟨rfl, hb99⟩
    have HB99 := Lib.hid (H4.out.hb.trans (hb99.mono H4.out.hb.size))
    clear hb99 HWK
    go_wp2_with fail
    go_ret
    exact ⟨rfl, HB99.out⟩
  rw [hca]
  have HCK := Lib.hid (check_any g b _ _ (cells_chg HC.out (chg_of_below H4.out.hb (fun _ => False)) (fun e => e)) (HB.out _ H4.out.hb))
  obtain ⟨x0, x1, x2, x3, x4, y0, y1, y2, y3, y4, z0, z1, z2, z3, z4⟩ := H4.out.see
  dsimp only at x0 x1 x2 x3 x4 y0 y1 y2 y3 y4 z0 z1 z2 z3 z4
  go_wp2_with fail
  refine HCK.out.mono ?_
  rintro e w5 ⟨rfl, hb1⟩
  clear x0 x1 x2 x3 x4 y0 y1 y2 y3 y4 z0 z1 z2 z3 z4
  have H5 := Lib.hid (H4.out.keep hb1)
  clear HCK hb1 H4
  by_cases hcb : checkN b = 0
  rotate_left
  · have d1 : (checkN b != 0) = true := by simpa using hcb
    have HWK := Lib.hid (wakes_any _ (cells_chg HC.out (chg_of_below H5.out.hb (fun _ => False)) (fun e => e)) (HTB.out _ H5.out.hb))
    go_wp2_with fail
    refine HWK.out.mono ?_
    rintro e w99 ⟨rfl, hb99⟩
    have HB99 := Lib.hid (H5.out.hb.trans (hb99.mono H5.out.hb.size))
    clear hb99 HWK
    go_wp2_with fail
    go_ret
    exact ⟨rfl, HB99.out⟩
  rw [hcb]
  have HCK := Lib.hid (check_any h c _ _ (cells_chg HC.out (chg_of_below H5.out.hb (fun _ => False)) (fun e => e)) (HD.out _ H5.out.hb))
  obtain ⟨x0, x1, x2, x3, x4, y0, y1, y2, y3, y4, z0, z1, z2, z3, z4⟩ := H5.out.see
  dsimp only at x0 x1 x2 x3 x4 y0 y1 y2 y3 y4 z0 z1 z2 z3 z4
  go_wp2_with fail
  refine HCK.out.mono ?_
  rintro e w6 ⟨rfl, hb1⟩
  clear x0 x1 x2 x3 x4 y0 y1 y2 y3 y4 z0 z1 z2 z3 z4
  have H6 := Lib.hid (H5.out.keep hb1)
  clear HCK hb1 H5
  by_cases hcc : checkN c = 0
  rotate_left
  · have d1 : (checkN c != 0) = true := by simpa using hcc
    have HWK := Lib.hid (wakes_any _ (cells_chg HC.out (chg_of_below H6.out.hb (fun _ => False)) (fun e => e)) (HTB.out _ H6.out.hb))
    go_wp2_with fail
    refine HWK.out.mono ?_
    rintro e w99 ⟨rfl, hb99⟩
    have HB99 := Lib.hid (H6.out.hb.trans (hb99.mono H6.out.hb.size))
    clear hb99 HWK
    go_wp2_with fail
    go_ret
    exact ⟨rfl, HB99.out⟩
  rw [hcc]
  have hab : cmpT a b = ord a b := by rw [cmpT, if_pos hca, if_pos hcb]
  have hba : cmpT b a = ord b a := by rw [cmpT, if_pos hcb, if_pos hca]
  have hbc : cmpT b c = ord b c := by rw [cmpT, if_pos hcb, if_pos hcc]
  have hac : cmpT a c = ord a c := by rw [cmpT, if_pos hca, if_pos hcc]
  have H7C := cases7 a b c
  rw [← hab, ← hba, ← hbc, ← hac] at H7C
  have H7C := Lib.hid H7C
  obtain ⟨hoa, hna⟩ := check_ok hca
  have HOK := Lib.hid (And.intro hca (And.intro hoa hna))
  clear hca hcb hcc hab hba hbc hac hoa hna
  go_wp2_with fail
  have hd := (Below.refl w6.heap.size w6).drew
  have H7 := Lib.hid (H6.out.keep hd)
  have hS : See3 W.heap.size ak an as' au (.slice aao al.length acap) bk bn bs bu (.slice bao bl.length bcap) ck cn cs cu (.slice cao cl.length ccap) w6.drew := H7.out.see
  clear hd H6
  refine region_plan (See3 W.heap.size ak an as' au (.slice aao al.length acap) bk bn bs bu (.slice bao bl.length bcap) ck cn cs cu (.slice cao cl.length ccap)) [(0, 0), (1, 0), (3, 0), (4, 0), (6, 0), (7, 0), (9, 0), (10, 0), (2, 1), (5, 1), (8, 1), (11, 1), (12, 0), (13, 0), (14, 0), (15, 0)] (by kernel_rfl) (by kernel_rfl) (by kernel_rfl) hS ?_
  generalize w6.drew = WD at *
  iterate 8 (first | (refine plan_skip rfl ?_ ?_; (focus (rfl)); (try simp only [Act.put, List.setIfInBounds_toArray, List.set_cons_zero, List.set_cons_succ])) | (refine plan_take (v := ?_) rfl ?_ (fun w hSw => ?_) ?_; rotate_left; (focus (rfl)); (focus (unfold See3 at hSw; (go_simp <;> with_reducible rfl))); (try simp only [Act.put, List.setIfInBounds_toArray, List.set_cons_zero, List.set_cons_succ])))
  refine plan_run rfl ?_ (fun K hK => ?_)
  focus (rfl)
  go_simp
  refine (compare_any f g a b _ _ WD (cells_chg HC.out (chg_of_below H7.out.hb (fun _ => False)) (fun e => e)) (HA.out _ H7.out.hb) (HB.out _ H7.out.hb)).mono ?_
  rintro e w8 ⟨rfl, hb11⟩
  have H8 := Lib.hid (H7.out.keep hb11)
  have hS11 : See3 W.heap.size ak an as' au (.slice aao al.length acap) bk bn bs bu (.slice bao bl.length bcap) ck cn cs cu (.slice cao cl.length ccap) w8 := H8.out.see
  refine hK.out _ _ hS11 ?_
  clear hK K 
  (try simp only [Act.put, List.setIfInBounds_toArray, List.set_cons_zero, List.set_cons_succ])
  clear hb11 hS H7
  refine plan_run rfl ?_ (fun K hK => ?_)
  focus (rfl)
  go_simp
  refine (compare_any g f b a _ _ w8 (cells_chg HC.out (chg_of_below H8.out.hb (fun _ => False)) (fun e => e)) (HB.out _ H8.out.hb) (HA.out _ H8.out.hb)).mono ?_
  rintro e w9 ⟨rfl, hb12⟩
  have H9 := Lib.hid (H8.out.keep hb12)
  have hS12 : See3 W.heap.size ak an as' au (.slice aao al.length acap) bk bn bs bu (.slice bao bl.length bcap) ck cn cs cu (.slice cao cl.length ccap) w9 := H9.out.see
  refine hK.out _ _ hS12 ?_
  clear hK K 
  (try simp only [Act.put, List.setIfInBounds_toArray, List.set_cons_zero, List.set_cons_succ])
  clear hb12 hS11 H8
  refine plan_run rfl ?_ (fun K hK => ?_)
  focus (rfl)
  go_simp
  refine (compare_any g h b c _ _ w9 (cells_chg HC.out (chg_of_below H9.out.hb (fun _ => False)) (fun e => e)) (HB.out _ H9.out.hb) (HD.out _ H9.out.hb)).mono ?_
  rintro e w10 ⟨rfl, hb13⟩
  have H10 := Lib.hid (H9.out.keep hb13)
  have hS13 : See3 W.heap.size ak an as' au (.slice aao al.length acap) bk bn bs bu (.slice bao bl.length bcap) ck cn cs cu (.slice cao cl.length ccap) w10 := H10.out.see
  refine hK.out _ _ hS13 ?_
  clear hK K 
  (try simp only [Act.put, List.setIfInBounds_toArray, List.set_cons_zero, List.set_cons_succ])
  clear hb13 hS12 H9
  refine plan_run rfl ?_ (fun K hK => ?_)
  focus (rfl)
  go_simp
  refine (compare_any f h a c _ _ w10 (cells_chg HC.out (chg_of_below H10.out.hb (fun _ => False)) (fun e => e)) (HA.out _ H10.out.hb) (HD.out _ H10.out.hb)).mono ?_
  rintro e w11 ⟨rfl, hb14⟩
  have H11 := Lib.hid (H10.out.keep hb14)
  have hS14 : See3 W.heap.size ak an as' au (.slice aao al.length acap) bk bn bs bu (.slice bao bl.length bcap) ck cn cs cu (.slice cao cl.length ccap) w11 := H11.out.see
  refine hK.out _ _ hS14 ?_
  clear hK K 
  (try simp only [Act.put, List.setIfInBounds_toArray, List.set_cons_zero, List.set_cons_succ])
  clear hb14 hS13 H10
  iterate 4 (first | (refine plan_skip rfl ?_ ?_; (focus (rfl)); (try simp only [Act.put, List.setIfInBounds_toArray, List.set_cons_zero, List.set_cons_succ])) | (refine plan_take (v := ?_) rfl ?_ (fun w hSw => ?_) ?_; rotate_left; (focus (rfl)); (focus (unfold See3 at hSw; (go_simp <;> with_reducible rfl))); (try simp only [Act.put, List.setIfInBounds_toArray, List.set_cons_zero, List.set_cons_succ])))
  refine plan_done ?_
  have HSM := Lib.hid (rsame_any f g a b _ _ w11 (HA.out _ H11.out.hb) (HB.out _ H11.out.hb))
  generalize cmpT a b = n1 at *
  generalize cmpT b a = n2 at *
  generalize cmpT b c = n3 at *
  generalize cmpT a c = n4 at *
  generalize eqT a b = q at *
  have HTX := Lib.hid (fun w hw => text_any f a _ w (cells_chg HC.out (chg_of_below (hw : Below W.heap.size W w) (fun _ => False)) (fun e => e)) (HTB.out _ hw) (HA.out _ hw) HOK.out.1)
  have hlen := tx_len _ _ HOK.out.2.2 HOK.out.2.1
  have hsz : (⟨(tx a).toArray⟩ : ByteArray).size ≤ 1099511627776 := by
    have := HOK.out.2.2
    simp [ByteArray.size]
    omega
  have HRD := Lib.hid (fun w hw => readw_any a HOK.out.2.1 HOK.out.2.2 ⟨(tx a).toArray⟩ hsz rfl w (cells_chg HC.out (chg_of_below (hw : Below W.heap.size W w) (fun _ => False)) (fun e => e)))
  unfold TextP at HTX
  generalize (⟨(tx a).toArray⟩ : ByteArray) = sa at *
  clear hlen
  rcases H7C.out with ⟨rfl, rfl, rfl, d3, d4⟩ | ⟨rfl, rfl, rfl, d3⟩ | ⟨rfl, rfl, rfl, rfl, rfl⟩ | ⟨rfl, rfl, rfl, rfl, d4⟩ | ⟨rfl, rfl, rfl, rfl, d4⟩ | ⟨rfl, rfl, rfl, d3, d4⟩ | ⟨rfl, rfl, rfl, d3⟩
  · skip
    obtain ⟨x0, x1, x2, x3, x4, y0, y1, y2, y3, y4, z0, z1, z2, z3, z4⟩ := H11.out.see
    dsimp only at x0 x1 x2 x3 x4 y0 y1 y2 y3 y4 z0 z1 z2 z3 z4
    go_wp2_with fail
    refine HSM.out.mono ?_
    rintro e w12 ⟨rfl, hb12⟩
    clear x0 x1 x2 x3 x4 y0 y1 y2 y3 y4 z0 z1 z2 z3 z4
    have H12 := Lib.hid (H11.out.keep hb12)
    clear hb12 H11
    have HT12 := HTX.out _ H12.out.hb
    obtain ⟨x0, x1, x2, x3, x4, y0, y1, y2, y3, y4, z0, z1, z2, z3, z4⟩ := H12.out.see
    dsimp only at x0 x1 x2 x3 x4 y0 y1 y2 y3 y4 z0 z1 z2 z3 z4
    go_wp2_with fail
    refine HT12.mono ?_
    rintro e w13 ⟨rfl, hb13⟩
    clear HT12
    clear x0 x1 x2 x3 x4 y0 y1 y2 y3 y4 z0 z1 z2 z3 z4
    have H13 := Lib.hid (H12.out.keep hb13)
    clear hb13 H12
    have HR13 := HRD.out _ H13.out.hb
    go_wp2_with fail
    refine HR13.mono ?_
    rintro e w14 ⟨te, rfl, hte, hfe, hb14, hrs14⟩
    have htv := te_row hte hfe hrs14
    obtain ⟨gk, gn, gs, gu, gao, gcap, gl⟩ := te
    have hb15 := hb14.trans (((Below.refl w14.heap.size w14).alloc (Nat.le_refl _) (.cells #[.int .i8 gk, .int .i64 gn, .string gs, .string gu, .slice gao gl.length gcap] 25)).mono hb14.size)
    have HG15 := Lib.hid (heap_new w14 (.cells #[.int .i8 gk, .int .i64 gn, .string gs, .string gu, .slice gao gl.length gcap] 25))
    have HTV := Lib.hid (htv.keep ((Below.refl w14.heap.size w14).alloc (Nat.le_refl _) (.cells #[.int .i8 gk, .int .i64 gn, .string gs, .string gu, .slice gao gl.length gcap] 25)))
    have H15 := Lib.hid (H13.out.keep hb15)
    clear HR13 hte hfe hb14 hrs14 htv hb15 H13
    simp only [TE.cells] at *
    go_wp2_with (with_reducible refine stop_op (o := ⟨_, .store 25 (.tmp 12) (.tmp 98), _, _, _, _⟩) ?_)
    refine Lib.hid ?_
    refine wpList_store_new (o := ⟨none, _, _, _, _, _⟩) rfl 25 (.tmp 12) (.tmp 98) rfl #[.int .i8 gk, .int .i64 gn, .string gs, .string gu, .slice gao gl.length gcap] rfl rfl (infoTM' _ rfl) rfl (by simp [Value.oneCell']) ?_
    generalize w14.alloc (.cells #[.int .i8 gk, .int .i64 gn, .string gs, .string gu, .slice gao gl.length gcap] 25) = W15 at *
    generalize w14.heap.size = p15 at *
    have hsm2 := rsame_any (nT a) f a a _ _ W15 HTV.out (HA.out _ H15.out.hb)
    rw [eqT_refl] at hsm2
    obtain ⟨u0, -⟩ := cells_at HG15.out 0 _ rfl
    obtain ⟨u1, -⟩ := cells_at HG15.out 1 _ rfl
    obtain ⟨u2, -⟩ := cells_at HG15.out 2 _ rfl
    obtain ⟨u3, -⟩ := cells_at HG15.out 3 _ rfl
    obtain ⟨u4, -⟩ := cells_at HG15.out 4 _ rfl
    obtain ⟨x0, x1, x2, x3, x4, y0, y1, y2, y3, y4, z0, z1, z2, z3, z4⟩ := H15.out.see
    dsimp only at x0 x1 x2 x3 x4 y0 y1 y2 y3 y4 z0 z1 z2 z3 z4
    go_wp2_with fail
    refine hsm2.mono ?_
    rintro e w16 ⟨rfl, hb16⟩
    clear u0 u1 u2 u3 u4 hsm2 HTV HG15
    clear x0 x1 x2 x3 x4 y0 y1 y2 y3 y4 z0 z1 z2 z3 z4
    have H16 := Lib.hid (H15.out.keep hb16)
    clear hb16 H15
    have HL := plist_any f a _ w16 (cells_chg HC.out (chg_of_below H16.out.hb (fun _ => False)) (fun e => e)) (HA.out _ H16.out.hb) HOK.out.1
    obtain ⟨x0, x1, x2, x3, x4, y0, y1, y2, y3, y4, z0, z1, z2, z3, z4⟩ := H16.out.see
    dsimp only at x0 x1 x2 x3 x4 y0 y1 y2 y3 y4 z0 z1 z2 z3 z4
    go_wp2_with fail
    refine HL.mono ?_
    rintro e w17 ⟨hb17, ⟨h6, lo, lc, rfl, hlno, hlrow⟩ | ⟨h6, rfl⟩⟩
    · skip
      clear x0 x1 x2 x3 x4 y0 y1 y2 y3 y4 z0 z1 z2 z3 z4
      have H17 := Lib.hid (H16.out.keep hb17)
      clear hb17 H16
      clear HL
      obtain ⟨hreb, hokl, hnl⟩ := list_facts HOK.out.2.1 HOK.out.2.2 h6
      have HFL := fromlist_any (fun k => k < w17.heap.size) (f + 1) (spL a) lo lc w17 (fun k h => h) (cells_chg HC.out (chg_of_below H17.out.hb (fun _ => False)) (fun e => e)) hlrow.toS hlno hokl hnl
      clear hokl hnl hlrow hlno
      go_wp2_with fail
      refine HFL.mono ?_
      rintro e w18 ⟨hb18, te2, G, rfl, hte2, htv2⟩
      rw [hreb] at hte2
      rw [hte2] at htv2
      obtain ⟨jk, jn, js, ju, jao, jcap, jl⟩ := te2
      have hb19 := hb18.trans (((Below.refl w18.heap.size w18).alloc (Nat.le_refl _) (.cells #[.int .i8 jk, .int .i64 jn, .string js, .string ju, .slice jao jl.length jcap] 25)).mono hb18.size)
      have HG19 := Lib.hid (heap_new w18 (.cells #[.int .i8 jk, .int .i64 jn, .string js, .string ju, .slice jao jl.length jcap] 25))
      have HTV := Lib.hid (htv2.keep ((Below.refl w18.heap.size w18).alloc (Nat.le_refl _) (.cells #[.int .i8 jk, .int .i64 jn, .string js, .string ju, .slice jao jl.length jcap] 25)))
      have H19 := Lib.hid (H17.out.keep hb19)
      clear HFL hb18 hb19 htv2 H17 hte2 hreb
      simp only [TE.cells] at *
      go_wp2_with (with_reducible refine stop_op (o := ⟨_, .store 25 (.tmp 17) (.tmp 124), _, _, _, _⟩) ?_)
      refine Lib.hid ?_
      refine wpList_store_new (o := ⟨none, _, _, _, _, _⟩) rfl 25 (.tmp 17) (.tmp 124) rfl #[.int .i8 jk, .int .i64 jn, .string js, .string ju, .slice jao jl.length jcap] rfl rfl (infoTM' _ rfl) rfl (by simp [Value.oneCell']) ?_
      generalize w18.alloc (.cells #[.int .i8 jk, .int .i64 jn, .string js, .string ju, .slice jao jl.length jcap] 25) = W19 at *
      generalize w18.heap.size = p19 at *
      have hsm2 := rsame_any G f a a _ _ W19 HTV.out (HA.out _ H19.out.hb)
      rw [eqT_refl] at hsm2
      obtain ⟨u0, -⟩ := cells_at HG19.out 0 _ rfl
      obtain ⟨u1, -⟩ := cells_at HG19.out 1 _ rfl
      obtain ⟨u2, -⟩ := cells_at HG19.out 2 _ rfl
      obtain ⟨u3, -⟩ := cells_at HG19.out 3 _ rfl
      obtain ⟨u4, -⟩ := cells_at HG19.out 4 _ rfl
      obtain ⟨x0, x1, x2, x3, x4, y0, y1, y2, y3, y4, z0, z1, z2, z3, z4⟩ := H19.out.see
      dsimp only at x0 x1 x2 x3 x4 y0 y1 y2 y3 y4 z0 z1 z2 z3 z4
      go_wp2_with fail
      refine hsm2.mono ?_
      rintro e w20 ⟨rfl, hb20⟩
      clear u0 u1 u2 u3 u4 hsm2 HTV HG19
      clear x0 x1 x2 x3 x4 y0 y1 y2 y3 y4 z0 z1 z2 z3 z4
      have H20 := Lib.hid (H19.out.keep hb20)
      clear hb20 H19
      obtain ⟨x0, x1, x2, x3, x4, y0, y1, y2, y3, y4, z0, z1, z2, z3, z4⟩ := H20.out.see
      dsimp only at x0 x1 x2 x3 x4 y0 y1 y2 y3 y4 z0 z1 z2 z3 z4
      by_cases hk6 : a.k = 6
      · have e6 : ak = 6 := by rw [HK.out]; exact hk6
        subst e6
        clear h6 hk6
        have HWK := Lib.hid (wakes_any _ (cells_chg HC.out (chg_of_below H20.out.hb (fun _ => False)) (fun e => e)) (HTB.out _ H20.out.hb))
        go_wp2_with fail
        refine HWK.out.mono ?_
        rintro e w99 ⟨rfl, hb99⟩
        have HB99 := Lib.hid (H20.out.hb.trans (hb99.mono H20.out.hb.size))
        clear hb99 HWK
        go_wp2_with fail
        go_ret
        exact ⟨rfl, HB99.out⟩
      · have hk7 : a.k = 7 := by
          by_cases h7 : a.k = 7
          · exact h7
          · rw [spE_other h7] at h6
            exact absurd h6 hk6
        have e7 : ak = 7 := by rw [HK.out]; exact hk7
        subst e7
        have HPR := proper_any f a _ w20 (HA.out _ H20.out.hb) HOK.out.2.1
        rw [decide_eq_true h6] at HPR
        clear h6 hk6 hk7
        go_wp2_with fail
        refine HPR.mono ?_
        rintro e w21 ⟨rfl, hb21⟩
        clear HPR
        clear x0 x1 x2 x3 x4 y0 y1 y2 y3 y4 z0 z1 z2 z3 z4
        have H21 := Lib.hid (H20.out.keep hb21)
        clear hb21 H20
        have HWK := Lib.hid (wakes_any _ (cells_chg HC.out (chg_of_below H21.out.hb (fun _ => False)) (fun e => e)) (HTB.out _ H21.out.hb))
        go_wp2_with fail
        refine HWK.out.mono ?_
        rintro e w99 ⟨rfl, hb99⟩
        have HB99 := Lib.hid (H21.out.hb.trans (hb99.mono H21.out.hb.size))
        clear hb99 HWK
        go_wp2_with fail
        go_ret
        exact ⟨rfl, HB99.out⟩
    · skip
      clear x0 x1 x2 x3 x4 y0 y1 y2 y3 y4 z0 z1 z2 z3 z4
      have H17 := Lib.hid (H16.out.keep hb17)
      clear hb17 H16
      clear HL
      have hk6 : ¬ a.k = 6 := fun h => by
        rw [spE_other (by rw [h]; decide)] at h6
        exact h6 h
      have hk6b : (ak == 6) = false := by
        have := HK.out
        simp only [beq_eq_false_iff_ne, ne_eq]
        omega
      obtain ⟨x0, x1, x2, x3, x4, y0, y1, y2, y3, y4, z0, z1, z2, z3, z4⟩ := H17.out.see
      dsimp only at x0 x1 x2 x3 x4 y0 y1 y2 y3 y4 z0 z1 z2 z3 z4
      by_cases hk7 : a.k = 7
      · have e7 : ak = 7 := by rw [HK.out]; exact hk7
        subst e7
        have HPR := proper_any f a _ w17 (HA.out _ H17.out.hb) HOK.out.2.1
        rw [decide_eq_false h6] at HPR
        clear h6 hk6 hk7 hk6b
        go_wp2_with fail
        refine HPR.mono ?_
        rintro e w21 ⟨rfl, hb21⟩
        clear HPR
        clear x0 x1 x2 x3 x4 y0 y1 y2 y3 y4 z0 z1 z2 z3 z4
        have H21 := Lib.hid (H17.out.keep hb21)
        clear hb21 H17
        have HWK := Lib.hid (wakes_any _ (cells_chg HC.out (chg_of_below H21.out.hb (fun _ => False)) (fun e => e)) (HTB.out _ H21.out.hb))
        go_wp2_with fail
        refine HWK.out.mono ?_
        rintro e w99 ⟨rfl, hb99⟩
        have HB99 := Lib.hid (H21.out.hb.trans (hb99.mono H21.out.hb.size))
        clear hb99 HWK
        go_wp2_with fail
        go_ret
        exact ⟨rfl, HB99.out⟩
      · have hk7b : (ak == 7) = false := by
          have := HK.out
          simp only [beq_eq_false_iff_ne, ne_eq]
          omega
        clear h6 hk6 hk7
        have HWK := Lib.hid (wakes_any _ (cells_chg HC.out (chg_of_below H17.out.hb (fun _ => False)) (fun e => e)) (HTB.out _ H17.out.hb))
        go_wp2_with fail
        refine HWK.out.mono ?_
        rintro e w99 ⟨rfl, hb99⟩
        have HB99 := Lib.hid (H17.out.hb.trans (hb99.mono H17.out.hb.size))
        clear hb99 HWK
        go_wp2_with fail
        go_ret
        exact ⟨rfl, HB99.out⟩
  · skip
    obtain ⟨x0, x1, x2, x3, x4, y0, y1, y2, y3, y4, z0, z1, z2, z3, z4⟩ := H11.out.see
    dsimp only at x0 x1 x2 x3 x4 y0 y1 y2 y3 y4 z0 z1 z2 z3 z4
    go_wp2_with fail
    refine HSM.out.mono ?_
    rintro e w12 ⟨rfl, hb12⟩
    clear x0 x1 x2 x3 x4 y0 y1 y2 y3 y4 z0 z1 z2 z3 z4
    have H12 := Lib.hid (H11.out.keep hb12)
    clear hb12 H11
    have HT12 := HTX.out _ H12.out.hb
    obtain ⟨x0, x1, x2, x3, x4, y0, y1, y2, y3, y4, z0, z1, z2, z3, z4⟩ := H12.out.see
    dsimp only at x0 x1 x2 x3 x4 y0 y1 y2 y3 y4 z0 z1 z2 z3 z4
    go_wp2_with fail
    refine HT12.mono ?_
    rintro e w13 ⟨rfl, hb13⟩
    clear HT12
    clear x0 x1 x2 x3 x4 y0 y1 y2 y3 y4 z0 z1 z2 z3 z4
    have H13 := Lib.hid (H12.out.keep hb13)
    clear hb13 H12
    have HR13 := HRD.out _ H13.out.hb
    go_wp2_with fail
    refine HR13.mono ?_
    rintro e w14 ⟨te, rfl, hte, hfe, hb14, hrs14⟩
    have htv := te_row hte hfe hrs14
    obtain ⟨gk, gn, gs, gu, gao, gcap, gl⟩ := te
    have hb15 := hb14.trans (((Below.refl w14.heap.size w14).alloc (Nat.le_refl _) (.cells #[.int .i8 gk, .int .i64 gn, .string gs, .string gu, .slice gao gl.length gcap] 25)).mono hb14.size)
    have HG15 := Lib.hid (heap_new w14 (.cells #[.int .i8 gk, .int .i64 gn, .string gs, .string gu, .slice gao gl.length gcap] 25))
    have HTV := Lib.hid (htv.keep ((Below.refl w14.heap.size w14).alloc (Nat.le_refl _) (.cells #[.int .i8 gk, .int .i64 gn, .string gs, .string gu, .slice gao gl.length gcap] 25)))
    have H15 := Lib.hid (H13.out.keep hb15)
    clear HR13 hte hfe hb14 hrs14 htv hb15 H13
    simp only [TE.cells] at *
    go_wp2_with (with_reducible refine stop_op (o := ⟨_, .store 25 (.tmp 12) (.tmp 98), _, _, _, _⟩) ?_)
    refine Lib.hid ?_
    refine wpList_store_new (o := ⟨none, _, _, _, _, _⟩) rfl 25 (.tmp 12) (.tmp 98) rfl #[.int .i8 gk, .int .i64 gn, .string gs, .string gu, .slice gao gl.length gcap] rfl rfl (infoTM' _ rfl) rfl (by simp [Value.oneCell']) ?_
    generalize w14.alloc (.cells #[.int .i8 gk, .int .i64 gn, .string gs, .string gu, .slice gao gl.length gcap] 25) = W15 at *
    generalize w14.heap.size = p15 at *
    have hsm2 := rsame_any (nT a) f a a _ _ W15 HTV.out (HA.out _ H15.out.hb)
    rw [eqT_refl] at hsm2
    obtain ⟨u0, -⟩ := cells_at HG15.out 0 _ rfl
    obtain ⟨u1, -⟩ := cells_at HG15.out 1 _ rfl
    obtain ⟨u2, -⟩ := cells_at HG15.out 2 _ rfl
    obtain ⟨u3, -⟩ := cells_at HG15.out 3 _ rfl
    obtain ⟨u4, -⟩ := cells_at HG15.out 4 _ rfl
    obtain ⟨x0, x1, x2, x3, x4, y0, y1, y2, y3, y4, z0, z1, z2, z3, z4⟩ := H15.out.see
    dsimp only at x0 x1 x2 x3 x4 y0 y1 y2 y3 y4 z0 z1 z2 z3 z4
    go_wp2_with fail
    refine hsm2.mono ?_
    rintro e w16 ⟨rfl, hb16⟩
    clear u0 u1 u2 u3 u4 hsm2 HTV HG15
    clear x0 x1 x2 x3 x4 y0 y1 y2 y3 y4 z0 z1 z2 z3 z4
    have H16 := Lib.hid (H15.out.keep hb16)
    clear hb16 H15
    have HL := plist_any f a _ w16 (cells_chg HC.out (chg_of_below H16.out.hb (fun _ => False)) (fun e => e)) (HA.out _ H16.out.hb) HOK.out.1
    obtain ⟨x0, x1, x2, x3, x4, y0, y1, y2, y3, y4, z0, z1, z2, z3, z4⟩ := H16.out.see
    dsimp only at x0 x1 x2 x3 x4 y0 y1 y2 y3 y4 z0 z1 z2 z3 z4
    go_wp2_with fail
    refine HL.mono ?_
    rintro e w17 ⟨hb17, ⟨h6, lo, lc, rfl, hlno, hlrow⟩ | ⟨h6, rfl⟩⟩
    · skip
      clear x0 x1 x2 x3 x4 y0 y1 y2 y3 y4 z0 z1 z2 z3 z4
      have H17 := Lib.hid (H16.out.keep hb17)
      clear hb17 H16
      clear HL
      obtain ⟨hreb, hokl, hnl⟩ := list_facts HOK.out.2.1 HOK.out.2.2 h6
      have HFL := fromlist_any (fun k => k < w17.heap.size) (f + 1) (spL a) lo lc w17 (fun k h => h) (cells_chg HC.out (chg_of_below H17.out.hb (fun _ => False)) (fun e => e)) hlrow.toS hlno hokl hnl
      clear hokl hnl hlrow hlno
      go_wp2_with fail
      refine HFL.mono ?_
      rintro e w18 ⟨hb18, te2, G, rfl, hte2, htv2⟩
      rw [hreb] at hte2
      rw [hte2] at htv2
      obtain ⟨jk, jn, js, ju, jao, jcap, jl⟩ := te2
      have hb19 := hb18.trans (((Below.refl w18.heap.size w18).alloc (Nat.le_refl _) (.cells #[.int .i8 jk, .int .i64 jn, .string js, .string ju, .slice jao jl.length jcap] 25)).mono hb18.size)
      have HG19 := Lib.hid (heap_new w18 (.cells #[.int .i8 jk, .int .i64 jn, .string js, .string ju, .slice jao jl.length jcap] 25))
      have HTV := Lib.hid (htv2.keep ((Below.refl w18.heap.size w18).alloc (Nat.le_refl _) (.cells #[.int .i8 jk, .int .i64 jn, .string js, .string ju, .slice jao jl.length jcap] 25)))
      have H19 := Lib.hid (H17.out.keep hb19)
      clear HFL hb18 hb19 htv2 H17 hte2 hreb
      simp only [TE.cells] at *
      go_wp2_with (with_reducible refine stop_op (o := ⟨_, .store 25 (.tmp 17) (.tmp 124), _, _, _, _⟩) ?_)
      refine Lib.hid ?_
      refine wpList_store_new (o := ⟨none, _, _, _, _, _⟩) rfl 25 (.tmp 17) (.tmp 124) rfl #[.int .i8 jk, .int .i64 jn, .string js, .string ju, .slice jao jl.length jcap] rfl rfl (infoTM' _ rfl) rfl (by simp [Value.oneCell']) ?_
      generalize w18.alloc (.cells #[.int .i8 jk, .int .i64 jn, .string js, .string ju, .slice jao jl.length jcap] 25) = W19 at *
      generalize w18.heap.size = p19 at *
      have hsm2 := rsame_any G f a a _ _ W19 HTV.out (HA.out _ H19.out.hb)
      rw [eqT_refl] at hsm2
      obtain ⟨u0, -⟩ := cells_at HG19.out 0 _ rfl
      obtain ⟨u1, -⟩ := cells_at HG19.out 1 _ rfl
      obtain ⟨u2, -⟩ := cells_at HG19.out 2 _ rfl
      obtain ⟨u3, -⟩ := cells_at HG19.out 3 _ rfl
      obtain ⟨u4, -⟩ := cells_at HG19.out 4 _ rfl
      obtain ⟨x0, x1, x2, x3, x4, y0, y1, y2, y3, y4, z0, z1, z2, z3, z4⟩ := H19.out.see
      dsimp only at x0 x1 x2 x3 x4 y0 y1 y2 y3 y4 z0 z1 z2 z3 z4
      go_wp2_with fail
      refine hsm2.mono ?_
      rintro e w20 ⟨rfl, hb20⟩
      clear u0 u1 u2 u3 u4 hsm2 HTV HG19
      clear x0 x1 x2 x3 x4 y0 y1 y2 y3 y4 z0 z1 z2 z3 z4
      have H20 := Lib.hid (H19.out.keep hb20)
      clear hb20 H19
      obtain ⟨x0, x1, x2, x3, x4, y0, y1, y2, y3, y4, z0, z1, z2, z3, z4⟩ := H20.out.see
      dsimp only at x0 x1 x2 x3 x4 y0 y1 y2 y3 y4 z0 z1 z2 z3 z4
      by_cases hk6 : a.k = 6
      · have e6 : ak = 6 := by rw [HK.out]; exact hk6
        subst e6
        clear h6 hk6
        have HWK := Lib.hid (wakes_any _ (cells_chg HC.out (chg_of_below H20.out.hb (fun _ => False)) (fun e => e)) (HTB.out _ H20.out.hb))
        go_wp2_with fail
        refine HWK.out.mono ?_
        rintro e w99 ⟨rfl, hb99⟩
        have HB99 := Lib.hid (H20.out.hb.trans (hb99.mono H20.out.hb.size))
        clear hb99 HWK
        go_wp2_with fail
        go_ret
        exact ⟨rfl, HB99.out⟩
      · have hk7 : a.k = 7 := by
          by_cases h7 : a.k = 7
          · exact h7
          · rw [spE_other h7] at h6
            exact absurd h6 hk6
        have e7 : ak = 7 := by rw [HK.out]; exact hk7
        subst e7
        have HPR := proper_any f a _ w20 (HA.out _ H20.out.hb) HOK.out.2.1
        rw [decide_eq_true h6] at HPR
        clear h6 hk6 hk7
        go_wp2_with fail
        refine HPR.mono ?_
        rintro e w21 ⟨rfl, hb21⟩
        clear HPR
        clear x0 x1 x2 x3 x4 y0 y1 y2 y3 y4 z0 z1 z2 z3 z4
        have H21 := Lib.hid (H20.out.keep hb21)
        clear hb21 H20
        have HWK := Lib.hid (wakes_any _ (cells_chg HC.out (chg_of_below H21.out.hb (fun _ => False)) (fun e => e)) (HTB.out _ H21.out.hb))
        go_wp2_with fail
        refine HWK.out.mono ?_
        rintro e w99 ⟨rfl, hb99⟩
        have HB99 := Lib.hid (H21.out.hb.trans (hb99.mono H21.out.hb.size))
        clear hb99 HWK
        go_wp2_with fail
        go_ret
        exact ⟨rfl, HB99.out⟩
    · skip
      clear x0 x1 x2 x3 x4 y0 y1 y2 y3 y4 z0 z1 z2 z3 z4
      have H17 := Lib.hid (H16.out.keep hb17)
      clear hb17 H16
      clear HL
      have hk6 : ¬ a.k = 6 := fun h => by
        rw [spE_other (by rw [h]; decide)] at h6
        exact h6 h
      have hk6b : (ak == 6) = false := by
        have := HK.out
        simp only [beq_eq_false_iff_ne, ne_eq]
        omega
      obtain ⟨x0, x1, x2, x3, x4, y0, y1, y2, y3, y4, z0, z1, z2, z3, z4⟩ := H17.out.see
      dsimp only at x0 x1 x2 x3 x4 y0 y1 y2 y3 y4 z0 z1 z2 z3 z4
      by_cases hk7 : a.k = 7
      · have e7 : ak = 7 := by rw [HK.out]; exact hk7
        subst e7
        have HPR := proper_any f a _ w17 (HA.out _ H17.out.hb) HOK.out.2.1
        rw [decide_eq_false h6] at HPR
        clear h6 hk6 hk7 hk6b
        go_wp2_with fail
        refine HPR.mono ?_
        rintro e w21 ⟨rfl, hb21⟩
        clear HPR
        clear x0 x1 x2 x3 x4 y0 y1 y2 y3 y4 z0 z1 z2 z3 z4
        have H21 := Lib.hid (H17.out.keep hb21)
        clear hb21 H17
        have HWK := Lib.hid (wakes_any _ (cells_chg HC.out (chg_of_below H21.out.hb (fun _ => False)) (fun e => e)) (HTB.out _ H21.out.hb))
        go_wp2_with fail
        refine HWK.out.mono ?_
        rintro e w99 ⟨rfl, hb99⟩
        have HB99 := Lib.hid (H21.out.hb.trans (hb99.mono H21.out.hb.size))
        clear hb99 HWK
        go_wp2_with fail
        go_ret
        exact ⟨rfl, HB99.out⟩
      · have hk7b : (ak == 7) = false := by
          have := HK.out
          simp only [beq_eq_false_iff_ne, ne_eq]
          omega
        clear h6 hk6 hk7
        have HWK := Lib.hid (wakes_any _ (cells_chg HC.out (chg_of_below H17.out.hb (fun _ => False)) (fun e => e)) (HTB.out _ H17.out.hb))
        go_wp2_with fail
        refine HWK.out.mono ?_
        rintro e w99 ⟨rfl, hb99⟩
        have HB99 := Lib.hid (H17.out.hb.trans (hb99.mono H17.out.hb.size))
        clear hb99 HWK
        go_wp2_with fail
        go_ret
        exact ⟨rfl, HB99.out⟩
  · skip
    obtain ⟨x0, x1, x2, x3, x4, y0, y1, y2, y3, y4, z0, z1, z2, z3, z4⟩ := H11.out.see
    dsimp only at x0 x1 x2 x3 x4 y0 y1 y2 y3 y4 z0 z1 z2 z3 z4
    go_wp2_with fail
    refine HSM.out.mono ?_
    rintro e w12 ⟨rfl, hb12⟩
    clear x0 x1 x2 x3 x4 y0 y1 y2 y3 y4 z0 z1 z2 z3 z4
    have H12 := Lib.hid (H11.out.keep hb12)
    clear hb12 H11
    have HT12 := HTX.out _ H12.out.hb
    obtain ⟨x0, x1, x2, x3, x4, y0, y1, y2, y3, y4, z0, z1, z2, z3, z4⟩ := H12.out.see
    dsimp only at x0 x1 x2 x3 x4 y0 y1 y2 y3 y4 z0 z1 z2 z3 z4
    go_wp2_with fail
    refine HT12.mono ?_
    rintro e w13 ⟨rfl, hb13⟩
    clear HT12
    clear x0 x1 x2 x3 x4 y0 y1 y2 y3 y4 z0 z1 z2 z3 z4
    have H13 := Lib.hid (H12.out.keep hb13)
    clear hb13 H12
    have HR13 := HRD.out _ H13.out.hb
    go_wp2_with fail
    refine HR13.mono ?_
    rintro e w14 ⟨te, rfl, hte, hfe, hb14, hrs14⟩
    have htv := te_row hte hfe hrs14
    obtain ⟨gk, gn, gs, gu, gao, gcap, gl⟩ := te
    have hb15 := hb14.trans (((Below.refl w14.heap.size w14).alloc (Nat.le_refl _) (.cells #[.int .i8 gk, .int .i64 gn, .string gs, .string gu, .slice gao gl.length gcap] 25)).mono hb14.size)
    have HG15 := Lib.hid (heap_new w14 (.cells #[.int .i8 gk, .int .i64 gn, .string gs, .string gu, .slice gao gl.length gcap] 25))
    have HTV := Lib.hid (htv.keep ((Below.refl w14.heap.size w14).alloc (Nat.le_refl _) (.cells #[.int .i8 gk, .int .i64 gn, .string gs, .string gu, .slice gao gl.length gcap] 25)))
    have H15 := Lib.hid (H13.out.keep hb15)
    clear HR13 hte hfe hb14 hrs14 htv hb15 H13
    simp only [TE.cells] at *
    go_wp2_with (with_reducible refine stop_op (o := ⟨_, .store 25 (.tmp 12) (.tmp 98), _, _, _, _⟩) ?_)
    refine Lib.hid ?_
    refine wpList_store_new (o := ⟨none, _, _, _, _, _⟩) rfl 25 (.tmp 12) (.tmp 98) rfl #[.int .i8 gk, .int .i64 gn, .string gs, .string gu, .slice gao gl.length gcap] rfl rfl (infoTM' _ rfl) rfl (by simp [Value.oneCell']) ?_
    generalize w14.alloc (.cells #[.int .i8 gk, .int .i64 gn, .string gs, .string gu, .slice gao gl.length gcap] 25) = W15 at *
    generalize w14.heap.size = p15 at *
    have hsm2 := rsame_any (nT a) f a a _ _ W15 HTV.out (HA.out _ H15.out.hb)
    rw [eqT_refl] at hsm2
    obtain ⟨u0, -⟩ := cells_at HG15.out 0 _ rfl
    obtain ⟨u1, -⟩ := cells_at HG15.out 1 _ rfl
    obtain ⟨u2, -⟩ := cells_at HG15.out 2 _ rfl
    obtain ⟨u3, -⟩ := cells_at HG15.out 3 _ rfl
    obtain ⟨u4, -⟩ := cells_at HG15.out 4 _ rfl
    obtain ⟨x0, x1, x2, x3, x4, y0, y1, y2, y3, y4, z0, z1, z2, z3, z4⟩ := H15.out.see
    dsimp only at x0 x1 x2 x3 x4 y0 y1 y2 y3 y4 z0 z1 z2 z3 z4
    go_wp2_with fail
    refine hsm2.mono ?_
    rintro e w16 ⟨rfl, hb16⟩
    clear u0 u1 u2 u3 u4 hsm2 HTV HG15
    clear x0 x1 x2 x3 x4 y0 y1 y2 y3 y4 z0 z1 z2 z3 z4
    have H16 := Lib.hid (H15.out.keep hb16)
    clear hb16 H15
    have HL := plist_any f a _ w16 (cells_chg HC.out (chg_of_below H16.out.hb (fun _ => False)) (fun e => e)) (HA.out _ H16.out.hb) HOK.out.1
    obtain ⟨x0, x1, x2, x3, x4, y0, y1, y2, y3, y4, z0, z1, z2, z3, z4⟩ := H16.out.see
    dsimp only at x0 x1 x2 x3 x4 y0 y1 y2 y3 y4 z0 z1 z2 z3 z4
    go_wp2_with fail
    refine HL.mono ?_
    rintro e w17 ⟨hb17, ⟨h6, lo, lc, rfl, hlno, hlrow⟩ | ⟨h6, rfl⟩⟩
    · skip
      clear x0 x1 x2 x3 x4 y0 y1 y2 y3 y4 z0 z1 z2 z3 z4
      have H17 := Lib.hid (H16.out.keep hb17)
      clear hb17 H16
      clear HL
      obtain ⟨hreb, hokl, hnl⟩ := list_facts HOK.out.2.1 HOK.out.2.2 h6
      have HFL := fromlist_any (fun k => k < w17.heap.size) (f + 1) (spL a) lo lc w17 (fun k h => h) (cells_chg HC.out (chg_of_below H17.out.hb (fun _ => False)) (fun e => e)) hlrow.toS hlno hokl hnl
      clear hokl hnl hlrow hlno
      go_wp2_with fail
      refine HFL.mono ?_
      rintro e w18 ⟨hb18, te2, G, rfl, hte2, htv2⟩
      rw [hreb] at hte2
      rw [hte2] at htv2
      obtain ⟨jk, jn, js, ju, jao, jcap, jl⟩ := te2
      have hb19 := hb18.trans (((Below.refl w18.heap.size w18).alloc (Nat.le_refl _) (.cells #[.int .i8 jk, .int .i64 jn, .string js, .string ju, .slice jao jl.length jcap] 25)).mono hb18.size)
      have HG19 := Lib.hid (heap_new w18 (.cells #[.int .i8 jk, .int .i64 jn, .string js, .string ju, .slice jao jl.length jcap] 25))
      have HTV := Lib.hid (htv2.keep ((Below.refl w18.heap.size w18).alloc (Nat.le_refl _) (.cells #[.int .i8 jk, .int .i64 jn, .string js, .string ju, .slice jao jl.length jcap] 25)))
      have H19 := Lib.hid (H17.out.keep hb19)
      clear HFL hb18 hb19 htv2 H17 hte2 hreb
      simp only [TE.cells] at *
      go_wp2_with (with_reducible refine stop_op (o := ⟨_, .store 25 (.tmp 17) (.tmp 124), _, _, _, _⟩) ?_)
      refine Lib.hid ?_
      refine wpList_store_new (o := ⟨none, _, _, _, _, _⟩) rfl 25 (.tmp 17) (.tmp 124) rfl #[.int .i8 jk, .int .i64 jn, .string js, .string ju, .slice jao jl.length jcap] rfl rfl (infoTM' _ rfl) rfl (by simp [Value.oneCell']) ?_
      generalize w18.alloc (.cells #[.int .i8 jk, .int .i64 jn, .string js, .string ju, .slice jao jl.length jcap] 25) = W19 at *
      generalize w18.heap.size = p19 at *
      have hsm2 := rsame_any G f a a _ _ W19 HTV.out (HA.out _ H19.out.hb)
      rw [eqT_refl] at hsm2
      obtain ⟨u0, -⟩ := cells_at HG19.out 0 _ rfl
      obtain ⟨u1, -⟩ := cells_at HG19.out 1 _ rfl
      obtain ⟨u2, -⟩ := cells_at HG19.out 2 _ rfl
      obtain ⟨u3, -⟩ := cells_at HG19.out 3 _ rfl
      obtain ⟨u4, -⟩ := cells_at HG19.out 4 _ rfl
      obtain ⟨x0, x1, x2, x3, x4, y0, y1, y2, y3, y4, z0, z1, z2, z3, z4⟩ := H19.out.see
      dsimp only at x0 x1 x2 x3 x4 y0 y1 y2 y3 y4 z0 z1 z2 z3 z4
      go_wp2_with fail
      refine hsm2.mono ?_
      rintro e w20 ⟨rfl, hb20⟩
      clear u0 u1 u2 u3 u4 hsm2 HTV HG19
      clear x0 x1 x2 x3 x4 y0 y1 y2 y3 y4 z0 z1 z2 z3 z4
      have H20 := Lib.hid (H19.out.keep hb20)
      clear hb20 H19
      obtain ⟨x0, x1, x2, x3, x4, y0, y1, y2, y3, y4, z0, z1, z2, z3, z4⟩ := H20.out.see
      dsimp only at x0 x1 x2 x3 x4 y0 y1 y2 y3 y4 z0 z1 z2 z3 z4
      by_cases hk6 : a.k = 6
      · have e6 : ak = 6 := by rw [HK.out]; exact hk6
        subst e6
        clear h6 hk6
        have HWK := Lib.hid (wakes_any _ (cells_chg HC.out (chg_of_below H20.out.hb (fun _ => False)) (fun e => e)) (HTB.out _ H20.out.hb))
        go_wp2_with fail
        refine HWK.out.mono ?_
        rintro e w99 ⟨rfl, hb99⟩
        have HB99 := Lib.hid (H20.out.hb.trans (hb99.mono H20.out.hb.size))
        clear hb99 HWK
        go_wp2_with fail
        go_ret
        exact ⟨rfl, HB99.out⟩
      · have hk7 : a.k = 7 := by
          by_cases h7 : a.k = 7
          · exact h7
          · rw [spE_other h7] at h6
            exact absurd h6 hk6
        have e7 : ak = 7 := by rw [HK.out]; exact hk7
        subst e7
        have HPR := proper_any f a _ w20 (HA.out _ H20.out.hb) HOK.out.2.1
        rw [decide_eq_true h6] at HPR
        clear h6 hk6 hk7
        go_wp2_with fail
        refine HPR.mono ?_
        rintro e w21 ⟨rfl, hb21⟩
        clear HPR
        clear x0 x1 x2 x3 x4 y0 y1 y2 y3 y4 z0 z1 z2 z3 z4
        have H21 := Lib.hid (H20.out.keep hb21)
        clear hb21 H20
        have HWK := Lib.hid (wakes_any _ (cells_chg HC.out (chg_of_below H21.out.hb (fun _ => False)) (fun e => e)) (HTB.out _ H21.out.hb))
        go_wp2_with fail
        refine HWK.out.mono ?_
        rintro e w99 ⟨rfl, hb99⟩
        have HB99 := Lib.hid (H21.out.hb.trans (hb99.mono H21.out.hb.size))
        clear hb99 HWK
        go_wp2_with fail
        go_ret
        exact ⟨rfl, HB99.out⟩
    · skip
      clear x0 x1 x2 x3 x4 y0 y1 y2 y3 y4 z0 z1 z2 z3 z4
      have H17 := Lib.hid (H16.out.keep hb17)
      clear hb17 H16
      clear HL
      have hk6 : ¬ a.k = 6 := fun h => by
        rw [spE_other (by rw [h]; decide)] at h6
        exact h6 h
      have hk6b : (ak == 6) = false := by
        have := HK.out
        simp only [beq_eq_false_iff_ne, ne_eq]
        omega
      obtain ⟨x0, x1, x2, x3, x4, y0, y1, y2, y3, y4, z0, z1, z2, z3, z4⟩ := H17.out.see
      dsimp only at x0 x1 x2 x3 x4 y0 y1 y2 y3 y4 z0 z1 z2 z3 z4
      by_cases hk7 : a.k = 7
      · have e7 : ak = 7 := by rw [HK.out]; exact hk7
        subst e7
        have HPR := proper_any f a _ w17 (HA.out _ H17.out.hb) HOK.out.2.1
        rw [decide_eq_false h6] at HPR
        clear h6 hk6 hk7 hk6b
        go_wp2_with fail
        refine HPR.mono ?_
        rintro e w21 ⟨rfl, hb21⟩
        clear HPR
        clear x0 x1 x2 x3 x4 y0 y1 y2 y3 y4 z0 z1 z2 z3 z4
        have H21 := Lib.hid (H17.out.keep hb21)
        clear hb21 H17
        have HWK := Lib.hid (wakes_any _ (cells_chg HC.out (chg_of_below H21.out.hb (fun _ => False)) (fun e => e)) (HTB.out _ H21.out.hb))
        go_wp2_with fail
        refine HWK.out.mono ?_
        rintro e w99 ⟨rfl, hb99⟩
        have HB99 := Lib.hid (H21.out.hb.trans (hb99.mono H21.out.hb.size))
        clear hb99 HWK
        go_wp2_with fail
        go_ret
        exact ⟨rfl, HB99.out⟩
      · have hk7b : (ak == 7) = false := by
          have := HK.out
          simp only [beq_eq_false_iff_ne, ne_eq]
          omega
        clear h6 hk6 hk7
        have HWK := Lib.hid (wakes_any _ (cells_chg HC.out (chg_of_below H17.out.hb (fun _ => False)) (fun e => e)) (HTB.out _ H17.out.hb))
        go_wp2_with fail
        refine HWK.out.mono ?_
        rintro e w99 ⟨rfl, hb99⟩
        have HB99 := Lib.hid (H17.out.hb.trans (hb99.mono H17.out.hb.size))
        clear hb99 HWK
        go_wp2_with fail
        go_ret
        exact ⟨rfl, HB99.out⟩
  · skip
    obtain ⟨x0, x1, x2, x3, x4, y0, y1, y2, y3, y4, z0, z1, z2, z3, z4⟩ := H11.out.see
    dsimp only at x0 x1 x2 x3 x4 y0 y1 y2 y3 y4 z0 z1 z2 z3 z4
    go_wp2_with fail
    refine HSM.out.mono ?_
    rintro e w12 ⟨rfl, hb12⟩
    clear x0 x1 x2 x3 x4 y0 y1 y2 y3 y4 z0 z1 z2 z3 z4
    have H12 := Lib.hid (H11.out.keep hb12)
    clear hb12 H11
    have HT12 := HTX.out _ H12.out.hb
    obtain ⟨x0, x1, x2, x3, x4, y0, y1, y2, y3, y4, z0, z1, z2, z3, z4⟩ := H12.out.see
    dsimp only at x0 x1 x2 x3 x4 y0 y1 y2 y3 y4 z0 z1 z2 z3 z4
    go_wp2_with fail
    refine HT12.mono ?_
    rintro e w13 ⟨rfl, hb13⟩
    clear HT12
    clear x0 x1 x2 x3 x4 y0 y1 y2 y3 y4 z0 z1 z2 z3 z4
    have H13 := Lib.hid (H12.out.keep hb13)
    clear hb13 H12
    have HR13 := HRD.out _ H13.out.hb
    go_wp2_with fail
    refine HR13.mono ?_
    rintro e w14 ⟨te, rfl, hte, hfe, hb14, hrs14⟩
    have htv := te_row hte hfe hrs14
    obtain ⟨gk, gn, gs, gu, gao, gcap, gl⟩ := te
    have hb15 := hb14.trans (((Below.refl w14.heap.size w14).alloc (Nat.le_refl _) (.cells #[.int .i8 gk, .int .i64 gn, .string gs, .string gu, .slice gao gl.length gcap] 25)).mono hb14.size)
    have HG15 := Lib.hid (heap_new w14 (.cells #[.int .i8 gk, .int .i64 gn, .string gs, .string gu, .slice gao gl.length gcap] 25))
    have HTV := Lib.hid (htv.keep ((Below.refl w14.heap.size w14).alloc (Nat.le_refl _) (.cells #[.int .i8 gk, .int .i64 gn, .string gs, .string gu, .slice gao gl.length gcap] 25)))
    have H15 := Lib.hid (H13.out.keep hb15)
    clear HR13 hte hfe hb14 hrs14 htv hb15 H13
    simp only [TE.cells] at *
    go_wp2_with (with_reducible refine stop_op (o := ⟨_, .store 25 (.tmp 12) (.tmp 98), _, _, _, _⟩) ?_)
    refine Lib.hid ?_
    refine wpList_store_new (o := ⟨none, _, _, _, _, _⟩) rfl 25 (.tmp 12) (.tmp 98) rfl #[.int .i8 gk, .int .i64 gn, .string gs, .string gu, .slice gao gl.length gcap] rfl rfl (infoTM' _ rfl) rfl (by simp [Value.oneCell']) ?_
    generalize w14.alloc (.cells #[.int .i8 gk, .int .i64 gn, .string gs, .string gu, .slice gao gl.length gcap] 25) = W15 at *
    generalize w14.heap.size = p15 at *
    have hsm2 := rsame_any (nT a) f a a _ _ W15 HTV.out (HA.out _ H15.out.hb)
    rw [eqT_refl] at hsm2
    obtain ⟨u0, -⟩ := cells_at HG15.out 0 _ rfl
    obtain ⟨u1, -⟩ := cells_at HG15.out 1 _ rfl
    obtain ⟨u2, -⟩ := cells_at HG15.out 2 _ rfl
    obtain ⟨u3, -⟩ := cells_at HG15.out 3 _ rfl
    obtain ⟨u4, -⟩ := cells_at HG15.out 4 _ rfl
    obtain ⟨x0, x1, x2, x3, x4, y0, y1, y2, y3, y4, z0, z1, z2, z3, z4⟩ := H15.out.see
    dsimp only at x0 x1 x2 x3 x4 y0 y1 y2 y3 y4 z0 z1 z2 z3 z4
    go_wp2_with fail
    refine hsm2.mono ?_
    rintro e w16 ⟨rfl, hb16⟩
    clear u0 u1 u2 u3 u4 hsm2 HTV HG15
    clear x0 x1 x2 x3 x4 y0 y1 y2 y3 y4 z0 z1 z2 z3 z4
    have H16 := Lib.hid (H15.out.keep hb16)
    clear hb16 H15
    have HL := plist_any f a _ w16 (cells_chg HC.out (chg_of_below H16.out.hb (fun _ => False)) (fun e => e)) (HA.out _ H16.out.hb) HOK.out.1
    obtain ⟨x0, x1, x2, x3, x4, y0, y1, y2, y3, y4, z0, z1, z2, z3, z4⟩ := H16.out.see
    dsimp only at x0 x1 x2 x3 x4 y0 y1 y2 y3 y4 z0 z1 z2 z3 z4
    go_wp2_with fail
    refine HL.mono ?_
    rintro e w17 ⟨hb17, ⟨h6, lo, lc, rfl, hlno, hlrow⟩ | ⟨h6, rfl⟩⟩
    · skip
      clear x0 x1 x2 x3 x4 y0 y1 y2 y3 y4 z0 z1 z2 z3 z4
      have H17 := Lib.hid (H16.out.keep hb17)
      clear hb17 H16
      clear HL
      obtain ⟨hreb, hokl, hnl⟩ := list_facts HOK.out.2.1 HOK.out.2.2 h6
      have HFL := fromlist_any (fun k => k < w17.heap.size) (f + 1) (spL a) lo lc w17 (fun k h => h) (cells_chg HC.out (chg_of_below H17.out.hb (fun _ => False)) (fun e => e)) hlrow.toS hlno hokl hnl
      clear hokl hnl hlrow hlno
      go_wp2_with fail
      refine HFL.mono ?_
      rintro e w18 ⟨hb18, te2, G, rfl, hte2, htv2⟩
      rw [hreb] at hte2
      rw [hte2] at htv2
      obtain ⟨jk, jn, js, ju, jao, jcap, jl⟩ := te2
      have hb19 := hb18.trans (((Below.refl w18.heap.size w18).alloc (Nat.le_refl _) (.cells #[.int .i8 jk, .int .i64 jn, .string js, .string ju, .slice jao jl.length jcap] 25)).mono hb18.size)
      have HG19 := Lib.hid (heap_new w18 (.cells #[.int .i8 jk, .int .i64 jn, .string js, .string ju, .slice jao jl.length jcap] 25))
      have HTV := Lib.hid (htv2.keep ((Below.refl w18.heap.size w18).alloc (Nat.le_refl _) (.cells #[.int .i8 jk, .int .i64 jn, .string js, .string ju, .slice jao jl.length jcap] 25)))
      have H19 := Lib.hid (H17.out.keep hb19)
      clear HFL hb18 hb19 htv2 H17 hte2 hreb
      simp only [TE.cells] at *
      go_wp2_with (with_reducible refine stop_op (o := ⟨_, .store 25 (.tmp 17) (.tmp 124), _, _, _, _⟩) ?_)
      refine Lib.hid ?_
      refine wpList_store_new (o := ⟨none, _, _, _, _, _⟩) rfl 25 (.tmp 17) (.tmp 124) rfl #[.int .i8 jk, .int .i64 jn, .string js, .string ju, .slice jao jl.length jcap] rfl rfl (infoTM' _ rfl) rfl (by simp [Value.oneCell']) ?_
      generalize w18.alloc (.cells #[.int .i8 jk, .int .i64 jn, .string js, .string ju, .slice jao jl.length jcap] 25) = W19 at *
      generalize w18.heap.size = p19 at *
      have hsm2 := rsame_any G f a a _ _ W19 HTV.out (HA.out _ H19.out.hb)
      rw [eqT_refl] at hsm2
      obtain ⟨u0, -⟩ := cells_at HG19.out 0 _ rfl
      obtain ⟨u1, -⟩ := cells_at HG19.out 1 _ rfl
      obtain ⟨u2, -⟩ := cells_at HG19.out 2 _ rfl
      obtain ⟨u3, -⟩ := cells_at HG19.out 3 _ rfl
      obtain ⟨u4, -⟩ := cells_at HG19.out 4 _ rfl
      obtain ⟨x0, x1, x2, x3, x4, y0, y1, y2, y3, y4, z0, z1, z2, z3, z4⟩ := H19.out.see
      dsimp only at x0 x1 x2 x3 x4 y0 y1 y2 y3 y4 z0 z1 z2 z3 z4
      go_wp2_with fail
      refine hsm2.mono ?_
      rintro e w20 ⟨rfl, hb20⟩
      clear u0 u1 u2 u3 u4 hsm2 HTV HG19
      clear x0 x1 x2 x3 x4 y0 y1 y2 y3 y4 z0 z1 z2 z3 z4
      have H20 := Lib.hid (H19.out.keep hb20)
      clear hb20 H19
      obtain ⟨x0, x1, x2, x3, x4, y0, y1, y2, y3, y4, z0, z1, z2, z3, z4⟩ := H20.out.see
      dsimp only at x0 x1 x2 x3 x4 y0 y1 y2 y3 y4 z0 z1 z2 z3 z4
      by_cases hk6 : a.k = 6
      · have e6 : ak = 6 := by rw [HK.out]; exact hk6
        subst e6
        clear h6 hk6
        have HWK := Lib.hid (wakes_any _ (cells_chg HC.out (chg_of_below H20.out.hb (fun _ => False)) (fun e => e)) (HTB.out _ H20.out.hb))
        go_wp2_with fail
        refine HWK.out.mono ?_
        rintro e w99 ⟨rfl, hb99⟩
        have HB99 := Lib.hid (H20.out.hb.trans (hb99.mono H20.out.hb.size))
        clear hb99 HWK
        go_wp2_with fail
        go_ret
        exact ⟨rfl, HB99.out⟩
      · have hk7 : a.k = 7 := by
          by_cases h7 : a.k = 7
          · exact h7
          · rw [spE_other h7] at h6
            exact absurd h6 hk6
        have e7 : ak = 7 := by rw [HK.out]; exact hk7
        subst e7
        have HPR := proper_any f a _ w20 (HA.out _ H20.out.hb) HOK.out.2.1
        rw [decide_eq_true h6] at HPR
        clear h6 hk6 hk7
        go_wp2_with fail
        refine HPR.mono ?_
        rintro e w21 ⟨rfl, hb21⟩
        clear HPR
        clear x0 x1 x2 x3 x4 y0 y1 y2 y3 y4 z0 z1 z2 z3 z4
        have H21 := Lib.hid (H20.out.keep hb21)
        clear hb21 H20
        have HWK := Lib.hid (wakes_any _ (cells_chg HC.out (chg_of_below H21.out.hb (fun _ => False)) (fun e => e)) (HTB.out _ H21.out.hb))
        go_wp2_with fail
        refine HWK.out.mono ?_
        rintro e w99 ⟨rfl, hb99⟩
        have HB99 := Lib.hid (H21.out.hb.trans (hb99.mono H21.out.hb.size))
        clear hb99 HWK
        go_wp2_with fail
        go_ret
        exact ⟨rfl, HB99.out⟩
    · skip
      clear x0 x1 x2 x3 x4 y0 y1 y2 y3 y4 z0 z1 z2 z3 z4
      have H17 := Lib.hid (H16.out.keep hb17)
      clear hb17 H16
      clear HL
      have hk6 : ¬ a.k = 6 := fun h => by
        rw [spE_other (by rw [h]; decide)] at h6
        exact h6 h
      have hk6b : (ak == 6) = false := by
        have := HK.out
        simp only [beq_eq_false_iff_ne, ne_eq]
        omega
      obtain ⟨x0, x1, x2, x3, x4, y0, y1, y2, y3, y4, z0, z1, z2, z3, z4⟩ := H17.out.see
      dsimp only at x0 x1 x2 x3 x4 y0 y1 y2 y3 y4 z0 z1 z2 z3 z4
      by_cases hk7 : a.k = 7
      · have e7 : ak = 7 := by rw [HK.out]; exact hk7
        subst e7
        have HPR := proper_any f a _ w17 (HA.out _ H17.out.hb) HOK.out.2.1
        rw [decide_eq_false h6] at HPR
        clear h6 hk6 hk7 hk6b
        go_wp2_with fail
        refine HPR.mono ?_
        rintro e w21 ⟨rfl, hb21⟩
        clear HPR
        clear x0 x1 x2 x3 x4 y0 y1 y2 y3 y4 z0 z1 z2 z3 z4
        have H21 := Lib.hid (H17.out.keep hb21)
        clear hb21 H17
        have HWK := Lib.hid (wakes_any _ (cells_chg HC.out (chg_of_below H21.out.hb (fun _ => False)) (fun e => e)) (HTB.out _ H21.out.hb))
        go_wp2_with fail
        refine HWK.out.mono ?_
        rintro e w99 ⟨rfl, hb99⟩
        have HB99 := Lib.hid (H21.out.hb.trans (hb99.mono H21.out.hb.size))
        clear hb99 HWK
        go_wp2_with fail
        go_ret
        exact ⟨rfl, HB99.out⟩
      · have hk7b : (ak == 7) = false := by
          have := HK.out
          simp only [beq_eq_false_iff_ne, ne_eq]
          omega
        clear h6 hk6 hk7
        have HWK := Lib.hid (wakes_any _ (cells_chg HC.out (chg_of_below H17.out.hb (fun _ => False)) (fun e => e)) (HTB.out _ H17.out.hb))
        go_wp2_with fail
        refine HWK.out.mono ?_
        rintro e w99 ⟨rfl, hb99⟩
        have HB99 := Lib.hid (H17.out.hb.trans (hb99.mono H17.out.hb.size))
        clear hb99 HWK
        go_wp2_with fail
        go_ret
        exact ⟨rfl, HB99.out⟩
  · skip
    obtain ⟨x0, x1, x2, x3, x4, y0, y1, y2, y3, y4, z0, z1, z2, z3, z4⟩ := H11.out.see
    dsimp only at x0 x1 x2 x3 x4 y0 y1 y2 y3 y4 z0 z1 z2 z3 z4
    go_wp2_with fail
    refine HSM.out.mono ?_
    rintro e w12 ⟨rfl, hb12⟩
    clear x0 x1 x2 x3 x4 y0 y1 y2 y3 y4 z0 z1 z2 z3 z4
    have H12 := Lib.hid (H11.out.keep hb12)
    clear hb12 H11
    have HT12 := HTX.out _ H12.out.hb
    obtain ⟨x0, x1, x2, x3, x4, y0, y1, y2, y3, y4, z0, z1, z2, z3, z4⟩ := H12.out.see
    dsimp only at x0 x1 x2 x3 x4 y0 y1 y2 y3 y4 z0 z1 z2 z3 z4
    go_wp2_with fail
    refine HT12.mono ?_
    rintro e w13 ⟨rfl, hb13⟩
    clear HT12
    clear x0 x1 x2 x3 x4 y0 y1 y2 y3 y4 z0 z1 z2 z3 z4
    have H13 := Lib.hid (H12.out.keep hb13)
    clear hb13 H12
    have HR13 := HRD.out _ H13.out.hb
    go_wp2_with fail
    refine HR13.mono ?_
    rintro e w14 ⟨te, rfl, hte, hfe, hb14, hrs14⟩
    have htv := te_row hte hfe hrs14
    obtain ⟨gk, gn, gs, gu, gao, gcap, gl⟩ := te
    have hb15 := hb14.trans (((Below.refl w14.heap.size w14).alloc (Nat.le_refl _) (.cells #[.int .i8 gk, .int .i64 gn, .string gs, .string gu, .slice gao gl.length gcap] 25)).mono hb14.size)
    have HG15 := Lib.hid (heap_new w14 (.cells #[.int .i8 gk, .int .i64 gn, .string gs, .string gu, .slice gao gl.length gcap] 25))
    have HTV := Lib.hid (htv.keep ((Below.refl w14.heap.size w14).alloc (Nat.le_refl _) (.cells #[.int .i8 gk, .int .i64 gn, .string gs, .string gu, .slice gao gl.length gcap] 25)))
    have H15 := Lib.hid (H13.out.keep hb15)
    clear HR13 hte hfe hb14 hrs14 htv hb15 H13
    simp only [TE.cells] at *
    go_wp2_with (with_reducible refine stop_op (o := ⟨_, .store 25 (.tmp 12) (.tmp 98), _, _, _, _⟩) ?_)
    refine Lib.hid ?_
    refine wpList_store_new (o := ⟨none, _, _, _, _, _⟩) rfl 25 (.tmp 12) (.tmp 98) rfl #[.int .i8 gk, .int .i64 gn, .string gs, .string gu, .slice gao gl.length gcap] rfl rfl (infoTM' _ rfl) rfl (by simp [Value.oneCell']) ?_
    generalize w14.alloc (.cells #[.int .i8 gk, .int .i64 gn, .string gs, .string gu, .slice gao gl.length gcap] 25) = W15 at *
    generalize w14.heap.size = p15 at *
    have hsm2 := rsame_any (nT a) f a a _ _ W15 HTV.out (HA.out _ H15.out.hb)
    rw [eqT_refl] at hsm2
    obtain ⟨u0, -⟩ := cells_at HG15.out 0 _ rfl
    obtain ⟨u1, -⟩ := cells_at HG15.out 1 _ rfl
    obtain ⟨u2, -⟩ := cells_at HG15.out 2 _ rfl
    obtain ⟨u3, -⟩ := cells_at HG15.out 3 _ rfl
    obtain ⟨u4, -⟩ := cells_at HG15.out 4 _ rfl
    obtain ⟨x0, x1, x2, x3, x4, y0, y1, y2, y3, y4, z0, z1, z2, z3, z4⟩ := H15.out.see
    dsimp only at x0 x1 x2 x3 x4 y0 y1 y2 y3 y4 z0 z1 z2 z3 z4
    go_wp2_with fail
    refine hsm2.mono ?_
    rintro e w16 ⟨rfl, hb16⟩
    clear u0 u1 u2 u3 u4 hsm2 HTV HG15
    clear x0 x1 x2 x3 x4 y0 y1 y2 y3 y4 z0 z1 z2 z3 z4
    have H16 := Lib.hid (H15.out.keep hb16)
    clear hb16 H15
    have HL := plist_any f a _ w16 (cells_chg HC.out (chg_of_below H16.out.hb (fun _ => False)) (fun e => e)) (HA.out _ H16.out.hb) HOK.out.1
    obtain ⟨x0, x1, x2, x3, x4, y0, y1, y2, y3, y4, z0, z1, z2, z3, z4⟩ := H16.out.see
    dsimp only at x0 x1 x2 x3 x4 y0 y1 y2 y3 y4 z0 z1 z2 z3 z4
    go_wp2_with fail
    refine HL.mono ?_
    rintro e w17 ⟨hb17, ⟨h6, lo, lc, rfl, hlno, hlrow⟩ | ⟨h6, rfl⟩⟩
    · skip
      clear x0 x1 x2 x3 x4 y0 y1 y2 y3 y4 z0 z1 z2 z3 z4
      have H17 := Lib.hid (H16.out.keep hb17)
      clear hb17 H16
      clear HL
      obtain ⟨hreb, hokl, hnl⟩ := list_facts HOK.out.2.1 HOK.out.2.2 h6
      have HFL := fromlist_any (fun k => k < w17.heap.size) (f + 1) (spL a) lo lc w17 (fun k h => h) (cells_chg HC.out (chg_of_below H17.out.hb (fun _ => False)) (fun e => e)) hlrow.toS hlno hokl hnl
      clear hokl hnl hlrow hlno
      go_wp2_with fail
      refine HFL.mono ?_
      rintro e w18 ⟨hb18, te2, G, rfl, hte2, htv2⟩
      rw [hreb] at hte2
      rw [hte2] at htv2
      obtain ⟨jk, jn, js, ju, jao, jcap, jl⟩ := te2
      have hb19 := hb18.trans (((Below.refl w18.heap.size w18).alloc (Nat.le_refl _) (.cells #[.int .i8 jk, .int .i64 jn, .string js, .string ju, .slice jao jl.length jcap] 25)).mono hb18.size)
      have HG19 := Lib.hid (heap_new w18 (.cells #[.int .i8 jk, .int .i64 jn, .string js, .string ju, .slice jao jl.length jcap] 25))
      have HTV := Lib.hid (htv2.keep ((Below.refl w18.heap.size w18).alloc (Nat.le_refl _) (.cells #[.int .i8 jk, .int .i64 jn, .string js, .string ju, .slice jao jl.length jcap] 25)))
      have H19 := Lib.hid (H17.out.keep hb19)
      clear HFL hb18 hb19 htv2 H17 hte2 hreb
      simp only [TE.cells] at *
      go_wp2_with (with_reducible refine stop_op (o := ⟨_, .store 25 (.tmp 17) (.tmp 124), _, _, _, _⟩) ?_)
      refine Lib.hid ?_
      refine wpList_store_new (o := ⟨none, _, _, _, _, _⟩) rfl 25 (.tmp 17) (.tmp 124) rfl #[.int .i8 jk, .int .i64 jn, .string js, .string ju, .slice jao jl.length jcap] rfl rfl (infoTM' _ rfl) rfl (by simp [Value.oneCell']) ?_
      generalize w18.alloc (.cells #[.int .i8 jk, .int .i64 jn, .string js, .string ju, .slice jao jl.length jcap] 25) = W19 at *
      generalize w18.heap.size = p19 at *
      have hsm2 := rsame_any G f a a _ _ W19 HTV.out (HA.out _ H19.out.hb)
      rw [eqT_refl] at hsm2
      obtain ⟨u0, -⟩ := cells_at HG19.out 0 _ rfl
      obtain ⟨u1, -⟩ := cells_at HG19.out 1 _ rfl
      obtain ⟨u2, -⟩ := cells_at HG19.out 2 _ rfl
      obtain ⟨u3, -⟩ := cells_at HG19.out 3 _ rfl
      obtain ⟨u4, -⟩ := cells_at HG19.out 4 _ rfl
      obtain ⟨x0, x1, x2, x3, x4, y0, y1, y2, y3, y4, z0, z1, z2, z3, z4⟩ := H19.out.see
      dsimp only at x0 x1 x2 x3 x4 y0 y1 y2 y3 y4 z0 z1 z2 z3 z4
      go_wp2_with fail
      refine hsm2.mono ?_
      rintro e w20 ⟨rfl, hb20⟩
      clear u0 u1 u2 u3 u4 hsm2 HTV HG19
      clear x0 x1 x2 x3 x4 y0 y1 y2 y3 y4 z0 z1 z2 z3 z4
      have H20 := Lib.hid (H19.out.keep hb20)
      clear hb20 H19
      obtain ⟨x0, x1, x2, x3, x4, y0, y1, y2, y3, y4, z0, z1, z2, z3, z4⟩ := H20.out.see
      dsimp only at x0 x1 x2 x3 x4 y0 y1 y2 y3 y4 z0 z1 z2 z3 z4
      by_cases hk6 : a.k = 6
      · have e6 : ak = 6 := by rw [HK.out]; exact hk6
        subst e6
        clear h6 hk6
        have HWK := Lib.hid (wakes_any _ (cells_chg HC.out (chg_of_below H20.out.hb (fun _ => False)) (fun e => e)) (HTB.out _ H20.out.hb))
        go_wp2_with fail
        refine HWK.out.mono ?_
        rintro e w99 ⟨rfl, hb99⟩
        have HB99 := Lib.hid (H20.out.hb.trans (hb99.mono H20.out.hb.size))
        clear hb99 HWK
        go_wp2_with fail
        go_ret
        exact ⟨rfl, HB99.out⟩
      · have hk7 : a.k = 7 := by
          by_cases h7 : a.k = 7
          · exact h7
          · rw [spE_other h7] at h6
            exact absurd h6 hk6
        have e7 : ak = 7 := by rw [HK.out]; exact hk7
        subst e7
        have HPR := proper_any f a _ w20 (HA.out _ H20.out.hb) HOK.out.2.1
        rw [decide_eq_true h6] at HPR
        clear h6 hk6 hk7
        go_wp2_with fail
        refine HPR.mono ?_
        rintro e w21 ⟨rfl, hb21⟩
        clear HPR
        clear x0 x1 x2 x3 x4 y0 y1 y2 y3 y4 z0 z1 z2 z3 z4
        have H21 := Lib.hid (H20.out.keep hb21)
        clear hb21 H20
        have HWK := Lib.hid (wakes_any _ (cells_chg HC.out (chg_of_below H21.out.hb (fun _ => False)) (fun e => e)) (HTB.out _ H21.out.hb))
        go_wp2_with fail
        refine HWK.out.mono ?_
        rintro e w99 ⟨rfl, hb99⟩
        have HB99 := Lib.hid (H21.out.hb.trans (hb99.mono H21.out.hb.size))
        clear hb99 HWK
        go_wp2_with fail
        go_ret
        exact ⟨rfl, HB99.out⟩
    · skip
      clear x0 x1 x2 x3 x4 y0 y1 y2 y3 y4 z0 z1 z2 z3 z4
      have H17 := Lib.hid (H16.out.keep hb17)
      clear hb17 H16
      clear HL
      have hk6 : ¬ a.k = 6 := fun h => by
        rw [spE_other (by rw [h]; decide)] at h6
        exact h6 h
      have hk6b : (ak == 6) = false := by
        have := HK.out
        simp only [beq_eq_false_iff_ne, ne_eq]
        omega
      obtain ⟨x0, x1, x2, x3, x4, y0, y1, y2, y3, y4, z0, z1, z2, z3, z4⟩ := H17.out.see
      dsimp only at x0 x1 x2 x3 x4 y0 y1 y2 y3 y4 z0 z1 z2 z3 z4
      by_cases hk7 : a.k = 7
      · have e7 : ak = 7 := by rw [HK.out]; exact hk7
        subst e7
        have HPR := proper_any f a _ w17 (HA.out _ H17.out.hb) HOK.out.2.1
        rw [decide_eq_false h6] at HPR
        clear h6 hk6 hk7 hk6b
        go_wp2_with fail
        refine HPR.mono ?_
        rintro e w21 ⟨rfl, hb21⟩
        clear HPR
        clear x0 x1 x2 x3 x4 y0 y1 y2 y3 y4 z0 z1 z2 z3 z4
        have H21 := Lib.hid (H17.out.keep hb21)
        clear hb21 H17
        have HWK := Lib.hid (wakes_any _ (cells_chg HC.out (chg_of_below H21.out.hb (fun _ => False)) (fun e => e)) (HTB.out _ H21.out.hb))
        go_wp2_with fail
        refine HWK.out.mono ?_
        rintro e w99 ⟨rfl, hb99⟩
        have HB99 := Lib.hid (H21.out.hb.trans (hb99.mono H21.out.hb.size))
        clear hb99 HWK
        go_wp2_with fail
        go_ret
        exact ⟨rfl, HB99.out⟩
      · have hk7b : (ak == 7) = false := by
          have := HK.out
          simp only [beq_eq_false_iff_ne, ne_eq]
          omega
        clear h6 hk6 hk7
        have HWK := Lib.hid (wakes_any _ (cells_chg HC.out (chg_of_below H17.out.hb (fun _ => False)) (fun e => e)) (HTB.out _ H17.out.hb))
        go_wp2_with fail
        refine HWK.out.mono ?_
        rintro e w99 ⟨rfl, hb99⟩
        have HB99 := Lib.hid (H17.out.hb.trans (hb99.mono H17.out.hb.size))
        clear hb99 HWK
        go_wp2_with fail
        go_ret
        exact ⟨rfl, HB99.out⟩
  · skip
    obtain ⟨x0, x1, x2, x3, x4, y0, y1, y2, y3, y4, z0, z1, z2, z3, z4⟩ := H11.out.see
    dsimp only at x0 x1 x2 x3 x4 y0 y1 y2 y3 y4 z0 z1 z2 z3 z4
    go_wp2_with fail
    refine HSM.out.mono ?_
    rintro e w12 ⟨rfl, hb12⟩
    clear x0 x1 x2 x3 x4 y0 y1 y2 y3 y4 z0 z1 z2 z3 z4
    have H12 := Lib.hid (H11.out.keep hb12)
    clear hb12 H11
    have HT12 := HTX.out _ H12.out.hb
    obtain ⟨x0, x1, x2, x3, x4, y0, y1, y2, y3, y4, z0, z1, z2, z3, z4⟩ := H12.out.see
    dsimp only at x0 x1 x2 x3 x4 y0 y1 y2 y3 y4 z0 z1 z2 z3 z4
    go_wp2_with fail
    refine HT12.mono ?_
    rintro e w13 ⟨rfl, hb13⟩
    clear HT12
    clear x0 x1 x2 x3 x4 y0 y1 y2 y3 y4 z0 z1 z2 z3 z4
    have H13 := Lib.hid (H12.out.keep hb13)
    clear hb13 H12
    have HR13 := HRD.out _ H13.out.hb
    go_wp2_with fail
    refine HR13.mono ?_
    rintro e w14 ⟨te, rfl, hte, hfe, hb14, hrs14⟩
    have htv := te_row hte hfe hrs14
    obtain ⟨gk, gn, gs, gu, gao, gcap, gl⟩ := te
    have hb15 := hb14.trans (((Below.refl w14.heap.size w14).alloc (Nat.le_refl _) (.cells #[.int .i8 gk, .int .i64 gn, .string gs, .string gu, .slice gao gl.length gcap] 25)).mono hb14.size)
    have HG15 := Lib.hid (heap_new w14 (.cells #[.int .i8 gk, .int .i64 gn, .string gs, .string gu, .slice gao gl.length gcap] 25))
    have HTV := Lib.hid (htv.keep ((Below.refl w14.heap.size w14).alloc (Nat.le_refl _) (.cells #[.int .i8 gk, .int .i64 gn, .string gs, .string gu, .slice gao gl.length gcap] 25)))
    have H15 := Lib.hid (H13.out.keep hb15)
    clear HR13 hte hfe hb14 hrs14 htv hb15 H13
    simp only [TE.cells] at *
    go_wp2_with (with_reducible refine stop_op (o := ⟨_, .store 25 (.tmp 12) (.tmp 98), _, _, _, _⟩) ?_)
    refine Lib.hid ?_
    refine wpList_store_new (o := ⟨none, _, _, _, _, _⟩) rfl 25 (.tmp 12) (.tmp 98) rfl #[.int .i8 gk, .int .i64 gn, .string gs, .string gu, .slice gao gl.length gcap] rfl rfl (infoTM' _ rfl) rfl (by simp [Value.oneCell']) ?_
    generalize w14.alloc (.cells #[.int .i8 gk, .int .i64 gn, .string gs, .string gu, .slice gao gl.length gcap] 25) = W15 at *
    generalize w14.heap.size = p15 at *
    have hsm2 := rsame_any (nT a) f a a _ _ W15 HTV.out (HA.out _ H15.out.hb)
    rw [eqT_refl] at hsm2
    obtain ⟨u0, -⟩ := cells_at HG15.out 0 _ rfl
    obtain ⟨u1, -⟩ := cells_at HG15.out 1 _ rfl
    obtain ⟨u2, -⟩ := cells_at HG15.out 2 _ rfl
    obtain ⟨u3, -⟩ := cells_at HG15.out 3 _ rfl
    obtain ⟨u4, -⟩ := cells_at HG15.out 4 _ rfl
    obtain ⟨x0, x1, x2, x3, x4, y0, y1, y2, y3, y4, z0, z1, z2, z3, z4⟩ := H15.out.see
    dsimp only at x0 x1 x2 x3 x4 y0 y1 y2 y3 y4 z0 z1 z2 z3 z4
    go_wp2_with fail
    refine hsm2.mono ?_
    rintro e w16 ⟨rfl, hb16⟩
    clear u0 u1 u2 u3 u4 hsm2 HTV HG15
    clear x0 x1 x2 x3 x4 y0 y1 y2 y3 y4 z0 z1 z2 z3 z4
    have H16 := Lib.hid (H15.out.keep hb16)
    clear hb16 H15
    have HL := plist_any f a _ w16 (cells_chg HC.out (chg_of_below H16.out.hb (fun _ => False)) (fun e => e)) (HA.out _ H16.out.hb) HOK.out.1
    obtain ⟨x0, x1, x2, x3, x4, y0, y1, y2, y3, y4, z0, z1, z2, z3, z4⟩ := H16.out.see
    dsimp only at x0 x1 x2 x3 x4 y0 y1 y2 y3 y4 z0 z1 z2 z3 z4
    go_wp2_with fail
    refine HL.mono ?_
    rintro e w17 ⟨hb17, ⟨h6, lo, lc, rfl, hlno, hlrow⟩ | ⟨h6, rfl⟩⟩
    · skip
      clear x0 x1 x2 x3 x4 y0 y1 y2 y3 y4 z0 z1 z2 z3 z4
      have H17 := Lib.hid (H16.out.keep hb17)
      clear hb17 H16
      clear HL
      obtain ⟨hreb, hokl, hnl⟩ := list_facts HOK.out.2.1 HOK.out.2.2 h6
      have HFL := fromlist_any (fun k => k < w17.heap.size) (f + 1) (spL a) lo lc w17 (fun k h => h) (cells_chg HC.out (chg_of_below H17.out.hb (fun _ => False)) (fun e => e)) hlrow.toS hlno hokl hnl
      clear hokl hnl hlrow hlno
      go_wp2_with fail
      refine HFL.mono ?_
      rintro e w18 ⟨hb18, te2, G, rfl, hte2, htv2⟩
      rw [hreb] at hte2
      rw [hte2] at htv2
      obtain ⟨jk, jn, js, ju, jao, jcap, jl⟩ := te2
      have hb19 := hb18.trans (((Below.refl w18.heap.size w18).alloc (Nat.le_refl _) (.cells #[.int .i8 jk, .int .i64 jn, .string js, .string ju, .slice jao jl.length jcap] 25)).mono hb18.size)
      have HG19 := Lib.hid (heap_new w18 (.cells #[.int .i8 jk, .int .i64 jn, .string js, .string ju, .slice jao jl.length jcap] 25))
      have HTV := Lib.hid (htv2.keep ((Below.refl w18.heap.size w18).alloc (Nat.le_refl _) (.cells #[.int .i8 jk, .int .i64 jn, .string js, .string ju, .slice jao jl.length jcap] 25)))
      have H19 := Lib.hid (H17.out.keep hb19)
      clear HFL hb18 hb19 htv2 H17 hte2 hreb
      simp only [TE.cells] at *
      go_wp2_with (with_reducible refine stop_op (o := ⟨_, .store 25 (.tmp 17) (.tmp 124), _, _, _, _⟩) ?_)
      refine Lib.hid ?_
      refine wpList_store_new (o := ⟨none, _, _, _, _, _⟩) rfl 25 (.tmp 17) (.tmp 124) rfl #[.int .i8 jk, .int .i64 jn, .string js, .string ju, .slice jao jl.length jcap] rfl rfl (infoTM' _ rfl) rfl (by simp [Value.oneCell']) ?_
      generalize w18.alloc (.cells #[.int .i8 jk, .int .i64 jn, .string js, .string ju, .slice jao jl.length jcap] 25) = W19 at *
      generalize w18.heap.size = p19 at *
      have hsm2 := rsame_any G f a a _ _ W19 HTV.out (HA.out _ H19.out.hb)
      rw [eqT_refl] at hsm2
      obtain ⟨u0, -⟩ := cells_at HG19.out 0 _ rfl
      obtain ⟨u1, -⟩ := cells_at HG19.out 1 _ rfl
      obtain ⟨u2, -⟩ := cells_at HG19.out 2 _ rfl
      obtain ⟨u3, -⟩ := cells_at HG19.out 3 _ rfl
      obtain ⟨u4, -⟩ := cells_at HG19.out 4 _ rfl
      obtain ⟨x0, x1, x2, x3, x4, y0, y1, y2, y3, y4, z0, z1, z2, z3, z4⟩ := H19.out.see
      dsimp only at x0 x1 x2 x3 x4 y0 y1 y2 y3 y4 z0 z1 z2 z3 z4
      go_wp2_with fail
      refine hsm2.mono ?_
      rintro e w20 ⟨rfl, hb20⟩
      clear u0 u1 u2 u3 u4 hsm2 HTV HG19
      clear x0 x1 x2 x3 x4 y0 y1 y2 y3 y4 z0 z1 z2 z3 z4
      have H20 := Lib.hid (H19.out.keep hb20)
      clear hb20 H19
      obtain ⟨x0, x1, x2, x3, x4, y0, y1, y2, y3, y4, z0, z1, z2, z3, z4⟩ := H20.out.see
      dsimp only at x0 x1 x2 x3 x4 y0 y1 y2 y3 y4 z0 z1 z2 z3 z4
      by_cases hk6 : a.k = 6
      · have e6 : ak = 6 := by rw [HK.out]; exact hk6
        subst e6
        clear h6 hk6
        have HWK := Lib.hid (wakes_any _ (cells_chg HC.out (chg_of_below H20.out.hb (fun _ => False)) (fun e => e)) (HTB.out _ H20.out.hb))
        go_wp2_with fail
        refine HWK.out.mono ?_
        rintro e w99 ⟨rfl, hb99⟩
        have HB99 := Lib.hid (H20.out.hb.trans (hb99.mono H20.out.hb.size))
        clear hb99 HWK
        go_wp2_with fail
        go_ret
        exact ⟨rfl, HB99.out⟩
      · have hk7 : a.k = 7 := by
          by_cases h7 : a.k = 7
          · exact h7
          · rw [spE_other h7] at h6
            exact absurd h6 hk6
        have e7 : ak = 7 := by rw [HK.out]; exact hk7
        subst e7
        have HPR := proper_any f a _ w20 (HA.out _ H20.out.hb) HOK.out.2.1
        rw [decide_eq_true h6] at HPR
        clear h6 hk6 hk7
        go_wp2_with fail
        refine HPR.mono ?_
        rintro e w21 ⟨rfl, hb21⟩
        clear HPR
        clear x0 x1 x2 x3 x4 y0 y1 y2 y3 y4 z0 z1 z2 z3 z4
        have H21 := Lib.hid (H20.out.keep hb21)
        clear hb21 H20
        have HWK := Lib.hid (wakes_any _ (cells_chg HC.out (chg_of_below H21.out.hb (fun _ => False)) (fun e => e)) (HTB.out _ H21.out.hb))
        go_wp2_with fail
        refine HWK.out.mono ?_
        rintro e w99 ⟨rfl, hb99⟩
        have HB99 := Lib.hid (H21.out.hb.trans (hb99.mono H21.out.hb.size))
        clear hb99 HWK
        go_wp2_with fail
        go_ret
        exact ⟨rfl, HB99.out⟩
    · skip
      clear x0 x1 x2 x3 x4 y0 y1 y2 y3 y4 z0 z1 z2 z3 z4
      have H17 := Lib.hid (H16.out.keep hb17)
      clear hb17 H16
      clear HL
      have hk6 : ¬ a.k = 6 := fun h => by
        rw [spE_other (by rw [h]; decide)] at h6
        exact h6 h
      have hk6b : (ak == 6) = false := by
        have := HK.out
        simp only [beq_eq_false_iff_ne, ne_eq]
        omega
      obtain ⟨x0, x1, x2, x3, x4, y0, y1, y2, y3, y4, z0, z1, z2, z3, z4⟩ := H17.out.see
      dsimp only at x0 x1 x2 x3 x4 y0 y1 y2 y3 y4 z0 z1 z2 z3 z4
      by_cases hk7 : a.k = 7
      · have e7 : ak = 7 := by rw [HK.out]; exact hk7
        subst e7
        have HPR := proper_any f a _ w17 (HA.out _ H17.out.hb) HOK.out.2.1
        rw [decide_eq_false h6] at HPR
        clear h6 hk6 hk7 hk6b
        go_wp2_with fail
        refine HPR.mono ?_
        rintro e w21 ⟨rfl, hb21⟩
        clear HPR
        clear x0 x1 x2 x3 x4 y0 y1 y2 y3 y4 z0 z1 z2 z3 z4
        have H21 := Lib.hid (H17.out.keep hb21)
        clear hb21 H17
        have HWK := Lib.hid (wakes_any _ (cells_chg HC.out (chg_of_below H21.out.hb (fun _ => False)) (fun e => e)) (HTB.out _ H21.out.hb))
        go_wp2_with fail
        refine HWK.out.mono ?_
        rintro e w99 ⟨rfl, hb99⟩
        have HB99 := Lib.hid (H21.out.hb.trans (hb99.mono H21.out.hb.size))
        clear hb99 HWK
        go_wp2_with fail
        go_ret
        exact ⟨rfl, HB99.out⟩
      · have hk7b : (ak == 7) = false := by
          have := HK.out
          simp only [beq_eq_false_iff_ne, ne_eq]
          omega
        clear h6 hk6 hk7
        have HWK := Lib.hid (wakes_any _ (cells_chg HC.out (chg_of_below H17.out.hb (fun _ => False)) (fun e => e)) (HTB.out _ H17.out.hb))
        go_wp2_with fail
        refine HWK.out.mono ?_
        rintro e w99 ⟨rfl, hb99⟩
        have HB99 := Lib.hid (H17.out.hb.trans (hb99.mono H17.out.hb.size))
        clear hb99 HWK
        go_wp2_with fail
        go_ret
        exact ⟨rfl, HB99.out⟩
  · skip
    obtain ⟨x0, x1, x2, x3, x4, y0, y1, y2, y3, y4, z0, z1, z2, z3, z4⟩ := H11.out.see
    dsimp only at x0 x1 x2 x3 x4 y0 y1 y2 y3 y4 z0 z1 z2 z3 z4
    go_wp2_with fail
    refine HSM.out.mono ?_
    rintro e w12 ⟨rfl, hb12⟩
    clear x0 x1 x2 x3 x4 y0 y1 y2 y3 y4 z0 z1 z2 z3 z4
    have H12 := Lib.hid (H11.out.keep hb12)
    clear hb12 H11
    have HT12 := HTX.out _ H12.out.hb
    obtain ⟨x0, x1, x2, x3, x4, y0, y1, y2, y3, y4, z0, z1, z2, z3, z4⟩ := H12.out.see
    dsimp only at x0 x1 x2 x3 x4 y0 y1 y2 y3 y4 z0 z1 z2 z3 z4
    go_wp2_with fail
    refine HT12.mono ?_
    rintro e w13 ⟨rfl, hb13⟩
    clear HT12
    clear x0 x1 x2 x3 x4 y0 y1 y2 y3 y4 z0 z1 z2 z3 z4
    have H13 := Lib.hid (H12.out.keep hb13)
    clear hb13 H12
    have HR13 := HRD.out _ H13.out.hb
    go_wp2_with fail
    refine HR13.mono ?_
    rintro e w14 ⟨te, rfl, hte, hfe, hb14, hrs14⟩
    have htv := te_row hte hfe hrs14
    obtain ⟨gk, gn, gs, gu, gao, gcap, gl⟩ := te
    have hb15 := hb14.trans (((Below.refl w14.heap.size w14).alloc (Nat.le_refl _) (.cells #[.int .i8 gk, .int .i64 gn, .string gs, .string gu, .slice gao gl.length gcap] 25)).mono hb14.size)
    have HG15 := Lib.hid (heap_new w14 (.cells #[.int .i8 gk, .int .i64 gn, .string gs, .string gu, .slice gao gl.length gcap] 25))
    have HTV := Lib.hid (htv.keep ((Below.refl w14.heap.size w14).alloc (Nat.le_refl _) (.cells #[.int .i8 gk, .int .i64 gn, .string gs, .string gu, .slice gao gl.length gcap] 25)))
    have H15 := Lib.hid (H13.out.keep hb15)
    clear HR13 hte hfe hb14 hrs14 htv hb15 H13
    simp only [TE.cells] at *
    go_wp2_with (with_reducible refine stop_op (o := ⟨_, .store 25 (.tmp 12) (.tmp 98), _, _, _, _⟩) ?_)
    refine Lib.hid ?_
    refine wpList_store_new (o := ⟨none, _, _, _, _, _⟩) rfl 25 (.tmp 12) (.tmp 98) rfl #[.int .i8 gk, .int .i64 gn, .string gs, .string gu, .slice gao gl.length gcap] rfl rfl (infoTM' _ rfl) rfl (by simp [Value.oneCell']) ?_
    generalize w14.alloc (.cells #[.int .i8 gk, .int .i64 gn, .string gs, .string gu, .slice gao gl.length gcap] 25) = W15 at *
    generalize w14.heap.size = p15 at *
    have hsm2 := rsame_any (nT a) f a a _ _ W15 HTV.out (HA.out _ H15.out.hb)
    rw [eqT_refl] at hsm2
    obtain ⟨u0, -⟩ := cells_at HG15.out 0 _ rfl
    obtain ⟨u1, -⟩ := cells_at HG15.out 1 _ rfl
    obtain ⟨u2, -⟩ := cells_at HG15.out 2 _ rfl
    obtain ⟨u3, -⟩ := cells_at HG15.out 3 _ rfl
    obtain ⟨u4, -⟩ := cells_at HG15.out 4 _ rfl
    obtain ⟨x0, x1, x2, x3, x4, y0, y1, y2, y3, y4, z0, z1, z2, z3, z4⟩ := H15.out.see
    dsimp only at x0 x1 x2 x3 x4 y0 y1 y2 y3 y4 z0 z1 z2 z3 z4
    go_wp2_with fail
    refine hsm2.mono ?_
    rintro e w16 ⟨rfl, hb16⟩
    clear u0 u1 u2 u3 u4 hsm2 HTV HG15
    clear x0 x1 x2 x3 x4 y0 y1 y2 y3 y4 z0 z1 z2 z3 z4
    have H16 := Lib.hid (H15.out.keep hb16)
    clear hb16 H15
    have HL := plist_any f a _ w16 (cells_chg HC.out (chg_of_below H16.out.hb (fun _ => False)) (fun e => e)) (HA.out _ H16.out.hb) HOK.out.1
    obtain ⟨x0, x1, x2, x3, x4, y0, y1, y2, y3, y4, z0, z1, z2, z3, z4⟩ := H16.out.see
    dsimp only at x0 x1 x2 x3 x4 y0 y1 y2 y3 y4 z0 z1 z2 z3 z4
    go_wp2_with fail
    refine HL.mono ?_
    rintro e w17 ⟨hb17, ⟨h6, lo, lc, rfl, hlno, hlrow⟩ | ⟨h6, rfl⟩⟩
    · skip
      clear x0 x1 x2 x3 x4 y0 y1 y2 y3 y4 z0 z1 z2 z3 z4
      have H17 := Lib.hid (H16.out.keep hb17)
      clear hb17 H16
      clear HL
      obtain ⟨hreb, hokl, hnl⟩ := list_facts HOK.out.2.1 HOK.out.2.2 h6
      have HFL := fromlist_any (fun k => k < w17.heap.size) (f + 1) (spL a) lo lc w17 (fun k h => h) (cells_chg HC.out (chg_of_below H17.out.hb (fun _ => False)) (fun e => e)) hlrow.toS hlno hokl hnl
      clear hokl hnl hlrow hlno
      go_wp2_with fail
      refine HFL.mono ?_
      rintro e w18 ⟨hb18, te2, G, rfl, hte2, htv2⟩
      rw [hreb] at hte2
      rw [hte2] at htv2
      obtain ⟨jk, jn, js, ju, jao, jcap, jl⟩ := te2
      have hb19 := hb18.trans (((Below.refl w18.heap.size w18).alloc (Nat.le_refl _) (.cells #[.int .i8 jk, .int .i64 jn, .string js, .string ju, .slice jao jl.length jcap] 25)).mono hb18.size)
      have HG19 := Lib.hid (heap_new w18 (.cells #[.int .i8 jk, .int .i64 jn, .string js, .string ju, .slice jao jl.length jcap] 25))
      have HTV := Lib.hid (htv2.keep ((Below.refl w18.heap.size w18).alloc (Nat.le_refl _) (.cells #[.int .i8 jk, .int .i64 jn, .string js, .string ju, .slice jao jl.length jcap] 25)))
      have H19 := Lib.hid (H17.out.keep hb19)
      clear HFL hb18 hb19 htv2 H17 hte2 hreb
      simp only [TE.cells] at *
      go_wp2_with (with_reducible refine stop_op (o := ⟨_, .store 25 (.tmp 17) (.tmp 124), _, _, _, _⟩) ?_)
      refine Lib.hid ?_
      refine wpList_store_new (o := ⟨none, _, _, _, _, _⟩) rfl 25 (.tmp 17) (.tmp 124) rfl #[.int .i8 jk, .int .i64 jn, .string js, .string ju, .slice jao jl.length jcap] rfl rfl (infoTM' _ rfl) rfl (by simp [Value.oneCell']) ?_
      generalize w18.alloc (.cells #[.int .i8 jk, .int .i64 jn, .string js, .string ju, .slice jao jl.length jcap] 25) = W19 at *
      generalize w18.heap.size = p19 at *
      have hsm2 := rsame_any G f a a _ _ W19 HTV.out (HA.out _ H19.out.hb)
      rw [eqT_refl] at hsm2
      obtain ⟨u0, -⟩ := cells_at HG19.out 0 _ rfl
      obtain ⟨u1, -⟩ := cells_at HG19.out 1 _ rfl
      obtain ⟨u2, -⟩ := cells_at HG19.out 2 _ rfl
      obtain ⟨u3, -⟩ := cells_at HG19.out 3 _ rfl
      obtain ⟨u4, -⟩ := cells_at HG19.out 4 _ rfl
      obtain ⟨x0, x1, x2, x3, x4, y0, y1, y2, y3, y4, z0, z1, z2, z3, z4⟩ := H19.out.see
      dsimp only at x0 x1 x2 x3 x4 y0 y1 y2 y3 y4 z0 z1 z2 z3 z4
      go_wp2_with fail
      refine hsm2.mono ?_
      rintro e w20 ⟨rfl, hb20⟩
      clear u0 u1 u2 u3 u4 hsm2 HTV HG19
      clear x0 x1 x2 x3 x4 y0 y1 y2 y3 y4 z0 z1 z2 z3 z4
      have H20 := Lib.hid (H19.out.keep hb20)
      clear hb20 H19
      obtain ⟨x0, x1, x2, x3, x4, y0, y1, y2, y3, y4, z0, z1, z2, z3, z4⟩ := H20.out.see
      dsimp only at x0 x1 x2 x3 x4 y0 y1 y2 y3 y4 z0 z1 z2 z3 z4
      by_cases hk6 : a.k = 6
      · have e6 : ak = 6 := by rw [HK.out]; exact hk6
        subst e6
        clear h6 hk6
        have HWK := Lib.hid (wakes_any _ (cells_chg HC.out (chg_of_below H20.out.hb (fun _ => False)) (fun e => e)) (HTB.out _ H20.out.hb))
        go_wp2_with fail
        refine HWK.out.mono ?_
        rintro e w99 ⟨rfl, hb99⟩
        have HB99 := Lib.hid (H20.out.hb.trans (hb99.mono H20.out.hb.size))
        clear hb99 HWK
        go_wp2_with fail
        go_ret
        exact ⟨rfl, HB99.out⟩
      · have hk7 : a.k = 7 := by
          by_cases h7 : a.k = 7
          · exact h7
          · rw [spE_other h7] at h6
            exact absurd h6 hk6
        have e7 : ak = 7 := by rw [HK.out]; exact hk7
        subst e7
        have HPR := proper_any f a _ w20 (HA.out _ H20.out.hb) HOK.out.2.1
        rw [decide_eq_true h6] at HPR
        clear h6 hk6 hk7
        go_wp2_with fail
        refine HPR.mono ?_
        rintro e w21 ⟨rfl, hb21⟩
        clear HPR
        clear x0 x1 x2 x3 x4 y0 y1 y2 y3 y4 z0 z1 z2 z3 z4
        have H21 := Lib.hid (H20.out.keep hb21)
        clear hb21 H20
        have HWK := Lib.hid (wakes_any _ (cells_chg HC.out (chg_of_below H21.out.hb (fun _ => False)) (fun e => e)) (HTB.out _ H21.out.hb))
        go_wp2_with fail
        refine HWK.out.mono ?_
        rintro e w99 ⟨rfl, hb99⟩
        have HB99 := Lib.hid (H21.out.hb.trans (hb99.mono H21.out.hb.size))
        clear hb99 HWK
        go_wp2_with fail
        go_ret
        exact ⟨rfl, HB99.out⟩
    · skip
      clear x0 x1 x2 x3 x4 y0 y1 y2 y3 y4 z0 z1 z2 z3 z4
      have H17 := Lib.hid (H16.out.keep hb17)
      clear hb17 H16
      clear HL
      have hk6 : ¬ a.k = 6 := fun h => by
        rw [spE_other (by rw [h]; decide)] at h6
        exact h6 h
      have hk6b : (ak == 6) = false := by
        have := HK.out
        simp only [beq_eq_false_iff_ne, ne_eq]
        omega
      obtain ⟨x0, x1, x2, x3, x4, y0, y1, y2, y3, y4, z0, z1, z2, z3, z4⟩ := H17.out.see
      dsimp only at x0 x1 x2 x3 x4 y0 y1 y2 y3 y4 z0 z1 z2 z3 z4
      by_cases hk7 : a.k = 7
      · have e7 : ak = 7 := by rw [HK.out]; exact hk7
        subst e7
        have HPR := proper_any f a _ w17 (HA.out _ H17.out.hb) HOK.out.2.1
        rw [decide_eq_false h6] at HPR
        clear h6 hk6 hk7 hk6b
        go_wp2_with fail
        refine HPR.mono ?_
        rintro e w21 ⟨rfl, hb21⟩
        clear HPR
        clear x0 x1 x2 x3 x4 y0 y1 y2 y3 y4 z0 z1 z2 z3 z4
        have H21 := Lib.hid (H17.out.keep hb21)
        clear hb21 H17
        have HWK := Lib.hid (wakes_any _ (cells_chg HC.out (chg_of_below H21.out.hb (fun _ => False)) (fun e => e)) (HTB.out _ H21.out.hb))
        go_wp2_with fail
        refine HWK.out.mono ?_
        rintro e w99 ⟨rfl, hb99⟩
        have HB99 := Lib.hid (H21.out.hb.trans (hb99.mono H21.out.hb.size))
        clear hb99 HWK
        go_wp2_with fail
        go_ret
        exact ⟨rfl, HB99.out⟩
      · have hk7b : (ak == 7) = false := by
          have := HK.out
          simp only [beq_eq_false_iff_ne, ne_eq]
          omega
        clear h6 hk6 hk7
        have HWK := Lib.hid (wakes_any _ (cells_chg HC.out (chg_of_below H17.out.hb (fun _ => False)) (fun e => e)) (HTB.out _ H17.out.hb))
        go_wp2_with fail
        refine HWK.out.mono ?_
        rintro e w99 ⟨rfl, hb99⟩
        have HB99 := Lib.hid (H17.out.hb.trans (hb99.mono H17.out.hb.size))
        clear hb99 HWK
        go_wp2_with fail
        go_ret
        exact ⟨rfl, HB99.out⟩
theorem termOrder_true {H : Type} {enc : TypeId × Value → H} (W : World) {base : Nat} {v0 v1 v2 : Value} {d0 d1 d2 : DataW H} {p0 p1 p2 : List MemPlace} (hv0 : Value.okWide Tryd.prog W .any base 25 v0) (h0 : DataW.Trod enc Tryd.prog W 0 (fun _ => true) true 25 v0 d0 p0)
    (hv1 : Value.okWide Tryd.prog W .any base 25 v1) (h1 : DataW.Trod enc Tryd.prog W 0 (fun _ => true) true 25 v1 d1 p1) (hv2 : Value.okWide Tryd.prog W .any base 25 v2) (h2 : DataW.Trod enc Tryd.prog W 0 (fun _ => true) true 25 v2 d2 p2)
    (hL : laidMetH Tryd.prog [("internal/strconv.uint64pow10", powD), ("pleach/atoms.letters", letD)] W) : Calls Tryd.prog 5 #[v0, v1, v2] W (IsPost W true) := by
  obtain ⟨f, a, ha⟩ := term_of_trod hv0 h0
  obtain ⟨g, b, hb⟩ := term_of_trod hv1 h1
  obtain ⟨h, c, hcc⟩ := term_of_trod hv2 h2
  obtain ⟨hc, ht⟩ := tabs_of W hL
  exact order_core f g h a b c v0 v1 v2 W hc ht ha hb hcc
end Go.Proofs.YtaomakhhkjflaaaDoor
