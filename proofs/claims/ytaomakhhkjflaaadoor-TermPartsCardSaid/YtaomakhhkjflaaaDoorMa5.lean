/- term.Text of a term that may be. Conditions: the term reads, the tables of letters and of powers read as laid. -/
/- the reader: a list whose tail is a list: refused. Conditions: the reader reads; the table of letters reads as laid. -/
/- the law's wakes: true. Conditions: the tables of letters and of powers read as laid. -/
/- the order of terms, in plain Lean: it is an order; equal just if the terms are one. No conditions. -/
/- one text, one term: two contracts on one call meet (a run is one); a place in memory reads as one term. Conditions: the table of letters reads as laid. -/
/- what the listed variables give; terms that may be: what Check and Size answer, in plain Lean. No conditions. -/
import Derived.Test.YtaomakhhkjflaaaDoorMa4
import Derived.Test.YtaomakhhkjflaaaDoorJf
import Derived.Laws.IdiomStrings
import Derived.Test.YtaomakhhkjflaaaDoorTz
import Derived.Test.YtaomakhhkjflaaaDoorTr
import Derived.Test.YtaomakhhkjflaaaDoorTy
import Derived.Test.YtaomakhhkjflaaaDoorLt
import Derived.LaidSub
import Derived.Lib.LaidTab
namespace Go.Proofs.YtaomakhhkjflaaaDoor
open Go.ChangeShapes Go.WideShapes Go.ChangeAt Go.RowKit
set_option linter.unusedVariables false
set_option linter.unusedSimpArgs false
set_option maxRecDepth 100000
theorem may_sz {s : ByteArray} (h : mayS s = true) : s.toList.length ≤ 32 := by
  unfold mayS at h
  rw [fitsB_eq] at h
  simp only [Bool.and_eq_true, decide_eq_true_eq] at h
  rw [ByteArray.toList_eq]
  simp
  omega
theorem wrL_len (N : Nat) (H : ∀ t : Tm, nT t ≤ N → okT t → (tx t).length + 1 ≤ 200 * nT t) : ∀ l : List Tm, (∀ x ∈ l, okT x ∧ nT x ≤ N) → (wrM l).length ≤ 200 * nL l ∧ (wrL l).length ≤ 200 * nL l
  | [], _ => by simp [wrM, wrL]
  | a :: l, h => by
    obtain ⟨h1, h2⟩ := h a List.mem_cons_self
    have h3 := H a h2 h1
    have h4 := (wrL_len N H l fun x hx => h x (List.mem_cons_of_mem _ hx)).1
    rw [wrM, wrL, nL, List.length_cons, List.length_append]
    omega
theorem itoa_len20 (i : Int) (h0 : -9223372036854775808 ≤ i) (h1 : i ≤ 9223372036854775807) : (Lib.itoa i).length ≤ 21 := by
  exact Lib.itoa_length_le i h0 h1
/-- a term's text is not long -/
theorem tx_len : ∀ (N : Nat) (t : Tm), nT t ≤ N → okT t → (tx t).length + 1 ≤ 200 * nT t := by
  intro N
  induction N with
  | zero =>
    intro t h
    have := nT_pos t
    omega
  | succ N ih =>
    intro t hn hok
    have hp := nT_pos t
    by_cases h67 : t.k = 6 ∨ t.k = 7
    · obtain ⟨h1, h2, h3, h4⟩ := sp_facts N t hok hn h67
      have e : tx t = 91 :: (wrC t.l ++ [93]) := by
        obtain ⟨k, n, s, u, l⟩ := t
        rw [tx]
        rcases h67 with h | h <;> (have h : k = _ := h; subst h; simp [form, Tm.l])
      have h5 := (wrL_len N ih _ h2).2
      have h6 := (sp_all (nT t) t (Nat.le_refl _) hok)
      rw [e, h1]
      by_cases hk : (spE t).k = 6
      · rw [if_pos hk]
        simp only [List.length_cons, List.length_append, List.length_nil]
        have := h6.2.2.2.1
        have := nT_pos (spE t)
        omega
      · rw [if_neg hk]
        have h7 := ih _ (h4 hk) h3
        have h8 : t.k = 7 := by
          rcases h67 with h | h
          · exfalso
            apply hk
            rw [(sp_stop (by rw [h]; decide)).2]
            exact h
          · exact h
        have := (h6.2.2.2.2.2 h8).2.1
        simp only [List.length_cons, List.length_append, List.length_nil]
        omega
    · obtain ⟨k, n, s, u, l⟩ := t
      have h67 : ¬ (k = 6 ∨ k = 7) := h67
      have hnn : nT (.mk k n s u l) = nL l + 1 := by rw [nT]
      by_cases h5 : k = 5
      · obtain ⟨-, -, -, h1⟩ := okT_tuple hok h5
        have e : tx (.mk k n s u l) = 123 :: (wrL l ++ [125]) := by rw [tx]; simp [form, h5]
        have h6 := (wrL_len N ih l fun x hx => ⟨h1 x hx, by have := nT_mem hx; omega⟩).2
        rw [e, hnn]
        simp only [List.length_cons, List.length_append, List.length_nil]
        omega
      · have h1 : oneB k n s u l.length = true := by
          rw [okT] at hok
          exact hok.1
        obtain ⟨-, hkk⟩ := oneB_leaf h1 h5 h67
        rcases hkk with ⟨hk, -, -, hm⟩ | ⟨hk, -, -, hm⟩ | ⟨hk, -, -, hm0, hm1⟩ | ⟨hk, hm, hm2, hm0, hm1⟩
        · have e : tx (.mk k n s u l) = Lib.itoa n := by rw [tx]; simp [form, hk]
          simp [mayI] at hm
          have := itoa_len20 n (by omega) (by omega)
          rw [e]
          omega
        · have e : tx (.mk k n s u l) = s.toList := by rw [tx]; simp [form, hk]
          have := may_sz hm
          rw [e]
          omega
        · have := itoa_len20 n (by omega) (by omega)
          rcases hk with hk | hk
          · have e : tx (.mk k n s u l) = [35, 82, 101, 102, 60] ++ Lib.itoa n ++ [62] := by rw [tx]; simp [form, hk]
            rw [e]
            simp only [List.length_cons, List.length_append, List.length_nil]
            omega
          · have e : tx (.mk k n s u l) = [60] ++ Lib.itoa n ++ [62] := by rw [tx]; simp [form, hk]
            rw [e]
            simp only [List.length_cons, List.length_append, List.length_nil]
            omega
        · have := itoa_len20 n (by omega) (by omega)
          have := may_sz hm
          have := may_sz hm2
          have e : tx (.mk k n s u l) = [102, 117, 110, 32] ++ s.toList ++ [58] ++ u.toList ++ [47] ++ Lib.itoa n := by rw [tx]; simp [form, hk]
          rw [e]
          simp only [List.length_cons, List.length_append, List.length_nil]
          omega
theorem tx_pos (t : Tm) (hok : okT t) : 0 < (tx t).length := by
  by_cases h67 : t.k = 6 ∨ t.k = 7
  · have e : tx t = 91 :: (wrC t.l ++ [93]) := by
      obtain ⟨k, n, s, u, l⟩ := t
      rw [tx]
      rcases h67 with h | h <;> (have h : k = _ := h; subst h; simp [form, Tm.l])
    rw [e]
    simp
  · obtain ⟨k, n, s, u, l⟩ := t
    have h67 : ¬ (k = 6 ∨ k = 7) := h67
    by_cases h5 : k = 5
    · rw [tx]
      simp [form, h5]
    · have h1 : oneB k n s u l.length = true := by
        rw [okT] at hok
        exact hok.1
      obtain ⟨-, hkk⟩ := oneB_leaf h1 h5 h67
      rcases hkk with ⟨hk, -, -, hm⟩ | ⟨hk, -, -, hm⟩ | ⟨hk, -, -, hm0, hm1⟩ | ⟨hk, hm, hm2, hm0, hm1⟩
      · have e : tx (.mk k n s u l) = Lib.itoa n := by rw [tx]; simp [form, hk]
        rw [e]
        by_cases h0 : n < 0
        · rw [itoa_neg h0]
          simp
        · obtain ⟨m, rfl⟩ : ∃ m : Nat, n = m := ⟨n.toNat, by omega⟩
          rw [Lib.itoa_nonneg, Lib.decDigits_length]
          exact Lib.nDigits_pos m
      · have e : tx (.mk k n s u l) = s.toList := by rw [tx]; simp [form, hk]
        rw [e, ByteArray.toList_eq]
        have h2 := hm
        unfold mayS at h2
        rw [fitsB_eq] at h2
        simp only [Bool.and_eq_true, decide_eq_true_eq] at h2
        simp
        omega
      · rcases hk with hk | hk <;> (rw [tx]; simp [form, hk])
      · rw [tx]
        simp [form, hk]
/-- a text -/
def TextP (W : World) (t : Tm) (e : Ending) (W' : World) : Prop := e = .returned (.string ⟨(tx t).toArray⟩) ∧ Below W.heap.size W W'
set_option maxHeartbeats 8000000 in
theorem text_any (f : Nat) (t : Tm) (v : Value) (W : World) (hc : Cells W 0 letL) (ht : Lib.TabIs Tryd.prog W "internal/strconv.uint64pow10" .u64 Lib.pow10Tab) (h : TermV f W v t) (hok : checkN t = 0) : Calls Tryd.prog 9 #[v] W (TextP W t) := by
  obtain ⟨hokt, hn⟩ := check_ok hok
  obtain ⟨te, rfl, rfl, hf, hrs⟩ := h.te
  obtain ⟨gk, gn, gs, gu, gao, gcap, gl⟩ := te
  have hb1 := (Below.refl W.heap.size W).alloc (Nat.le_refl _) (.cells #[.int .i8 gk, .int .i64 gn, .string gs, .string gu, .slice gao gl.length gcap] 25)
  have HCH := Lib.hid (check_any f _ _ _ (cells_chg hc (chg_of_below hb1 (fun _ => False)) (fun e => e)) (h.keep hb1))
  have HT := Lib.hid (Lib.tabBelow_of_tabIs ht)
  have HN1 := Lib.hid (heap_new W (.cells #[.int .i8 gk, .int .i64 gn, .string gs, .string gu, .slice gao gl.length gcap] 25))
  have HB1 := Lib.hid hb1
  have HRS := Lib.hid hrs
  have HOK := Lib.hid hokt
  rw [hok] at HCH
  have hlen := tx_len _ _ hn hokt
  have hpos := tx_pos _ hokt
  obtain ⟨y0, -⟩ := cells_at HN1.out 0 _ rfl
  obtain ⟨y1, -⟩ := cells_at HN1.out 1 _ rfl
  obtain ⟨y2, -⟩ := cells_at HN1.out 2 _ rfl
  obtain ⟨y3, -⟩ := cells_at HN1.out 3 _ rfl
  obtain ⟨y4, -⟩ := cells_at HN1.out 4 _ rfl
  clear hc ht h hok hb1 hrs hokt
  have HNT := Lib.hid hn
  clear hn
  generalize hT : TE.t ⟨gk, gn, gs, gu, gao, gcap, gl⟩ = T at *
  simp only [TE.cells, TE.lv] at *
  go_enter Tryd.func9, Tryd.ntmps9
  go_wp2_with fail
  refine HCH.out.mono ?_
  rintro e w2 ⟨rfl, hb2⟩
  have HN2 := Lib.hid (keep_heap HN1.out hb2)
  have hB2 := HB1.out.trans (hb2.mono HB1.out.size)
  clear y0 y1 y2 y3 y4
  obtain ⟨y0, -⟩ := cells_at HN2.out 0 _ rfl
  obtain ⟨y1, -⟩ := cells_at HN2.out 1 _ rfl
  obtain ⟨y2, -⟩ := cells_at HN2.out 2 _ rfl
  obtain ⟨y3, -⟩ := cells_at HN2.out 3 _ rfl
  obtain ⟨y4, -⟩ := cells_at HN2.out 4 _ rfl
  have hrs2 : RowS (SB w2.heap.size w2) f w2 (.slice gao gl.length gcap) gl := HRS.out.chg (chg_of_below hB2 (fun _ => False)) (fun _ _ _ h => h) (fun k _ hl => .inl (by have := hB2.size; omega)) (Nat.le_refl _)
  have HW := Lib.hid (write_all 256 (Nat.le_refl _) ⟨gk, gn, gs, gu, gao, gcap, gl⟩ (by rw [hT]; exact HNT.out) (by rw [hT]; exact HOK.out) w2.heap.size f w2 (.slice none 0 0) [] hf hrs2 (World.ownsRow_nil _ _ _ _) (Nat.le_refl _) (by rw [hT]; have := HNT.out; simp only [List.length_nil]; omega) (Lib.tabBelow_of_tabIs (HT.out _ hB2)))
  simp only [TE.cells] at HW
  have HB2 := Lib.hid hB2
  clear hrs2 hb2 hB2
  go_wp2_with fail
  refine HW.out.mono ?_
  rintro e w3 ⟨v3, rfl, hr3, hc3⟩
  rw [hT, List.nil_append] at hr3
  have hb3 := HB2.out.trans ((hc3.wbelow (Nat.le_refl _)).mono HB2.out.size)
  obtain ⟨l, hl⟩ : ∃ l, l = tx T := ⟨_, rfl⟩
  rw [← hl] at hr3 hpos
  have HL := Lib.hid hl
  have HB3 := Lib.hid hb3
  clear hl y0 y1 y2 y3 y4 hc3 hb3 HW HCH hlen
  have hown := hr3
  unfold BRow at hown
  rcases hown.2 with ⟨-, h0⟩ | ⟨g, cap, cur, rfl, -, -, -, -, -, -⟩
  · omega
  · have hcv := run_convert_bytes_back (P := Tryd.prog) w3 47 9 5 ⟨g, 0, none⟩ cap l Tryd.underlying47 Tryd.underlying5 Tryd.underlying9 (fun j hj => hown.cells (g := g) rfl j _ (by simp [Lib.byteCells, hj]))
    clear hr3 hown
    go_wp2_with fail
    go_ret
    have hl := HL.out
    subst hl
    exact ⟨rfl, HB3.out⟩
end Go.Proofs.YtaomakhhkjflaaaDoor
namespace Go.Proofs.YtaomakhhkjflaaaDoor
open Go.ChangeShapes Go.WideShapes Go.ChangeAt Go.RowKit
set_option linter.unusedVariables false
set_option linter.unusedSimpArgs false
set_option maxRecDepth 100000
/-- it is refused -/
def BadP (W : World) (r : Nat) (s : ByteArray) (e : Ending) (W' : World) : Prop :=
  ∃ te : TE, e = .returned (.tuple #[.agg te.cells.toArray, .int .i64 2]) ∧ Chg (fun k => k = r) W W' ∧ ∃ i b : Nat, RdAt W' r s i b
set_option maxHeartbeats 8000000 in
theorem list_bad (L : List Tm) (hL1 : 1 ≤ L.length) (hL1000 : L.length ≤ 1000) (hmem : ∀ x ∈ L, okT x ∧ nT x ≤ 256) (D : Tm) (hD : okT D) (hDn : nT D ≤ 256) (hD7 : D.k = 7) (W : World) (r : Nat) (s : ByteArray) (i b : Nat) (l : List UInt8) (h : RdAt W r s i b) (hcl : Cells W 0 letL) (hlv : 0 ≠ r)
    (hs : s.size ≤ 1099511627776) (hrest : Rest s i (wrL L ++ 124 :: (tx D ++ l))) (hfl : Foll l) (hb : b + bgL L + bg D ≤ 256) : Calls Tryd.prog 42 #[.pointer (some ⟨r, 0, none⟩)] W (BadP W r s) := by
  have hrl := heap_lt h
  have hb2 := ((Below.refl W.heap.size W).alloc (Nat.le_refl _) (.cells zT 25)).alloc (by simp) (.cells nilC 25)
  have hX := heap_old (heap_new W (.cells zT 25)) (.cells nilC 25)
  have hY := heap_new (W.alloc (.cells zT 25)) (.cells nilC 25)
  have hs1 : (W.alloc (.cells zT 25)).heap.size = W.heap.size + 1 := by simp
  rw [hs1] at hY
  have hs2 : ((W.alloc (.cells zT 25)).alloc (.cells nilC 25)).heap.size = W.heap.size + 2 := by simp
  have HC0 := Lib.hid (chg_of_below hb2 (fun k => k = r))
  have HX := Lib.hid hX
  have HY := Lib.hid hY
  have HCL := Lib.hid hcl
  have HS1 := Lib.hid hs1
  have HS2 := Lib.hid hs2
  have HSEE := Lib.hid (see_any _ r s i b _ [93] (h.keep hb2) hrest hs (by simp))
  have HREST := Lib.hid hrest
  have HFL := Lib.hid hfl
  have HMEM := Lib.hid hmem
  have HD := Lib.hid hD
  clear hb2 hX hY hs2 h hcl hrest hfl hmem hD
  go_enter Tryd.func42, Tryd.ntmps42
  go_wp2_with (with_reducible refine stop_op (o := ⟨_, .store 25 (.tmp 4) (.tmp 8), _, _, _, _⟩) ?_)
  refine Lib.hid ?_
  refine wpList_store_new (o := ⟨none, _, _, _, _, _⟩) rfl 25 (.tmp 4) (.tmp 8) rfl nilC (by rw [hs1]; rfl) rfl (infoTM' _ rfl) rfl (by simp [Value.oneCell']) ?_
  generalize (W.alloc (.cells zT 25)).alloc (.cells nilC 25) = W2 at *
  clear hs1
  go_wp2_with fail
  refine HSEE.out.mono ?_
  rintro e W3 ⟨hc3, (⟨hpre, rfl, hr3⟩ | ⟨hpre, rfl, hr3⟩)⟩
  · exfalso
    match L, hL1, HMEM with
    | a :: L', _, HMEM =>
      obtain ⟨c, w, e, h1, h2⟩ := wr_head (HMEM.out a List.mem_cons_self).1
      rw [wrL_cons, e] at hpre
      obtain ⟨q, e3⟩ := hpre
      simp at e3
      exact h1 e3.1.symm
  have hX3 := hc3.heap HX.out (fun e => by have e : W.heap.size = r := e; omega)
  have hY3 := hc3.heap HY.out (fun e => by have e : W.heap.size + 1 = r := e; omega)
  have hC3 := HC0.out.trans hc3
  have hrow := row_any 256 (term_any 256 (Nat.le_refl _)) L hL1 hL1000 HMEM.out W3 r s i b _ hr3 (cells_chg HCL.out hC3 hlv) hlv hs HREST.out (foll_one (by simp)) (fun c l' e => by simp at e; rw [← e.1]; decide) (by omega)
  have HROW := Lib.hid hrow
  have HX3 := Lib.hid hX3
  have HY3 := Lib.hid hY3
  have HC3 := Lib.hid hC3
  clear hrow hX3 hY3 hC3 hc3 hr3 hpre HX HY HC0 HSEE
  go_wp2_with fail
  refine HROW.out.mono ?_
  rintro e W4 ⟨ao, cap, E, rfl, hmap, hc4, hr4, hT4⟩
  have hr1 := HREST.out.app
  have HSEE := Lib.hid (see_any W4 r s (i + (wrL L).length) (b + bgL L) _ [124] hr4 hr1.2.1 hs (by simp))
  have HR1 := Lib.hid hr1.2.1
  have HX4 := Lib.hid (hc4.heap HX3.out (fun e => by have e : W.heap.size = r := e; omega))
  have HY4 := Lib.hid (hc4.heap HY3.out (fun e => by have e : W.heap.size + 1 = r := e; omega))
  have HC4 := Lib.hid (HC3.out.trans hc4)
  clear hmap hc4 hr4 hT4 hr1 HROW HX3 HY3 HC3
  go_wp2_with fail
  refine HSEE.out.mono ?_
  rintro e W5 ⟨hc5, (⟨hpre, rfl, hr5⟩ | ⟨hpre, rfl, hr5⟩)⟩
  rotate_left
  · exact absurd ⟨_, rfl⟩ hpre
  have hr2 := Rest.app (a := [124]) HR1.out
  have hC5 := HC4.out.trans hc5
  have hcall := term_any 256 (Nat.le_refl _) D hDn HD.out W5 r s (i + (wrL L).length + 1) (b + bgL L) _ hr5 (cells_chg HCL.out hC5 hlv) hlv hs hr2.2.1 HFL.out (by omega)
  have HCALL := Lib.hid hcall
  have HX5 := Lib.hid (hc5.heap HX4.out (fun e => by have e : W.heap.size = r := e; omega))
  have HY5 := Lib.hid (hc5.heap HY4.out (fun e => by have e : W.heap.size + 1 = r := e; omega))
  have HC5 := Lib.hid hC5
  clear hr2 hcall hc5 hr5 hpre HSEE HR1 HX4 HY4 HC4 hC5
  go_wp2_with fail
  refine HCALL.out.mono ?_
  rintro e W6 ⟨te, rfl, hte, hfe, hc6, hr6, hrs6⟩
  have hX6 := hc6.heap HX5.out (fun e => by have e : W.heap.size = r := e; omega)
  have hY6 := hc6.heap HY5.out (fun e => by have e : W.heap.size + 1 = r := e; omega)
  have hC6 := HC5.out.trans hc6
  obtain ⟨gk, gn, gs, gu, gao, gcap, gl⟩ := te
  have hg7 : gk = 7 := by rw [← hD7, ← hte]; rfl
  subst hg7
  have hcs := chg_setRow W6 (W.heap.size + 1) #[.int .i8 7, .int .i64 gn, .string gs, .string gu, .slice gao gl.length gcap]
  have hX7 := hcs.heap hX6 (fun e => by have e : W.heap.size = W.heap.size + 1 := e; omega)
  have hY7 := setRow_heap W6 (W.heap.size + 1) _ #[.int .i8 7, .int .i64 gn, .string gs, .string gu, .slice gao gl.length gcap] _ _ hY6
  have hC7 := hC6.grow hcs (fun k hk e => by have e : k = W.heap.size + 1 := e; omega)
  have hr7 := hcs.heap hr6 (fun e => by have e : r = W.heap.size + 1 := e; omega)
  have HX7 := Lib.hid hX7
  have HY7 := Lib.hid hY7
  have HY6 := Lib.hid hY6
  have HC7 := Lib.hid (And.intro hC7 hr7)
  clear hte hfe hc6 hr6 hrs6 hX6 hY6 hC6 hcs hX7 hY7 hC7 hr7 HX5 HY5 HC5 HCALL
  simp only [TE.cells] at *
  go_wp2_with (with_reducible refine stop_op (o := ⟨_, .store 25 (.tmp 4) (.tmp 26), _, _, _, _⟩) ?_)
  refine Lib.hid ?_
  refine wpList_store_row (o := ⟨none, _, _, _, _, _⟩) rfl 25 (.tmp 4) (.tmp 26) rfl (W.heap.size + 1) #[.int .i8 7, .int .i64 gn, .string gs, .string gu, .slice gao gl.length gcap] rfl rfl 25 nilC HY6.out (infoTM' _ rfl) rfl (by simp [Value.oneCell']) ?_
  generalize W6.setRow (W.heap.size + 1) #[.int .i8 7, .int .i64 gn, .string gs, .string gu, .slice gao gl.length gcap] = W7 at *
  obtain ⟨z0, -⟩ := cells_at HY7.out 0 _ rfl
  go_wp2_with (with_reducible refine stop_op (o := ⟨_, .load 25 (.tmp 4), _, _, _, _⟩) ?_)
  refine Lib.hid ?_
  refine wpList_load_row (o := ⟨_, _, _, _, _, _⟩) rfl 25 (.tmp 4) rfl (W.heap.size + 1) rfl 25 #[.int .i8 7, .int .i64 gn, .string gs, .string gu, .slice gao gl.length gcap] (0, 0) _ HY7.out Tryd.underlying25 rfl (infoTM' _ rfl) ?_
  go_wp2_with (with_reducible refine stop_op (o := ⟨_, .store 25 (.tmp 2) (.tmp 40), _, _, _, _⟩) ?_)
  refine Lib.hid ?_
  refine wpList_store_row (o := ⟨none, _, _, _, _, _⟩) rfl 25 (.tmp 2) (.tmp 40) rfl W.heap.size #[.int .i8 7, .int .i64 gn, .string gs, .string gu, .slice gao gl.length gcap] rfl rfl 25 zT HX7.out (infoTM' _ rfl) rfl (by simp [Value.oneCell']) ?_
  have hcs := chg_setRow W7 W.heap.size #[.int .i8 7, .int .i64 gn, .string gs, .string gu, .slice gao gl.length gcap]
  have HXF := Lib.hid (setRow_heap W7 W.heap.size _ #[.int .i8 7, .int .i64 gn, .string gs, .string gu, .slice gao gl.length gcap] _ _ HX7.out)
  have HFIN : Hid (BadP W r s (.returned (.tuple #[.agg #[.int .i8 7, .int .i64 gn, .string gs, .string gu, .slice gao gl.length gcap], .int .i64 2])) (W7.setRow W.heap.size #[.int .i8 7, .int .i64 gn, .string gs, .string gu, .slice gao gl.length gcap])) := Lib.hid
    ⟨⟨7, gn, gs, gu, gao, gcap, gl⟩, rfl, HC7.out.1.grow hcs (fun k hk e => by have e : k = W.heap.size := e; omega), _, _, hcs.heap HC7.out.2 (fun e => by have e : r = W.heap.size := e; omega)⟩
  clear hcs z0
  go_wp2_with fail
  exact ret_row HXF.out rfl Tryd.underlying25 rfl (infoTM' _ rfl) rfl rfl HFIN.out
set_option maxHeartbeats 8000000 in
theorem term_bad (L : List Tm) (hL1 : 1 ≤ L.length) (hL1000 : L.length ≤ 1000) (hmem : ∀ x ∈ L, okT x ∧ nT x ≤ 256) (D : Tm) (hD : okT D) (hDn : nT D ≤ 256) (hD7 : D.k = 7) (W : World) (r : Nat) (s : ByteArray) (i b : Nat) (l : List UInt8) (h : RdAt W r s i b) (hcl : Cells W 0 letL) (hlv : 0 ≠ r)
    (hs : s.size ≤ 1099511627776) (hrest : Rest s i (91 :: (wrL L ++ 124 :: (tx D ++ l)))) (hfl : Foll l) (hb : b + 1 + bgL L + bg D ≤ 256) : Calls Tryd.prog 26 #[.pointer (some ⟨r, 0, none⟩)] W (BadP W r s) := by
  have hn := heap_new W (.cells zT 25)
  have hb0 := (Below.refl W.heap.size W).alloc (Nat.le_refl _) (.cells zT 25)
  have hrl := heap_lt h
  have HP := Lib.hid (peek_any _ r s i b _ (h.keep hb0) hrest hs)
  have HST1 : Hid (TmI W r s i b (W.alloc (.cells zT 25))) := Lib.hid ⟨chg_of_below hb0 _, h.keep hb0, hn⟩
  have HREST := Lib.hid hrest
  have hb1 : b + 1 ≤ 256 := by omega
  clear hn hb0 h hrest
  unfold PeekP at HP
  rw [show hdN (91 :: (wrL L ++ 124 :: (tx D ++ l))) = 91 from rfl] at HP
  go_enter Tryd.func26, Tryd.ntmps26
  go_wp2_with fail
  generalize W.alloc (.cells zT 25) = W1 at *
  refine HP.out.mono ?_
  rintro e W2 ⟨rfl, hb2⟩
  have HST2 := Lib.hid (HST1.out.keep hb2)
  clear hb2 HP HST1
  obtain ⟨x2, x2f⟩ := cells_at HST2.out.2.1 2 _ rfl
  have hrl2 := heap_lt HST2.out.2.1
  have hw1 : IntKind.i64.wrap ((b : Int) + 1) = (b : Int) + 1 := IntWalk.i64_in _ (by omega)
  have hw2 : ¬ (256 : Int) < (b : Int) + 1 := by omega
  go_wp2_with fail
  have HST3 : Hid (TmI W r s i (b + 1) (W2.setCell ⟨r, 2, none⟩ (.int .i64 ((b : Int) + 1)))) := Lib.hid ⟨HST2.out.1.trans (chg_set (p := ⟨r, 2, none⟩) _), set_at (i := 2) HST2.out.2.1 (.int .i64 ((b : Int) + 1)), (chg_set (p := ⟨r, 2, none⟩) _).heap HST2.out.2.2 (fun e => by have e : W.heap.size = r := e; omega)⟩
  clear x2 x2f HST2
  generalize W2.setCell ⟨r, 2, none⟩ (.int .i64 ((b : Int) + 1)) = W3 at *
  have HSEE := Lib.hid (see_any W3 r s _ _ _ [123] HST3.out.2.1 HREST.out hs (by simp))
  refine HSEE.out.mono ?_
  rintro e W4 ⟨hc4, (⟨hf4, -⟩ | ⟨-, rfl, hr4⟩)⟩
  · exact absurd hf4 (by simp)
  have HST4 := Lib.hid (HST3.out.step hc4 hr4 hrl)
  clear hc4 hr4 HSEE HST3
  go_wp2_with fail
  have HSEE := Lib.hid (see_any W4 r s _ _ _ [91] HST4.out.2.1 HREST.out hs (by simp))
  refine HSEE.out.mono ?_
  rintro e W5 ⟨hc4, (⟨-, rfl, hr4⟩ | ⟨hf4, -⟩)⟩
  rotate_left
  · exact absurd ⟨_, rfl⟩ hf4
  have HST5 := Lib.hid (HST4.out.step hc4 hr4 hrl)
  clear hc4 hr4 HSEE HST4
  have hr5 := (Rest.app (a := [91]) HREST.out).2.1
  have HX := Lib.hid (list_bad L hL1 hL1000 hmem D hD hDn hD7 W5 r s (i + 1) (b + 1) l HST5.out.2.1 (cells_chg hcl HST5.out.1 hlv) hlv hs hr5 hfl (by omega))
  clear hr5
  go_wp2_with fail
  refine HX.out.mono ?_
  rintro e W6 ⟨te, rfl, hc6, i6, b6, hr6⟩
  have HST6 := Lib.hid (HST5.out.step hc6 hr6 hrl)
  obtain ⟨gk, gn, gs, gu, gao, gcap, gl⟩ := te
  clear hc6 hr6 HX HST5
  simp only [TE.cells] at *
  go_wp2_with (with_reducible refine stop_op (o := ⟨_, .store 25 (.tmp 2) (.tmp 66), _, _, _, _⟩) ?_)
  refine Lib.hid ?_
  refine wpList_store_row (o := ⟨none, _, _, _, _, _⟩) rfl 25 (.tmp 2) (.tmp 66) rfl W.heap.size #[.int .i8 gk, .int .i64 gn, .string gs, .string gu, .slice gao gl.length gcap] rfl rfl 25 zT HST6.out.2.2 (infoTM' _ rfl) rfl (by simp [Value.oneCell']) ?_
  have hcs := chg_setRow W6 W.heap.size #[.int .i8 gk, .int .i64 gn, .string gs, .string gu, .slice gao gl.length gcap]
  have HXF := Lib.hid (setRow_heap W6 W.heap.size _ #[.int .i8 gk, .int .i64 gn, .string gs, .string gu, .slice gao gl.length gcap] _ _ HST6.out.2.2)
  have HFIN : Hid (BadP W r s (.returned (.tuple #[.agg #[.int .i8 gk, .int .i64 gn, .string gs, .string gu, .slice gao gl.length gcap], .int .i64 2])) (W6.setRow W.heap.size #[.int .i8 gk, .int .i64 gn, .string gs, .string gu, .slice gao gl.length gcap])) := Lib.hid
    ⟨⟨gk, gn, gs, gu, gao, gcap, gl⟩, rfl, HST6.out.1.grow hcs (fun k hk e => by have e : k = W.heap.size := e; omega), _, _, hcs.heap HST6.out.2.1 (fun e => by have e : r = W.heap.size := e; omega)⟩
  clear hcs
  go_wp2_with fail
  exact ret_row HXF.out rfl Tryd.underlying25 rfl (infoTM' _ rfl) rfl rfl HFIN.out
/-- what is refused is answered by nothing -/
def ReadBad (W : World) (e : Ending) (W' : World) : Prop := e = .returned (.tuple #[.agg zT, .int .i64 0, .int .i64 2]) ∧ Below W.heap.size W W'
set_option maxHeartbeats 8000000 in
theorem read_bad (L : List Tm) (hL1 : 1 ≤ L.length) (hL1000 : L.length ≤ 1000) (hmem : ∀ x ∈ L, okT x ∧ nT x ≤ 256) (D : Tm) (hD : okT D) (hDn : nT D ≤ 256) (hD7 : D.k = 7) (s : ByteArray) (l : List UInt8) (W : World) (hcl : Cells W 0 letL)
    (hs : s.size ≤ 1099511627776) (htx : s.data.toList = 91 :: (wrL L ++ 124 :: (tx D ++ l))) (hfl : Foll l) (hb : 1 + bgL L + bg D ≤ 256) : Calls Tryd.prog 15 #[.string s] W (ReadBad W) := by
  have hlv := letters_lt hcl
  have hb2 := ((Below.refl W.heap.size W).alloc (Nat.le_refl _) (.cells zT 25)).alloc (by simp) (.cells #[.string s, .int .i64 0, .int .i64 0] 51)
  have hX := heap_old (heap_new W (.cells zT 25)) (.cells #[.string s, .int .i64 0, .int .i64 0] 51)
  have hY := heap_new (W.alloc (.cells zT 25)) (.cells #[.string s, .int .i64 0, .int .i64 0] 51)
  have hs1 : (W.alloc (.cells zT 25)).heap.size = W.heap.size + 1 := by simp
  rw [hs1] at hY
  have hs2 : ((W.alloc (.cells zT 25)).alloc (.cells #[.string s, .int .i64 0, .int .i64 0] 51)).heap.size = W.heap.size + 2 := by simp
  have hc0 : Cells ((W.alloc (.cells zT 25)).alloc (.cells #[.string s, .int .i64 0, .int .i64 0] 51)) 0 letL := cells_chg hcl (chg_of_below hb2 (fun _ => False)) (fun e => e)
  have hrest : Rest s 0 (91 :: (wrL L ++ 124 :: (tx D ++ l))) := ⟨Nat.zero_le _, by rw [List.drop_zero]; exact htx⟩
  have HT := Lib.hid (term_bad L hL1 hL1000 hmem D hD hDn hD7 _ (W.heap.size + 1) s 0 0 l hY hc0 (by omega) hs hrest hfl (by omega))
  have HB2 := Lib.hid hb2
  have HX := Lib.hid hX
  have HS1 := Lib.hid hs1
  have HS2 := Lib.hid hs2
  clear hcl hlv hb2 hX hY hs1 hs2 hc0 hrest htx
  go_enter Tryd.func15, Tryd.ntmps15
  go_wp2_with (with_reducible refine stop_op (o := ⟨_, .store 51 (.tmp 5) (.tmp 7), _, _, _, _⟩) ?_)
  refine Lib.hid ?_
  refine wpList_store_new (o := ⟨none, _, _, _, _, _⟩) rfl 51 (.tmp 5) (.tmp 7) rfl #[.string s, .int .i64 0, .int .i64 0] (by rw [HS1.out]; rfl) rfl (infoRD' _ rfl) rfl (by simp [Value.oneCell']) ?_
  generalize (W.alloc (.cells zT 25)).alloc (.cells #[.string s, .int .i64 0, .int .i64 0] 51) = W2 at *
  clear HS1
  go_wp2_with fail
  refine HT.out.mono ?_
  rintro e W3 ⟨te, rfl, hc3, i3, b3, hr3⟩
  have hX3 := hc3.heap HX.out (fun e => by have e : W.heap.size = W.heap.size + 1 := e; omega)
  obtain ⟨gk, gn, gs, gu, gao, gcap, gl⟩ := te
  have hcs := chg_setRow W3 W.heap.size #[.int .i8 gk, .int .i64 gn, .string gs, .string gu, .slice gao gl.length gcap]
  have hX4 := setRow_heap W3 W.heap.size _ #[.int .i8 gk, .int .i64 gn, .string gs, .string gu, .slice gao gl.length gcap] _ _ hX3
  have hw2 := HS2.out
  have hB4 : Below W.heap.size W (W3.setRow W.heap.size #[.int .i8 gk, .int .i64 gn, .string gs, .string gu, .slice gao gl.length gcap]) := (HB2.out.trans (hc3.below (by omega) (fun k e => by have e : k = W.heap.size + 1 := e; omega))).trans (hcs.below (by have := hc3.size; omega) (fun k e => by have e : k = W.heap.size := e; omega))
  have HX3 := Lib.hid hX3
  have HX4 := Lib.hid hX4
  have HB4 := Lib.hid hB4
  clear hc3 hr3 hX3 hcs hX4 hw2 hB4 HT HB2 HX HS2
  simp only [TE.cells] at *
  go_wp2_with (with_reducible refine stop_op (o := ⟨_, .store 25 (.tmp 2) (.tmp 10), _, _, _, _⟩) ?_)
  refine Lib.hid ?_
  refine wpList_store_row (o := ⟨none, _, _, _, _, _⟩) rfl 25 (.tmp 2) (.tmp 10) rfl W.heap.size #[.int .i8 gk, .int .i64 gn, .string gs, .string gu, .slice gao gl.length gcap] rfl rfl 25 zT HX3.out (infoTM' _ rfl) rfl (by simp [Value.oneCell']) ?_
  generalize W3.setRow W.heap.size #[.int .i8 gk, .int .i64 gn, .string gs, .string gu, .slice gao gl.length gcap] = W4 at *
  go_wp2_with (with_reducible refine stop_op (o := ⟨_, .store 25 (.tmp 2) (.tmp 21), _, _, _, _⟩) ?_)
  refine Lib.hid ?_
  refine wpList_store_row (o := ⟨none, _, _, _, _, _⟩) rfl 25 (.tmp 2) (.tmp 21) rfl W.heap.size zT rfl rfl 25 _ HX4.out (infoTM' _ rfl) (by simp [zT]) (by simp [zT, Value.oneCell']) ?_
  have hcs := chg_setRow W4 W.heap.size zT
  have HX5 := Lib.hid (setRow_heap W4 W.heap.size _ zT _ _ HX4.out)
  have HB5 := Lib.hid (HB4.out.trans (hcs.below (by have := HB4.out.size; omega) (fun k e => by have e : k = W.heap.size := e; omega)))
  clear hcs
  go_wp2_with fail
  exact ret_row3 HX5.out rfl Tryd.underlying25 rfl (infoTM' _ rfl) rfl rfl rfl ⟨rfl, HB5.out⟩
end Go.Proofs.YtaomakhhkjflaaaDoor
namespace Go.Proofs.YtaomakhhkjflaaaDoor
open Go.ChangeShapes Go.WideShapes Go.ChangeAt Go.RowKit
set_option linter.unusedVariables false
set_option linter.unusedSimpArgs false
set_option maxRecDepth 100000
abbrev eS : ByteArray := ⟨#[]⟩
abbrev ta : Tm := .mk 1 0 ⟨#[97]⟩ eS []
abbrev tb : Tm := .mk 1 0 ⟨#[98]⟩ eS []
abbrev tn (n : Int) : Tm := .mk 0 n eS eS []
abbrev tw : Tm := .mk 5 0 eS eS [ta, .mk 7 0 eS eS [tn 1, .mk 7 0 eS eS [tn 2, tb]]]
abbrev td : Tm := .mk 7 0 eS eS [tb, .mk 6 0 eS eS []]
theorem ok_ta : okT ta := by rw [okT, okL]; exact ⟨by kernel_rfl, trivial⟩
theorem ok_tb : okT tb := by rw [okT, okL]; exact ⟨by kernel_rfl, trivial⟩
theorem ok_tn (n : Int) (h : mayI n = true) : okT (tn n) := by
  rw [okT, okL]
  refine ⟨?_, trivial⟩
  unfold oneB bareB
  simp [h, empty]
theorem ok_td : okT td := by
  rw [okT, okL, okL, okL]
  refine ⟨by kernel_rfl, ok_tb, ?_, trivial⟩
  rw [okT, okL]
  exact ⟨by kernel_rfl, trivial⟩
theorem ok_tw : okT tw := by
  rw [okT, okL, okL, okL]
  refine ⟨by kernel_rfl, ok_ta, ?_, trivial⟩
  rw [okT, okL, okL, okL]
  refine ⟨by kernel_rfl, ok_tn 1 (by kernel_rfl), ?_, trivial⟩
  rw [okT, okL, okL, okL]
  exact ⟨by kernel_rfl, ok_tn 2 (by kernel_rfl), ok_tb, trivial⟩
theorem it1 : Lib.itoa 1 = [49] := by kernel_rfl
theorem it2 : Lib.itoa 2 = [50] := by kernel_rfl
theorem ba_list (l : List UInt8) : (⟨l.toArray⟩ : ByteArray).toList = l := by rw [ByteArray.toList_eq]
theorem tx_tw : tx tw = [123, 97, 44, 91, 49, 44, 50, 124, 98, 93, 125] := by
  have h1 := ba_list [97]
  have h2 := ba_list [98]
  simp [tx, wrL, wrM, wrC, wrD, wrT, form, it1, it2, h1, h2]
theorem tx_td : tx td = [91, 98, 93] := by
  have h2 := ba_list [98]
  simp [tx, wrL, wrM, wrC, wrD, wrT, form, h2]
theorem wr_ta : wrL [ta] = [97] := by
  have h2 := ba_list [97]
  simp [wrL, wrM, tx, form, h2]
theorem nT_tw : nT tw = 7 := by simp [nT, nL]
theorem nT_td : nT td = 3 := by simp [nT, nL]
theorem chk_tw : checkN tw = 0 := by kernel_rfl
theorem cmp_w : cmpT (tn 3) ta = -1 := by kernel_rfl
theorem lit_term (k n : Int) (s : ByteArray) (h : fields k n s eS) (w : World) : TermV 0 w (.agg #[.int .i8 k, .int .i64 n, .string s, .string ⟨#[]⟩, .slice none 0 0]) (.mk k n s eS []) :=
  ⟨h, .slice none 0 0, rfl, none, 0, rfl, by simp [Tm.l], by omega, fun i t hi => by simp [Tm.l] at hi⟩
set_option maxHeartbeats 8000000 in
theorem wakes_any (W : World) (hc : Cells W 0 letL) (ht : Lib.TabIs Tryd.prog W "internal/strconv.uint64pow10" .u64 Lib.pow10Tab) : Calls Tryd.prog 8 #[] W (IsPost W true) := by
  have HR1 := Lib.hid (readw_any tw ok_tw (by rw [nT_tw]; decide) ⟨#[123, 97, 44, 91, 49, 44, 50, 124, 98, 93, 125]⟩ (by decide) tx_tw.symm W hc)
  have HTAB := Lib.hid (Lib.tabBelow_of_tabIs ht)
  have HCE := Lib.hid hc
  clear hc ht
  go_enter Tryd.func8, Tryd.ntmps8
  go_wp2_with fail
  refine HR1.out.mono ?_
  rintro e W1 ⟨te, rfl, hte, hfe, hb1, hrs1⟩
  obtain ⟨gk, gn, gs, gu, gao, gcap, gl⟩ := te
  simp only [TE.t, Tm.mk.injEq] at hte
  obtain ⟨rfl, rfl, rfl, rfl, rfl⟩ := hte
  have hc1 := cells_chg HCE.out (chg_of_below hb1 (fun _ => False)) (fun e => e)
  have hbx := (Below.refl W1.heap.size W1).alloc (Nat.le_refl _) (.cells #[.int .i8 5, .int .i64 0, .string eS, .string eS, .slice gao 2 gcap] 25)
  have HN1 := Lib.hid (heap_new W1 (.cells #[.int .i8 5, .int .i64 0, .string eS, .string eS, .slice gao 2 gcap] 25))
  have hc2 := cells_chg hc1 (chg_of_below hbx (fun _ => False)) (fun e => e)
  have HR2 := Lib.hid (read_bad [ta] (by decide) (by decide) (fun x hx => by
    simp at hx
    subst hx
    exact ⟨ok_ta, by simp [nT, nL]⟩) td ok_td (by rw [nT_td]; decide) rfl ⟨#[91, 97, 124, 91, 98, 93, 93]⟩ [93] _ hc2 (by decide) (by rw [wr_ta, tx_td]; rfl) (foll_one (by simp)) (by simp [bgL, bg]; decide))
  have HF := Lib.hid hfe
  have HB1 := Lib.hid (hb1.trans (hbx.mono hb1.size))
  have HRS := Lib.hid (hrs1.chg (S' := fun k => W.heap.size ≤ k) (chg_of_below hbx (fun _ => False)) (fun _ _ _ h => h) (fun _ h _ => h) (Nat.le_refl _))
  have HC2 := Lib.hid hc2
  clear hfe hb1 hrs1 hc1 hbx hc2 HR1
  simp only [TE.cells, TE.lv] at *
  go_wp2_with (with_reducible refine stop_op (o := ⟨_, .store 25 (.tmp 1) (.tmp 9), _, _, _, _⟩) ?_)
  refine Lib.hid ?_
  refine wpList_store_new (o := ⟨none, _, _, _, _, _⟩) rfl 25 (.tmp 1) (.tmp 9) rfl #[.int .i8 5, .int .i64 0, .string eS, .string eS, .slice gao 2 gcap] rfl rfl (infoTM' _ rfl) rfl (by simp [Value.oneCell']) ?_
  generalize W1.alloc (.cells #[.int .i8 5, .int .i64 0, .string eS, .string eS, .slice gao 2 gcap] 25) = W2 at *
  go_wp2_with fail
  refine HR2.out.mono ?_
  rintro e W3 ⟨rfl, hb3⟩
  have hby := (Below.refl W3.heap.size W3).alloc (Nat.le_refl _) (.cells zT 25)
  have hb4 := hb3.trans (hby.mono hb3.size)
  have HN4 := Lib.hid (keep_heap HN1.out hb4)
  have HRS4 := Lib.hid (HRS.out.chg (S' := fun k => W.heap.size ≤ k) (chg_of_below hb4 (fun _ => False)) (fun _ _ _ h => h) (fun _ h _ => h) (Nat.le_refl _))
  have HC4 := Lib.hid (cells_chg HC2.out (chg_of_below hb4 (fun _ => False)) (fun e => e))
  have HB4 := Lib.hid (HB1.out.trans (hb4.mono HB1.out.size))
  clear hb3 hby hb4 HR2 HN1 HRS HC2 HB1
  go_wp2_with (with_reducible refine stop_op (o := ⟨_, .store 25 (.tmp 4) (.tmp 14), _, _, _, _⟩) ?_)
  refine Lib.hid ?_
  refine wpList_store_new (o := ⟨none, _, _, _, _, _⟩) rfl 25 (.tmp 4) (.tmp 14) rfl zT rfl rfl (infoTM' _ rfl) rfl (by simp [zT, Value.oneCell']) ?_
  generalize W3.alloc (.cells zT 25) = W4 at *
  obtain ⟨b2, off2, te2, hao, hte2, hfe2, hre2, d0, d1, d2, d3, d4⟩ := row_elem HRS4.out (i := 1) rfl
  have hao : gao = _ := hao
  subst hao
  have hk2 : te2.k = 7 := by
    have := congrArg Tm.k hte2
    exact this
  rw [hk2] at d0
  simp only [Nat.one_mul] at d0
  have HTX := Lib.hid (text_any _ tw (.agg #[.int .i8 5, .int .i64 0, .string eS, .string eS, .slice (some ⟨b2, off2, none⟩) 2 gcap]) W4 HC4.out (HTAB.out _ HB4.out) ⟨HF.out, _, rfl, HRS4.out.row⟩ chk_tw)
  obtain ⟨y0, -⟩ := cells_at HN4.out 0 _ rfl
  obtain ⟨y1, -⟩ := cells_at HN4.out 1 _ rfl
  obtain ⟨y2, -⟩ := cells_at HN4.out 2 _ rfl
  obtain ⟨y3, -⟩ := cells_at HN4.out 3 _ rfl
  obtain ⟨y4, -⟩ := cells_at HN4.out 4 _ rfl
  clear d1 d2 d3 d4 hte2 hfe2 hre2 hk2
  go_wp2_with fail
  refine HTX.out.mono ?_
  rintro e W5 ⟨he, hb5⟩
  rw [tx_tw] at he
  subst he
  have hb5' := HB4.out.trans (hb5.mono HB4.out.size)
  have HC5 := cells_chg HC4.out (chg_of_below hb5 (fun _ => False)) (fun e => e)
  have HCM := Lib.hid (compare_any 0 0 (tn 3) ta _ _ W5 HC5 (lit_term 0 3 eS ⟨by decide, by decide, by decide, by decide⟩ W5) (lit_term 1 0 ⟨#[97]⟩ ⟨by decide, by decide, by decide, by decide⟩ W5))
  rw [cmp_w] at HCM
  have HB5 := Lib.hid hb5'
  clear hb5 hb5' HC5 HTX y0 y1 y2 y3 y4 d0 HN4 HRS4 HC4 HB4 HF
  go_wp2_with fail
  refine HCM.out.mono ?_
  rintro e W6 ⟨rfl, hb6⟩
  have HB6 := Lib.hid (HB5.out.trans (hb6.mono HB5.out.size))
  clear hb6 HCM HB5
  go_wp2_with fail
  go_ret
  exact ⟨rfl, HB6.out⟩
end Go.Proofs.YtaomakhhkjflaaaDoor
namespace Go.Proofs.YtaomakhhkjflaaaDoor
open Go.ChangeShapes Go.WideShapes Go.ChangeAt Go.RowKit
set_option linter.unusedVariables false
theorem cmpI_self (a : Int) : cmpI a a = 0 := by simp [cmpI]
theorem cmpI_zero {a b : Int} : cmpI a b = 0 ↔ a = b := by
  unfold cmpI
  constructor
  · intro h
    split at h
    · cases h
    · split at h
      · cases h
      · omega
  · rintro rfl
    simp
/-- rows of numbers, one behind the other -/
def lexI : List Int → List Int → Int
  | [], [] => 0
  | [], _ :: _ => -1
  | _ :: _, [] => 1
  | x :: l, y :: m => if x = y then lexI l m else cmpI x y
theorem lexI_neg : ∀ l m : List Int, lexI l m = - lexI m l
  | [], [] => by simp [lexI]
  | [], _ :: _ => by simp [lexI]
  | _ :: _, [] => by simp [lexI]
  | x :: l, y :: m => by
    rw [lexI, lexI]
    by_cases h : x = y
    · rw [if_pos h, if_pos h.symm, lexI_neg l m]
    · rw [if_neg h, if_neg (fun e => h e.symm)]
      unfold cmpI
      by_cases h1 : x < y
      · rw [if_pos h1, if_neg (by omega), if_pos h1]
      · rw [if_neg h1, if_pos (by omega), if_pos (by omega)]
        rfl
theorem lexI_le : ∀ l m k : List Int, lexI l m ≤ 0 → lexI m k ≤ 0 → lexI l k ≤ 0
  | [], m, [], _, _ => by simp [lexI]
  | [], m, _ :: _, _, _ => by simp [lexI]
  | x :: l, [], k, h, _ => by simp [lexI] at h
  | x :: l, y :: m, [], _, h => by simp [lexI] at h
  | x :: l, y :: m, z :: k, h1, h2 => by
    rw [lexI] at h1 h2 ⊢
    unfold cmpI at *
    by_cases hxy : x = y
    · rw [if_pos hxy] at h1
      by_cases hyz : y = z
      · rw [if_pos hyz] at h2
        rw [if_pos (by omega)]
        exact lexI_le l m k h1 h2
      · rw [if_neg hyz] at h2
        rw [if_neg (by omega)]
        by_cases h : y < z
        · rw [if_pos (by omega)]
          decide
        · rw [if_neg h, if_pos (by omega)] at h2
          exact absurd h2 (by decide)
    · rw [if_neg hxy] at h1
      by_cases h : x < y
      · by_cases hyz : y = z
        · rw [if_neg (by omega), if_pos (by omega)]
          decide
        · rw [if_neg hyz] at h2
          by_cases h' : y < z
          · rw [if_neg (by omega), if_pos (by omega)]
            decide
          · rw [if_neg h', if_pos (by omega)] at h2
            exact absurd h2 (by decide)
      · rw [if_neg h, if_pos (by omega)] at h1
        exact absurd h1 (by decide)
def encB (l : List UInt8) : List Int := l.map (fun c => (c.toNat : Int) + 1) ++ [0]
def cmpB (l m : List UInt8) : Int := if Op.bytesLess l m = true then -1 else if (l == m) = true then 0 else 1
theorem cmpB_nil : cmpB [] [] = 0 := by simp [cmpB, Op.bytesLess]
theorem cmpB_cons (a b : UInt8) (l m : List UInt8) : cmpB (a :: l) (b :: m) = if a = b then cmpB l m else if a < b then -1 else 1 := by
  unfold cmpB
  rw [Op.bytesLess]
  by_cases h : a = b
  · subst h
    have h1 : ¬ a < a := UInt8.lt_irrefl a
    simp [h1]
  · by_cases h1 : a < b
    · simp [h, h1]
    · simp [h, h1]
theorem lex_encB : ∀ (l m : List UInt8) (r q : List Int), lexI (encB l ++ r) (encB m ++ q) = if cmpB l m = 0 then lexI r q else cmpB l m
  | [], [], r, q => by rw [cmpB_nil]; simp [encB, lexI]
  | [], b :: m, r, q => by
    have h : cmpB [] (b :: m) = -1 := by simp [cmpB, Op.bytesLess]
    rw [h, if_neg (by decide)]
    simp only [encB, List.map_nil, List.nil_append, List.cons_append, List.map_cons, lexI]
    rw [if_neg (by omega)]
    unfold cmpI
    rw [if_pos (by omega)]
  | a :: l, [], r, q => by
    have h : cmpB (a :: l) [] = 1 := by simp [cmpB, Op.bytesLess]
    rw [h, if_neg (by decide)]
    simp only [encB, List.map_nil, List.nil_append, List.cons_append, List.map_cons, lexI]
    rw [if_neg (by omega)]
    unfold cmpI
    rw [if_neg (by omega), if_pos (by omega)]
  | a :: l, b :: m, r, q => by
    have ih := lex_encB l m r q
    rw [cmpB_cons]
    simp only [encB, List.cons_append, List.map_cons, lexI] at ih ⊢
    by_cases h : a = b
    · subst h
      rw [if_pos rfl, if_pos rfl, ih]
    · have hn : a.toNat ≠ b.toNat := fun e => h (UInt8.toNat_inj.1 e)
      rw [if_neg (by omega), if_neg h]
      unfold cmpI
      by_cases h1 : a < b
      · have h2 : a.toNat < b.toNat := UInt8.lt_iff_toNat_lt.1 h1
        rw [if_pos (by omega), if_pos h1, if_neg (by decide)]
      · have h2 : ¬ a.toNat < b.toNat := fun e => h1 (UInt8.lt_iff_toNat_lt.2 e)
        rw [if_neg (by omega), if_pos (by omega), if_neg h1, if_neg (by decide)]
theorem lex_encS (s u : ByteArray) (r q : List Int) : lexI (encB s.toList ++ r) (encB u.toList ++ q) = if cmpS s u = 0 then lexI r q else cmpS s u := lex_encB _ _ _ _
mutual
def enc : Tm → List Int
  | .mk k n s u l => k :: (l.length : Int) :: (encB s.toList ++ (encB u.toList ++ (n :: encL l)))
def encL : List Tm → List Int
  | [] => []
  | t :: l => enc t ++ encL l
end
mutual
theorem lex_enc : ∀ (a b : Tm) (r q : List Int), lexI (enc a ++ r) (enc b ++ q) = if ord a b = 0 then lexI r q else ord a b
  | .mk k n s u l, .mk k' n' s' u' l', r, q => by
    rw [enc, enc, ord]
    simp only [List.cons_append, List.append_assoc, lexI]
    by_cases hk : k = k'
    · rw [if_pos hk, if_pos hk]
      by_cases hl : l.length = l'.length
      · rw [if_pos (by omega), lex_encS, lex_encS]
        simp only [orL, hl, cmpI_self, if_true]
        by_cases h1 : cmpS s s' = 0
        · rw [if_pos h1, if_pos h1]
          by_cases h2 : cmpS u u' = 0
          · rw [if_pos h2, if_pos h2, lexI]
            by_cases h3 : n = n'
            · subst h3
              rw [if_pos rfl, lex_encL l l' r q hl, cmpI_self]
              by_cases h4 : ordL l l' = 0 <;> simp [h4]
            · have h5 : ¬ cmpI n n' = 0 := fun e => h3 (cmpI_zero.1 e)
              rw [if_neg h3, if_neg h5, if_neg h5]
          · rw [if_neg h2, if_neg h2, if_neg h2]
        · rw [if_neg h1, if_neg h1, if_neg h1]
      · have h5 : ¬ cmpI (l.length : Int) (l'.length : Int) = 0 := fun e => hl (by have := cmpI_zero.1 e; omega)
        rw [if_neg (by omega), orL, if_neg h5, if_neg h5]
    · have h5 : ¬ cmpI k k' = 0 := fun e => hk (cmpI_zero.1 e)
      rw [if_neg hk, if_neg hk, if_neg h5]
theorem lex_encL : ∀ (l l' : List Tm) (r q : List Int), l.length = l'.length → lexI (encL l ++ r) (encL l' ++ q) = if ordL l l' = 0 then lexI r q else ordL l l'
  | [], [], r, q, _ => by simp [encL, ordL]
  | [], _ :: _, r, q, h => by simp at h
  | _ :: _, [], r, q, h => by simp at h
  | a :: l, b :: l', r, q, h => by
    rw [encL, encL, ordL, List.append_assoc, List.append_assoc, lex_enc a b, lex_encL l l' r q (by simpa using h)]
    by_cases h1 : ord a b = 0
    · rw [if_pos h1, if_pos h1]
    · rw [if_neg h1, if_neg h1, if_neg h1]
end
theorem ord_lex (a b : Tm) : ord a b = lexI (enc a) (enc b) := by
  have h := lex_enc a b [] []
  rw [List.append_nil, List.append_nil] at h
  rw [h, lexI]
  by_cases h0 : ord a b = 0
  · rw [if_pos h0, h0]
  · rw [if_neg h0]
theorem ord_neg (a b : Tm) : ord a b = - ord b a := by rw [ord_lex, ord_lex, lexI_neg]
theorem ord_le {a b c : Tm} (h1 : ord a b ≤ 0) (h2 : ord b c ≤ 0) : ord a c ≤ 0 := by
  rw [ord_lex] at *
  exact lexI_le _ _ _ h1 h2
theorem ord_ge {a b c : Tm} (h1 : 0 ≤ ord a b) (h2 : 0 ≤ ord b c) : 0 ≤ ord a c := by
  have h3 := ord_neg a b
  have h4 := ord_neg b c
  have h5 := ord_neg a c
  have := ord_le (a := c) (b := b) (c := a) (by omega) (by omega)
  omega
theorem cmpB_zero {l m : List UInt8} (h : cmpB l m = 0) : l = m := by
  unfold cmpB at h
  split at h
  · cases h
  · split at h
    · rename_i h2
      simpa using h2
    · cases h
theorem orL_zero {x : Int} {l : List Int} (h : orL (x :: l) = 0) : x = 0 ∧ orL l = 0 := by
  rw [orL] at h
  split at h
  · rename_i h1
    exact ⟨h1, h⟩
  · rename_i h1
    exact absurd h h1
mutual
theorem ord_zero : ∀ (a b : Tm), ord a b = 0 → a = b
  | .mk k n s u l, .mk k' n' s' u' l', h => by
    rw [ord] at h
    by_cases hk : k = k'
    · rw [if_pos hk] at h
      obtain ⟨h1, h⟩ := orL_zero h
      obtain ⟨h2, h⟩ := orL_zero h
      obtain ⟨h3, h⟩ := orL_zero h
      obtain ⟨h4, h⟩ := orL_zero h
      obtain ⟨h5, h⟩ := orL_zero h
      have e2 := cmpB_zero h2
      have e3 := cmpB_zero h3
      rw [ByteArray.toList_eq, ByteArray.toList_eq] at e2 e3
      have e1 := cmpI_zero.1 h1
      have e4 := cmpI_zero.1 h4
      have e5 := ordL_zero l l' (by omega) h5
      have e6 : s = s' := ByteArray.ext (Array.ext' e2)
      have e7 : u = u' := ByteArray.ext (Array.ext' e3)
      rw [hk, e4, e5, e6, e7]
    · rw [if_neg hk] at h
      exact absurd (cmpI_zero.1 h) hk
theorem ordL_zero : ∀ (l l' : List Tm), l.length = l'.length → ordL l l' = 0 → l = l'
  | [], [], _, _ => rfl
  | [], _ :: _, h, _ => by simp at h
  | _ :: _, [], h, _ => by simp at h
  | a :: l, b :: l', hl, h => by
    rw [ordL] at h
    by_cases h1 : ord a b = 0
    · rw [if_pos h1] at h
      rw [ord_zero a b h1, ordL_zero l l' (by simpa using hl) h]
    · rw [if_neg h1] at h
      exact absurd h h1
end
theorem ord_self (a : Tm) : ord a a = 0 := by
  have := ord_neg a a
  omega
theorem ordL_self : ∀ l : List Tm, ordL l l = 0
  | [] => by rw [ordL]
  | a :: l => by rw [ordL, if_pos (ord_self a), ordL_self l]
/-- a part put otherwise decides -/
theorem ordL_set : ∀ (l : List Tm) (k : Nat) (x t : Tm), l[k]? = some x → ordL l (l.set k t) = ord x t
  | [], k, x, t, h => by simp at h
  | a :: l, 0, x, t, h => by
    simp at h
    subst h
    rw [List.set_cons_zero, ordL]
    by_cases h1 : ord a t = 0
    · rw [if_pos h1, ordL_self, h1]
    · rw [if_neg h1]
  | a :: l, k + 1, x, t, h => by
    rw [List.set_cons_succ, ordL, if_pos (ord_self a)]
    exact ordL_set l k x t (by simpa using h)
mutual
theorem eqT_iff : ∀ (a b : Tm), eqT a b = true → a = b
  | .mk k n s u l, .mk k' n' s' u' l', h => by
    rw [eqT] at h
    simp only [Bool.and_eq_true, decide_eq_true_eq] at h
    obtain ⟨h1, h2, h3, h4, h5, h6⟩ := h
    rw [h1, h2, h3, h4, eqL_iff l l' h5 h6]
theorem eqL_iff : ∀ (l l' : List Tm), l.length = l'.length → eqL l l' = true → l = l'
  | [], [], _, _ => rfl
  | [], _ :: _, h, _ => by simp at h
  | _ :: _, [], h, _ => by simp at h
  | a :: l, b :: l', hl, h => by
    rw [eqL, Bool.and_eq_true] at h
    rw [eqT_iff a b h.1, eqL_iff l l' (by simpa using hl) h.2]
end
theorem eqT_ord (a b : Tm) : eqT a b = decide (ord a b = 0) := by
  by_cases h : ord a b = 0
  · rw [ord_zero a b h, eqT_refl, decide_eq_true (ord_self b)]
  · rw [decide_eq_false h]
    cases he : eqT a b with
    | false => rfl
    | true =>
      have := eqT_iff a b he
      subst this
      exact absurd (ord_self a) h
end Go.Proofs.YtaomakhhkjflaaaDoor
namespace Go.Proofs.YtaomakhhkjflaaaDoor
open Go.ChangeShapes Go.WideShapes Go.ChangeAt Go.RowKit
set_option linter.unusedVariables false
theorem runs_one {P : Program} {o1 o2 : Outcome} {w1 w2 : World} {m1 m2 : Machine} (h1 : step P m1 = .ended o1 w1) (h2 : step P m2 = .ended o2 w2) : ∀ (i j : Nat) (m : Machine), runN P i m = .next m1 → runN P j m = .next m2 → m1 = m2
  | 0, 0, m, e1, e2 => by
    simp only [runN, Stepped.next.injEq] at e1 e2
    rw [← e1, e2]
  | 0, j + 1, m, e1, e2 => by
    simp only [runN, Stepped.next.injEq] at e1
    subst e1
    simp only [runN, h1] at e2
    cases e2
  | i + 1, 0, m, e1, e2 => by
    simp only [runN, Stepped.next.injEq] at e2
    subst e2
    simp only [runN, h2] at e1
    cases e1
  | i + 1, j + 1, m, e1, e2 => by
    simp only [runN] at e1 e2
    cases hs : step P m with
    | next m' =>
      rw [hs] at e1 e2
      exact runs_one h1 h2 i j m' e1 e2
    | ended o w =>
      rw [hs] at e1
      cases e1
/-- what two contracts say of one call they say of one end -/
theorem calls_both {P : Program} {f : FuncId} {args : Array Value} {w : World} {R R' : Ending → World → Prop} (h : Calls P f args w R) (h' : Calls P f args w R') (hi : P.inits.idxOf? f = none)
    (hr : ∀ e w', R e w' → ∃ v, e = .returned v) (hr' : ∀ e w', R' e w' → ∃ v, e = .returned v) : ∃ e w', R e w' ∧ R' e w' := by
  obtain ⟨e1, w1, fr1, r1, c1, f1, l1⟩ := h []
  obtain ⟨e2, w2, fr2, r2, c2, f2, l2⟩ := h' []
  obtain ⟨v1, rfl⟩ := hr _ _ r1
  obtain ⟨v2, rfl⟩ := hr' _ _ r2
  have s1 := step_leave_done l1 (by rw [f1]; exact hi)
  have s2 := step_leave_done l2 (by rw [f2]; exact hi)
  obtain ⟨i, c1⟩ := c1
  obtain ⟨j, c2⟩ := c2
  have e := runs_one s1 s2 i j _ c1 c2
  rw [e, s2] at s1
  simp only [Stepped.ended.injEq, Outcome.done.injEq] at s1
  obtain ⟨rfl, rfl⟩ := s1
  exact ⟨_, _, r1, r2⟩
theorem AtS.one {S S' : Nat → Prop} {w : World} : ∀ {f g b o : Nat} {t t' : Tm}, AtS S f w b o t → AtS S' g w b o t' → t = t' := by
  intro f
  induction f with
  | zero => intro g b o t t' h; exact h.elim
  | succ f ih =>
    intro g b o t t' h h'
    obtain ⟨k, n, s, u, l⟩ := t
    obtain ⟨k', n', s', u', l'⟩ := t'
    cases g with
    | zero => exact h'.elim
    | succ g =>
      obtain ⟨-, -, ao, cap, ⟨a0, a1, a2, a3, a4⟩, -, -, h5⟩ := h
      obtain ⟨-, -, ao', cap', ⟨b0, b1, b2, b3, b4⟩, -, -, h6⟩ := h'
      rw [a0] at b0
      rw [a1] at b1
      rw [a2] at b2
      rw [a3] at b3
      rw [a4] at b4
      simp only [Option.some.injEq, Value.int.injEq, Value.string.injEq, Value.slice.injEq, true_and] at b0 b1 b2 b3 b4
      obtain ⟨e1, e2, e3⟩ := b4
      subst b0 b1 b2 b3 e1
      have hl : l = l' := by
        apply List.ext_getElem? 
        intro i
        cases hi : l[i]? with
        | none =>
          rw [List.getElem?_eq_none_iff] at hi
          rw [List.getElem?_eq_none (by omega)]
        | some t =>
          have hlt := (List.getElem?_eq_some_iff.1 hi).1
          obtain ⟨t', ht'⟩ : ∃ t', l'[i]? = some t' := ⟨l'[i]'(by omega), List.getElem?_eq_getElem _⟩
          obtain ⟨b1, off1, q1, x1⟩ := h5 i t hi
          obtain ⟨b2, off2, q2, x2⟩ := h6 i t' ht'
          rw [q1] at q2
          simp only [Option.some.injEq, Addr.mk.injEq] at q2
          obtain ⟨rfl, rfl, -⟩ := q2
          rw [ht', ih x1 x2]
      rw [hl]
theorem RowS.one {S S' : Nat → Prop} {f g : Nat} {w : World} {v : Value} {l l' : List Tm} (h : RowS S f w v l) (h' : RowS S' g w v l') : l = l' := by
  obtain ⟨ao, cap, rfl, -, -, h5⟩ := h
  obtain ⟨ao', cap', e, -, -, h6⟩ := h'
  simp only [Value.slice.injEq] at e
  obtain ⟨rfl, e2, -⟩ := e
  apply List.ext_getElem?
  intro i
  cases hi : l[i]? with
  | none =>
    rw [List.getElem?_eq_none_iff] at hi
    rw [List.getElem?_eq_none (by omega)]
  | some t =>
    have hlt := (List.getElem?_eq_some_iff.1 hi).1
    obtain ⟨t', ht'⟩ : ∃ t', l'[i]? = some t' := ⟨l'[i]'(by omega), List.getElem?_eq_getElem _⟩
    obtain ⟨b1, off1, q1, x1⟩ := h5 i t hi
    obtain ⟨b2, off2, q2, x2⟩ := h6 i t' ht'
    rw [q1] at q2
    simp only [Option.some.injEq, Addr.mk.injEq] at q2
    obtain ⟨rfl, rfl, -⟩ := q2
    rw [ht', AtS.one x1 x2]
/-- terms of one text are one -/
theorem tx_one {W : World} (hc : Cells W 0 letL) {a b : Tm} (ha : okT a) (hna : nT a ≤ 256) (hb : okT b) (hnb : nT b ≤ 256) (h : tx a = tx b) : a = b := by
  have hlen := tx_len _ _ hna ha
  have hs : (⟨(tx a).toArray⟩ : ByteArray).size ≤ 1099511627776 := by
    simp [ByteArray.size]
    omega
  have h1 := readw_any a ha hna ⟨(tx a).toArray⟩ hs rfl W hc
  have h2 := readw_any b hb hnb ⟨(tx a).toArray⟩ hs h W hc
  obtain ⟨e, w', ⟨te, e1, t1, -, -, r1⟩, ⟨te', e2, t2, -, -, r2⟩⟩ := calls_both h1 h2 (by kernel_rfl) (fun e w' h => by obtain ⟨te, e, -⟩ := h; exact ⟨_, e⟩) (fun e w' h => by obtain ⟨te, e, -⟩ := h; exact ⟨_, e⟩)
  subst e1
  obtain ⟨k, n, s, u, ao, cap, l⟩ := te
  obtain ⟨k', n', s', u', ao', cap', l'⟩ := te'
  simp only [Ending.returned.injEq, Value.tuple.injEq, TE.cells] at e2
  have e3 := congrArg Array.toList e2
  simp at e3
  obtain ⟨rfl, rfl, rfl, rfl, e4, e5, e6⟩ := e3
  have hv : (⟨k, n, s, u, ao, cap, l⟩ : TE).lv = (⟨k, n, s, u, ao', cap', l'⟩ : TE).lv := by
    simp only [TE.lv, Value.slice.injEq]
    exact ⟨e4, e5, e6⟩
  rw [← hv] at r2
  have hl := RowS.one r1 r2
  rw [← t1, ← t2]
  simp only [TE.t] at *
  rw [hl]
end Go.Proofs.YtaomakhhkjflaaaDoor
namespace Go.Proofs.YtaomakhhkjflaaaDoor
open Go.ChangeShapes Go.WideShapes Go.ChangeAt Go.RowKit
set_option linter.unusedVariables false
set_option maxRecDepth 100000
def powD : DataW Unit := Lib.tabData .u64 Lib.pow10Tab
theorem tabs_of (W : World) (h : laidMetH Tryd.prog [("internal/strconv.uint64pow10", powD), ("pleach/atoms.letters", letD)] W) : Cells W 0 letL ∧ Lib.TabIs Tryd.prog W "internal/strconv.uint64pow10" .u64 Lib.pow10Tab := by
  have h1 := h.filter (fun x => x.1 == "pleach/atoms.letters")
  have h2 := h.filter (fun x => x.1 == "internal/strconv.uint64pow10")
  have e1 : [("internal/strconv.uint64pow10", powD), ("pleach/atoms.letters", letD)].filter (fun x => x.1 == "pleach/atoms.letters") = [("pleach/atoms.letters", letD)] := by kernel_rfl
  have e2 : [("internal/strconv.uint64pow10", powD), ("pleach/atoms.letters", letD)].filter (fun x => x.1 == "internal/strconv.uint64pow10") = [("internal/strconv.uint64pow10", powD)] := by kernel_rfl
  rw [e1] at h1
  rw [e2, MakeChecks.laidMetH_plain _ _ _ (by kernel_rfl)] at h2
  exact ⟨letters_of W h1, Lib.tabIs_of_head (g := 1) (by kernel_rfl) (by kernel_rfl) Tryd.underlying114 Tryd.underlying82 (by kernel_rfl) (by kernel_rfl) h2⟩
mutual
theorem chk_ok : ∀ (t : Tm) (c : Int), okT t → 0 ≤ c → c + nT t ≤ 256 → chk t (c, true) = (c + nT t, true)
  | .mk k n s u l, c, h, h0, h1 => by
    rw [okT] at h
    rw [nT] at h1
    have e : chkL l (c + 1, true) = (c + 1 + nL l, true) := chkL_ok l (c + 1) h.2 (by omega) (by omega)
    rw [chk, h.1]
    simp only [Bool.and_true]
    rw [e, nT]
    simp
    omega
theorem chkL_ok : ∀ (l : List Tm) (c : Int), okL l → 0 ≤ c → c + nL l ≤ 256 → chkL l (c, true) = (c + nL l, true)
  | [], c, _, _, _ => by simp [chkL, nL]
  | t :: l, c, h, h0, h1 => by
    rw [okL] at h
    rw [nL] at h1
    rw [chkL, if_neg (by simp; omega), chk_ok t c h.1 h0 (by omega), chkL_ok l _ h.2 (by omega) (by omega), nL]
    simp
    omega
end
theorem ok_check {t : Tm} (h : okT t) (hn : nT t ≤ 256) : checkN t = 0 := by
  unfold checkN
  rw [chk_ok t 0 h (by omega) (by omega)]
  simp
  omega
theorem ok_size {t : Tm} (hn : nT t ≤ 256) : szT t 0 = nT t := by
  have := szT_eq t 0 (by omega) (by omega)
  omega
theorem okL_of : ∀ {l : List Tm}, (∀ x ∈ l, okT x) → okL l
  | [], _ => by rw [okL]; trivial
  | a :: l, h => by
    rw [okL]
    exact ⟨h a List.mem_cons_self, okL_of fun x hx => h x (List.mem_cons_of_mem _ hx)⟩
end Go.Proofs.YtaomakhhkjflaaaDoor
