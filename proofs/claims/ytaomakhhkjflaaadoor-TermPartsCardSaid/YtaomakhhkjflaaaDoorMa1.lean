/- the reader: term, its kinds that begin with a sign. Conditions: the reader reads; terms are read. -/
/- the reader: term, tuples. Conditions: the reader reads; terms are read. -/
/- the reader: term, pids and refs and what is below nothing. Conditions: the reader reads. -/
/- the reader: term, numbers and atoms. Conditions: the reader reads; the table of letters reads as laid. -/
/- the reader: term, funs; every term. Conditions: the reader reads; the table of letters reads as laid. -/
import Derived.Test.YtaomakhhkjflaaaDoorXd
namespace Go.Proofs.YtaomakhhkjflaaaDoor
open Go.ChangeShapes Go.WideShapes Go.ChangeAt Go.RowKit
set_option linter.unusedVariables false
set_option linter.unusedSimpArgs false
set_option maxRecDepth 100000
theorem bg_pos (t : Tm) : 1 ≤ bg t := by
  obtain ⟨k, n, s, u, l⟩ := t
  rw [bg]
  omega
/-- term has a box for what it answers -/
def TmI (W : World) (r : Nat) (s : ByteArray) (i b : Nat) (Wx : World) : Prop := Chg (fun k => k = r) W Wx ∧ RdAt Wx r s i b ∧ Wx.heap[W.heap.size]? = some (.cells zT 25 (0, 0))
theorem TmI.step {W : World} {r : Nat} {s : ByteArray} {i b i' b' : Nat} {Wx Wy : World} (h : TmI W r s i b Wx) (hc : Chg (fun k => k = r) Wx Wy) (hr : RdAt Wy r s i' b') (hrl : r < W.heap.size) : TmI W r s i' b' Wy :=
  ⟨h.1.trans hc, hr, hc.heap h.2.2 (fun e => by have e : W.heap.size = r := e; omega)⟩
theorem TmI.keep {W : World} {r : Nat} {s : ByteArray} {i b : Nat} {Wx Wy : World} (h : TmI W r s i b Wx) (hb : Below Wx.heap.size Wx Wy) : TmI W r s i b Wy :=
  ⟨h.1.trans (chg_of_below hb _), h.2.1.keep hb, keep_heap h.2.2 hb⟩
theorem TmI.fin {W : World} {r : Nat} {s : ByteArray} {i b : Nat} {Wx : World} (h : TmI W r s i b Wx) (hrl : r < W.heap.size) (te : TE) {t : Tm} (ht : te.t = t) (hf : fields te.k te.n te.s te.u) {F : Nat} (hrs : RowS (fun k => W.heap.size < k) F Wx te.lv te.l) :
    TrP W r s i b (nT t) t (.returned (.tuple #[.agg te.cells.toArray, .int .i64 0])) (Wx.setRow W.heap.size te.cells.toArray) ∧ (Wx.setRow W.heap.size te.cells.toArray).heap[W.heap.size]? = some (.cells te.cells.toArray 25 (0, 0)) := by
  have hcs := chg_setRow Wx W.heap.size te.cells.toArray
  refine ⟨⟨te, rfl, ht, hf, h.1.grow hcs (fun k hk e => by have e : k = W.heap.size := e; omega), hcs.heap h.2.1 (fun e => by have e : r = W.heap.size := e; omega), RowS.nT (hrs.chg hcs (fun k hk _ e => ?_) (fun k hk _ => ?_) (Nat.le_refl _)) ht⟩, setRow_heap Wx W.heap.size _ te.cells.toArray _ _ h.2.2⟩
  · have e : k = W.heap.size := e
    have hk : W.heap.size < k := hk
    omega
  · have hk : W.heap.size < k := hk
    show W.heap.size ≤ k
    omega
theorem rowS_nil (S : Nat → Prop) (F : Nat) (W : World) : RowS S F W (.slice none 0 0) [] := ⟨none, 0, rfl, by simp, by omega, fun i t hi => by simp at hi⟩
set_option maxHeartbeats 8000000 in
theorem term_list (N : Nat) (ih : TermRd N) (t : Tm) (hok : okT t) (hnt : nT t ≤ N + 1) (hn256 : nT t ≤ 256) (hk : t.k = 6 ∨ t.k = 7) (W : World) (r : Nat) (s : ByteArray) (i b : Nat) (l : List UInt8) (h : RdAt W r s i b) (hcl : Cells W 0 letL) (hlv : 0 ≠ r)
    (hs : s.size ≤ 1099511627776) (hrest : Rest s i (tx t ++ l)) (hb : b + bg t ≤ 256) : Calls Tryd.prog 26 #[.pointer (some ⟨r, 0, none⟩)] W (TrP W r s (i + (tx t).length) (b + bg t) (nT t) t) := by
  have etx : tx t = 91 :: (wrC t.l ++ [93]) := by
    obtain ⟨k, n, s', u, l'⟩ := t
    have hk : k = 6 ∨ k = 7 := hk
    rw [tx]
    unfold form
    rcases hk with rfl | rfl <;> simp [Tm.l]
  have elen : (tx t).length = (wrC t.l).length + 2 := by rw [etx]; simp
  have hrest : Rest s i (91 :: (wrC t.l ++ 93 :: l)) := by
    rw [etx] at hrest
    simpa using hrest
  have hbg := bg_pos t
  have e1 : b + bg t = b + 1 + (bg t - 1) := by omega
  have e2 : i + (tx t).length = i + 1 + (wrC t.l).length + 1 := by omega
  rw [e2]
  have hE1 := Lib.hid e1
  have hBB : b + 1 + (bg t - 1) ≤ 256 := by omega
  rw [e1]
  clear etx elen e1 e2
  have hn := heap_new W (.cells zT 25)
  have hb0 := (Below.refl W.heap.size W).alloc (Nat.le_refl _) (.cells zT 25)
  have hrl := heap_lt h
  have HP := Lib.hid (peek_any _ r s i b _ (h.keep hb0) hrest hs)
  have HST1 : Hid (TmI W r s i b (W.alloc (.cells zT 25))) := Lib.hid ⟨chg_of_below hb0 _, h.keep hb0, hn⟩
  have HREST := Lib.hid hrest
  have hb1 : b + 1 ≤ 256 := by have := bg_pos t; omega
  clear hn hb0 h hrest
  unfold PeekP at HP
  rw [show hdN (91 :: (wrC t.l ++ 93 :: l)) = 91 from rfl] at HP
  go_enter Tryd.func26, Tryd.ntmps26
  go_wp2_with fail
  generalize W.alloc (.cells zT 25) = W1 at *
  refine HP.out.mono ?_
  rintro e W2 ⟨rfl, hb2⟩
  have HST2 := Lib.hid (HST1.out.keep hb2)
  clear hb2 HP HST1
  obtain ⟨x2, x2f⟩ := cells_at HST2.out.2.1 2 _ rfl
  have hrl2 := heap_lt HST2.out.2.1
  have hw1 : IntKind.i64.wrap ((b : Int) + 1) = (b : Int) + 1 := IntWalk.i64_in _ (by omega)
  have hw2 : ¬ (256 : Int) < (b : Int) + 1 := by omega
  go_wp2_with fail
  have HST3 : Hid (TmI W r s i (b + 1) (W2.setCell ⟨r, 2, none⟩ (.int .i64 ((b : Int) + 1)))) := Lib.hid ⟨HST2.out.1.trans (chg_set (p := ⟨r, 2, none⟩) _), set_at (i := 2) HST2.out.2.1 (.int .i64 ((b : Int) + 1)), (chg_set (p := ⟨r, 2, none⟩) _).heap HST2.out.2.2 (fun e => by have e : W.heap.size = r := e; omega)⟩
  clear x2 x2f HST2
  generalize W2.setCell ⟨r, 2, none⟩ (.int .i64 ((b : Int) + 1)) = W3 at *
  have HSEE := Lib.hid (see_any W3 r s _ _ _ [123] HST3.out.2.1 HREST.out hs (by simp))
  refine HSEE.out.mono ?_
  rintro e W4 ⟨hc4, (⟨hf4, -⟩ | ⟨-, rfl, hr4⟩)⟩
  · exact absurd hf4 (by simp)
  have HST4 := Lib.hid (HST3.out.step hc4 hr4 hrl)
  clear hc4 hr4 HSEE HST3
  go_wp2_with fail
  have HSEE := Lib.hid (see_any W4 r s _ _ _ [91] HST4.out.2.1 HREST.out hs (by simp))
  refine HSEE.out.mono ?_
  rintro e W5 ⟨hc4, (⟨-, rfl, hr4⟩ | ⟨hf4, -⟩)⟩
  rotate_left
  · exact absurd ⟨_, rfl⟩ hf4
  have HST5 := Lib.hid (HST4.out.step hc4 hr4 hrl)
  clear hc4 hr4 HSEE HST4
  have hr5 := (Rest.app (a := [91]) HREST.out).2.1
  have hx := list_any N ih t hok hnt hn256 hk W5 r s (i + 1) (b + 1) l HST5.out.2.1 (cells_chg hcl HST5.out.1 hlv) hlv hs hr5 hBB
  have HX := Lib.hid hx
  clear hr5 hx ih
  go_wp2_with fail
  refine HX.out.mono ?_
  rintro e W6 ⟨te, rfl, hte, hfe, hc6, hr6, hrs6⟩
  have HST6 := Lib.hid (HST5.out.step hc6 hr6 hrl)
  have hl5 := heap_lt HST5.out.2.2
  obtain ⟨HF, hx6⟩ := HST6.out.fin hrl te hte hfe (hrs6.chg (S' := fun k => W.heap.size < k) (Chg.refl (fun _ => False) _) (fun _ _ _ h => h) (fun k hk _ => by have hk : W5.heap.size ≤ k := hk; show W.heap.size < k; omega) (Nat.le_refl _))
  have HF := Lib.hid HF
  have HX6 := Lib.hid hx6
  obtain ⟨gk, gn, gs, gu, gao, gcap, gl⟩ := te
  clear hte hfe hc6 hr6 hrs6 hx6 HX HST5
  simp only [TE.cells] at *
  go_wp2_with (with_reducible refine stop_op (o := ⟨_, .store 25 (.tmp 2) (.tmp 66), _, _, _, _⟩) ?_)
  refine Lib.hid ?_
  refine wpList_store_row (o := ⟨none, _, _, _, _, _⟩) rfl 25 (.tmp 2) (.tmp 66) rfl W.heap.size #[.int .i8 gk, .int .i64 gn, .string gs, .string gu, .slice gao gl.length gcap] rfl rfl 25 zT HST6.out.2.2 (infoTM' _ rfl) rfl (by simp [Value.oneCell']) ?_
  go_wp2_with fail
  exact ret_row HX6.out rfl Tryd.underlying25 rfl (infoTM' _ rfl) rfl rfl HF.out
end Go.Proofs.YtaomakhhkjflaaaDoor
namespace Go.Proofs.YtaomakhhkjflaaaDoor
open Go.ChangeShapes Go.WideShapes Go.ChangeAt Go.RowKit
set_option linter.unusedVariables false
set_option linter.unusedSimpArgs false
set_option maxRecDepth 100000
theorem okL_mem : ∀ {l : List Tm}, okL l → ∀ x ∈ l, okT x
  | [], _, x, hx => by cases hx
  | a :: l, h, x, hx => by
    rw [okL] at h
    rcases List.mem_cons.1 hx with rfl | hx
    · exact h.1
    · exact okL_mem h.2 x hx
theorem okT_tuple {k n : Int} {s u : ByteArray} {l : List Tm} (h : okT (.mk k n s u l)) (hk : k = 5) : n = 0 ∧ s = ⟨#[]⟩ ∧ u = ⟨#[]⟩ ∧ ∀ x ∈ l, okT x := by
  rw [okT] at h
  obtain ⟨h1, h2⟩ := h
  subst hk
  unfold oneB bareB at h1
  simp at h1
  exact ⟨h1.1, empty_true h1.2.1, empty_true h1.2.2, okL_mem h2⟩
set_option maxHeartbeats 8000000 in
theorem term_tuple (N : Nat) (ih : TermRd N) (L : List Tm) (hok : okT (.mk 5 0 ⟨#[]⟩ ⟨#[]⟩ L)) (hnt : nL L ≤ N) (hn256 : nL L ≤ 256) (W : World) (r : Nat) (s : ByteArray) (i b : Nat) (l : List UInt8) (h : RdAt W r s i b) (hcl : Cells W 0 letL) (hlv : 0 ≠ r)
    (hs : s.size ≤ 1099511627776) (hrest : Rest s i (123 :: (wrL L ++ 125 :: l))) (hb : b + 1 + bgL L ≤ 256) : Calls Tryd.prog 26 #[.pointer (some ⟨r, 0, none⟩)] W (TrP W r s (i + 1 + (wrL L).length + 1) (b + 1 + bgL L) (nT (.mk 5 0 ⟨#[]⟩ ⟨#[]⟩ L)) (.mk 5 0 ⟨#[]⟩ ⟨#[]⟩ L)) := by
  have hLl := nL_len L
  have hmem : ∀ x ∈ L, okT x ∧ nT x ≤ N := fun x hx => ⟨(okT_tuple hok rfl).2.2.2 x hx, by have := nT_mem hx; omega⟩
  have hbL : 1 + bgL L = bg (.mk 5 0 ⟨#[]⟩ ⟨#[]⟩ L) := by simp [bg]
  cases L with
  | nil =>
    have hb1 : b + 1 ≤ 256 := by omega
    clear hmem hLl hbL hnt hn256 ih hok
    simp only [wrL, bgL, List.nil_append, List.length_nil, Nat.add_zero] at *
    have hn := heap_new W (.cells zT 25)
    have hb0 := (Below.refl W.heap.size W).alloc (Nat.le_refl _) (.cells zT 25)
    have hrl := heap_lt h
    have HP := Lib.hid (peek_any _ r s i b _ (h.keep hb0) hrest hs)
    have HST1 : Hid (TmI W r s i b (W.alloc (.cells zT 25))) := Lib.hid ⟨chg_of_below hb0 _, h.keep hb0, hn⟩
    have HREST := Lib.hid hrest
    clear hn hb0 h hrest
    unfold PeekP at HP
    rw [show hdN (123 :: 125 :: l) = 123 from rfl] at HP
    go_enter Tryd.func26, Tryd.ntmps26
    go_wp2_with fail
    generalize W.alloc (.cells zT 25) = W1 at *
    refine HP.out.mono ?_
    rintro e W2 ⟨rfl, hb2⟩
    have HST2 := Lib.hid (HST1.out.keep hb2)
    clear hb2 HP HST1
    obtain ⟨x2, x2f⟩ := cells_at HST2.out.2.1 2 _ rfl
    have hrl2 := heap_lt HST2.out.2.1
    have hw1 : IntKind.i64.wrap ((b : Int) + 1) = (b : Int) + 1 := IntWalk.i64_in _ (by omega)
    have hw2 : ¬ (256 : Int) < (b : Int) + 1 := by omega
    go_wp2_with fail
    have HST3 : Hid (TmI W r s i (b + 1) (W2.setCell ⟨r, 2, none⟩ (.int .i64 ((b : Int) + 1)))) := Lib.hid ⟨HST2.out.1.trans (chg_set (p := ⟨r, 2, none⟩) _), set_at (i := 2) HST2.out.2.1 (.int .i64 ((b : Int) + 1)), (chg_set (p := ⟨r, 2, none⟩) _).heap HST2.out.2.2 (fun e => by have e : W.heap.size = r := e; omega)⟩
    clear x2 x2f HST2
    generalize W2.setCell ⟨r, 2, none⟩ (.int .i64 ((b : Int) + 1)) = W3 at *
    have HSEE := Lib.hid (see_any W3 r s _ _ _ [123] HST3.out.2.1 HREST.out hs (by simp))
    refine HSEE.out.mono ?_
    rintro e W4 ⟨hc4, (⟨-, rfl, hr4⟩ | ⟨hf4, -⟩)⟩
    rotate_left
    · exact absurd ⟨_, rfl⟩ hf4
    have HST4 := Lib.hid (HST3.out.step hc4 hr4 hrl)
    clear hc4 hr4 HSEE HST3
    have HREST2 := Lib.hid (Rest.app (a := [123]) HREST.out).2.1
    go_wp2_with fail
    have HSEE := Lib.hid (see_any W4 r s _ _ _ [125] HST4.out.2.1 HREST2.out hs (by simp))
    refine HSEE.out.mono ?_
    rintro e W5 ⟨hc4, (⟨-, rfl, hr4⟩ | ⟨hf4, -⟩)⟩
    rotate_left
    · exact absurd ⟨_, rfl⟩ hf4
    have HST5 := Lib.hid (HST4.out.step hc4 hr4 hrl)
    clear hc4 hr4 HSEE HST4
    obtain ⟨HF, hx6⟩ := HST5.out.fin hrl ⟨5, 0, ⟨#[]⟩, ⟨#[]⟩, none, 0, []⟩ rfl ⟨by simp, by simp, Nat.zero_le _, Nat.zero_le _⟩ (rowS_nil _ 0 _)
    have HF := Lib.hid HF
    have HX6 := Lib.hid hx6
    clear hx6
    simp only [TE.cells] at *
    go_wp2_with (with_reducible refine stop_op (o := ⟨_, .store 25 (.tmp 2) (.tmp 45), _, _, _, _⟩) ?_)
    refine Lib.hid ?_
    refine wpList_store_row (o := ⟨none, _, _, _, _, _⟩) rfl 25 (.tmp 2) (.tmp 45) rfl W.heap.size #[.int .i8 5, .int .i64 0, .string ⟨#[]⟩, .string ⟨#[]⟩, .slice none 0 0] rfl rfl 25 zT HST5.out.2.2 (infoTM' _ rfl) rfl (by simp [Value.oneCell']) ?_
    go_wp2_with fail
    exact ret_row HX6.out rfl Tryd.underlying25 rfl (infoTM' _ rfl) rfl rfl HF.out
  | cons a L =>
    have hL1 : 1 ≤ (a :: L).length := by simp
    obtain ⟨c, w, hw, -, hc125⟩ := wr_head (hmem a (by simp)).1
    have hne : ¬ [125] <+: wrL (a :: L) ++ 125 :: l := by
      rw [wrL, hw]
      rintro ⟨q, e⟩
      simp at e
      exact hc125 e.1.symm
    clear hw hc125
    generalize a :: L = L at *
    have hb1 : b + 1 ≤ 256 := by omega
    have HOK := Lib.hid hok
    have HNE := Lib.hid hne
    clear hok hne
    have hn := heap_new W (.cells zT 25)
    have hb0 := (Below.refl W.heap.size W).alloc (Nat.le_refl _) (.cells zT 25)
    have hrl := heap_lt h
    have HP := Lib.hid (peek_any _ r s i b _ (h.keep hb0) hrest hs)
    have HST1 : Hid (TmI W r s i b (W.alloc (.cells zT 25))) := Lib.hid ⟨chg_of_below hb0 _, h.keep hb0, hn⟩
    have HREST := Lib.hid hrest
    clear hn hb0 h hrest
    unfold PeekP at HP
    rw [show hdN (123 :: (wrL L ++ 125 :: l)) = 123 from rfl] at HP
    go_enter Tryd.func26, Tryd.ntmps26
    go_wp2_with fail
    generalize W.alloc (.cells zT 25) = W1 at *
    refine HP.out.mono ?_
    rintro e W2 ⟨rfl, hb2⟩
    have HST2 := Lib.hid (HST1.out.keep hb2)
    clear hb2 HP HST1
    obtain ⟨x2, x2f⟩ := cells_at HST2.out.2.1 2 _ rfl
    have hrl2 := heap_lt HST2.out.2.1
    have hw1 : IntKind.i64.wrap ((b : Int) + 1) = (b : Int) + 1 := IntWalk.i64_in _ (by omega)
    have hw2 : ¬ (256 : Int) < (b : Int) + 1 := by omega
    go_wp2_with fail
    have HST3 : Hid (TmI W r s i (b + 1) (W2.setCell ⟨r, 2, none⟩ (.int .i64 ((b : Int) + 1)))) := Lib.hid ⟨HST2.out.1.trans (chg_set (p := ⟨r, 2, none⟩) _), set_at (i := 2) HST2.out.2.1 (.int .i64 ((b : Int) + 1)), (chg_set (p := ⟨r, 2, none⟩) _).heap HST2.out.2.2 (fun e => by have e : W.heap.size = r := e; omega)⟩
    clear x2 x2f HST2
    generalize W2.setCell ⟨r, 2, none⟩ (.int .i64 ((b : Int) + 1)) = W3 at *
    have HSEE := Lib.hid (see_any W3 r s _ _ _ [123] HST3.out.2.1 HREST.out hs (by simp))
    refine HSEE.out.mono ?_
    rintro e W4 ⟨hc4, (⟨-, rfl, hr4⟩ | ⟨hf4, -⟩)⟩
    rotate_left
    · exact absurd ⟨_, rfl⟩ hf4
    have HST4 := Lib.hid (HST3.out.step hc4 hr4 hrl)
    clear hc4 hr4 HSEE HST3
    have HREST2 := Lib.hid (Rest.app (a := [123]) HREST.out).2.1
    go_wp2_with fail
    have HSEE := Lib.hid (see_any W4 r s _ _ _ [125] HST4.out.2.1 HREST2.out hs (by simp))
    refine HSEE.out.mono ?_
    rintro e W5 ⟨hc4, (⟨hf4, -⟩ | ⟨-, rfl, hr4⟩)⟩
    · exact absurd hf4 HNE.out
    have HST5 := Lib.hid (HST4.out.step hc4 hr4 hrl)
    clear hc4 hr4 HSEE HST4
    go_wp2_with fail
    have hx := row_any N ih L hL1 (by omega) hmem W5 r s _ _ _ HST5.out.2.1 (cells_chg hcl HST5.out.1 hlv) hlv hs HREST2.out (foll_one (.inr (.inl rfl))) (fun c l' e => by injection e with e _; subst e; decide) hb
    have HX := Lib.hid hx
    have HREST3 := Lib.hid (Rest.app HREST2.out).2.1
    have HMEM := Lib.hid hmem
    clear hx ih hmem
    refine HX.out.mono ?_
    rintro e W6 ⟨ao, cap, E, rfl, hmap, hc6, hr6, hT6⟩
    have HST6 := Lib.hid (HST5.out.step hc6 hr6 hrl)
    have hl5 := heap_lt HST5.out.2.2
    have hrow := hT6.row (fun k hk => hk)
    rw [hmap] at hrow
    have HROW := Lib.hid hrow
    clear hmap hr6 hT6 hrow HX HST5 hc6
    go_wp2_with fail
    have HSEE := Lib.hid (see_any W6 r s _ _ _ [125] HST6.out.2.1 HREST3.out hs (by simp))
    refine HSEE.out.mono ?_
    rintro e W7 ⟨hc7, (⟨-, rfl, hr7⟩ | ⟨hf4, -⟩)⟩
    rotate_left
    · exact absurd ⟨_, rfl⟩ hf4
    have HST7 := Lib.hid (HST6.out.step hc7 hr7 hrl)
    obtain ⟨HF, hx6⟩ := HST7.out.fin hrl ⟨5, 0, ⟨#[]⟩, ⟨#[]⟩, ao, cap, L⟩ rfl ⟨by simp, by simp, Nat.zero_le _, Nat.zero_le _⟩ (HROW.out.chg (S' := fun k => W.heap.size < k) hc7 (fun k hk _ e => by have e : k = r := e; have hk : W5.heap.size ≤ k := hk; omega) (fun k hk _ => by have hk : W5.heap.size ≤ k := hk; show W.heap.size < k; omega) (Nat.le_refl _))
    have HF := Lib.hid HF
    have HX6 := Lib.hid hx6
    clear hx6 hc7 hr7 HSEE HST6
    simp only [TE.cells] at *
    go_wp2_with (with_reducible refine stop_op (o := ⟨_, .store 25 (.tmp 2) (.tmp 59), _, _, _, _⟩) ?_)
    refine Lib.hid ?_
    refine wpList_store_row (o := ⟨none, _, _, _, _, _⟩) rfl 25 (.tmp 2) (.tmp 59) rfl W.heap.size #[.int .i8 5, .int .i64 0, .string ⟨#[]⟩, .string ⟨#[]⟩, .slice ao L.length cap] rfl rfl 25 zT HST7.out.2.2 (infoTM' _ rfl) rfl (by simp [Value.oneCell']) ?_
    go_wp2_with fail
    exact ret_row HX6.out rfl Tryd.underlying25 rfl (infoTM' _ rfl) rfl rfl HF.out
end Go.Proofs.YtaomakhhkjflaaaDoor
namespace Go.Proofs.YtaomakhhkjflaaaDoor
open Go.ChangeShapes Go.WideShapes Go.ChangeAt Go.RowKit
set_option linter.unusedVariables false
set_option linter.unusedSimpArgs false
set_option maxRecDepth 100000
theorem dec_zero {u : Nat} (h : 1 ≤ u) (hu : u ≤ 18446744073709551615) {c : UInt8} {w : List UInt8} (e : Lib.decDigits u = c :: w) (h48 : (c.toNat : Int) = 48) : False := by
  have hw : w = [] := Classical.byContradiction (fun hn => dec_head u c w e hn (by omega))
  subst hw
  have hc : c = 48 := UInt8.toNat_inj.1 (by show c.toNat = 48; omega)
  subst hc
  have h2 := parse_dec 18446744073709551615 u (by omega) hu
  rw [e] at h2
  have h3 : Lib.parseUintM 18446744073709551615 0 [48] = .ok 0 := rfl
  rw [h3] at h2
  injection h2 with h2
  omega
set_option maxHeartbeats 8000000 in
theorem term_pid (u : Nat) (hu : u ≤ 576460752303423487) (W : World) (r : Nat) (s : ByteArray) (i b : Nat) (l : List UInt8) (h : RdAt W r s i b)
    (hs : s.size ≤ 1099511627776) (hrest : Rest s i (60 :: (Lib.decDigits u ++ 62 :: l))) (hb1 : b + 1 ≤ 256) : Calls Tryd.prog 26 #[.pointer (some ⟨r, 0, none⟩)] W (TrP W r s (i + 1 + (Lib.decDigits u).length + 1) (b + 1) (nT (.mk 4 u ⟨#[]⟩ ⟨#[]⟩ [])) (.mk 4 u ⟨#[]⟩ ⟨#[]⟩ [])) := by
  have hn := heap_new W (.cells zT 25)
  have hb0 := (Below.refl W.heap.size W).alloc (Nat.le_refl _) (.cells zT 25)
  have hrl := heap_lt h
  have HP := Lib.hid (peek_any _ r s i b _ (h.keep hb0) hrest hs)
  have HST1 : Hid (TmI W r s i b (W.alloc (.cells zT 25))) := Lib.hid ⟨chg_of_below hb0 _, h.keep hb0, hn⟩
  have HREST := Lib.hid hrest
  clear hn hb0 h hrest
  unfold PeekP at HP
  rw [show hdN (60 :: (Lib.decDigits u ++ 62 :: l)) = 60 from rfl] at HP
  go_enter Tryd.func26, Tryd.ntmps26
  go_wp2_with fail
  generalize W.alloc (.cells zT 25) = W1 at *
  refine HP.out.mono ?_
  rintro e W2 ⟨rfl, hb2⟩
  have HST2 := Lib.hid (HST1.out.keep hb2)
  clear hb2 HP HST1
  obtain ⟨x2, x2f⟩ := cells_at HST2.out.2.1 2 _ rfl
  have hrl2 := heap_lt HST2.out.2.1
  have hw1 : IntKind.i64.wrap ((b : Int) + 1) = (b : Int) + 1 := IntWalk.i64_in _ (by omega)
  have hw2 : ¬ (256 : Int) < (b : Int) + 1 := by omega
  go_wp2_with fail
  have HST3 : Hid (TmI W r s i (b + 1) (W2.setCell ⟨r, 2, none⟩ (.int .i64 ((b : Int) + 1)))) := Lib.hid ⟨HST2.out.1.trans (chg_set (p := ⟨r, 2, none⟩) _), set_at (i := 2) HST2.out.2.1 (.int .i64 ((b : Int) + 1)), (chg_set (p := ⟨r, 2, none⟩) _).heap HST2.out.2.2 (fun e => by have e : W.heap.size = r := e; omega)⟩
  clear x2 x2f HST2
  generalize W2.setCell ⟨r, 2, none⟩ (.int .i64 ((b : Int) + 1)) = W3 at *
  have HSEE := Lib.hid (see_any W3 r s _ _ _ [123] HST3.out.2.1 HREST.out hs (by simp))
  refine HSEE.out.mono ?_
  rintro e W4 ⟨hc4, (⟨hf4, -⟩ | ⟨-, rfl, hr4⟩)⟩
  · exact absurd hf4 (by simp)
  have HST4 := Lib.hid (HST3.out.step hc4 hr4 hrl)
  clear hc4 hr4 HSEE HST3
  go_wp2_with fail
  have HSEE := Lib.hid (see_any W4 r s _ _ _ [91] HST4.out.2.1 HREST.out hs (by simp))
  refine HSEE.out.mono ?_
  rintro e W5 ⟨hc4, (⟨hf4, -⟩ | ⟨-, rfl, hr4⟩)⟩
  · exact absurd hf4 (by simp)
  have HST5 := Lib.hid (HST4.out.step hc4 hr4 hrl)
  clear hc4 hr4 HSEE HST4
  go_wp2_with fail
  have HSEE := Lib.hid (see_any W5 r s _ _ _ [35, 82, 101, 102, 60] HST5.out.2.1 HREST.out hs (by simp))
  refine HSEE.out.mono ?_
  rintro e W6 ⟨hc4, (⟨hf4, -⟩ | ⟨-, rfl, hr4⟩)⟩
  · exact absurd hf4 (by simp)
  have HST6 := Lib.hid (HST5.out.step hc4 hr4 hrl)
  clear hc4 hr4 HSEE HST5
  go_wp2_with fail
  have HSEE := Lib.hid (see_any W6 r s _ _ _ [60] HST6.out.2.1 HREST.out hs (by simp))
  refine HSEE.out.mono ?_
  rintro e W7 ⟨hc4, (⟨-, rfl, hr4⟩ | ⟨hf4, -⟩)⟩
  rotate_left
  · exact absurd ⟨_, rfl⟩ hf4
  have HST7 := Lib.hid (HST6.out.step hc4 hr4 hrl)
  clear hc4 hr4 HSEE HST6
  have HX := Lib.hid (closed_any W7 r s _ _ u 4 _ HST7.out.2.1 (Rest.app (a := [60]) HREST.out).2.1 hs hu)
  go_wp2_with fail
  refine HX.out.mono ?_
  rintro e W8 ⟨rfl, hc8, hr8⟩
  have HST8 := Lib.hid (HST7.out.step hc8 hr8 hrl)
  obtain ⟨HF, hx8⟩ := HST8.out.fin hrl ⟨4, u, ⟨#[]⟩, ⟨#[]⟩, none, 0, []⟩ rfl ⟨by simp, by simp; omega, Nat.zero_le _, Nat.zero_le _⟩ (rowS_nil _ 0 _)
  have HF := Lib.hid HF
  have HX8 := Lib.hid hx8
  clear hx8 hc8 hr8 HX HST7
  simp only [TE.cells] at *
  go_wp2_with (with_reducible refine stop_op (o := ⟨_, .store 25 (.tmp 2) (.tmp 80), _, _, _, _⟩) ?_)
  refine Lib.hid ?_
  refine wpList_store_row (o := ⟨none, _, _, _, _, _⟩) rfl 25 (.tmp 2) (.tmp 80) rfl W.heap.size #[.int .i8 4, .int .i64 u, .string ⟨#[]⟩, .string ⟨#[]⟩, .slice none 0 0] rfl rfl 25 zT HST8.out.2.2 (infoTM' _ rfl) rfl (by simp [Value.oneCell']) ?_
  go_wp2_with fail
  exact ret_row HX8.out rfl Tryd.underlying25 rfl (infoTM' _ rfl) rfl rfl HF.out
set_option maxHeartbeats 8000000 in
theorem term_ref (u : Nat) (hu : u ≤ 576460752303423487) (W : World) (r : Nat) (s : ByteArray) (i b : Nat) (l : List UInt8) (h : RdAt W r s i b)
    (hs : s.size ≤ 1099511627776) (hrest : Rest s i ([35, 82, 101, 102, 60] ++ (Lib.decDigits u ++ 62 :: l))) (hb1 : b + 1 ≤ 256) : Calls Tryd.prog 26 #[.pointer (some ⟨r, 0, none⟩)] W (TrP W r s (i + 5 + (Lib.decDigits u).length + 1) (b + 1) (nT (.mk 2 u ⟨#[]⟩ ⟨#[]⟩ [])) (.mk 2 u ⟨#[]⟩ ⟨#[]⟩ [])) := by
  have hn := heap_new W (.cells zT 25)
  have hb0 := (Below.refl W.heap.size W).alloc (Nat.le_refl _) (.cells zT 25)
  have hrl := heap_lt h
  have HP := Lib.hid (peek_any _ r s i b _ (h.keep hb0) hrest hs)
  have HST1 : Hid (TmI W r s i b (W.alloc (.cells zT 25))) := Lib.hid ⟨chg_of_below hb0 _, h.keep hb0, hn⟩
  have HREST := Lib.hid hrest
  clear hn hb0 h hrest
  unfold PeekP at HP
  rw [show hdN ([35, 82, 101, 102, 60] ++ (Lib.decDigits u ++ 62 :: l)) = 35 from rfl] at HP
  go_enter Tryd.func26, Tryd.ntmps26
  go_wp2_with fail
  generalize W.alloc (.cells zT 25) = W1 at *
  refine HP.out.mono ?_
  rintro e W2 ⟨rfl, hb2⟩
  have HST2 := Lib.hid (HST1.out.keep hb2)
  clear hb2 HP HST1
  obtain ⟨x2, x2f⟩ := cells_at HST2.out.2.1 2 _ rfl
  have hrl2 := heap_lt HST2.out.2.1
  have hw1 : IntKind.i64.wrap ((b : Int) + 1) = (b : Int) + 1 := IntWalk.i64_in _ (by omega)
  have hw2 : ¬ (256 : Int) < (b : Int) + 1 := by omega
  go_wp2_with fail
  have HST3 : Hid (TmI W r s i (b + 1) (W2.setCell ⟨r, 2, none⟩ (.int .i64 ((b : Int) + 1)))) := Lib.hid ⟨HST2.out.1.trans (chg_set (p := ⟨r, 2, none⟩) _), set_at (i := 2) HST2.out.2.1 (.int .i64 ((b : Int) + 1)), (chg_set (p := ⟨r, 2, none⟩) _).heap HST2.out.2.2 (fun e => by have e : W.heap.size = r := e; omega)⟩
  clear x2 x2f HST2
  generalize W2.setCell ⟨r, 2, none⟩ (.int .i64 ((b : Int) + 1)) = W3 at *
  have HSEE := Lib.hid (see_any W3 r s _ _ _ [123] HST3.out.2.1 HREST.out hs (by simp))
  refine HSEE.out.mono ?_
  rintro e W4 ⟨hc4, (⟨hf4, -⟩ | ⟨-, rfl, hr4⟩)⟩
  · exact absurd hf4 (by simp)
  have HST4 := Lib.hid (HST3.out.step hc4 hr4 hrl)
  clear hc4 hr4 HSEE HST3
  go_wp2_with fail
  have HSEE := Lib.hid (see_any W4 r s _ _ _ [91] HST4.out.2.1 HREST.out hs (by simp))
  refine HSEE.out.mono ?_
  rintro e W5 ⟨hc4, (⟨hf4, -⟩ | ⟨-, rfl, hr4⟩)⟩
  · exact absurd hf4 (by simp)
  have HST5 := Lib.hid (HST4.out.step hc4 hr4 hrl)
  clear hc4 hr4 HSEE HST4
  go_wp2_with fail
  have HSEE := Lib.hid (see_any W5 r s _ _ _ [35, 82, 101, 102, 60] HST5.out.2.1 HREST.out hs (by simp))
  refine HSEE.out.mono ?_
  rintro e W7 ⟨hc4, (⟨-, rfl, hr4⟩ | ⟨hf4, -⟩)⟩
  rotate_left
  · exact absurd ⟨_, rfl⟩ hf4
  have HST7 := Lib.hid (HST5.out.step hc4 hr4 hrl)
  clear hc4 hr4 HSEE HST5
  have HX := Lib.hid (closed_any W7 r s _ _ u 2 _ HST7.out.2.1 (Rest.app (a := [35, 82, 101, 102, 60]) HREST.out).2.1 hs hu)
  go_wp2_with fail
  refine HX.out.mono ?_
  rintro e W8 ⟨rfl, hc8, hr8⟩
  have HST8 := Lib.hid (HST7.out.step hc8 hr8 hrl)
  obtain ⟨HF, hx8⟩ := HST8.out.fin hrl ⟨2, u, ⟨#[]⟩, ⟨#[]⟩, none, 0, []⟩ rfl ⟨by simp, by simp; omega, Nat.zero_le _, Nat.zero_le _⟩ (rowS_nil _ 0 _)
  have HF := Lib.hid HF
  have HX8 := Lib.hid hx8
  clear hx8 hc8 hr8 HX HST7
  simp only [TE.cells] at *
  go_wp2_with (with_reducible refine stop_op (o := ⟨_, .store 25 (.tmp 2) (.tmp 73), _, _, _, _⟩) ?_)
  refine Lib.hid ?_
  refine wpList_store_row (o := ⟨none, _, _, _, _, _⟩) rfl 25 (.tmp 2) (.tmp 73) rfl W.heap.size #[.int .i8 2, .int .i64 u, .string ⟨#[]⟩, .string ⟨#[]⟩, .slice none 0 0] rfl rfl 25 zT HST8.out.2.2 (infoTM' _ rfl) rfl (by simp [Value.oneCell']) ?_
  go_wp2_with fail
  exact ret_row HX8.out rfl Tryd.underlying25 rfl (infoTM' _ rfl) rfl rfl HF.out
set_option maxHeartbeats 8000000 in
theorem term_neg (u : Nat) (hu0 : 1 ≤ u) (hu : u ≤ 576460752303423488) (W : World) (r : Nat) (s : ByteArray) (i b : Nat) (l : List UInt8) (h : RdAt W r s i b) (hf : ∀ c l', l = c :: l' → isD c = false)
    (hs : s.size ≤ 1099511627776) (hrest : Rest s i (45 :: (Lib.decDigits u ++ l))) (hb1 : b + 1 ≤ 256) : Calls Tryd.prog 26 #[.pointer (some ⟨r, 0, none⟩)] W (TrP W r s (i + 1 + (Lib.decDigits u).length) (b + 1) (nT (.mk 0 (-(u : Int)) ⟨#[]⟩ ⟨#[]⟩ [])) (.mk 0 (-(u : Int)) ⟨#[]⟩ ⟨#[]⟩ [])) := by
  have hd0 : ∃ c w, Lib.decDigits u = c :: w ∧ ((c.toNat : Int) == 48) = false := by
    obtain ⟨c, w, e, h1, h2⟩ := dec_cons u
    refine ⟨c, w, e, ?_⟩
    simp
    intro h48
    exact dec_zero hu0 (by omega) e h48
  have hn := heap_new W (.cells zT 25)
  have hb0 := (Below.refl W.heap.size W).alloc (Nat.le_refl _) (.cells zT 25)
  have hrl := heap_lt h
  have HP := Lib.hid (peek_any _ r s i b _ (h.keep hb0) hrest hs)
  have HST1 : Hid (TmI W r s i b (W.alloc (.cells zT 25))) := Lib.hid ⟨chg_of_below hb0 _, h.keep hb0, hn⟩
  have HREST := Lib.hid hrest
  clear hn hb0 h hrest
  unfold PeekP at HP
  rw [show hdN (45 :: (Lib.decDigits u ++ l)) = 45 from rfl] at HP
  go_enter Tryd.func26, Tryd.ntmps26
  go_wp2_with fail
  generalize W.alloc (.cells zT 25) = W1 at *
  refine HP.out.mono ?_
  rintro e W2 ⟨rfl, hb2⟩
  have HST2 := Lib.hid (HST1.out.keep hb2)
  clear hb2 HP HST1
  obtain ⟨x2, x2f⟩ := cells_at HST2.out.2.1 2 _ rfl
  have hrl2 := heap_lt HST2.out.2.1
  have hw1 : IntKind.i64.wrap ((b : Int) + 1) = (b : Int) + 1 := IntWalk.i64_in _ (by omega)
  have hw2 : ¬ (256 : Int) < (b : Int) + 1 := by omega
  go_wp2_with fail
  have HST3 : Hid (TmI W r s i (b + 1) (W2.setCell ⟨r, 2, none⟩ (.int .i64 ((b : Int) + 1)))) := Lib.hid ⟨HST2.out.1.trans (chg_set (p := ⟨r, 2, none⟩) _), set_at (i := 2) HST2.out.2.1 (.int .i64 ((b : Int) + 1)), (chg_set (p := ⟨r, 2, none⟩) _).heap HST2.out.2.2 (fun e => by have e : W.heap.size = r := e; omega)⟩
  clear x2 x2f HST2
  generalize W2.setCell ⟨r, 2, none⟩ (.int .i64 ((b : Int) + 1)) = W3 at *
  have HSEE := Lib.hid (see_any W3 r s _ _ _ [123] HST3.out.2.1 HREST.out hs (by simp))
  refine HSEE.out.mono ?_
  rintro e W4 ⟨hc4, (⟨hf4, -⟩ | ⟨-, rfl, hr4⟩)⟩
  · exact absurd hf4 (by simp)
  have HST4 := Lib.hid (HST3.out.step hc4 hr4 hrl)
  clear hc4 hr4 HSEE HST3
  go_wp2_with fail
  have HSEE := Lib.hid (see_any W4 r s _ _ _ [91] HST4.out.2.1 HREST.out hs (by simp))
  refine HSEE.out.mono ?_
  rintro e W5 ⟨hc4, (⟨hf4, -⟩ | ⟨-, rfl, hr4⟩)⟩
  · exact absurd hf4 (by simp)
  have HST5 := Lib.hid (HST4.out.step hc4 hr4 hrl)
  clear hc4 hr4 HSEE HST4
  go_wp2_with fail
  have HSEE := Lib.hid (see_any W5 r s _ _ _ [35, 82, 101, 102, 60] HST5.out.2.1 HREST.out hs (by simp))
  refine HSEE.out.mono ?_
  rintro e W6 ⟨hc4, (⟨hf4, -⟩ | ⟨-, rfl, hr4⟩)⟩
  · exact absurd hf4 (by simp)
  have HST6 := Lib.hid (HST5.out.step hc4 hr4 hrl)
  clear hc4 hr4 HSEE HST5
  go_wp2_with fail
  have HSEE := Lib.hid (see_any W6 r s _ _ _ [60] HST6.out.2.1 HREST.out hs (by simp))
  refine HSEE.out.mono ?_
  rintro e W7 ⟨hc4, (⟨hf4, -⟩ | ⟨-, rfl, hr4⟩)⟩
  · exact absurd hf4 (by simp)
  have HST7 := Lib.hid (HST6.out.step hc4 hr4 hrl)
  clear hc4 hr4 HSEE HST6
  go_wp2_with fail
  have HSEE := Lib.hid (see_any W7 r s _ _ _ [45] HST7.out.2.1 HREST.out hs (by simp))
  refine HSEE.out.mono ?_
  rintro e W8 ⟨hc4, (⟨-, rfl, hr4⟩ | ⟨hf4, -⟩)⟩
  rotate_left
  · exact absurd ⟨_, rfl⟩ hf4
  have HST8 := Lib.hid (HST7.out.step hc4 hr4 hrl)
  clear hc4 hr4 HSEE HST7
  have HREST2 := Lib.hid (Rest.app (a := [45]) HREST.out).2.1
  obtain ⟨c, w, hdc, hc48⟩ := hd0
  have HP := Lib.hid (peek_any W8 r s _ _ _ HST8.out.2.1 HREST2.out hs)
  unfold PeekP at HP
  rw [show hdN ((Lib.decDigits u).append l) = c.toNat from by rw [hdc]; rfl] at HP
  clear hdc
  go_wp2_with fail
  refine HP.out.mono ?_
  rintro e W9 ⟨rfl, hb9⟩
  have HST9 := Lib.hid (HST8.out.keep hb9)
  have HX := Lib.hid (digits_any W9 r s _ _ u 576460752303423488 _ HST9.out.2.1 HREST2.out hf hs (by omega) (by omega))
  clear hb9 HP HST8
  go_wp2_with fail
  refine HX.out.mono ?_
  rintro e WA ⟨rfl, hcA, hrA⟩
  have HSTA := Lib.hid (HST9.out.step hcA hrA hrl)
  obtain ⟨HF, hxA⟩ := HSTA.out.fin hrl ⟨0, -(u : Int), ⟨#[]⟩, ⟨#[]⟩, none, 0, []⟩ rfl ⟨by simp, by simp; omega, Nat.zero_le _, Nat.zero_le _⟩ (rowS_nil _ 0 _)
  have HF := Lib.hid HF
  have HXA := Lib.hid hxA
  have hwn : IntKind.i64.wrap (-(u : Int)) = -(u : Int) := IntWalk.i64_in _ (by omega)
  clear hxA hcA hrA HX HST9
  simp only [TE.cells] at *
  go_wp2_with (with_reducible refine stop_op (o := ⟨_, .store 25 (.tmp 2) (.tmp 96), _, _, _, _⟩) ?_)
  refine Lib.hid ?_
  refine wpList_store_row (o := ⟨none, _, _, _, _, _⟩) rfl 25 (.tmp 2) (.tmp 96) rfl W.heap.size #[.int .i8 0, .int .i64 (-(u : Int)), .string ⟨#[]⟩, .string ⟨#[]⟩, .slice none 0 0] rfl rfl 25 zT HSTA.out.2.2 (infoTM' _ rfl) rfl (by simp [Value.oneCell']) ?_
  go_wp2_with fail
  exact ret_row HXA.out rfl Tryd.underlying25 rfl (infoTM' _ rfl) rfl rfl HF.out
end Go.Proofs.YtaomakhhkjflaaaDoor
namespace Go.Proofs.YtaomakhhkjflaaaDoor
open Go.ChangeShapes Go.WideShapes Go.ChangeAt Go.RowKit
set_option linter.unusedVariables false
set_option linter.unusedSimpArgs false
set_option maxRecDepth 100000
theorem no_head {c : UInt8} {X w : List UInt8} (hX : X = c :: w) (h : (48 ≤ c.toNat ∧ c.toNat ≤ 57) ∨ (97 ≤ c.toNat ∧ c.toNat ≤ 122)) : ∀ (d : UInt8) (v : List UInt8), d ∈ [(123 : UInt8), 91, 35, 60, 45] → ¬ (d :: v) <+: X := by
  rintro d v hd ⟨q, e⟩
  rw [hX] at e
  simp at e
  obtain ⟨rfl, -⟩ := e
  simp at hd
  rcases hd with rfl | rfl | rfl | rfl | rfl <;> simp at h
theorem no_fun {w l : List UInt8} (hw : ∀ c ∈ w, isA c = true) (hf : Foll l) : ¬ [102, 117, 110, 32] <+: w ++ l := by
  rintro ⟨q, e⟩
  match w, hw, e with
  | [], _, e =>
    have := hf _ _ e.symm
    revert this
    decide
  | [a], _, e =>
    injection e with _ e
    have := hf _ _ e.symm
    revert this
    decide
  | [a, b], _, e =>
    injection e with _ e
    injection e with _ e
    have := hf _ _ e.symm
    revert this
    decide
  | [a, b, c], _, e =>
    injection e with _ e
    injection e with _ e
    injection e with _ e
    have := hf _ _ e.symm
    revert this
    decide
  | a :: b :: c :: d :: w, hw, e =>
    injection e with _ e
    injection e with _ e
    injection e with _ e
    injection e with e _
    have := hw d (by simp)
    rw [← e] at this
    revert this
    decide
theorem isA_digit {c : UInt8} (h : 48 ≤ c.toNat ∧ c.toNat ≤ 57) : isA c = true := by
  unfold isA
  simp [inL, letL]
  omega
set_option maxHeartbeats 8000000 in
theorem term_pos (u : Nat) (hu : u ≤ 576460752303423487) (W : World) (r : Nat) (s : ByteArray) (i b : Nat) (l : List UInt8) (h : RdAt W r s i b) (hf : ∀ c l', l = c :: l' → isD c = false)
    (hs : s.size ≤ 1099511627776) (hrest : Rest s i (Lib.decDigits u ++ l)) (hb1 : b + 1 ≤ 256) : Calls Tryd.prog 26 #[.pointer (some ⟨r, 0, none⟩)] W (TrP W r s (i + (Lib.decDigits u).length) (b + 1) (nT (.mk 0 u ⟨#[]⟩ ⟨#[]⟩ [])) (.mk 0 u ⟨#[]⟩ ⟨#[]⟩ [])) := by
  obtain ⟨c, w, hdc, h48, h57⟩ := dec_cons u
  have hA : isA c = true := isA_digit ⟨h48, h57⟩
  have hD : isD c = true := isD_dec u c (by rw [hdc]; simp)
  have hhd : hdN (Lib.decDigits u ++ l) = c.toNat := by rw [hdc]; rfl
  have q1 : ((c.toNat : Int) == 123) = false := by simp; omega
  have q2 : ((c.toNat : Int) == 91) = false := by simp; omega
  have q3 : ((c.toNat : Int) == 60) = false := by simp; omega
  have q4 : ((c.toNat : Int) == 35) = false := by simp; omega
  have q5 : ((c.toNat : Int) == 45) = false := by simp; omega
  have HNE := Lib.hid (no_head (X := Lib.decDigits u ++ l) (by rw [hdc]; rfl) (.inl ⟨h48, h57⟩))
  clear hdc h48 h57
  have hn := heap_new W (.cells zT 25)
  have hb0 := (Below.refl W.heap.size W).alloc (Nat.le_refl _) (.cells zT 25)
  have hrl := heap_lt h
  have HP := Lib.hid (peek_any _ r s i b _ (h.keep hb0) hrest hs)
  have HST1 : Hid (TmI W r s i b (W.alloc (.cells zT 25))) := Lib.hid ⟨chg_of_below hb0 _, h.keep hb0, hn⟩
  have HREST := Lib.hid hrest
  clear hn hb0 h hrest
  unfold PeekP at HP
  rw [hhd] at HP
  go_enter Tryd.func26, Tryd.ntmps26
  go_wp2_with fail
  generalize W.alloc (.cells zT 25) = W1 at *
  refine HP.out.mono ?_
  rintro e W2 ⟨rfl, hb2⟩
  have HST2 := Lib.hid (HST1.out.keep hb2)
  clear hb2 HP HST1
  clear hhd
  have HLT := Lib.hid (letterT_any c)
  rw [hA] at HLT
  go_wp2_with fail
  refine (HLT.out _).mono ?_
  rintro e W2 ⟨rfl, rfl⟩
  clear HLT
  obtain ⟨x2, x2f⟩ := cells_at HST2.out.2.1 2 _ rfl
  have hrl2 := heap_lt HST2.out.2.1
  have hw1 : IntKind.i64.wrap ((b : Int) + 1) = (b : Int) + 1 := IntWalk.i64_in _ (by omega)
  have hw2 : ¬ (256 : Int) < (b : Int) + 1 := by omega
  go_wp2_with fail
  have HST3 : Hid (TmI W r s i (b + 1) (W2.setCell ⟨r, 2, none⟩ (.int .i64 ((b : Int) + 1)))) := Lib.hid ⟨HST2.out.1.trans (chg_set (p := ⟨r, 2, none⟩) _), set_at (i := 2) HST2.out.2.1 (.int .i64 ((b : Int) + 1)), (chg_set (p := ⟨r, 2, none⟩) _).heap HST2.out.2.2 (fun e => by have e : W.heap.size = r := e; omega)⟩
  clear x2 x2f HST2
  generalize W2.setCell ⟨r, 2, none⟩ (.int .i64 ((b : Int) + 1)) = W3 at *
  have HSEE := Lib.hid (see_any W3 r s _ _ _ [123] HST3.out.2.1 HREST.out hs (by simp))
  refine HSEE.out.mono ?_
  rintro e W4 ⟨hc4, (⟨hf4, -⟩ | ⟨-, rfl, hr4⟩)⟩
  · exact absurd hf4 (HNE.out _ _ (by simp))
  have HST4 := Lib.hid (HST3.out.step hc4 hr4 hrl)
  clear hc4 hr4 HSEE HST3
  go_wp2_with fail
  have HSEE := Lib.hid (see_any W4 r s _ _ _ [91] HST4.out.2.1 HREST.out hs (by simp))
  refine HSEE.out.mono ?_
  rintro e W5 ⟨hc4, (⟨hf4, -⟩ | ⟨-, rfl, hr4⟩)⟩
  · exact absurd hf4 (HNE.out _ _ (by simp))
  have HST5 := Lib.hid (HST4.out.step hc4 hr4 hrl)
  clear hc4 hr4 HSEE HST4
  go_wp2_with fail
  have HSEE := Lib.hid (see_any W5 r s _ _ _ [35, 82, 101, 102, 60] HST5.out.2.1 HREST.out hs (by simp))
  refine HSEE.out.mono ?_
  rintro e W6 ⟨hc4, (⟨hf4, -⟩ | ⟨-, rfl, hr4⟩)⟩
  · exact absurd hf4 (HNE.out _ _ (by simp))
  have HST6 := Lib.hid (HST5.out.step hc4 hr4 hrl)
  clear hc4 hr4 HSEE HST5
  go_wp2_with fail
  have HSEE := Lib.hid (see_any W6 r s _ _ _ [60] HST6.out.2.1 HREST.out hs (by simp))
  refine HSEE.out.mono ?_
  rintro e W7 ⟨hc4, (⟨hf4, -⟩ | ⟨-, rfl, hr4⟩)⟩
  · exact absurd hf4 (HNE.out _ _ (by simp))
  have HST7 := Lib.hid (HST6.out.step hc4 hr4 hrl)
  clear hc4 hr4 HSEE HST6
  go_wp2_with fail
  have HSEE := Lib.hid (see_any W7 r s _ _ _ [45] HST7.out.2.1 HREST.out hs (by simp))
  refine HSEE.out.mono ?_
  rintro e W8 ⟨hc4, (⟨hf4, -⟩ | ⟨-, rfl, hr4⟩)⟩
  · exact absurd hf4 (HNE.out _ _ (by simp))
  have HST8 := Lib.hid (HST7.out.step hc4 hr4 hrl)
  clear hc4 hr4 HSEE HST7
  go_wp2_with fail
  have HDG := Lib.hid (digitT_any c)
  rw [hD] at HDG
  refine (HDG.out _).mono ?_
  rintro e W8 ⟨rfl, rfl⟩
  clear HDG
  go_wp2_with fail
  have HX := Lib.hid (digits_any W8 r s _ _ u 576460752303423487 _ HST8.out.2.1 HREST.out hf hs (by omega) (by omega))
  refine HX.out.mono ?_
  rintro e WA ⟨rfl, hcA, hrA⟩
  have HSTA := Lib.hid (HST8.out.step hcA hrA hrl)
  obtain ⟨HF, hxA⟩ := HSTA.out.fin hrl ⟨0, u, ⟨#[]⟩, ⟨#[]⟩, none, 0, []⟩ rfl ⟨by simp, by simp; omega, Nat.zero_le _, Nat.zero_le _⟩ (rowS_nil _ 0 _)
  have HF := Lib.hid HF
  have HXA := Lib.hid hxA
  clear hxA hcA hrA HX HST8
  simp only [TE.cells] at *
  go_wp2_with (with_reducible refine stop_op (o := ⟨_, .store 25 (.tmp 2) (.tmp 107), _, _, _, _⟩) ?_)
  refine Lib.hid ?_
  refine wpList_store_row (o := ⟨none, _, _, _, _, _⟩) rfl 25 (.tmp 2) (.tmp 107) rfl W.heap.size #[.int .i8 0, .int .i64 u, .string ⟨#[]⟩, .string ⟨#[]⟩, .slice none 0 0] rfl rfl 25 zT HSTA.out.2.2 (infoTM' _ rfl) rfl (by simp [Value.oneCell']) ?_
  go_wp2_with fail
  exact ret_row HXA.out rfl Tryd.underlying25 rfl (infoTM' _ rfl) rfl rfl HF.out
set_option maxHeartbeats 8000000 in
theorem term_atom (a : List UInt8) (ha : mayS ⟨a.toArray⟩ = true) (W : World) (r : Nat) (s : ByteArray) (i b : Nat) (l : List UInt8) (h : RdAt W r s i b) (hcl : Cells W 0 letL) (hlv : 0 ≠ r) (hf : Foll l)
    (hs : s.size ≤ 1099511627776) (hrest : Rest s i (a ++ l)) (hb1 : b + 1 ≤ 256) : Calls Tryd.prog 26 #[.pointer (some ⟨r, 0, none⟩)] W (TrP W r s (i + a.length) (b + 1) (nT (.mk 1 0 ⟨a.toArray⟩ ⟨#[]⟩ [])) (.mk 1 0 ⟨a.toArray⟩ ⟨#[]⟩ [])) := by
  obtain ⟨hal, -⟩ := mayS_letters ha
  have hal : ∀ c ∈ a, isA c = true := hal
  have has := mayS_size ha
  have hff : fields 1 0 ⟨a.toArray⟩ ⟨#[]⟩ := ⟨by simp, by simp, has, Nat.zero_le _⟩
  obtain ⟨c, w, hdc, h97, h122⟩ := may_head ha
  have hdc : a = c :: w := by rw [← hdc, ByteArray.toList_eq]
  have hA : isA c = true := hal c (by rw [hdc]; simp)
  have hD : isD c = false := by simp [isD]; omega
  have hhd : hdN (a ++ l) = c.toNat := by rw [hdc]; rfl
  have q1 : ((c.toNat : Int) == 123) = false := by simp; omega
  have q2 : ((c.toNat : Int) == 91) = false := by simp; omega
  have q3 : ((c.toNat : Int) == 60) = false := by simp; omega
  have q4 : ((c.toNat : Int) == 35) = false := by simp; omega
  have q5 : ((c.toNat : Int) == 45) = false := by simp; omega
  have HNE := Lib.hid (no_head (X := a ++ l) (by rw [hdc]; rfl) (.inr ⟨h97, h122⟩))
  have HNF := Lib.hid (no_fun hal hf)
  clear hdc h97 h122
  have hn := heap_new W (.cells zT 25)
  have hb0 := (Below.refl W.heap.size W).alloc (Nat.le_refl _) (.cells zT 25)
  have hrl := heap_lt h
  have HP := Lib.hid (peek_any _ r s i b _ (h.keep hb0) hrest hs)
  have HST1 : Hid (TmI W r s i b (W.alloc (.cells zT 25))) := Lib.hid ⟨chg_of_below hb0 _, h.keep hb0, hn⟩
  have HREST := Lib.hid hrest
  clear hn hb0 h hrest
  unfold PeekP at HP
  rw [hhd] at HP
  go_enter Tryd.func26, Tryd.ntmps26
  go_wp2_with fail
  generalize W.alloc (.cells zT 25) = W1 at *
  refine HP.out.mono ?_
  rintro e W2 ⟨rfl, hb2⟩
  have HST2 := Lib.hid (HST1.out.keep hb2)
  clear hb2 HP HST1
  clear hhd
  have HLT := Lib.hid (letterT_any c)
  rw [hA] at HLT
  go_wp2_with fail
  refine (HLT.out _).mono ?_
  rintro e W2 ⟨rfl, rfl⟩
  clear HLT
  obtain ⟨x2, x2f⟩ := cells_at HST2.out.2.1 2 _ rfl
  have hrl2 := heap_lt HST2.out.2.1
  have hw1 : IntKind.i64.wrap ((b : Int) + 1) = (b : Int) + 1 := IntWalk.i64_in _ (by omega)
  have hw2 : ¬ (256 : Int) < (b : Int) + 1 := by omega
  go_wp2_with fail
  have HST3 : Hid (TmI W r s i (b + 1) (W2.setCell ⟨r, 2, none⟩ (.int .i64 ((b : Int) + 1)))) := Lib.hid ⟨HST2.out.1.trans (chg_set (p := ⟨r, 2, none⟩) _), set_at (i := 2) HST2.out.2.1 (.int .i64 ((b : Int) + 1)), (chg_set (p := ⟨r, 2, none⟩) _).heap HST2.out.2.2 (fun e => by have e : W.heap.size = r := e; omega)⟩
  clear x2 x2f HST2
  generalize W2.setCell ⟨r, 2, none⟩ (.int .i64 ((b : Int) + 1)) = W3 at *
  have HSEE := Lib.hid (see_any W3 r s _ _ _ [123] HST3.out.2.1 HREST.out hs (by simp))
  refine HSEE.out.mono ?_
  rintro e W4 ⟨hc4, (⟨hf4, -⟩ | ⟨-, rfl, hr4⟩)⟩
  · exact absurd hf4 (HNE.out _ _ (by simp))
  have HST4 := Lib.hid (HST3.out.step hc4 hr4 hrl)
  clear hc4 hr4 HSEE HST3
  go_wp2_with fail
  have HSEE := Lib.hid (see_any W4 r s _ _ _ [91] HST4.out.2.1 HREST.out hs (by simp))
  refine HSEE.out.mono ?_
  rintro e W5 ⟨hc4, (⟨hf4, -⟩ | ⟨-, rfl, hr4⟩)⟩
  · exact absurd hf4 (HNE.out _ _ (by simp))
  have HST5 := Lib.hid (HST4.out.step hc4 hr4 hrl)
  clear hc4 hr4 HSEE HST4
  go_wp2_with fail
  have HSEE := Lib.hid (see_any W5 r s _ _ _ [35, 82, 101, 102, 60] HST5.out.2.1 HREST.out hs (by simp))
  refine HSEE.out.mono ?_
  rintro e W6 ⟨hc4, (⟨hf4, -⟩ | ⟨-, rfl, hr4⟩)⟩
  · exact absurd hf4 (HNE.out _ _ (by simp))
  have HST6 := Lib.hid (HST5.out.step hc4 hr4 hrl)
  clear hc4 hr4 HSEE HST5
  go_wp2_with fail
  have HSEE := Lib.hid (see_any W6 r s _ _ _ [60] HST6.out.2.1 HREST.out hs (by simp))
  refine HSEE.out.mono ?_
  rintro e W7 ⟨hc4, (⟨hf4, -⟩ | ⟨-, rfl, hr4⟩)⟩
  · exact absurd hf4 (HNE.out _ _ (by simp))
  have HST7 := Lib.hid (HST6.out.step hc4 hr4 hrl)
  clear hc4 hr4 HSEE HST6
  go_wp2_with fail
  have HSEE := Lib.hid (see_any W7 r s _ _ _ [45] HST7.out.2.1 HREST.out hs (by simp))
  refine HSEE.out.mono ?_
  rintro e W8 ⟨hc4, (⟨hf4, -⟩ | ⟨-, rfl, hr4⟩)⟩
  · exact absurd hf4 (HNE.out _ _ (by simp))
  have HST8 := Lib.hid (HST7.out.step hc4 hr4 hrl)
  clear hc4 hr4 HSEE HST7
  go_wp2_with fail
  have HDG := Lib.hid (digitT_any c)
  rw [hD] at HDG
  refine (HDG.out _).mono ?_
  rintro e W8 ⟨rfl, rfl⟩
  clear HDG
  go_wp2_with fail
  have HX := Lib.hid (funno_any W8 r s _ _ _ HST8.out.2.1 HREST.out hs HNF.out)
  refine HX.out.mono ?_
  rintro e W9 ⟨rfl, hc9, hr9⟩
  have HST9 := Lib.hid (HST8.out.step hc9 hr9 hrl)
  have hl9 := heap_lt HST9.out.2.2
  clear hc9 hr9 HX HST8 HNE HNF
  go_wp2_with (with_reducible refine stop_op (o := ⟨_, .store 25 (.tmp 11) (.tmp 112), _, _, _, _⟩) ?_)
  refine Lib.hid ?_
  refine wpList_store_new (o := ⟨none, _, _, _, _, _⟩) rfl 25 (.tmp 11) (.tmp 112) rfl zT rfl rfl (infoTM' _ rfl) rfl (by simp [Value.oneCell']) ?_
  have HSTB := Lib.hid (HST9.out.keep ((Below.refl W9.heap.size W9).alloc (Nat.le_refl _) (.cells zT 25)))
  clear HST9
  generalize W9.alloc (.cells zT 25) = WB at *
  have HX := Lib.hid (word_any WB r s _ _ a l HSTB.out.2.1 HREST.out hal hf.letter hs)
  go_wp2_with fail
  refine HX.out.mono ?_
  rintro e WC ⟨rfl, hcC, hrC⟩
  have HSTC := Lib.hid (HSTB.out.step hcC hrC hrl)
  have HM := Lib.hid (may7 ⟨a.toArray⟩ has WC (cells_chg hcl HSTC.out.1 hlv))
  rw [ha] at HM
  clear hcC hrC HX HSTB
  go_wp2_with fail
  refine HM.out.mono ?_
  rintro e WA ⟨rfl, hbA⟩
  have HSTA := Lib.hid (HSTC.out.keep hbA)
  obtain ⟨HF, hxA⟩ := HSTA.out.fin hrl ⟨1, 0, ⟨a.toArray⟩, ⟨#[]⟩, none, 0, []⟩ rfl hff (rowS_nil _ 0 _)
  have HF := Lib.hid HF
  have HXA := Lib.hid hxA
  clear hxA hbA HM HSTC
  simp only [TE.cells] at *
  go_wp2_with (with_reducible refine stop_op (o := ⟨_, .store 25 (.tmp 2) (.tmp 123), _, _, _, _⟩) ?_)
  refine Lib.hid ?_
  refine wpList_store_row (o := ⟨none, _, _, _, _, _⟩) rfl 25 (.tmp 2) (.tmp 123) rfl W.heap.size #[.int .i8 1, .int .i64 0, .string ⟨a.toArray⟩, .string ⟨#[]⟩, .slice none 0 0] rfl rfl 25 zT HSTA.out.2.2 (infoTM' _ rfl) rfl (by simp [Value.oneCell']) ?_
  go_wp2_with fail
  exact ret_row HXA.out rfl Tryd.underlying25 rfl (infoTM' _ rfl) rfl rfl HF.out
end Go.Proofs.YtaomakhhkjflaaaDoor
namespace Go.Proofs.YtaomakhhkjflaaaDoor
open Go.ChangeShapes Go.WideShapes Go.ChangeAt Go.RowKit
set_option linter.unusedVariables false
set_option linter.unusedSimpArgs false
set_option maxRecDepth 100000
set_option maxHeartbeats 8000000 in
theorem term_fun (a d : List UInt8) (n : Nat) (hn : n ≤ 8) (ha : mayS ⟨a.toArray⟩ = true) (hd : mayS ⟨d.toArray⟩ = true) (W : World) (r : Nat) (s : ByteArray) (i b : Nat) (l : List UInt8) (h : RdAt W r s i b) (hcl : Cells W 0 letL) (hlv : 0 ≠ r) (hf : Foll l)
    (hs : s.size ≤ 1099511627776) (hrest : Rest s i ([102, 117, 110, 32] ++ (a ++ 58 :: (d ++ 47 :: UInt8.ofNat (48 + n) :: l)))) (hb1 : b + 1 ≤ 256) : Calls Tryd.prog 26 #[.pointer (some ⟨r, 0, none⟩)] W (TrP W r s (i + 4 + a.length + 1 + d.length + 1 + 1) (b + 1) (nT (.mk 3 n ⟨a.toArray⟩ ⟨d.toArray⟩ [])) (.mk 3 n ⟨a.toArray⟩ ⟨d.toArray⟩ [])) := by
  have hff : fields 3 n ⟨a.toArray⟩ ⟨d.toArray⟩ := ⟨by simp, by simp; omega, mayS_size ha, mayS_size hd⟩
  have HFF := Lib.hid hff
  have HA := Lib.hid (And.intro ha hd)
  clear hff ha hd
  obtain ⟨c, hc⟩ : ∃ c : UInt8, c = 102 := ⟨_, rfl⟩
  have hA : isA c = true := by rw [hc]; decide
  have hD : isD c = false := by rw [hc]; decide
  have hhd : hdN ([102, 117, 110, 32] ++ (a ++ 58 :: (d ++ 47 :: UInt8.ofNat (48 + n) :: l))) = c.toNat := by rw [hc]; rfl
  have h97 : c.toNat = 102 := by rw [hc]; rfl
  have q1 : ((c.toNat : Int) == 123) = false := by simp; omega
  have q2 : ((c.toNat : Int) == 91) = false := by simp; omega
  have q3 : ((c.toNat : Int) == 60) = false := by simp; omega
  have q4 : ((c.toNat : Int) == 35) = false := by simp; omega
  have q5 : ((c.toNat : Int) == 45) = false := by simp; omega
  have HNE := Lib.hid (no_head (X := [102, 117, 110, 32] ++ (a ++ 58 :: (d ++ 47 :: UInt8.ofNat (48 + n) :: l))) rfl (.inr ⟨by decide, by decide⟩))
  clear h97 hc
  have hn := heap_new W (.cells zT 25)
  have hb0 := (Below.refl W.heap.size W).alloc (Nat.le_refl _) (.cells zT 25)
  have hrl := heap_lt h
  have HP := Lib.hid (peek_any _ r s i b _ (h.keep hb0) hrest hs)
  have HST1 : Hid (TmI W r s i b (W.alloc (.cells zT 25))) := Lib.hid ⟨chg_of_below hb0 _, h.keep hb0, hn⟩
  have HREST := Lib.hid hrest
  clear hn hb0 h hrest
  unfold PeekP at HP
  rw [hhd] at HP
  go_enter Tryd.func26, Tryd.ntmps26
  go_wp2_with fail
  generalize W.alloc (.cells zT 25) = W1 at *
  refine HP.out.mono ?_
  rintro e W2 ⟨rfl, hb2⟩
  have HST2 := Lib.hid (HST1.out.keep hb2)
  clear hb2 HP HST1
  clear hhd
  have HLT := Lib.hid (letterT_any c)
  rw [hA] at HLT
  go_wp2_with fail
  refine (HLT.out _).mono ?_
  rintro e W2 ⟨rfl, rfl⟩
  clear HLT
  obtain ⟨x2, x2f⟩ := cells_at HST2.out.2.1 2 _ rfl
  have hrl2 := heap_lt HST2.out.2.1
  have hw1 : IntKind.i64.wrap ((b : Int) + 1) = (b : Int) + 1 := IntWalk.i64_in _ (by omega)
  have hw2 : ¬ (256 : Int) < (b : Int) + 1 := by omega
  go_wp2_with fail
  have HST3 : Hid (TmI W r s i (b + 1) (W2.setCell ⟨r, 2, none⟩ (.int .i64 ((b : Int) + 1)))) := Lib.hid ⟨HST2.out.1.trans (chg_set (p := ⟨r, 2, none⟩) _), set_at (i := 2) HST2.out.2.1 (.int .i64 ((b : Int) + 1)), (chg_set (p := ⟨r, 2, none⟩) _).heap HST2.out.2.2 (fun e => by have e : W.heap.size = r := e; omega)⟩
  clear x2 x2f HST2
  generalize W2.setCell ⟨r, 2, none⟩ (.int .i64 ((b : Int) + 1)) = W3 at *
  have HSEE := Lib.hid (see_any W3 r s _ _ _ [123] HST3.out.2.1 HREST.out hs (by simp))
  refine HSEE.out.mono ?_
  rintro e W4 ⟨hc4, (⟨hf4, -⟩ | ⟨-, rfl, hr4⟩)⟩
  · exact absurd hf4 (HNE.out _ _ (by simp))
  have HST4 := Lib.hid (HST3.out.step hc4 hr4 hrl)
  clear hc4 hr4 HSEE HST3
  go_wp2_with fail
  have HSEE := Lib.hid (see_any W4 r s _ _ _ [91] HST4.out.2.1 HREST.out hs (by simp))
  refine HSEE.out.mono ?_
  rintro e W5 ⟨hc4, (⟨hf4, -⟩ | ⟨-, rfl, hr4⟩)⟩
  · exact absurd hf4 (HNE.out _ _ (by simp))
  have HST5 := Lib.hid (HST4.out.step hc4 hr4 hrl)
  clear hc4 hr4 HSEE HST4
  go_wp2_with fail
  have HSEE := Lib.hid (see_any W5 r s _ _ _ [35, 82, 101, 102, 60] HST5.out.2.1 HREST.out hs (by simp))
  refine HSEE.out.mono ?_
  rintro e W6 ⟨hc4, (⟨hf4, -⟩ | ⟨-, rfl, hr4⟩)⟩
  · exact absurd hf4 (HNE.out _ _ (by simp))
  have HST6 := Lib.hid (HST5.out.step hc4 hr4 hrl)
  clear hc4 hr4 HSEE HST5
  go_wp2_with fail
  have HSEE := Lib.hid (see_any W6 r s _ _ _ [60] HST6.out.2.1 HREST.out hs (by simp))
  refine HSEE.out.mono ?_
  rintro e W7 ⟨hc4, (⟨hf4, -⟩ | ⟨-, rfl, hr4⟩)⟩
  · exact absurd hf4 (HNE.out _ _ (by simp))
  have HST7 := Lib.hid (HST6.out.step hc4 hr4 hrl)
  clear hc4 hr4 HSEE HST6
  go_wp2_with fail
  have HSEE := Lib.hid (see_any W7 r s _ _ _ [45] HST7.out.2.1 HREST.out hs (by simp))
  refine HSEE.out.mono ?_
  rintro e W8 ⟨hc4, (⟨hf4, -⟩ | ⟨-, rfl, hr4⟩)⟩
  · exact absurd hf4 (HNE.out _ _ (by simp))
  have HST8 := Lib.hid (HST7.out.step hc4 hr4 hrl)
  clear hc4 hr4 HSEE HST7
  go_wp2_with fail
  have HDG := Lib.hid (digitT_any c)
  rw [hD] at HDG
  refine (HDG.out _).mono ?_
  rintro e W8 ⟨rfl, rfl⟩
  clear HDG
  go_wp2_with fail
  have HX := Lib.hid (funok_any W8 r s _ _ a d n l HST8.out.2.1 (cells_chg hcl HST8.out.1 hlv) hlv HREST.out hs HA.out.1 HA.out.2 hn hf.digit)
  refine HX.out.mono ?_
  rintro e W9 ⟨rfl, hc9, hr9⟩
  have HST9 := Lib.hid (HST8.out.step hc9 hr9 hrl)
  have hl9 := heap_lt HST9.out.2.2
  clear hc9 hr9 HX HST8 HNE
  go_wp2_with (with_reducible refine stop_op (o := ⟨_, .store 25 (.tmp 11) (.tmp 112), _, _, _, _⟩) ?_)
  refine Lib.hid ?_
  refine wpList_store_new (o := ⟨none, _, _, _, _, _⟩) rfl 25 (.tmp 11) (.tmp 112) rfl #[.int .i8 3, .int .i64 n, .string ⟨a.toArray⟩, .string ⟨d.toArray⟩, .slice none 0 0] rfl rfl (infoTM' _ rfl) rfl (by simp [Value.oneCell']) ?_
  have HSTB := Lib.hid (HST9.out.keep ((Below.refl W9.heap.size W9).alloc (Nat.le_refl _) (.cells #[.int .i8 3, .int .i64 n, .string ⟨a.toArray⟩, .string ⟨d.toArray⟩, .slice none 0 0] 25)))
  have HNB := Lib.hid (heap_new W9 (.cells #[.int .i8 3, .int .i64 n, .string ⟨a.toArray⟩, .string ⟨d.toArray⟩, .slice none 0 0] 25))
  clear HST9
  generalize W9.alloc (.cells #[.int .i8 3, .int .i64 n, .string ⟨a.toArray⟩, .string ⟨d.toArray⟩, .slice none 0 0] 25) = WB at *
  obtain ⟨HF, hxA⟩ := HSTB.out.fin hrl ⟨3, n, ⟨a.toArray⟩, ⟨d.toArray⟩, none, 0, []⟩ rfl HFF.out (rowS_nil _ 0 _)
  have HF := Lib.hid HF
  have HXA := Lib.hid hxA
  clear hxA
  simp only [TE.cells] at *
  go_wp2_with (with_reducible refine stop_op (o := ⟨_, .load 25 (.tmp 11), _, _, _, _⟩) ?_)
  refine Lib.hid ?_
  refine wpList_load_row (o := ⟨_, _, _, _, _, _⟩) rfl 25 (.tmp 11) rfl W9.heap.size rfl 25 #[.int .i8 3, .int .i64 n, .string ⟨a.toArray⟩, .string ⟨d.toArray⟩, .slice none 0 0] (0, 0) _ HNB.out Tryd.underlying25 rfl (infoTM' _ rfl) ?_
  go_wp2_with (with_reducible refine stop_op (o := ⟨_, .store 25 (.tmp 2) (.tmp 115), _, _, _, _⟩) ?_)
  refine Lib.hid ?_
  refine wpList_store_row (o := ⟨none, _, _, _, _, _⟩) rfl 25 (.tmp 2) (.tmp 115) rfl W.heap.size #[.int .i8 3, .int .i64 n, .string ⟨a.toArray⟩, .string ⟨d.toArray⟩, .slice none 0 0] rfl rfl 25 zT HSTB.out.2.2 (infoTM' _ rfl) rfl (by simp [Value.oneCell']) ?_
  go_wp2_with fail
  exact ret_row HXA.out rfl Tryd.underlying25 rfl (infoTM' _ rfl) rfl rfl HF.out
theorem oneB_leaf {k n : Int} {s u : ByteArray} {L : List Tm} (h : oneB k n s u L.length = true) (h5 : k ≠ 5) (h67 : ¬ (k = 6 ∨ k = 7)) :
    L = [] ∧ ((k = 0 ∧ s = ⟨#[]⟩ ∧ u = ⟨#[]⟩ ∧ mayI n = true) ∨ (k = 1 ∧ n = 0 ∧ u = ⟨#[]⟩ ∧ mayS s = true) ∨ ((k = 2 ∨ k = 4) ∧ s = ⟨#[]⟩ ∧ u = ⟨#[]⟩ ∧ 0 ≤ n ∧ n ≤ 576460752303423487) ∨ (k = 3 ∧ mayS s = true ∧ mayS u = true ∧ 0 ≤ n ∧ n ≤ 8)) := by
  have h6 : k ≠ 6 := fun e => h67 (.inl e)
  have h7 : k ≠ 7 := fun e => h67 (.inr e)
  unfold oneB bareB at h
  by_cases k0 : k = 0
  · subst k0
    simp at h
    exact ⟨h.1.2.2, .inl ⟨rfl, empty_true h.1.1, empty_true h.1.2.1, h.2⟩⟩
  · by_cases k1 : k = 1
    · subst k1
      simp at h
      exact ⟨h.1.2.2, .inr (.inl ⟨rfl, h.1.1, empty_true h.1.2.1, h.2⟩)⟩
    · by_cases k2 : k = 2 ∨ k = 4
      · rw [if_neg k0, if_neg k1, if_pos k2] at h
        simp at h
        exact ⟨h.1.2.2, .inr (.inr (.inl ⟨k2, empty_true h.1.1, empty_true h.1.2.1, h.2.1, h.2.2⟩))⟩
      · by_cases k3 : k = 3
        · subst k3
          simp at h
          exact ⟨h.1, .inr (.inr (.inr ⟨rfl, h.2.1, h.2.2.1, h.2.2.2.1, h.2.2.2.2⟩))⟩
        · rw [if_neg k0, if_neg k1, if_neg k2, if_neg k3, if_neg h5, if_neg h6, if_neg h7] at h
          cases h
theorem term_any : ∀ N, N ≤ 256 → TermRd N := by
  intro N
  induction N with
  | zero =>
    intro _ t h
    have := nT_pos t
    omega
  | succ N ih =>
    intro hN t hnt hok W r s i b l h hcl hlv hs hrest hf hb
    have ih := ih (by omega)
    by_cases h67 : t.k = 6 ∨ t.k = 7
    · exact term_list N ih t hok hnt (by omega) h67 W r s i b l h hcl hlv hs hrest hb
    · have hb1 : b + 1 ≤ 256 := by have := bg_pos t; omega
      obtain ⟨k, n, s', u, L⟩ := t
      have h67 : ¬ (k = 6 ∨ k = 7) := h67
      by_cases h5 : k = 5
      · obtain ⟨rfl, rfl, rfl, -⟩ := okT_tuple hok h5
        subst h5
        have e : tx (.mk 5 0 ⟨#[]⟩ ⟨#[]⟩ L) = 123 :: (wrL L ++ [125]) := by rw [tx]; simp [form]
        have e2 : bg (.mk 5 0 ⟨#[]⟩ ⟨#[]⟩ L) = 1 + bgL L := by simp [bg]
        have e3 : nT (.mk 5 0 ⟨#[]⟩ ⟨#[]⟩ L) = nL L + 1 := by rw [nT]
        rw [e] at hrest ⊢
        rw [e2] at hb ⊢
        rw [e3] at hnt
        have h2 := term_tuple N ih L hok (by omega) (by omega) W r s i b l h hcl hlv hs (by simpa using hrest) (by omega)
        rw [← Nat.add_assoc, show i + (123 :: (wrL L ++ [125])).length = i + 1 + (wrL L).length + 1 from by simp; omega]
        exact h2
      · have h1 : oneB k n s' u L.length = true := by
          rw [okT] at hok
          exact hok.1
        obtain ⟨rfl, hkk⟩ := oneB_leaf h1 h5 h67
        clear h1
        have e2 : bg (.mk k n s' u []) = 1 := by
          rw [bg, if_neg h5, if_neg (show ¬ k = 7 from fun e => h67 (.inr e))]
        rw [e2]
        rcases hkk with ⟨rfl, rfl, rfl, hn⟩ | ⟨rfl, rfl, rfl, hm⟩ | ⟨hk, rfl, rfl, hn0, hn1⟩ | ⟨rfl, hm, hm2, hn0, hn1⟩
        · have e : tx (.mk 0 n ⟨#[]⟩ ⟨#[]⟩ []) = Lib.itoa n := by rw [tx]; simp [form]
          rw [e] at hrest ⊢
          simp [mayI] at hn
          by_cases h0 : n < 0
          · rw [itoa_neg h0] at hrest ⊢
            have h2 := term_neg n.natAbs (by omega) (by omega) W r s i b l h hf.digit hs hrest hb1
            rw [show -((n.natAbs : Nat) : Int) = n from by omega] at h2
            rw [show i + (45 :: Lib.decDigits n.natAbs).length = i + 1 + (Lib.decDigits n.natAbs).length from by simp; omega]
            exact h2
          · rw [itoa_pos (by omega)] at hrest ⊢
            have h2 := term_pos n.toNat (by omega) W r s i b l h hf.digit hs hrest hb1
            rw [show ((n.toNat : Nat) : Int) = n from by omega] at h2
            exact h2
        · have e : tx (.mk 1 0 s' ⟨#[]⟩ []) = s'.toList := by rw [tx]; simp [form]
          rw [e] at hrest ⊢
          have hb0 := byte_list s'
          generalize s'.toList = a at *
          subst hb0
          exact term_atom a hm W r s i b l h hcl hlv hf hs hrest hb1
        · rcases hk with rfl | rfl
          · have e : tx (.mk 2 n ⟨#[]⟩ ⟨#[]⟩ []) = [35, 82, 101, 102, 60] ++ (Lib.decDigits n.toNat ++ [62]) := by rw [tx]; simp [form, itoa_pos hn0]
            rw [e] at hrest ⊢
            have h2 := term_ref n.toNat (by omega) W r s i b l h hs (by simpa using hrest) hb1
            rw [show ((n.toNat : Nat) : Int) = n from by omega] at h2
            have e5 : i + (([35, 82, 101, 102, 60] : List UInt8) ++ (Lib.decDigits n.toNat ++ [62])).length = i + 5 + (Lib.decDigits n.toNat).length + 1 := by
              simp
              omega
            rw [e5]
            exact h2
          · have e : tx (.mk 4 n ⟨#[]⟩ ⟨#[]⟩ []) = 60 :: (Lib.decDigits n.toNat ++ [62]) := by rw [tx]; simp [form, itoa_pos hn0]
            rw [e] at hrest ⊢
            have h2 := term_pid n.toNat (by omega) W r s i b l h hs (by simpa using hrest) hb1
            rw [show ((n.toNat : Nat) : Int) = n from by omega] at h2
            rw [show i + (60 :: (Lib.decDigits n.toNat ++ [62])).length = i + 1 + (Lib.decDigits n.toNat).length + 1 from by simp; omega]
            exact h2
        · have e : tx (.mk 3 n s' u []) = [102, 117, 110, 32] ++ (s'.toList ++ 58 :: (u.toList ++ 47 :: [UInt8.ofNat (48 + n.toNat)])) := by rw [tx]; simp [form, itoa_pos hn0, dec_one (show n.toNat < 10 by omega)]
          rw [e] at hrest ⊢
          have hb0 := byte_list s'
          have hb2 := byte_list u
          generalize s'.toList = a at *
          generalize u.toList = d at *
          subst hb0
          subst hb2
          have h2 := term_fun a d n.toNat (by omega) hm hm2 W r s i b l h hcl hlv hf hs (by simpa using hrest) hb1
          rw [show ((n.toNat : Nat) : Int) = n from by omega] at h2
          rw [show i + (([102, 117, 110, 32] : List UInt8) ++ (a ++ 58 :: (d ++ 47 :: [UInt8.ofNat (48 + n.toNat)]))).length = i + 4 + a.length + 1 + d.length + 1 + 1 from by simp; omega]
          exact h2
end Go.Proofs.YtaomakhhkjflaaaDoor
