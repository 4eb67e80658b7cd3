/- the unit's begun. Conditions: what is handed over reads; the letters stand. -/
/- a plan for a region that draws its order: a tree (where two or three may come up, each way has a plan of its own). No conditions. -/
/- the unit's loop. Conditions: what is handed over reads; the letters stand. -/
import Derived.Test.YthpmdeofdlcccaaGreatDoorMs6
import Derived.Test.YthpmdeofdlcccaaGreatDoorMs5
import Derived.Test.YthpmdeofdlcccaaGreatDoorK
import Derived.Test.YthpmdeofdlcccaaGreatDoorKi
namespace Go.Proofs.YthpmdeofdlcccaaGreatDoor
open Go.ChangeShapes Go.WideShapes Go.ChangeAt Go.RowKit
set_option linter.unusedVariables false
set_option linter.unusedSimpArgs false
set_option maxRecDepth 100000
def okS : ByteArray := ⟨#[111, 107]⟩
def ignS : ByteArray := ⟨#[105, 103, 110, 111, 114, 101]⟩
def norS : ByteArray := ⟨#[110, 111, 114, 109, 97, 108]⟩
def stoS : ByteArray := ⟨#[115, 116, 111, 112]⟩
/-- the atom ok? -/
def isOk (t : Tm) : Bool := decide (t.k = 1) && decide (t.s = okS)
/-- what begun comes to -/
def BgR (N : Nat → Prop) (w : World) (m : Mc) (i : Inn) (m' : Mc) (E1 : List Ef) : Prop :=
  (∃ (V a : TE) (dl : Int), m' = { m with V := V, dl := dl, ph := 2 } ∧ E1 = [oursE m.pid a] ∧ a.t = ackV (sureN i.self) (.mk 1 0 okS ⟨#[]⟩ []) ∧ TeOk N w V ∧ TeOk N w a) ∨
  (∃ (a x : TE) (u : Tm), m' = m ∧ E1 = [oursE m.pid a, endE x] ∧ a.t = ackV (sureN i.self) u ∧ isOk u = false ∧ TeOk N w a ∧ TeOk N w x)
def BgP (M : Nat → Prop) (w : World) (ub : Nat) (m : Mc) (i : Inn) (ev : Value) (E : List Ef) (e : Ending) (w' : World) : Prop :=
  (∃ v, e = .returned v) ∧ ∃ ev' m' E1, UnOk w' ub (unL m' i) ev' (E ++ E1) ∧ Chg (UnB ub ev) w w' ∧ (∀ k, k < w.heap.size → ev'.ownBlock = some k → ev.ownBlock = some k) ∧ BgR (MU M ub ev') w' m i m' E1
/-- what stands while begun goes on -/
structure BgW (w0 w : World) (M : Nat → Prop) (ub : Nat) (m : Mc) (i : Inn) (ev : Value) (E : List Ef) (q3 : Nat) (x : TE) : Prop where
  hb : Below w0.heap.size w0 w
  hu : UnOk w ub (unL m i) ev E
  hg : w.heap[w0.heap.size]? = some (.cells i.got.cells.toArray 25 (0, 0))
  hx : w.heap[q3]? = some (.cells x.cells.toArray 25 (0, 0))
  hq : w0.heap.size < q3
  ht : TeOk (MU M ub ev) w x
theorem BgW.keep {w0 w w' : World} {M : Nat → Prop} {ub : Nat} {m : Mc} {i : Inn} {ev : Value} {E : List Ef} {q3 : Nat} {x : TE} (h : BgW w0 w M ub m i ev E q3 x) (hb : Below w.heap.size w w') : BgW w0 w' M ub m i ev E q3 x :=
  ⟨h.hb.trans (hb.mono h.hb.size), h.hu.keep hb, keep_heap h.hg hb, keep_heap h.hx hb, h.hq, h.ht.keep hb⟩
theorem let_chg {S : Nat → Prop} {w w' : World} (h : Cells w 0 letL) (hc : Chg S w w') (hl : ¬ S 0) : Cells w' 0 letL := fun j r hj => ⟨hc.cell (h j r hj).1 hl, hc.cell (h j r hj).2 hl⟩
theorem BgW.put {w0 w : World} {M : Nat → Prop} {ub : Nat} {m : Mc} {i : Inn} {ev : Value} {E : List Ef} {q3 : Nat} {x y : TE} (h : BgW w0 w M ub m i ev E q3 x) (hy : TeOk (MU M ub ev) w0 y) (hM : ∀ k, MU M ub ev k → k < w0.heap.size) (hub : ub < w0.heap.size) : BgW w0 (w.setRow q3 y.cells.toArray) M ub m i ev E q3 y := by
  have hq := h.hq
  have hc4 := chg_setRow w q3 y.cells.toArray
  have hevg : ∀ k, ev.ownBlock = some k → ¬ (k = q3) := fun k hk e => by
    have := hM k (.inr (.inr hk))
    omega
  refine ⟨bel_setRow h.hb h.hb.size (Nat.le_of_lt hq) _, ⟨hc4.heap h.hu.hU (by omega), h.hu.hcs, own_chg h.hu.hown hc4 hevg⟩, hc4.heap h.hg (by omega), setRow_heap w q3 _ _ 25 (0, 0) h.hx, hq, ?_⟩
  exact (hy.chg (M' := fun k => MU M ub ev k ∨ k = q3) (chg_of_below h.hb (fun _ => False)) (fun _ h => h.elim) (fun k hk hl => hk.elim id (fun e => by omega))).chg (M' := MU M ub ev) hc4 (fun k e _ => .inr e) (fun k hk _ => .inl hk)
theorem tupA_ok (L : List Tm) : isOk (tupA L) = false := by
  unfold tupA
  split <;> simp [isOk, okS, limS, Tm.k, Tm.s]
theorem ureason_x (M : Nat → Prop) (w : World) (hM : ∀ k, M k → k < w.heap.size) (hc : Cells w 0 letL) (ub : Nat) (m : Mc) (i : Inn) (ev : Value) (E : List Ef) (h : UnOk w ub (unL m i) ev E) (hx : TeOk M w i.got) :
    Calls Tryz.prog 71 #[.pointer (some ⟨ub, 0, none⟩)] w fun e w' => ∃ x : TE, e = .returned (.agg #[.int .i8 x.k, .int .i64 x.n, .string x.s, .string x.u, .slice x.ao x.l.length x.cap]) ∧ TeOk M w' x ∧ Below w.heap.size w w' := ureason_any M w hM hc ub m i ev E h hx
theorem sis_g (M : Nat → Prop) (w : World) (i : Inn) (tag : ByteArray) (n : Nat) (hx : TeOk M w i.got) (h0 : 0 < n) (hn : n ≤ 100) : Calls Tryz.prog 31 #[.agg #[.int .i8 i.got.k, .int .i64 i.got.n, .string i.got.s, .string i.got.u, .slice i.got.ao i.got.l.length i.got.cap], .string tag, .int .i64 n] w (IsPost w (isB i.got.t tag n)) := sis_any M w i.got tag n hx h0 hn
theorem utime_x (M : Nat → Prop) (w : World) (hc : Cells w 0 letL) (ub : Nat) (m : Mc) (i : Inn) (ev : Value) (E : List Ef) (h : UnOk w ub (unL m i) ev E) (hx : TeOk M w i.got) : Calls Tryz.prog 72 #[.pointer (some ⟨ub, 0, none⟩), .agg #[.int .i8 i.got.k, .int .i64 i.got.n, .string i.got.s, .string i.got.u, .slice i.got.ao i.got.l.length i.got.cap], .int .i64 2] w (TiPost w) := utime_any M w hc ub m i ev E h i.got hx 2 (.inl rfl)
theorem uack_g (M : Nat → Prop) (w : World) (hM : ∀ k, M k → k < w.heap.size) (hc : Cells w 0 letL) (ub : Nat) (m : Mc) (i : Inn) (ev : Value) (E : List Ef) (h : UnOk w ub (unL m i) ev E) (hn : E.length ≤ 100) (hx : TeOk (MU M ub ev) w i.got) :
    Calls Tryz.prog 73 #[.pointer (some ⟨ub, 0, none⟩), .agg #[.int .i8 i.got.k, .int .i64 i.got.n, .string i.got.s, .string i.got.u, .slice i.got.ao i.got.l.length i.got.cap]] w (fun e w' => ∃ a : TE, a.t = ackV (sureN i.self) i.got.t ∧ UnT M w ub ev (unL m i) (E ++ [oursE m.pid a]) a e w') := uack_any M w hM hc ub m i ev E h hn i.got hx
theorem isB_len {t : Tm} {tag : ByteArray} {n : Nat} (h : isB t tag n = true) : t.l.length = n := by
  unfold isB at h
  exact of_decide_eq_true (Bool.and_eq_true_iff.1 (Bool.and_eq_true_iff.1 h).2).1
set_option maxHeartbeats 16000000 in
theorem begun_any (M : Nat → Prop) (w : World) (hM : ∀ k, M k → k < w.heap.size) (hc : Cells w 0 letL) (ub : Nat) (m : Mc) (i : Inn) (ev : Value) (E : List Ef) (h : UnOk w ub (unL m i) ev E) (hn : E.length ≤ 50) (hlv : ¬ UnB ub ev 0) (hg : TeOk (MU M ub ev) w i.got) :
    Calls Tryz.prog 47 #[.pointer (some ⟨ub, 0, none⟩)] w (BgP M w ub m i ev E) := by
  have HL := Lib.hid (heap_lt h.hU)
  have HMU := Lib.hid (mu_lt h hM)
  have HX := Lib.hid (And.intro hg (And.intro hM hc))
  have g0 := h.cell (i := 32) (v := .int .i8 i.got.k) rfl
  have g1 := h.cell (i := 33) (v := .int .i64 i.got.n) rfl
  have g2 := h.cell (i := 34) (v := .string i.got.s) rfl
  have g3 := h.cell (i := 35) (v := .string i.got.u) rfl
  have g4 := h.cell (i := 36) (v := .slice i.got.ao i.got.l.length i.got.cap) rfl
  have HH := Lib.hid h
  have HL0 := Lib.hid hlv
  clear h hM hc hg hlv
  go_enter Tryz.func47, Tryz.ntmps47
  go_wp2_with (with_reducible refine stop_op (o := ⟨_, .store 25 (.tmp 2) (.tmp 11), _, _, _, _⟩) ?_)
  refine Lib.hid ?_
  refine wpList_store_new (o := ⟨none, _, _, _, _, _⟩) rfl 25 (.tmp 2) (.tmp 11) rfl #[.int .i8 i.got.k, .int .i64 i.got.n, .string i.got.s, .string i.got.u, .slice i.got.ao i.got.l.length i.got.cap] rfl rfl (infoTM' _ rfl) rfl (by simp [Value.oneCell']) ?_
  have hb1 := (Below.refl w.heap.size w).alloc (Nat.le_refl _) (.cells #[.int .i8 i.got.k, .int .i64 i.got.n, .string i.got.s, .string i.got.u, .slice i.got.ao i.got.l.length i.got.cap] 25)
  have H1 := Lib.hid (And.intro hb1 (And.intro (HH.out.keep hb1) (heap_new w (.cells #[.int .i8 i.got.k, .int .i64 i.got.n, .string i.got.s, .string i.got.u, .slice i.got.ao i.got.l.length i.got.cap] 25))))
  clear hb1 HH g0 g1 g2 g3 g4
  generalize w.alloc (.cells #[.int .i8 i.got.k, .int .i64 i.got.n, .string i.got.s, .string i.got.u, .slice i.got.ao i.got.l.length i.got.cap] 25) = w1 at *
  go_wp2_with fail
  refine (ureason_x (MU M ub ev) w1 (fun k hk => Nat.lt_of_lt_of_le (HMU.out k hk) H1.out.1.size) (keepCells HX.out.2.2 H1.out.1) ub m i ev E H1.out.2.1 (HX.out.1.keep H1.out.1)).mono ?_
  rintro e w2 ⟨x, rfl, hx, hb2⟩
  have H2 := Lib.hid (And.intro (H1.out.1.trans (hb2.mono H1.out.1.size)) (And.intro (H1.out.2.1.keep hb2) (And.intro (keep_heap H1.out.2.2 hb2) hx)))
  clear hb2 H1 hx
  go_wp2_with (with_reducible refine stop_op (o := ⟨_, .store 25 (.tmp 3) (.tmp 13), _, _, _, _⟩) ?_)
  refine Lib.hid ?_
  refine wpList_store_new (o := ⟨none, _, _, _, _, _⟩) rfl 25 (.tmp 3) (.tmp 13) rfl #[.int .i8 x.k, .int .i64 x.n, .string x.s, .string x.u, .slice x.ao x.l.length x.cap] rfl rfl (infoTM' _ rfl) rfl (by simp [Value.oneCell']) ?_
  have hb3 := (Below.refl w2.heap.size w2).alloc (Nat.le_refl _) (.cells #[.int .i8 x.k, .int .i64 x.n, .string x.s, .string x.u, .slice x.ao x.l.length x.cap] 25)
  have HW := Lib.hid (BgW.mk (w0 := w) (M := M) (q3 := w2.heap.size) (x := x) (H2.out.1.trans (hb3.mono H2.out.1.size)) (H2.out.2.1.keep hb3) (keep_heap H2.out.2.2.1 hb3) (heap_new w2 (.cells #[.int .i8 x.k, .int .i64 x.n, .string x.s, .string x.u, .slice x.ao x.l.length x.cap] 25)) (heap_lt H2.out.2.2.1) (H2.out.2.2.2.keep hb3))
  clear hb3 H2
  generalize w2.alloc (.cells #[.int .i8 x.k, .int .i64 x.n, .string x.s, .string x.u, .slice x.ao x.l.length x.cap] 25) = w3 at *
  generalize w2.heap.size = q3 at *
  have c30 := HW.out.hu.cell (i := 30) (v := .int .i8 i.cls) rfl
  obtain ⟨g0, g1, g2, g3, g4⟩ := BxS.of HW.out.hg
  by_cases h0 : i.cls = 0
  · rw [h0] at c30
    clear h0
    have HS1 := Lib.hid (sis_g (MU M ub ev) w3 i okS 2 (HX.out.1.keep HW.out.hb) (by omega) (by omega))
    go_wp2_with fail
    refine HS1.out.mono ?_
    clear HS1
    rintro e w4 ⟨rfl, hb4⟩
    have H4 := Lib.hid (HW.out.keep hb4)
    clear hb4 HW g0 g1 g2 g3 g4 c30
    obtain ⟨g0, g1, g2, g3, g4⟩ := BxS.of H4.out.hg
    cases hk2 : isB i.got.t okS 2
    · have HS2 := Lib.hid (sis_g (MU M ub ev) w4 i okS 3 (HX.out.1.keep H4.out.hb) (by omega) (by omega))
      go_wp2_with fail
      refine HS2.out.mono ?_
      clear HS2
      rintro e w5 ⟨rfl, hb5⟩
      have H5 := Lib.hid (H4.out.keep hb5)
      clear hb5 H4 g0 g1 g2 g3 g4
      obtain ⟨g0, g1, g2, g3, g4⟩ := BxS.of H5.out.hg
      cases hk3 : isB i.got.t okS 3
      · by_cases hik : i.got.k = 1
        · by_cases his : i.got.s = ignS
          · have HI := Lib.hid (show isOk i.got.t = false from by
              show (decide (i.got.k = 1) && decide (i.got.s = okS)) = false
              rw [his, show decide (ignS = okS) = false by decide, Bool.and_false])
            have HC := Lib.hid (uack_g M w5 (fun k hk => Nat.lt_of_lt_of_le (HX.out.2.1 k hk) H5.out.hb.size) (keepCells HX.out.2.2 H5.out.hb) ub m i ev E H5.out.hu (by omega) (HX.out.1.keep H5.out.hb))
            rw [hik, his] at HC
            rw [hik] at g0
            rw [his] at g2
            unfold ignS at g2 HC
            clear hik his
            go_wp2_with fail
            clear g0 g1 g2 g3 g4
            refine HC.out.mono ?_
            clear HC
            rintro e w6 ⟨a, hat, ⟨v, rfl⟩, ev', hu3, hc3, hb3, hao⟩
            have HF := Lib.hid (And.intro hu3 (And.intro (un_trans (chg_of_below H5.out.hb _) (fun _ _ h => h) hc3) (And.intro (show ∀ k, k < w.heap.size → ev'.ownBlock = some k → ev.ownBlock = some k from fun k hk e => hb3 k (Nat.lt_of_lt_of_le hk H5.out.hb.size) e) (And.intro hat hao))))
            clear hu3 hc3 hb3 hat hao
            go_wp2_with fail
            refine (satom_x w6 _).mono ?_
            rintro e w7 ⟨rfl, hb7⟩
            have HC2 := Lib.hid (effect_any w7 ub _ ev' (E ++ [oursE m.pid a]) (endE (atomT norS)) (HF.out.1.keep hb7) (by simp; omega))
            have HB7 := Lib.hid hb7
            clear hb7
            go_wp2_with fail
            refine HC2.out.mono ?_
            clear HC2
            rintro e w8 ⟨⟨v4, rfl⟩, ev4, hu4, hc4, hb4⟩
            have HG := Lib.hid (And.intro hu4 (And.intro (un_trans (un_trans HF.out.2.1 (fun _ _ h => h) (chg_of_below HB7.out (UnB ub ev))) (fun k hk e => HF.out.2.2.1 k hk e) hc4) (And.intro (show ∀ k, k < w.heap.size → ev4.ownBlock = some k → ev.ownBlock = some k from fun k hk e => HF.out.2.2.1 k hk (hb4 k (Nat.lt_of_lt_of_le (Nat.lt_of_lt_of_le hk HF.out.2.1.size) HB7.out.size) e)) (un_te hc4 hb4 (HF.out.2.2.2.2.keep HB7.out)))))
            clear hu4 hc4 hb4
            go_wp2_with fail
            go_end0
            refine ⟨⟨_, rfl⟩, ev4, m, [oursE m.pid a, endE (atomT norS)], ?_, ?_, ?_, ?_⟩
            · have := HG.out.1
              rw [List.append_assoc] at this
              exact this
            · exact HG.out.2.1
            · exact HG.out.2.2.1
            · refine .inr ⟨a, atomT norS, i.got.t, rfl, rfl, ?_, ?_, ?_, ?_⟩
              · exact HF.out.2.2.2.1
              · exact HI.out
              · exact HG.out.2.2.2
              · exact atomT_ok _ _ _ (by decide)
          · have q2 := (str_ne_of (l := [105, 103, 110, 111, 114, 101]) his).1
            have HS3 := Lib.hid (sis_g (MU M ub ev) w5 i stoS 2 (HX.out.1.keep H5.out.hb) (by omega) (by omega))
            rw [hik] at HS3 g0
            clear hik his
            go_wp2_with fail
            clear q2
            refine HS3.out.mono ?_
            clear HS3
            rintro e w6 ⟨rfl, hb6⟩
            have H6 := Lib.hid (H5.out.keep hb6)
            clear hb6 H5 g0 g1 g2 g3 g4
            cases hk4 : isB i.got.t stoS 2
            · go_wp2_with fail
              have hdr : Below w6.heap.size w6 w6.drew := (Below.refl _ _).drew
              have hR := H6.out.keep hdr
              have hS := BxS.of hR.hx
              refine region_plan (BxS q3 x) [(0, 0), (2, 0), (1, 1), (3, 1), (4, 1), (5, 1)] (by kernel_rfl) (by kernel_rfl) (by kernel_rfl) hS ?_
              generalize w6.drew = WD at *
              clear hdr H6
              iterate 2 (first | (refine plan_skip rfl ?_ ?_; (focus (rfl)); (try simp only [Act.put, List.setIfInBounds_toArray, List.set_cons_zero, List.set_cons_succ])) | (refine plan_take (v := ?_) rfl ?_ (fun w hSw => ?_) ?_; rotate_left; (focus (rfl)); (focus (unfold BxS at hSw; (go_simp <;> with_reducible rfl))); (try simp only [Act.put, List.setIfInBounds_toArray, List.set_cons_zero, List.set_cons_succ])))
              refine plan_run rfl ?_ (fun K hK => ?_)
              focus (rfl)
              go_simp
              refine (satom_x WD _).mono ?_
              rintro e W1 ⟨rfl, hb1⟩
              have hS1 := hS.keep hb1
              refine hK.out _ _ hS1 ?_
              clear hK K 
              (try simp only [Act.put, List.setIfInBounds_toArray, List.set_cons_zero, List.set_cons_succ])
              have hR1 := hR.keep hb1
              clear hS hR hb1
              have hba := (Below.refl W1.heap.size W1).alloc (Nat.le_refl _) (.cells #[.int .i8 1, .int .i64 0, .string ⟨#[101, 114, 114, 111, 114]⟩, .string ⟨#[]⟩, .slice none 0 0, .int .i8 x.k, .int .i64 x.n, .string x.s, .string x.u, .slice x.ao x.l.length x.cap] 25)
              have hSa := hS1.keep hba
              have hRa := hR1.keep hba
              have hMq := mu_lt hR1.hu (fun k hk => Nat.lt_of_lt_of_le (HX.out.2.1 k hk) hR1.hb.size)
              have hta := two_tes (MU M ub ev) W1 hMq (atomT ⟨#[101, 114, 114, 111, 114]⟩) x (atomT_ok _ _ _ (by decide)) hR1.ht
              have HT := Lib.hid (stuple_x _ (W1.alloc (.cells #[.int .i8 1, .int .i64 0, .string ⟨#[101, 114, 114, 111, 114]⟩, .string ⟨#[]⟩, .slice none 0 0, .int .i8 x.k, .int .i64 x.n, .string x.s, .string x.u, .slice x.ao x.l.length x.cap] 25)) (fun k hk => Nat.lt_of_lt_of_le (hMq k hk) hba.size) (keepCells HX.out.2.2 hRa.hb) _ _ hta (fun c => .inl (by simp)) (by simp))
              refine plan_run rfl ?_ (fun K hK => ?_)
              focus (rfl)
              go_simp
              refine hK.out _ _ (hSa) ?_
              clear hK K
              (try simp only [Act.put, List.setIfInBounds_toArray, List.set_cons_zero, List.set_cons_succ])
              clear hba hta hS1 hR1 hMq
              generalize W1.alloc (.cells #[.int .i8 1, .int .i64 0, .string ⟨#[101, 114, 114, 111, 114]⟩, .string ⟨#[]⟩, .slice none 0 0, .int .i8 x.k, .int .i64 x.n, .string x.s, .string x.u, .slice x.ao x.l.length x.cap] 25) = Wa at *
              refine plan_run rfl ?_ (fun K hK => ?_)
              focus (rfl)
              go_simp
              refine (HT.out).mono ?_
              rintro e W2 ⟨y, rfl, hyt, hy, hb2⟩
              have hS2 := hSa.keep hb2
              refine hK.out _ _ hS2 ?_
              clear hK K 
              (try simp only [Act.put, List.setIfInBounds_toArray, List.set_cons_zero, List.set_cons_succ])
              have hR2 := hRa.keep hb2
              clear hSa hRa hb2 HT
              have HC := Lib.hid (uack_any M W2 (fun k hk => Nat.lt_of_lt_of_le (HX.out.2.1 k hk) hR2.hb.size) (keepCells HX.out.2.2 hR2.hb) ub m i ev E hR2.hu (by omega) y hy)
              refine plan_run rfl ?_ (fun K hK => ?_)
              focus (rfl)
              go_simp
              refine HC.out.mono ?_
              clear HC
              rintro e W3 ⟨a, hat, ⟨v, rfl⟩, ev', hu3, hc3, hb3, hao⟩
              have hnq : ¬ UnB ub ev q3 := fun h => by
                have hq := hR2.hq
                rcases h with h | h
                · have := HL.out
                  omega
                · have := HMU.out _ (.inr (.inr h))
                  omega
              have hx3 := hc3.heap hR2.hx hnq
              have hS3 := BxS.of hx3
              refine hK.out _ _ (hS3) ?_
              clear hK K
              (try simp only [Act.put, List.setIfInBounds_toArray, List.set_cons_zero, List.set_cons_succ])
              refine plan_done ?_
              have hxt := un_te hc3 hb3 hR2.ht
              have HF := Lib.hid (And.intro hu3 (And.intro (un_trans (chg_of_below hR2.hb _) (fun _ _ h => h) hc3) (And.intro (show ∀ k, k < w.heap.size → ev'.ownBlock = some k → ev.ownBlock = some k from fun k hk e => hb3 k (Nat.lt_of_lt_of_le hk hR2.hb.size) e) (And.intro hao (And.intro hxt (And.intro hx3 (And.intro hat hyt)))))))
              clear hS2 hS3 hR2 hu3 hc3 hb3 hao hxt hx3 hnq hat hyt hy
              obtain ⟨k0, k1, k2, k3, k4⟩ := BxS.of HF.out.2.2.2.2.2.1
              have HC2 := Lib.hid (effect_any W3 ub _ ev' (E ++ [oursE m.pid a]) (endE x) HF.out.1 (by simp; omega))
              go_wp2_with fail
              refine HC2.out.mono ?_
              clear HC2 k0 k1 k2 k3 k4
              rintro e W4 ⟨⟨v4, rfl⟩, ev4, hu4, hc4, hb4⟩
              have HG := Lib.hid (And.intro hu4 (And.intro (un_trans HF.out.2.1 HF.out.2.2.1 hc4) (And.intro (show ∀ k, k < w.heap.size → ev4.ownBlock = some k → ev.ownBlock = some k from fun k hk e => HF.out.2.2.1 k hk (hb4 k (Nat.lt_of_lt_of_le hk HF.out.2.1.size) e)) (And.intro (un_te hc4 hb4 HF.out.2.2.2.1) (un_te hc4 hb4 HF.out.2.2.2.2.1)))))
              clear hu4 hc4 hb4
              go_wp2_with fail
              go_end0
              refine ⟨⟨_, rfl⟩, ev4, m, [oursE m.pid a, endE x], ?_, ?_, ?_, ?_⟩
              · have := HG.out.1
                rw [List.append_assoc] at this
                exact this
              · exact HG.out.2.1
              · exact HG.out.2.2.1
              · refine .inr ⟨a, x, y.t, rfl, rfl, ?_, ?_, ?_, ?_⟩
                · exact HF.out.2.2.2.2.2.2.1
                · rw [HF.out.2.2.2.2.2.2.2]
                  exact tupA_ok _
                · exact HG.out.2.2.2.1
                · exact HG.out.2.2.2.2
            · have hl1 : 1 < i.got.l.length := by have := isB_len hk4; have : i.got.l.length = 2 := this; omega
              obtain ⟨b, off, z, e1, -, hz, pz, hpb⟩ := HX.out.1.part hl1
              have HPZ := Lib.hid (pz.keep H6.out.hb)
              have HZ := Lib.hid hz
              clear hz pz hpb
              obtain ⟨y0, y1, y2, y3, y4⟩ := HPZ.out
              rw [show off + 1 * 5 = off + 5 by omega] at y0 y1 y2 y3 y4
              have g4 := (BxS.of H6.out.hg).2.2.2.2
              rw [e1] at g4
              have hl2 : (1 : Int) < (i.got.l.length : Int) := by omega
              go_wp2_with (with_reducible refine stop_op (o := ⟨_, .store 25 (.tmp 3) (.tmp 86), _, _, _, _⟩) ?_)
              refine Lib.hid ?_
              refine wpList_store_row (o := ⟨none, _, _, _, _, _⟩) rfl 25 (.tmp 3) (.tmp 86) rfl q3 #[.int .i8 z.k, .int .i64 z.n, .string z.s, .string z.u, .slice z.ao z.l.length z.cap] rfl rfl 25 x.cells.toArray H6.out.hx (infoTM' _ rfl) rfl (by simp [Value.oneCell']) ?_
              have H7 := Lib.hid (H6.out.put HZ.out HMU.out HL.out)
              clear y0 y1 y2 y3 y4 g4 HPZ H6
              change Hid (BgW w (w6.setRow q3 #[.int .i8 z.k, .int .i64 z.n, .string z.s, .string z.u, .slice z.ao z.l.length z.cap]) M ub m i ev E q3 z) at H7
              generalize w6.setRow q3 #[.int .i8 z.k, .int .i64 z.n, .string z.s, .string z.u, .slice z.ao z.l.length z.cap] = w7 at *
              go_wp2_with fail
              have hdr : Below w7.heap.size w7 w7.drew := (Below.refl _ _).drew
              have hR := H7.out.keep hdr
              have hS := BxS.of hR.hx
              refine region_plan (BxS q3 z) [(0, 0), (2, 0), (1, 1), (3, 1), (4, 1), (5, 1)] (by kernel_rfl) (by kernel_rfl) (by kernel_rfl) hS ?_
              generalize w7.drew = WD at *
              clear hdr H7
              iterate 2 (first | (refine plan_skip rfl ?_ ?_; (focus (rfl)); (try simp only [Act.put, List.setIfInBounds_toArray, List.set_cons_zero, List.set_cons_succ])) | (refine plan_take (v := ?_) rfl ?_ (fun w hSw => ?_) ?_; rotate_left; (focus (rfl)); (focus (unfold BxS at hSw; (go_simp <;> with_reducible rfl))); (try simp only [Act.put, List.setIfInBounds_toArray, List.set_cons_zero, List.set_cons_succ])))
              refine plan_run rfl ?_ (fun K hK => ?_)
              focus (rfl)
              go_simp
              refine (satom_x WD _).mono ?_
              rintro e W1 ⟨rfl, hb1⟩
              have hS1 := hS.keep hb1
              refine hK.out _ _ hS1 ?_
              clear hK K 
              (try simp only [Act.put, List.setIfInBounds_toArray, List.set_cons_zero, List.set_cons_succ])
              have hR1 := hR.keep hb1
              clear hS hR hb1
              have hba := (Below.refl W1.heap.size W1).alloc (Nat.le_refl _) (.cells #[.int .i8 1, .int .i64 0, .string ⟨#[101, 114, 114, 111, 114]⟩, .string ⟨#[]⟩, .slice none 0 0, .int .i8 z.k, .int .i64 z.n, .string z.s, .string z.u, .slice z.ao z.l.length z.cap] 25)
              have hSa := hS1.keep hba
              have hRa := hR1.keep hba
              have hMq := mu_lt hR1.hu (fun k hk => Nat.lt_of_lt_of_le (HX.out.2.1 k hk) hR1.hb.size)
              have hta := two_tes (MU M ub ev) W1 hMq (atomT ⟨#[101, 114, 114, 111, 114]⟩) z (atomT_ok _ _ _ (by decide)) hR1.ht
              have HT := Lib.hid (stuple_x _ (W1.alloc (.cells #[.int .i8 1, .int .i64 0, .string ⟨#[101, 114, 114, 111, 114]⟩, .string ⟨#[]⟩, .slice none 0 0, .int .i8 z.k, .int .i64 z.n, .string z.s, .string z.u, .slice z.ao z.l.length z.cap] 25)) (fun k hk => Nat.lt_of_lt_of_le (hMq k hk) hba.size) (keepCells HX.out.2.2 hRa.hb) _ _ hta (fun c => .inl (by simp)) (by simp))
              refine plan_run rfl ?_ (fun K hK => ?_)
              focus (rfl)
              go_simp
              refine hK.out _ _ (hSa) ?_
              clear hK K
              (try simp only [Act.put, List.setIfInBounds_toArray, List.set_cons_zero, List.set_cons_succ])
              clear hba hta hS1 hR1 hMq
              generalize W1.alloc (.cells #[.int .i8 1, .int .i64 0, .string ⟨#[101, 114, 114, 111, 114]⟩, .string ⟨#[]⟩, .slice none 0 0, .int .i8 z.k, .int .i64 z.n, .string z.s, .string z.u, .slice z.ao z.l.length z.cap] 25) = Wa at *
              refine plan_run rfl ?_ (fun K hK => ?_)
              focus (rfl)
              go_simp
              refine (HT.out).mono ?_
              rintro e W2 ⟨y, rfl, hyt, hy, hb2⟩
              have hS2 := hSa.keep hb2
              refine hK.out _ _ hS2 ?_
              clear hK K 
              (try simp only [Act.put, List.setIfInBounds_toArray, List.set_cons_zero, List.set_cons_succ])
              have hR2 := hRa.keep hb2
              clear hSa hRa hb2 HT
              have HC := Lib.hid (uack_any M W2 (fun k hk => Nat.lt_of_lt_of_le (HX.out.2.1 k hk) hR2.hb.size) (keepCells HX.out.2.2 hR2.hb) ub m i ev E hR2.hu (by omega) y hy)
              refine plan_run rfl ?_ (fun K hK => ?_)
              focus (rfl)
              go_simp
              refine HC.out.mono ?_
              clear HC
              rintro e W3 ⟨a, hat, ⟨v, rfl⟩, ev', hu3, hc3, hb3, hao⟩
              have hnq : ¬ UnB ub ev q3 := fun h => by
                have hq := hR2.hq
                rcases h with h | h
                · have := HL.out
                  omega
                · have := HMU.out _ (.inr (.inr h))
                  omega
              have hx3 := hc3.heap hR2.hx hnq
              have hS3 := BxS.of hx3
              refine hK.out _ _ (hS3) ?_
              clear hK K
              (try simp only [Act.put, List.setIfInBounds_toArray, List.set_cons_zero, List.set_cons_succ])
              refine plan_done ?_
              have hxt := un_te hc3 hb3 hR2.ht
              have HF := Lib.hid (And.intro hu3 (And.intro (un_trans (chg_of_below hR2.hb _) (fun _ _ h => h) hc3) (And.intro (show ∀ k, k < w.heap.size → ev'.ownBlock = some k → ev.ownBlock = some k from fun k hk e => hb3 k (Nat.lt_of_lt_of_le hk hR2.hb.size) e) (And.intro hao (And.intro hxt (And.intro hx3 (And.intro hat hyt)))))))
              clear hS2 hS3 hR2 hu3 hc3 hb3 hao hxt hx3 hnq hat hyt hy
              obtain ⟨k0, k1, k2, k3, k4⟩ := BxS.of HF.out.2.2.2.2.2.1
              have HC2 := Lib.hid (effect_any W3 ub _ ev' (E ++ [oursE m.pid a]) (endE z) HF.out.1 (by simp; omega))
              go_wp2_with fail
              refine HC2.out.mono ?_
              clear HC2 k0 k1 k2 k3 k4
              rintro e W4 ⟨⟨v4, rfl⟩, ev4, hu4, hc4, hb4⟩
              have HG := Lib.hid (And.intro hu4 (And.intro (un_trans HF.out.2.1 HF.out.2.2.1 hc4) (And.intro (show ∀ k, k < w.heap.size → ev4.ownBlock = some k → ev.ownBlock = some k from fun k hk e => HF.out.2.2.1 k hk (hb4 k (Nat.lt_of_lt_of_le hk HF.out.2.1.size) e)) (And.intro (un_te hc4 hb4 HF.out.2.2.2.1) (un_te hc4 hb4 HF.out.2.2.2.2.1)))))
              clear hu4 hc4 hb4
              go_wp2_with fail
              go_end0
              refine ⟨⟨_, rfl⟩, ev4, m, [oursE m.pid a, endE z], ?_, ?_, ?_, ?_⟩
              · have := HG.out.1
                rw [List.append_assoc] at this
                exact this
              · exact HG.out.2.1
              · exact HG.out.2.2.1
              · refine .inr ⟨a, z, y.t, rfl, rfl, ?_, ?_, ?_, ?_⟩
                · exact HF.out.2.2.2.2.2.2.1
                · rw [HF.out.2.2.2.2.2.2.2]
                  exact tupA_ok _
                · exact HG.out.2.2.2.1
                · exact HG.out.2.2.2.2
        · have q1 : (i.got.k == 1) = false := by simp [hik]
          clear hik
          have HS3 := Lib.hid (sis_g (MU M ub ev) w5 i stoS 2 (HX.out.1.keep H5.out.hb) (by omega) (by omega))
          go_wp2_with fail
          clear q1
          refine HS3.out.mono ?_
          clear HS3
          rintro e w6 ⟨rfl, hb6⟩
          have H6 := Lib.hid (H5.out.keep hb6)
          clear hb6 H5 g0 g1 g2 g3 g4
          cases hk4 : isB i.got.t stoS 2
          · go_wp2_with fail
            have hdr : Below w6.heap.size w6 w6.drew := (Below.refl _ _).drew
            have hR := H6.out.keep hdr
            have hS := BxS.of hR.hx
            refine region_plan (BxS q3 x) [(0, 0), (2, 0), (1, 1), (3, 1), (4, 1), (5, 1)] (by kernel_rfl) (by kernel_rfl) (by kernel_rfl) hS ?_
            generalize w6.drew = WD at *
            clear hdr H6
            iterate 2 (first | (refine plan_skip rfl ?_ ?_; (focus (rfl)); (try simp only [Act.put, List.setIfInBounds_toArray, List.set_cons_zero, List.set_cons_succ])) | (refine plan_take (v := ?_) rfl ?_ (fun w hSw => ?_) ?_; rotate_left; (focus (rfl)); (focus (unfold BxS at hSw; (go_simp <;> with_reducible rfl))); (try simp only [Act.put, List.setIfInBounds_toArray, List.set_cons_zero, List.set_cons_succ])))
            refine plan_run rfl ?_ (fun K hK => ?_)
            focus (rfl)
            go_simp
            refine (satom_x WD _).mono ?_
            rintro e W1 ⟨rfl, hb1⟩
            have hS1 := hS.keep hb1
            refine hK.out _ _ hS1 ?_
            clear hK K 
            (try simp only [Act.put, List.setIfInBounds_toArray, List.set_cons_zero, List.set_cons_succ])
            have hR1 := hR.keep hb1
            clear hS hR hb1
            have hba := (Below.refl W1.heap.size W1).alloc (Nat.le_refl _) (.cells #[.int .i8 1, .int .i64 0, .string ⟨#[101, 114, 114, 111, 114]⟩, .string ⟨#[]⟩, .slice none 0 0, .int .i8 x.k, .int .i64 x.n, .string x.s, .string x.u, .slice x.ao x.l.length x.cap] 25)
            have hSa := hS1.keep hba
            have hRa := hR1.keep hba
            have hMq := mu_lt hR1.hu (fun k hk => Nat.lt_of_lt_of_le (HX.out.2.1 k hk) hR1.hb.size)
            have hta := two_tes (MU M ub ev) W1 hMq (atomT ⟨#[101, 114, 114, 111, 114]⟩) x (atomT_ok _ _ _ (by decide)) hR1.ht
            have HT := Lib.hid (stuple_x _ (W1.alloc (.cells #[.int .i8 1, .int .i64 0, .string ⟨#[101, 114, 114, 111, 114]⟩, .string ⟨#[]⟩, .slice none 0 0, .int .i8 x.k, .int .i64 x.n, .string x.s, .string x.u, .slice x.ao x.l.length x.cap] 25)) (fun k hk => Nat.lt_of_lt_of_le (hMq k hk) hba.size) (keepCells HX.out.2.2 hRa.hb) _ _ hta (fun c => .inl (by simp)) (by simp))
            refine plan_run rfl ?_ (fun K hK => ?_)
            focus (rfl)
            go_simp
            refine hK.out _ _ (hSa) ?_
            clear hK K
            (try simp only [Act.put, List.setIfInBounds_toArray, List.set_cons_zero, List.set_cons_succ])
            clear hba hta hS1 hR1 hMq
            generalize W1.alloc (.cells #[.int .i8 1, .int .i64 0, .string ⟨#[101, 114, 114, 111, 114]⟩, .string ⟨#[]⟩, .slice none 0 0, .int .i8 x.k, .int .i64 x.n, .string x.s, .string x.u, .slice x.ao x.l.length x.cap] 25) = Wa at *
            refine plan_run rfl ?_ (fun K hK => ?_)
            focus (rfl)
            go_simp
            refine (HT.out).mono ?_
            rintro e W2 ⟨y, rfl, hyt, hy, hb2⟩
            have hS2 := hSa.keep hb2
            refine hK.out _ _ hS2 ?_
            clear hK K 
            (try simp only [Act.put, List.setIfInBounds_toArray, List.set_cons_zero, List.set_cons_succ])
            have hR2 := hRa.keep hb2
            clear hSa hRa hb2 HT
            have HC := Lib.hid (uack_any M W2 (fun k hk => Nat.lt_of_lt_of_le (HX.out.2.1 k hk) hR2.hb.size) (keepCells HX.out.2.2 hR2.hb) ub m i ev E hR2.hu (by omega) y hy)
            refine plan_run rfl ?_ (fun K hK => ?_)
            focus (rfl)
            go_simp
            refine HC.out.mono ?_
            clear HC
            rintro e W3 ⟨a, hat, ⟨v, rfl⟩, ev', hu3, hc3, hb3, hao⟩
            have hnq : ¬ UnB ub ev q3 := fun h => by
              have hq := hR2.hq
              rcases h with h | h
              · have := HL.out
                omega
              · have := HMU.out _ (.inr (.inr h))
                omega
            have hx3 := hc3.heap hR2.hx hnq
            have hS3 := BxS.of hx3
            refine hK.out _ _ (hS3) ?_
            clear hK K
            (try simp only [Act.put, List.setIfInBounds_toArray, List.set_cons_zero, List.set_cons_succ])
            refine plan_done ?_
            have hxt := un_te hc3 hb3 hR2.ht
            have HF := Lib.hid (And.intro hu3 (And.intro (un_trans (chg_of_below hR2.hb _) (fun _ _ h => h) hc3) (And.intro (show ∀ k, k < w.heap.size → ev'.ownBlock = some k → ev.ownBlock = some k from fun k hk e => hb3 k (Nat.lt_of_lt_of_le hk hR2.hb.size) e) (And.intro hao (And.intro hxt (And.intro hx3 (And.intro hat hyt)))))))
            clear hS2 hS3 hR2 hu3 hc3 hb3 hao hxt hx3 hnq hat hyt hy
            obtain ⟨k0, k1, k2, k3, k4⟩ := BxS.of HF.out.2.2.2.2.2.1
            have HC2 := Lib.hid (effect_any W3 ub _ ev' (E ++ [oursE m.pid a]) (endE x) HF.out.1 (by simp; omega))
            go_wp2_with fail
            refine HC2.out.mono ?_
            clear HC2 k0 k1 k2 k3 k4
            rintro e W4 ⟨⟨v4, rfl⟩, ev4, hu4, hc4, hb4⟩
            have HG := Lib.hid (And.intro hu4 (And.intro (un_trans HF.out.2.1 HF.out.2.2.1 hc4) (And.intro (show ∀ k, k < w.heap.size → ev4.ownBlock = some k → ev.ownBlock = some k from fun k hk e => HF.out.2.2.1 k hk (hb4 k (Nat.lt_of_lt_of_le hk HF.out.2.1.size) e)) (And.intro (un_te hc4 hb4 HF.out.2.2.2.1) (un_te hc4 hb4 HF.out.2.2.2.2.1)))))
            clear hu4 hc4 hb4
            go_wp2_with fail
            go_end0
            refine ⟨⟨_, rfl⟩, ev4, m, [oursE m.pid a, endE x], ?_, ?_, ?_, ?_⟩
            · have := HG.out.1
              rw [List.append_assoc] at this
              exact this
            · exact HG.out.2.1
            · exact HG.out.2.2.1
            · refine .inr ⟨a, x, y.t, rfl, rfl, ?_, ?_, ?_, ?_⟩
              · exact HF.out.2.2.2.2.2.2.1
              · rw [HF.out.2.2.2.2.2.2.2]
                exact tupA_ok _
              · exact HG.out.2.2.2.1
              · exact HG.out.2.2.2.2
          · have hl1 : 1 < i.got.l.length := by have := isB_len hk4; have : i.got.l.length = 2 := this; omega
            obtain ⟨b, off, z, e1, -, hz, pz, hpb⟩ := HX.out.1.part hl1
            have HPZ := Lib.hid (pz.keep H6.out.hb)
            have HZ := Lib.hid hz
            clear hz pz hpb
            obtain ⟨y0, y1, y2, y3, y4⟩ := HPZ.out
            rw [show off + 1 * 5 = off + 5 by omega] at y0 y1 y2 y3 y4
            have g4 := (BxS.of H6.out.hg).2.2.2.2
            rw [e1] at g4
            have hl2 : (1 : Int) < (i.got.l.length : Int) := by omega
            go_wp2_with (with_reducible refine stop_op (o := ⟨_, .store 25 (.tmp 3) (.tmp 86), _, _, _, _⟩) ?_)
            refine Lib.hid ?_
            refine wpList_store_row (o := ⟨none, _, _, _, _, _⟩) rfl 25 (.tmp 3) (.tmp 86) rfl q3 #[.int .i8 z.k, .int .i64 z.n, .string z.s, .string z.u, .slice z.ao z.l.length z.cap] rfl rfl 25 x.cells.toArray H6.out.hx (infoTM' _ rfl) rfl (by simp [Value.oneCell']) ?_
            have H7 := Lib.hid (H6.out.put HZ.out HMU.out HL.out)
            clear y0 y1 y2 y3 y4 g4 HPZ H6
            change Hid (BgW w (w6.setRow q3 #[.int .i8 z.k, .int .i64 z.n, .string z.s, .string z.u, .slice z.ao z.l.length z.cap]) M ub m i ev E q3 z) at H7
            generalize w6.setRow q3 #[.int .i8 z.k, .int .i64 z.n, .string z.s, .string z.u, .slice z.ao z.l.length z.cap] = w7 at *
            go_wp2_with fail
            have hdr : Below w7.heap.size w7 w7.drew := (Below.refl _ _).drew
            have hR := H7.out.keep hdr
            have hS := BxS.of hR.hx
            refine region_plan (BxS q3 z) [(0, 0), (2, 0), (1, 1), (3, 1), (4, 1), (5, 1)] (by kernel_rfl) (by kernel_rfl) (by kernel_rfl) hS ?_
            generalize w7.drew = WD at *
            clear hdr H7
            iterate 2 (first | (refine plan_skip rfl ?_ ?_; (focus (rfl)); (try simp only [Act.put, List.setIfInBounds_toArray, List.set_cons_zero, List.set_cons_succ])) | (refine plan_take (v := ?_) rfl ?_ (fun w hSw => ?_) ?_; rotate_left; (focus (rfl)); (focus (unfold BxS at hSw; (go_simp <;> with_reducible rfl))); (try simp only [Act.put, List.setIfInBounds_toArray, List.set_cons_zero, List.set_cons_succ])))
            refine plan_run rfl ?_ (fun K hK => ?_)
            focus (rfl)
            go_simp
            refine (satom_x WD _).mono ?_
            rintro e W1 ⟨rfl, hb1⟩
            have hS1 := hS.keep hb1
            refine hK.out _ _ hS1 ?_
            clear hK K 
            (try simp only [Act.put, List.setIfInBounds_toArray, List.set_cons_zero, List.set_cons_succ])
            have hR1 := hR.keep hb1
            clear hS hR hb1
            have hba := (Below.refl W1.heap.size W1).alloc (Nat.le_refl _) (.cells #[.int .i8 1, .int .i64 0, .string ⟨#[101, 114, 114, 111, 114]⟩, .string ⟨#[]⟩, .slice none 0 0, .int .i8 z.k, .int .i64 z.n, .string z.s, .string z.u, .slice z.ao z.l.length z.cap] 25)
            have hSa := hS1.keep hba
            have hRa := hR1.keep hba
            have hMq := mu_lt hR1.hu (fun k hk => Nat.lt_of_lt_of_le (HX.out.2.1 k hk) hR1.hb.size)
            have hta := two_tes (MU M ub ev) W1 hMq (atomT ⟨#[101, 114, 114, 111, 114]⟩) z (atomT_ok _ _ _ (by decide)) hR1.ht
            have HT := Lib.hid (stuple_x _ (W1.alloc (.cells #[.int .i8 1, .int .i64 0, .string ⟨#[101, 114, 114, 111, 114]⟩, .string ⟨#[]⟩, .slice none 0 0, .int .i8 z.k, .int .i64 z.n, .string z.s, .string z.u, .slice z.ao z.l.length z.cap] 25)) (fun k hk => Nat.lt_of_lt_of_le (hMq k hk) hba.size) (keepCells HX.out.2.2 hRa.hb) _ _ hta (fun c => .inl (by simp)) (by simp))
            refine plan_run rfl ?_ (fun K hK => ?_)
            focus (rfl)
            go_simp
            refine hK.out _ _ (hSa) ?_
            clear hK K
            (try simp only [Act.put, List.setIfInBounds_toArray, List.set_cons_zero, List.set_cons_succ])
            clear hba hta hS1 hR1 hMq
            generalize W1.alloc (.cells #[.int .i8 1, .int .i64 0, .string ⟨#[101, 114, 114, 111, 114]⟩, .string ⟨#[]⟩, .slice none 0 0, .int .i8 z.k, .int .i64 z.n, .string z.s, .string z.u, .slice z.ao z.l.length z.cap] 25) = Wa at *
            refine plan_run rfl ?_ (fun K hK => ?_)
            focus (rfl)
            go_simp
            refine (HT.out).mono ?_
            rintro e W2 ⟨y, rfl, hyt, hy, hb2⟩
            have hS2 := hSa.keep hb2
            refine hK.out _ _ hS2 ?_
            clear hK K 
            (try simp only [Act.put, List.setIfInBounds_toArray, List.set_cons_zero, List.set_cons_succ])
            have hR2 := hRa.keep hb2
            clear hSa hRa hb2 HT
            have HC := Lib.hid (uack_any M W2 (fun k hk => Nat.lt_of_lt_of_le (HX.out.2.1 k hk) hR2.hb.size) (keepCells HX.out.2.2 hR2.hb) ub m i ev E hR2.hu (by omega) y hy)
            refine plan_run rfl ?_ (fun K hK => ?_)
            focus (rfl)
            go_simp
            refine HC.out.mono ?_
            clear HC
            rintro e W3 ⟨a, hat, ⟨v, rfl⟩, ev', hu3, hc3, hb3, hao⟩
            have hnq : ¬ UnB ub ev q3 := fun h => by
              have hq := hR2.hq
              rcases h with h | h
              · have := HL.out
                omega
              · have := HMU.out _ (.inr (.inr h))
                omega
            have hx3 := hc3.heap hR2.hx hnq
            have hS3 := BxS.of hx3
            refine hK.out _ _ (hS3) ?_
            clear hK K
            (try simp only [Act.put, List.setIfInBounds_toArray, List.set_cons_zero, List.set_cons_succ])
            refine plan_done ?_
            have hxt := un_te hc3 hb3 hR2.ht
            have HF := Lib.hid (And.intro hu3 (And.intro (un_trans (chg_of_below hR2.hb _) (fun _ _ h => h) hc3) (And.intro (show ∀ k, k < w.heap.size → ev'.ownBlock = some k → ev.ownBlock = some k from fun k hk e => hb3 k (Nat.lt_of_lt_of_le hk hR2.hb.size) e) (And.intro hao (And.intro hxt (And.intro hx3 (And.intro hat hyt)))))))
            clear hS2 hS3 hR2 hu3 hc3 hb3 hao hxt hx3 hnq hat hyt hy
            obtain ⟨k0, k1, k2, k3, k4⟩ := BxS.of HF.out.2.2.2.2.2.1
            have HC2 := Lib.hid (effect_any W3 ub _ ev' (E ++ [oursE m.pid a]) (endE z) HF.out.1 (by simp; omega))
            go_wp2_with fail
            refine HC2.out.mono ?_
            clear HC2 k0 k1 k2 k3 k4
            rintro e W4 ⟨⟨v4, rfl⟩, ev4, hu4, hc4, hb4⟩
            have HG := Lib.hid (And.intro hu4 (And.intro (un_trans HF.out.2.1 HF.out.2.2.1 hc4) (And.intro (show ∀ k, k < w.heap.size → ev4.ownBlock = some k → ev.ownBlock = some k from fun k hk e => HF.out.2.2.1 k hk (hb4 k (Nat.lt_of_lt_of_le hk HF.out.2.1.size) e)) (And.intro (un_te hc4 hb4 HF.out.2.2.2.1) (un_te hc4 hb4 HF.out.2.2.2.2.1)))))
            clear hu4 hc4 hb4
            go_wp2_with fail
            go_end0
            refine ⟨⟨_, rfl⟩, ev4, m, [oursE m.pid a, endE z], ?_, ?_, ?_, ?_⟩
            · have := HG.out.1
              rw [List.append_assoc] at this
              exact this
            · exact HG.out.2.1
            · exact HG.out.2.2.1
            · refine .inr ⟨a, z, y.t, rfl, rfl, ?_, ?_, ?_, ?_⟩
              · exact HF.out.2.2.2.2.2.2.1
              · rw [HF.out.2.2.2.2.2.2.2]
                exact tupA_ok _
              · exact HG.out.2.2.2.1
              · exact HG.out.2.2.2.2
      · skip
        have hl1 : 1 < i.got.l.length := by have := isB_len hk3; have : i.got.l.length = 3 := this; omega
        obtain ⟨b, off, y, e1, -, hy, py, hpb⟩ := HX.out.1.part hl1
        have HY := Lib.hid (And.intro hy (And.intro py hpb))
        have hl2 : (1 : Int) < (i.got.l.length : Int) := by omega
        have HE1 := Lib.hid e1
        clear e1 hl1
        clear hy py hpb
        go_wp2_with fail
        refine (utime_x (MU M ub ev) w5 (keepCells HX.out.2.2 H5.out.hb) ub m i ev E H5.out.hu (HX.out.1.keep H5.out.hb)).mono ?_
        rintro e w6 ⟨dl, okd, rfl, hb6⟩
        have H6 := Lib.hid (H5.out.keep hb6)
        clear hb6 H5
        cases okd
        · go_wp2_with fail
          have hdr : Below w6.heap.size w6 w6.drew := (Below.refl _ _).drew
          have hR := H6.out.keep hdr
          have hS := BxS.of hR.hx
          refine region_plan (BxS q3 x) [(0, 0), (2, 0), (1, 1), (3, 1), (4, 1), (5, 1)] (by kernel_rfl) (by kernel_rfl) (by kernel_rfl) hS ?_
          generalize w6.drew = WD at *
          clear hdr H6
          iterate 2 (first | (refine plan_skip rfl ?_ ?_; (focus (rfl)); (try simp only [Act.put, List.setIfInBounds_toArray, List.set_cons_zero, List.set_cons_succ])) | (refine plan_take (v := ?_) rfl ?_ (fun w hSw => ?_) ?_; rotate_left; (focus (rfl)); (focus (unfold BxS at hSw; (go_simp <;> with_reducible rfl))); (try simp only [Act.put, List.setIfInBounds_toArray, List.set_cons_zero, List.set_cons_succ])))
          refine plan_run rfl ?_ (fun K hK => ?_)
          focus (rfl)
          go_simp
          refine (satom_x WD _).mono ?_
          rintro e W1 ⟨rfl, hb1⟩
          have hS1 := hS.keep hb1
          refine hK.out _ _ hS1 ?_
          clear hK K 
          (try simp only [Act.put, List.setIfInBounds_toArray, List.set_cons_zero, List.set_cons_succ])
          have hR1 := hR.keep hb1
          clear hS hR hb1
          have hba := (Below.refl W1.heap.size W1).alloc (Nat.le_refl _) (.cells #[.int .i8 1, .int .i64 0, .string ⟨#[101, 114, 114, 111, 114]⟩, .string ⟨#[]⟩, .slice none 0 0, .int .i8 x.k, .int .i64 x.n, .string x.s, .string x.u, .slice x.ao x.l.length x.cap] 25)
          have hSa := hS1.keep hba
          have hRa := hR1.keep hba
          have hMq := mu_lt hR1.hu (fun k hk => Nat.lt_of_lt_of_le (HX.out.2.1 k hk) hR1.hb.size)
          have hta := two_tes (MU M ub ev) W1 hMq (atomT ⟨#[101, 114, 114, 111, 114]⟩) x (atomT_ok _ _ _ (by decide)) hR1.ht
          have HT := Lib.hid (stuple_x _ (W1.alloc (.cells #[.int .i8 1, .int .i64 0, .string ⟨#[101, 114, 114, 111, 114]⟩, .string ⟨#[]⟩, .slice none 0 0, .int .i8 x.k, .int .i64 x.n, .string x.s, .string x.u, .slice x.ao x.l.length x.cap] 25)) (fun k hk => Nat.lt_of_lt_of_le (hMq k hk) hba.size) (keepCells HX.out.2.2 hRa.hb) _ _ hta (fun c => .inl (by simp)) (by simp))
          refine plan_run rfl ?_ (fun K hK => ?_)
          focus (rfl)
          go_simp
          refine hK.out _ _ (hSa) ?_
          clear hK K
          (try simp only [Act.put, List.setIfInBounds_toArray, List.set_cons_zero, List.set_cons_succ])
          clear hba hta hS1 hR1 hMq
          generalize W1.alloc (.cells #[.int .i8 1, .int .i64 0, .string ⟨#[101, 114, 114, 111, 114]⟩, .string ⟨#[]⟩, .slice none 0 0, .int .i8 x.k, .int .i64 x.n, .string x.s, .string x.u, .slice x.ao x.l.length x.cap] 25) = Wa at *
          refine plan_run rfl ?_ (fun K hK => ?_)
          focus (rfl)
          go_simp
          refine (HT.out).mono ?_
          rintro e W2 ⟨y, rfl, hyt, hy, hb2⟩
          have hS2 := hSa.keep hb2
          refine hK.out _ _ hS2 ?_
          clear hK K 
          (try simp only [Act.put, List.setIfInBounds_toArray, List.set_cons_zero, List.set_cons_succ])
          have hR2 := hRa.keep hb2
          clear hSa hRa hb2 HT
          have HC := Lib.hid (uack_any M W2 (fun k hk => Nat.lt_of_lt_of_le (HX.out.2.1 k hk) hR2.hb.size) (keepCells HX.out.2.2 hR2.hb) ub m i ev E hR2.hu (by omega) y hy)
          refine plan_run rfl ?_ (fun K hK => ?_)
          focus (rfl)
          go_simp
          refine HC.out.mono ?_
          clear HC
          rintro e W3 ⟨a, hat, ⟨v, rfl⟩, ev', hu3, hc3, hb3, hao⟩
          have hnq : ¬ UnB ub ev q3 := fun h => by
            have hq := hR2.hq
            rcases h with h | h
            · have := HL.out
              omega
            · have := HMU.out _ (.inr (.inr h))
              omega
          have hx3 := hc3.heap hR2.hx hnq
          have hS3 := BxS.of hx3
          refine hK.out _ _ (hS3) ?_
          clear hK K
          (try simp only [Act.put, List.setIfInBounds_toArray, List.set_cons_zero, List.set_cons_succ])
          refine plan_done ?_
          have hxt := un_te hc3 hb3 hR2.ht
          have HF := Lib.hid (And.intro hu3 (And.intro (un_trans (chg_of_below hR2.hb _) (fun _ _ h => h) hc3) (And.intro (show ∀ k, k < w.heap.size → ev'.ownBlock = some k → ev.ownBlock = some k from fun k hk e => hb3 k (Nat.lt_of_lt_of_le hk hR2.hb.size) e) (And.intro hao (And.intro hxt (And.intro hx3 (And.intro hat hyt)))))))
          clear hS2 hS3 hR2 hu3 hc3 hb3 hao hxt hx3 hnq hat hyt hy
          obtain ⟨k0, k1, k2, k3, k4⟩ := BxS.of HF.out.2.2.2.2.2.1
          have HC2 := Lib.hid (effect_any W3 ub _ ev' (E ++ [oursE m.pid a]) (endE x) HF.out.1 (by simp; omega))
          go_wp2_with fail
          refine HC2.out.mono ?_
          clear HC2 k0 k1 k2 k3 k4
          rintro e W4 ⟨⟨v4, rfl⟩, ev4, hu4, hc4, hb4⟩
          have HG := Lib.hid (And.intro hu4 (And.intro (un_trans HF.out.2.1 HF.out.2.2.1 hc4) (And.intro (show ∀ k, k < w.heap.size → ev4.ownBlock = some k → ev.ownBlock = some k from fun k hk e => HF.out.2.2.1 k hk (hb4 k (Nat.lt_of_lt_of_le hk HF.out.2.1.size) e)) (And.intro (un_te hc4 hb4 HF.out.2.2.2.1) (un_te hc4 hb4 HF.out.2.2.2.2.1)))))
          clear hu4 hc4 hb4
          go_wp2_with fail
          go_end0
          refine ⟨⟨_, rfl⟩, ev4, m, [oursE m.pid a, endE x], ?_, ?_, ?_, ?_⟩
          · have := HG.out.1
            rw [List.append_assoc] at this
            exact this
          · exact HG.out.2.1
          · exact HG.out.2.2.1
          · refine .inr ⟨a, x, y.t, rfl, rfl, ?_, ?_, ?_, ?_⟩
            · exact HF.out.2.2.2.2.2.2.1
            · rw [HF.out.2.2.2.2.2.2.2]
              exact tupA_ok _
            · exact HG.out.2.2.2.1
            · exact HG.out.2.2.2.2
        · clear g0 g1 g2 g3 g4
          have HPY := Lib.hid (HY.out.2.1.keep H6.out.hb)
          obtain ⟨y0, y1, y2, y3, y4⟩ := HPY.out
          rw [show off + 1 * 5 = off + 5 by omega] at y0 y1 y2 y3 y4
          have g4 := (BxS.of H6.out.hg).2.2.2.2
          rw [HE1.out] at g4
          go_wp2_with (with_reducible refine stop_op (o := ⟨_, .store 25 (.tmp 48) (.tmp 44), _, _, _, _⟩) ?_)
          refine Lib.hid ?_
          refine wpList_store_mid (op := ⟨none, _, _, _, _, _⟩) rfl 25 (.tmp 48) (.tmp 44) rfl ub 15 #[.int .i8 y.k, .int .i64 y.n, .string y.s, .string y.u, .slice y.ao y.l.length y.cap] rfl rfl (H6.out.hu.there (by simp)) (infoTM' _ rfl) (by simp [Value.oneCell']) ?_
          have hs : UnOk (w6.setCells ub 15 #[.int .i8 y.k, .int .i64 y.n, .string y.s, .string y.u, .slice y.ao y.l.length y.cap].toList) ub (unL { m with V := y } i) ev E := setV m i y ▸ H6.out.hu.setL [.int .i8 y.k, .int .i64 y.n, .string y.s, .string y.u, .slice y.ao y.l.length y.cap] 15 (by simp)
          have HS := Lib.hid (And.intro hs (un_trans (chg_of_below H6.out.hb (UnB ub ev)) (fun _ _ h => h) ((chg_cells [.int .i8 y.k, .int .i64 y.n, .string y.s, .string y.u, .slice y.ao y.l.length y.cap] ub 15 w6).mono (T := UnB ub ev) fun k _ hk => .inl hk)))
          clear hs y0 y1 y2 y3 y4 g4 HPY H6
          generalize w6.setCells ub 15 #[.int .i8 y.k, .int .i64 y.n, .string y.s, .string y.u, .slice y.ao y.l.length y.cap].toList = w7 at *
          have c0 := HS.out.1.cell (i := 0) (v := .int .i8 m.ph) rfl
          have f0 := HS.out.1.frozen (i := 0) (v := .int .i8 m.ph) rfl
          have c3 := HS.out.1.cell (i := 3) (v := .int .i64 m.dl) rfl
          have f3 := HS.out.1.frozen (i := 3) (v := .int .i64 m.dl) rfl
          have hs8 : UnOk ((w7.setCell ⟨ub, 3, none⟩ (.int .i64 dl)).setCell ⟨ub, 0, none⟩ (.int .i8 2)) ub (unL { m with V := y, dl := dl, ph := 2 } i) ev E := (HS.out.1.set 3 (.int .i64 dl) (by omega)).set 0 (.int .i8 2) (by omega)
          have hc8 := un_trans HS.out.2 (fun _ _ h => h) (((chg_set (w := w7) (p := ⟨ub, 3, none⟩) (.int .i64 dl)).mono (T := UnB ub ev) fun k _ hk => .inl hk).trans ((chg_set (w := w7.setCell ⟨ub, 3, none⟩ (.int .i64 dl)) (p := ⟨ub, 0, none⟩) (.int .i8 2)).mono (T := UnB ub ev) fun k _ hk => .inl hk))
          have H8 := Lib.hid (And.intro hs8 hc8)
          clear hs8 hc8 HS
          go_wp2_with fail
          generalize (w7.setCell ⟨ub, 3, none⟩ (.int .i64 dl)).setCell ⟨ub, 0, none⟩ (.int .i8 2) = w8 at *
          clear c0 f0 c3 f3
          refine (satom_x w8 _).mono ?_
          rintro e w9 ⟨rfl, hb9⟩
          have H9 := Lib.hid (And.intro (H8.out.1.keep hb9) (un_trans H8.out.2 (fun _ _ h => h) (chg_of_below hb9 (UnB ub ev))))
          have hM9 : ∀ k, M k → k < w9.heap.size := fun k hk => Nat.lt_of_lt_of_le (HX.out.2.1 k hk) H9.out.2.size
          have hc9 : Cells w9 0 letL := let_chg HX.out.2.2 H9.out.2 HL0.out
          have HC := Lib.hid (uack_any M w9 hM9 hc9 ub { m with V := y, dl := dl, ph := 2 } i ev E H9.out.1 (by omega) (atomT okS) (atomT_ok _ _ _ (by decide)))
          clear hM9 hc9 hb9 H8
          go_wp2_with fail
          refine HC.out.mono ?_
          clear HC
          rintro e w10 ⟨a, hat, ⟨v, rfl⟩, ev', hu3, hc3, hb3, hao⟩
          have HF := Lib.hid (And.intro hu3 (And.intro (un_trans H9.out.2 (fun _ _ h => h) hc3) (And.intro (show ∀ k, k < w.heap.size → ev'.ownBlock = some k → ev.ownBlock = some k from fun k hk e => hb3 k (Nat.lt_of_lt_of_le hk H9.out.2.size) e) (And.intro hat hao))))
          clear hu3 hc3 hb3 hat hao
          go_wp2_with fail
          go_end0
          refine ⟨⟨_, rfl⟩, ev', { m with V := y, dl := dl, ph := 2 }, [oursE m.pid a], ?_, ?_, ?_, ?_⟩
          · exact HF.out.1
          · exact HF.out.2.1
          · exact HF.out.2.2.1
          · refine .inl ⟨y, a, dl, rfl, rfl, ?_, ?_, ?_⟩
            · exact HF.out.2.2.2.1
            · exact un_te HF.out.2.1 HF.out.2.2.1 HY.out.1
            · exact HF.out.2.2.2.2
    · skip
      have hl1 : 1 < i.got.l.length := by have := isB_len hk2; have : i.got.l.length = 2 := this; omega
      obtain ⟨b, off, y, e1, -, hy, py, hpb⟩ := HX.out.1.part hl1
      have HY := Lib.hid (And.intro hy (And.intro py hpb))
      have hl2 : (1 : Int) < (i.got.l.length : Int) := by omega
      have HE1 := Lib.hid e1
      clear e1 hl1
      clear hy py hpb
      go_wp2_with fail
      refine (utime_x (MU M ub ev) w4 (keepCells HX.out.2.2 H4.out.hb) ub m i ev E H4.out.hu (HX.out.1.keep H4.out.hb)).mono ?_
      rintro e w6 ⟨dl, okd, rfl, hb6⟩
      have H6 := Lib.hid (H4.out.keep hb6)
      clear hb6 H4
      cases okd
      · go_wp2_with fail
        have hdr : Below w6.heap.size w6 w6.drew := (Below.refl _ _).drew
        have hR := H6.out.keep hdr
        have hS := BxS.of hR.hx
        refine region_plan (BxS q3 x) [(0, 0), (2, 0), (1, 1), (3, 1), (4, 1), (5, 1)] (by kernel_rfl) (by kernel_rfl) (by kernel_rfl) hS ?_
        generalize w6.drew = WD at *
        clear hdr H6
        iterate 2 (first | (refine plan_skip rfl ?_ ?_; (focus (rfl)); (try simp only [Act.put, List.setIfInBounds_toArray, List.set_cons_zero, List.set_cons_succ])) | (refine plan_take (v := ?_) rfl ?_ (fun w hSw => ?_) ?_; rotate_left; (focus (rfl)); (focus (unfold BxS at hSw; (go_simp <;> with_reducible rfl))); (try simp only [Act.put, List.setIfInBounds_toArray, List.set_cons_zero, List.set_cons_succ])))
        refine plan_run rfl ?_ (fun K hK => ?_)
        focus (rfl)
        go_simp
        refine (satom_x WD _).mono ?_
        rintro e W1 ⟨rfl, hb1⟩
        have hS1 := hS.keep hb1
        refine hK.out _ _ hS1 ?_
        clear hK K 
        (try simp only [Act.put, List.setIfInBounds_toArray, List.set_cons_zero, List.set_cons_succ])
        have hR1 := hR.keep hb1
        clear hS hR hb1
        have hba := (Below.refl W1.heap.size W1).alloc (Nat.le_refl _) (.cells #[.int .i8 1, .int .i64 0, .string ⟨#[101, 114, 114, 111, 114]⟩, .string ⟨#[]⟩, .slice none 0 0, .int .i8 x.k, .int .i64 x.n, .string x.s, .string x.u, .slice x.ao x.l.length x.cap] 25)
        have hSa := hS1.keep hba
        have hRa := hR1.keep hba
        have hMq := mu_lt hR1.hu (fun k hk => Nat.lt_of_lt_of_le (HX.out.2.1 k hk) hR1.hb.size)
        have hta := two_tes (MU M ub ev) W1 hMq (atomT ⟨#[101, 114, 114, 111, 114]⟩) x (atomT_ok _ _ _ (by decide)) hR1.ht
        have HT := Lib.hid (stuple_x _ (W1.alloc (.cells #[.int .i8 1, .int .i64 0, .string ⟨#[101, 114, 114, 111, 114]⟩, .string ⟨#[]⟩, .slice none 0 0, .int .i8 x.k, .int .i64 x.n, .string x.s, .string x.u, .slice x.ao x.l.length x.cap] 25)) (fun k hk => Nat.lt_of_lt_of_le (hMq k hk) hba.size) (keepCells HX.out.2.2 hRa.hb) _ _ hta (fun c => .inl (by simp)) (by simp))
        refine plan_run rfl ?_ (fun K hK => ?_)
        focus (rfl)
        go_simp
        refine hK.out _ _ (hSa) ?_
        clear hK K
        (try simp only [Act.put, List.setIfInBounds_toArray, List.set_cons_zero, List.set_cons_succ])
        clear hba hta hS1 hR1 hMq
        generalize W1.alloc (.cells #[.int .i8 1, .int .i64 0, .string ⟨#[101, 114, 114, 111, 114]⟩, .string ⟨#[]⟩, .slice none 0 0, .int .i8 x.k, .int .i64 x.n, .string x.s, .string x.u, .slice x.ao x.l.length x.cap] 25) = Wa at *
        refine plan_run rfl ?_ (fun K hK => ?_)
        focus (rfl)
        go_simp
        refine (HT.out).mono ?_
        rintro e W2 ⟨y, rfl, hyt, hy, hb2⟩
        have hS2 := hSa.keep hb2
        refine hK.out _ _ hS2 ?_
        clear hK K 
        (try simp only [Act.put, List.setIfInBounds_toArray, List.set_cons_zero, List.set_cons_succ])
        have hR2 := hRa.keep hb2
        clear hSa hRa hb2 HT
        have HC := Lib.hid (uack_any M W2 (fun k hk => Nat.lt_of_lt_of_le (HX.out.2.1 k hk) hR2.hb.size) (keepCells HX.out.2.2 hR2.hb) ub m i ev E hR2.hu (by omega) y hy)
        refine plan_run rfl ?_ (fun K hK => ?_)
        focus (rfl)
        go_simp
        refine HC.out.mono ?_
        clear HC
        rintro e W3 ⟨a, hat, ⟨v, rfl⟩, ev', hu3, hc3, hb3, hao⟩
        have hnq : ¬ UnB ub ev q3 := fun h => by
          have hq := hR2.hq
          rcases h with h | h
          · have := HL.out
            omega
          · have := HMU.out _ (.inr (.inr h))
            omega
        have hx3 := hc3.heap hR2.hx hnq
        have hS3 := BxS.of hx3
        refine hK.out _ _ (hS3) ?_
        clear hK K
        (try simp only [Act.put, List.setIfInBounds_toArray, List.set_cons_zero, List.set_cons_succ])
        refine plan_done ?_
        have hxt := un_te hc3 hb3 hR2.ht
        have HF := Lib.hid (And.intro hu3 (And.intro (un_trans (chg_of_below hR2.hb _) (fun _ _ h => h) hc3) (And.intro (show ∀ k, k < w.heap.size → ev'.ownBlock = some k → ev.ownBlock = some k from fun k hk e => hb3 k (Nat.lt_of_lt_of_le hk hR2.hb.size) e) (And.intro hao (And.intro hxt (And.intro hx3 (And.intro hat hyt)))))))
        clear hS2 hS3 hR2 hu3 hc3 hb3 hao hxt hx3 hnq hat hyt hy
        obtain ⟨k0, k1, k2, k3, k4⟩ := BxS.of HF.out.2.2.2.2.2.1
        have HC2 := Lib.hid (effect_any W3 ub _ ev' (E ++ [oursE m.pid a]) (endE x) HF.out.1 (by simp; omega))
        go_wp2_with fail
        refine HC2.out.mono ?_
        clear HC2 k0 k1 k2 k3 k4
        rintro e W4 ⟨⟨v4, rfl⟩, ev4, hu4, hc4, hb4⟩
        have HG := Lib.hid (And.intro hu4 (And.intro (un_trans HF.out.2.1 HF.out.2.2.1 hc4) (And.intro (show ∀ k, k < w.heap.size → ev4.ownBlock = some k → ev.ownBlock = some k from fun k hk e => HF.out.2.2.1 k hk (hb4 k (Nat.lt_of_lt_of_le hk HF.out.2.1.size) e)) (And.intro (un_te hc4 hb4 HF.out.2.2.2.1) (un_te hc4 hb4 HF.out.2.2.2.2.1)))))
        clear hu4 hc4 hb4
        go_wp2_with fail
        go_end0
        refine ⟨⟨_, rfl⟩, ev4, m, [oursE m.pid a, endE x], ?_, ?_, ?_, ?_⟩
        · have := HG.out.1
          rw [List.append_assoc] at this
          exact this
        · exact HG.out.2.1
        · exact HG.out.2.2.1
        · refine .inr ⟨a, x, y.t, rfl, rfl, ?_, ?_, ?_, ?_⟩
          · exact HF.out.2.2.2.2.2.2.1
          · rw [HF.out.2.2.2.2.2.2.2]
            exact tupA_ok _
          · exact HG.out.2.2.2.1
          · exact HG.out.2.2.2.2
      · clear g0 g1 g2 g3 g4
        have HPY := Lib.hid (HY.out.2.1.keep H6.out.hb)
        obtain ⟨y0, y1, y2, y3, y4⟩ := HPY.out
        rw [show off + 1 * 5 = off + 5 by omega] at y0 y1 y2 y3 y4
        have g4 := (BxS.of H6.out.hg).2.2.2.2
        rw [HE1.out] at g4
        go_wp2_with (with_reducible refine stop_op (o := ⟨_, .store 25 (.tmp 48) (.tmp 44), _, _, _, _⟩) ?_)
        refine Lib.hid ?_
        refine wpList_store_mid (op := ⟨none, _, _, _, _, _⟩) rfl 25 (.tmp 48) (.tmp 44) rfl ub 15 #[.int .i8 y.k, .int .i64 y.n, .string y.s, .string y.u, .slice y.ao y.l.length y.cap] rfl rfl (H6.out.hu.there (by simp)) (infoTM' _ rfl) (by simp [Value.oneCell']) ?_
        have hs : UnOk (w6.setCells ub 15 #[.int .i8 y.k, .int .i64 y.n, .string y.s, .string y.u, .slice y.ao y.l.length y.cap].toList) ub (unL { m with V := y } i) ev E := setV m i y ▸ H6.out.hu.setL [.int .i8 y.k, .int .i64 y.n, .string y.s, .string y.u, .slice y.ao y.l.length y.cap] 15 (by simp)
        have HS := Lib.hid (And.intro hs (un_trans (chg_of_below H6.out.hb (UnB ub ev)) (fun _ _ h => h) ((chg_cells [.int .i8 y.k, .int .i64 y.n, .string y.s, .string y.u, .slice y.ao y.l.length y.cap] ub 15 w6).mono (T := UnB ub ev) fun k _ hk => .inl hk)))
        clear hs y0 y1 y2 y3 y4 g4 HPY H6
        generalize w6.setCells ub 15 #[.int .i8 y.k, .int .i64 y.n, .string y.s, .string y.u, .slice y.ao y.l.length y.cap].toList = w7 at *
        have c0 := HS.out.1.cell (i := 0) (v := .int .i8 m.ph) rfl
        have f0 := HS.out.1.frozen (i := 0) (v := .int .i8 m.ph) rfl
        have c3 := HS.out.1.cell (i := 3) (v := .int .i64 m.dl) rfl
        have f3 := HS.out.1.frozen (i := 3) (v := .int .i64 m.dl) rfl
        have hs8 : UnOk ((w7.setCell ⟨ub, 3, none⟩ (.int .i64 dl)).setCell ⟨ub, 0, none⟩ (.int .i8 2)) ub (unL { m with V := y, dl := dl, ph := 2 } i) ev E := (HS.out.1.set 3 (.int .i64 dl) (by omega)).set 0 (.int .i8 2) (by omega)
        have hc8 := un_trans HS.out.2 (fun _ _ h => h) (((chg_set (w := w7) (p := ⟨ub, 3, none⟩) (.int .i64 dl)).mono (T := UnB ub ev) fun k _ hk => .inl hk).trans ((chg_set (w := w7.setCell ⟨ub, 3, none⟩ (.int .i64 dl)) (p := ⟨ub, 0, none⟩) (.int .i8 2)).mono (T := UnB ub ev) fun k _ hk => .inl hk))
        have H8 := Lib.hid (And.intro hs8 hc8)
        clear hs8 hc8 HS
        go_wp2_with fail
        generalize (w7.setCell ⟨ub, 3, none⟩ (.int .i64 dl)).setCell ⟨ub, 0, none⟩ (.int .i8 2) = w8 at *
        clear c0 f0 c3 f3
        refine (satom_x w8 _).mono ?_
        rintro e w9 ⟨rfl, hb9⟩
        have H9 := Lib.hid (And.intro (H8.out.1.keep hb9) (un_trans H8.out.2 (fun _ _ h => h) (chg_of_below hb9 (UnB ub ev))))
        have hM9 : ∀ k, M k → k < w9.heap.size := fun k hk => Nat.lt_of_lt_of_le (HX.out.2.1 k hk) H9.out.2.size
        have hc9 : Cells w9 0 letL := let_chg HX.out.2.2 H9.out.2 HL0.out
        have HC := Lib.hid (uack_any M w9 hM9 hc9 ub { m with V := y, dl := dl, ph := 2 } i ev E H9.out.1 (by omega) (atomT okS) (atomT_ok _ _ _ (by decide)))
        clear hM9 hc9 hb9 H8
        go_wp2_with fail
        refine HC.out.mono ?_
        clear HC
        rintro e w10 ⟨a, hat, ⟨v, rfl⟩, ev', hu3, hc3, hb3, hao⟩
        have HF := Lib.hid (And.intro hu3 (And.intro (un_trans H9.out.2 (fun _ _ h => h) hc3) (And.intro (show ∀ k, k < w.heap.size → ev'.ownBlock = some k → ev.ownBlock = some k from fun k hk e => hb3 k (Nat.lt_of_lt_of_le hk H9.out.2.size) e) (And.intro hat hao))))
        clear hu3 hc3 hb3 hat hao
        go_wp2_with fail
        go_end0
        refine ⟨⟨_, rfl⟩, ev', { m with V := y, dl := dl, ph := 2 }, [oursE m.pid a], ?_, ?_, ?_, ?_⟩
        · exact HF.out.1
        · exact HF.out.2.1
        · exact HF.out.2.2.1
        · refine .inl ⟨y, a, dl, rfl, rfl, ?_, ?_, ?_⟩
          · exact HF.out.2.2.2.1
          · exact un_te HF.out.2.1 HF.out.2.2.1 HY.out.1
          · exact HF.out.2.2.2.2
  · have q1 : (i.cls == 0) = false := by simp [h0]
    clear h0
    go_wp2_with fail
    clear c30 g0 g1 g2 g3 g4
    have hdr : Below w3.heap.size w3 w3.drew := (Below.refl _ _).drew
    have hR := HW.out.keep hdr
    have hS := BxS.of hR.hx
    refine region_plan (BxS q3 x) [(0, 0), (2, 0), (1, 1), (3, 1), (4, 1), (5, 1)] (by kernel_rfl) (by kernel_rfl) (by kernel_rfl) hS ?_
    generalize w3.drew = WD at *
    clear hdr HW
    iterate 2 (first | (refine plan_skip rfl ?_ ?_; (focus (rfl)); (try simp only [Act.put, List.setIfInBounds_toArray, List.set_cons_zero, List.set_cons_succ])) | (refine plan_take (v := ?_) rfl ?_ (fun w hSw => ?_) ?_; rotate_left; (focus (rfl)); (focus (unfold BxS at hSw; (go_simp <;> with_reducible rfl))); (try simp only [Act.put, List.setIfInBounds_toArray, List.set_cons_zero, List.set_cons_succ])))
    refine plan_run rfl ?_ (fun K hK => ?_)
    focus (rfl)
    go_simp
    refine (satom_x WD _).mono ?_
    rintro e W1 ⟨rfl, hb1⟩
    have hS1 := hS.keep hb1
    refine hK.out _ _ hS1 ?_
    clear hK K 
    (try simp only [Act.put, List.setIfInBounds_toArray, List.set_cons_zero, List.set_cons_succ])
    have hR1 := hR.keep hb1
    clear hS hR hb1
    have hba := (Below.refl W1.heap.size W1).alloc (Nat.le_refl _) (.cells #[.int .i8 1, .int .i64 0, .string ⟨#[101, 114, 114, 111, 114]⟩, .string ⟨#[]⟩, .slice none 0 0, .int .i8 x.k, .int .i64 x.n, .string x.s, .string x.u, .slice x.ao x.l.length x.cap] 25)
    have hSa := hS1.keep hba
    have hRa := hR1.keep hba
    have hMq := mu_lt hR1.hu (fun k hk => Nat.lt_of_lt_of_le (HX.out.2.1 k hk) hR1.hb.size)
    have hta := two_tes (MU M ub ev) W1 hMq (atomT ⟨#[101, 114, 114, 111, 114]⟩) x (atomT_ok _ _ _ (by decide)) hR1.ht
    have HT := Lib.hid (stuple_x _ (W1.alloc (.cells #[.int .i8 1, .int .i64 0, .string ⟨#[101, 114, 114, 111, 114]⟩, .string ⟨#[]⟩, .slice none 0 0, .int .i8 x.k, .int .i64 x.n, .string x.s, .string x.u, .slice x.ao x.l.length x.cap] 25)) (fun k hk => Nat.lt_of_lt_of_le (hMq k hk) hba.size) (keepCells HX.out.2.2 hRa.hb) _ _ hta (fun c => .inl (by simp)) (by simp))
    refine plan_run rfl ?_ (fun K hK => ?_)
    focus (rfl)
    go_simp
    refine hK.out _ _ (hSa) ?_
    clear hK K
    (try simp only [Act.put, List.setIfInBounds_toArray, List.set_cons_zero, List.set_cons_succ])
    clear hba hta hS1 hR1 hMq
    generalize W1.alloc (.cells #[.int .i8 1, .int .i64 0, .string ⟨#[101, 114, 114, 111, 114]⟩, .string ⟨#[]⟩, .slice none 0 0, .int .i8 x.k, .int .i64 x.n, .string x.s, .string x.u, .slice x.ao x.l.length x.cap] 25) = Wa at *
    refine plan_run rfl ?_ (fun K hK => ?_)
    focus (rfl)
    go_simp
    refine (HT.out).mono ?_
    rintro e W2 ⟨y, rfl, hyt, hy, hb2⟩
    have hS2 := hSa.keep hb2
    refine hK.out _ _ hS2 ?_
    clear hK K 
    (try simp only [Act.put, List.setIfInBounds_toArray, List.set_cons_zero, List.set_cons_succ])
    have hR2 := hRa.keep hb2
    clear hSa hRa hb2 HT
    have HC := Lib.hid (uack_any M W2 (fun k hk => Nat.lt_of_lt_of_le (HX.out.2.1 k hk) hR2.hb.size) (keepCells HX.out.2.2 hR2.hb) ub m i ev E hR2.hu (by omega) y hy)
    refine plan_run rfl ?_ (fun K hK => ?_)
    focus (rfl)
    go_simp
    refine HC.out.mono ?_
    clear HC
    rintro e W3 ⟨a, hat, ⟨v, rfl⟩, ev', hu3, hc3, hb3, hao⟩
    have hnq : ¬ UnB ub ev q3 := fun h => by
      have hq := hR2.hq
      rcases h with h | h
      · have := HL.out
        omega
      · have := HMU.out _ (.inr (.inr h))
        omega
    have hx3 := hc3.heap hR2.hx hnq
    have hS3 := BxS.of hx3
    refine hK.out _ _ (hS3) ?_
    clear hK K
    (try simp only [Act.put, List.setIfInBounds_toArray, List.set_cons_zero, List.set_cons_succ])
    refine plan_done ?_
    have hxt := un_te hc3 hb3 hR2.ht
    have HF := Lib.hid (And.intro hu3 (And.intro (un_trans (chg_of_below hR2.hb _) (fun _ _ h => h) hc3) (And.intro (show ∀ k, k < w.heap.size → ev'.ownBlock = some k → ev.ownBlock = some k from fun k hk e => hb3 k (Nat.lt_of_lt_of_le hk hR2.hb.size) e) (And.intro hao (And.intro hxt (And.intro hx3 (And.intro hat hyt)))))))
    clear hS2 hS3 hR2 hu3 hc3 hb3 hao hxt hx3 hnq hat hyt hy
    obtain ⟨k0, k1, k2, k3, k4⟩ := BxS.of HF.out.2.2.2.2.2.1
    have HC2 := Lib.hid (effect_any W3 ub _ ev' (E ++ [oursE m.pid a]) (endE x) HF.out.1 (by simp; omega))
    go_wp2_with fail
    refine HC2.out.mono ?_
    clear HC2 k0 k1 k2 k3 k4
    rintro e W4 ⟨⟨v4, rfl⟩, ev4, hu4, hc4, hb4⟩
    have HG := Lib.hid (And.intro hu4 (And.intro (un_trans HF.out.2.1 HF.out.2.2.1 hc4) (And.intro (show ∀ k, k < w.heap.size → ev4.ownBlock = some k → ev.ownBlock = some k from fun k hk e => HF.out.2.2.1 k hk (hb4 k (Nat.lt_of_lt_of_le hk HF.out.2.1.size) e)) (And.intro (un_te hc4 hb4 HF.out.2.2.2.1) (un_te hc4 hb4 HF.out.2.2.2.2.1)))))
    clear hu4 hc4 hb4
    go_wp2_with fail
    go_end0
    refine ⟨⟨_, rfl⟩, ev4, m, [oursE m.pid a, endE x], ?_, ?_, ?_, ?_⟩
    · have := HG.out.1
      rw [List.append_assoc] at this
      exact this
    · exact HG.out.2.1
    · exact HG.out.2.2.1
    · refine .inr ⟨a, x, y.t, rfl, rfl, ?_, ?_, ?_, ?_⟩
      · exact HF.out.2.2.2.2.2.2.1
      · rw [HF.out.2.2.2.2.2.2.2]
        exact tupA_ok _
      · exact HG.out.2.2.2.1
      · exact HG.out.2.2.2.2
end Go.Proofs.YthpmdeofdlcccaaGreatDoor
namespace Go.Proofs.YthpmdeofdlcccaaGreatDoor
open Go.ChangeShapes Go.WideShapes Go.ChangeAt Go.RowKit
set_option linter.unusedVariables false
inductive PV
  | done
  | take (i : Nat) (p : PV)
  | run (i : Nat) (p : PV)
  | fork (i : Nat) (p : PV) (j : Nat) (q : PV)
  | forkc (i : Nat) (p : PV) (j : Nat) (q : PV) (k : Nat) (r : PV)
def planFitsV (md : Region.Mode) (ops : Array Oper) : PV → Array Bool → Nat → Bool
  | .done, l, n => (Region.ready md ops l).isEmpty && n == 0
  | .take i p, l, n => n != 0 && Region.free md ops l i && (Region.ready md ops l).contains i && planFitsV md ops p (l.setIfInBounds i true) (n - 1)
  | .run i p, l, n => n != 0 && (Region.ready md ops l == [i]) && planFitsV md ops p (l.setIfInBounds i true) (n - 1)
  | .fork i p j q, l, n => n != 0 && (Region.ready md ops l == [i, j]) && planFitsV md ops p (l.setIfInBounds i true) (n - 1) && planFitsV md ops q (l.setIfInBounds j true) (n - 1)
  | .forkc i p j q k r, l, n => n != 0 && (Region.ready md ops l == [i, j, k]) && planFitsV md ops p (l.setIfInBounds i true) (n - 1) && planFitsV md ops q (l.setIfInBounds j true) (n - 1) && planFitsV md ops r (l.setIfInBounds k true) (n - 1)
section
variable (P : Program) (ops : Array Oper) (Q : Exit → Act → World → Prop) (S : World → Prop)
def planWpV : PV → Act → World → Prop
  | .done, a, w => Q .normal a w
  | .take i p, a, w => ∃ oi v, ops[i]? = some oi ∧ YieldsIf P ops S oi v a ∧ planWpV p (a.put oi.dst v) w
  | .run i p, a, w => wpOp P ops Q i (fun a' w' => S w' ∧ planWpV p a' w') a w
  | .fork i p j q, a, w => wpOp P ops Q i (fun a' w' => S w' ∧ planWpV p a' w') a w ∧ wpOp P ops Q j (fun a' w' => S w' ∧ planWpV q a' w') a w
  | .forkc i p j q k r, a, w => wpOp P ops Q i (fun a' w' => S w' ∧ planWpV p a' w') a w ∧ wpOp P ops Q j (fun a' w' => S w' ∧ planWpV q a' w') a w ∧ wpOp P ops Q k (fun a' w' => S w' ∧ planWpV r a' w') a w
end
section
variable {P : Program} {ops : Array Oper} {Q : Exit → Act → World → Prop} {S : World → Prop} {md : Region.Mode}
theorem planV_held (hs : Region.noSelect ops = true) (hQ : ∀ c a d v w, Q (.panic c) (Act.put a d v) w → Q (.panic c) a w) :
    ∀ (p : PV) (l : Array Bool) (n : Nat) (a : Act) (w : World), planFitsV md ops p l n = true → S w → planWpV P ops Q S p a w → wpAnyH P md ops Q S n l a w
  | .done, l, n, a, w, hf, _, h => by
    simp only [planFitsV, Bool.and_eq_true, beq_iff_eq] at hf
    exact wpAnyH_done (by simpa using hf.1) h n
  | .take i p, l, n, a, w, hf, hS, h => by
    simp only [planFitsV, Bool.and_eq_true, bne_iff_ne] at hf
    obtain ⟨⟨⟨h0, h1⟩, h2⟩, h3⟩ := hf
    obtain ⟨oi, v, e1, e2, e3⟩ := h
    obtain ⟨m, rfl⟩ : ∃ m, n = m + 1 := ⟨n - 1, by omega⟩
    exact wpAnyH_take e1 hs h1 h2 (fun c a w => hQ c a _ _ w) e2 hS (planV_held hs hQ p _ _ _ _ (by simpa using h3) hS e3)
  | .run i p, l, n, a, w, hf, _, h => by
    simp only [planFitsV, Bool.and_eq_true, bne_iff_ne, beq_iff_eq] at hf
    obtain ⟨⟨h0, h1⟩, h2⟩ := hf
    obtain ⟨m, rfl⟩ : ∃ m, n = m + 1 := ⟨n - 1, by omega⟩
    exact wpAnyH_one h1 (wpOp_mono (fun a' w' h' => ⟨h'.1, planV_held hs hQ p _ _ _ _ (by simpa using h2) h'.1 h'.2⟩) h)
  | .fork i p j q, l, n, a, w, hf, _, h => by
    simp only [planFitsV, Bool.and_eq_true, bne_iff_ne, beq_iff_eq] at hf
    obtain ⟨⟨⟨h0, h1⟩, h2⟩, h3⟩ := hf
    obtain ⟨m, rfl⟩ : ∃ m, n = m + 1 := ⟨n - 1, by omega⟩
    refine wpAnyH_all h1 (by simp) fun k hk => ?_
    have hk' : k = i ∨ k = j := by simpa using hk
    rcases hk' with rfl | rfl
    · exact wpOp_mono (fun a' w' h' => ⟨h'.1, planV_held hs hQ p _ _ _ _ (by simpa using h2) h'.1 h'.2⟩) h.1
    · exact wpOp_mono (fun a' w' h' => ⟨h'.1, planV_held hs hQ q _ _ _ _ (by simpa using h3) h'.1 h'.2⟩) h.2
  | .forkc i p j q k r, l, n, a, w, hf, _, h => by
    simp only [planFitsV, Bool.and_eq_true, bne_iff_ne, beq_iff_eq] at hf
    obtain ⟨⟨⟨⟨h0, h1⟩, h2⟩, h3⟩, h4⟩ := hf
    obtain ⟨m, rfl⟩ : ∃ m, n = m + 1 := ⟨n - 1, by omega⟩
    refine wpAnyH_all h1 (by simp) fun x hx => ?_
    have hx' : x = i ∨ x = j ∨ x = k := by simpa using hx
    rcases hx' with rfl | rfl | rfl
    · exact wpOp_mono (fun a' w' h' => ⟨h'.1, planV_held hs hQ p _ _ _ _ (by simpa using h2) h'.1 h'.2⟩) h.1
    · exact wpOp_mono (fun a' w' h' => ⟨h'.1, planV_held hs hQ q _ _ _ _ (by simpa using h3) h'.1 h'.2⟩) h.2.1
    · exact wpOp_mono (fun a' w' h' => ⟨h'.1, planV_held hs hQ r _ _ _ _ (by simpa using h4) h'.1 h'.2⟩) h.2.2
/-- A region that draws its order, by a tree. -/
theorem region_planV {id : Nat} {a : Act} {w : World} (S : World → Prop) (p : PV) (hm : P.follows .mixedOrders = true) (hs : Region.noSelect ops = true)
    (hf : planFitsV .any ops p (Array.replicate ops.size false) ops.size = true) (hS : S w.drew) (h : planWpV P ops (NoPanic Q) S p a w.drew) : (Code.region id ops true).wp P Q a w :=
  wp_region_noPanic (wp_region_held hm (planV_held hs (fun _ _ _ _ _ h => h.elim) p _ _ _ _ hf hS h))
theorem planV_done {a : Act} {w : World} (h : Q .normal a w) : planWpV P ops (NoPanic Q) S .done a w := h
theorem planV_take {i : Nat} {p : PV} {a : Act} {w : World} {oi : Oper} {l : List Oper} {v : Value} (h0 : l[i]? = some oi) (h1 : Region.wanted oi (yielded l.toArray a.tmps) = true)
    (h2 : ∀ w, S w → (execOp a.eval oi).run P w = .ok (.value v) w) (h : planWpV P l.toArray Q S p (a.put oi.dst v) w) : planWpV P l.toArray Q S (.take i p) a w :=
  ⟨oi, v, by simpa using h0, .inl ⟨h1, h2⟩, h⟩
theorem planV_skip {i : Nat} {p : PV} {a : Act} {w : World} {oi : Oper} {l : List Oper} (h0 : l[i]? = some oi) (h1 : Region.wanted oi (yielded l.toArray a.tmps) = false)
    (h : planWpV P l.toArray Q S p (a.put oi.dst undef) w) : planWpV P l.toArray Q S (.take i p) a w :=
  ⟨oi, undef, by simpa using h0, .inr ⟨h1, rfl⟩, h⟩
theorem planV_run {i : Nat} {p : PV} {a : Act} {w : World} {oi : Oper} {l : List Oper} (h0 : l[i]? = some oi) (h1 : Region.wanted oi (yielded l.toArray a.tmps) = true)
    (h : ∀ K : Act → World → Prop, Shut (∀ a' w', S w' → planWpV P l.toArray Q S p a' w' → K a' w') → Oper.wp P oi a w K Q) : planWpV P l.toArray Q S (.run i p) a w :=
  plan_op h0 h1 h
theorem planV_run_skip {i : Nat} {p : PV} {a : Act} {w : World} {oi : Oper} {l : List Oper} (h0 : l[i]? = some oi) (h1 : Region.wanted oi (yielded l.toArray a.tmps) = false)
    (hS : S w) (h : planWpV P l.toArray Q S p (a.put oi.dst undef) w) : planWpV P l.toArray Q S (.run i p) a w := plan_op_skip h0 h1 hS h
theorem planV_fork {i j : Nat} {p q : PV} {a : Act} {w : World} {l : List Oper} (h1 : planWpV P l.toArray Q S (.run i p) a w) (h2 : planWpV P l.toArray Q S (.run j q) a w) : planWpV P l.toArray Q S (.fork i p j q) a w := ⟨h1, h2⟩
theorem planV_forkc {i j k : Nat} {p q r : PV} {a : Act} {w : World} {l : List Oper} (h1 : planWpV P l.toArray Q S (.run i p) a w) (h2 : planWpV P l.toArray Q S (.run j q) a w) (h3 : planWpV P l.toArray Q S (.run k r) a w) : planWpV P l.toArray Q S (.forkc i p j q k r) a w := ⟨h1, h2, h3⟩
end
end Go.Proofs.YthpmdeofdlcccaaGreatDoor
namespace Go.Proofs.YthpmdeofdlcccaaGreatDoor
open Go.ChangeShapes Go.WideShapes Go.ChangeAt Go.RowKit
set_option linter.unusedVariables false
set_option linter.unusedSimpArgs false
set_option maxRecDepth 100000
def hcaS : ByteArray := ⟨#[104, 97, 110, 100, 108, 101, 95, 99, 97, 108, 108]⟩
def hcsS : ByteArray := ⟨#[104, 97, 110, 100, 108, 101, 95, 99, 97, 115, 116]⟩
def hinS : ByteArray := ⟨#[104, 97, 110, 100, 108, 101, 95, 105, 110, 102, 111]⟩
def timS : ByteArray := ⟨#[116, 105, 109, 101, 111, 117, 116]⟩
def takeE : Ef := ⟨9, 0, numT 0 0, chZ⟩
def idleE : Ef := ⟨17, 0, numT 0 0, chZ⟩
/-- a callback that is handed what stands for the state last -/
def CbE (w' : World) (B : Nat) (c : Ch) (V : TE) (f : ByteArray) (n : Nat) (x : Ef) : Prop := ∃ (g : Nat) (L : List TE), x = callE c f (some ⟨g, 0, none⟩) (L ++ [V]).length (L ++ [V]).length ∧ B ≤ g ∧ RowAt w' g (L ++ [V]) ∧ L.length = n
/-- what loop comes to -/
def LoR (N : Nat → Prop) (B : Nat) (w' : World) (m : Mc) (i : Inn) (c : Ch) (L : List It) (m' : Mc) (E1 : List Ef) : Prop :=
  (L = [] ∧ m' = m ∧ E1 = [idleE]) ∨
  (L = [] ∧ m' = { m with dl := -2, ph := 4 } ∧ ∃ x, E1 = [x] ∧ CbE w' B c m.V hinS 1 x) ∨
  (∃ it r, L = it :: r ∧ parB it m.pid = true ∧ ∃ t, m' = { m with U := t, ph := 5 } ∧ E1 = [takeE] ∧ TeOk N w' t) ∨
  (∃ it r f x, L = it :: r ∧ (callP it.x.t).isSome = true ∧ m' = { m with T := f, ph := 3 } ∧ E1 = [takeE, x] ∧ CbE w' B c m.V hcaS 2 x ∧ TeOk N w' f) ∨
  (∃ it r nm x, L = it :: r ∧ (isB it.x.t gcaS 2 = true → nm = hcsS) ∧ m' = { m with ph := 4 } ∧ E1 = [takeE, x] ∧ CbE w' B c m.V nm 1 x)
def LoP (M : Nat → Prop) (w : World) (ub : Nat) (m : Mc) (i : Inn) (c : Ch) (L : List It) (ev : Value) (E : List Ef) (e : Ending) (w' : World) : Prop :=
  (∃ v, e = .returned v) ∧ ∃ ev' m' E1, UnOk w' ub (unL m' i) ev' (E ++ E1) ∧ Chg (UnB ub ev) w w' ∧ (∀ k, k < w.heap.size → ev'.ownBlock = some k → ev.ownBlock = some k) ∧ LoR (MU M ub ev') w.heap.size w' m i c L m' E1
def LpS (ub : Nat) (mv : Value) (pid : Int) (W : World) : Prop := W.cell? ⟨ub, 29, none⟩ = some mv ∧ W.cell? ⟨ub, 1, none⟩ = some (.int .i64 pid)
theorem LpS.keep {ub : Nat} {mv : Value} {pid : Int} {W W' : World} (h : LpS ub mv pid W) (hb : Below W.heap.size W W') : LpS ub mv pid W' := ⟨keep_cell h.1 hb, keep_cell h.2 hb⟩
theorem mu_new {M : Nat → Prop} {w W : World} {ub : Nat} {ev : Value} (hb : Below w.heap.size w W) (hM : ∀ k, MU M ub ev k → k < w.heap.size) : ∀ k, (MU M ub ev k ∨ (w.heap.size ≤ k ∧ k < W.heap.size)) → k < W.heap.size := fun k hk => by
  rcases hk with hk | hk
  · exact Nat.lt_of_lt_of_le (hM k hk) hb.size
  · exact hk.2
/-- the boxes of loop's first line, made in any order -/
structure LpB (w W : World) (M : Nat → Prop) (ub : Nat) (m : Mc) (i : Inn) (ev : Value) (E : List Ef) (L : List It) (o3 o4 : Option Nat) (r : Option (Int × TE × TE)) : Prop where
  hb : Below w.heap.size w W
  hu : UnOk W ub (unL m i) ev E
  hub : ub < w.heap.size
  hev : ∀ k, ev.ownBlock = some k → k < w.heap.size
  h3 : ∀ q, o3 = some q → w.heap.size ≤ q ∧ W.heap[q]? = some (.cells zT 25 (0, 0))
  h4 : ∀ q, o4 = some q → w.heap.size ≤ q ∧ W.heap[q]? = some (.cells zT 25 (0, 0))
  hne : ∀ q q', o3 = some q → o4 = some q' → q ≠ q'
  hr : ∀ k f t, r = some (k, f, t) → NextR L m.pid k f t ∧ TeOk (fun k => MU M ub ev k ∨ o3 = some k ∨ o4 = some k) W f ∧ TeOk (fun k => MU M ub ev k ∨ o3 = some k ∨ o4 = some k) W t
section
variable {w W : World} {M : Nat → Prop} {ub : Nat} {m : Mc} {i : Inn} {ev : Value} {E : List Ef} {L : List It} {o3 o4 : Option Nat} {r : Option (Int × TE × TE)}
theorem LpB.box3 (h : LpB w W M ub m i ev E L none o4 r) : LpB w (W.alloc (.cells zT 25)) M ub m i ev E L (some W.heap.size) o4 r := by
  have hb1 := (Below.refl W.heap.size W).alloc (Nat.le_refl _) (.cells zT 25)
  refine ⟨h.hb.trans (hb1.mono h.hb.size), h.hu.keep hb1, h.hub, h.hev, fun q e => ?_, fun q e => ⟨(h.h4 q e).1, keep_heap (h.h4 q e).2 hb1⟩, fun q q' e e' hq => ?_, fun k f t e => ?_⟩
  · injection e with e
    subst e
    exact ⟨h.hb.size, heap_new W _⟩
  · injection e with e
    have := heap_lt (h.h4 q' e').2
    omega
  · obtain ⟨g1, g2, g3⟩ := h.hr k f t e
    have hk : ∀ k, (MU M ub ev k ∨ some W.heap.size = some k ∨ o4 = some k) → k < W.heap.size → (MU M ub ev k ∨ none = some k ∨ o4 = some k) := fun k hk hl => by
      rcases hk with hk | hk | hk
      · exact .inl hk
      · injection hk with hk
        omega
      · exact .inr (.inr hk)
    exact ⟨g1, g2.chg (chg_of_below hb1 (fun _ => False)) (fun _ h => h.elim) hk, g3.chg (chg_of_below hb1 (fun _ => False)) (fun _ h => h.elim) hk⟩
theorem LpB.box4 (h : LpB w W M ub m i ev E L o3 none r) : LpB w (W.alloc (.cells zT 25)) M ub m i ev E L o3 (some W.heap.size) r := by
  have hb1 := (Below.refl W.heap.size W).alloc (Nat.le_refl _) (.cells zT 25)
  refine ⟨h.hb.trans (hb1.mono h.hb.size), h.hu.keep hb1, h.hub, h.hev, fun q e => ⟨(h.h3 q e).1, keep_heap (h.h3 q e).2 hb1⟩, fun q e => ?_, fun q q' e e' hq => ?_, fun k f t e => ?_⟩
  · injection e with e
    subst e
    exact ⟨h.hb.size, heap_new W _⟩
  · injection e' with e'
    have := heap_lt (h.h3 q e).2
    omega
  · obtain ⟨g1, g2, g3⟩ := h.hr k f t e
    have hk : ∀ k, (MU M ub ev k ∨ o3 = some k ∨ some W.heap.size = some k) → k < W.heap.size → (MU M ub ev k ∨ o3 = some k ∨ none = some k) := fun k hk hl => by
      rcases hk with hk | hk | hk
      · exact .inl hk
      · exact .inr (.inl hk)
      · injection hk with hk
        omega
    exact ⟨g1, g2.chg (chg_of_below hb1 (fun _ => False)) (fun _ h => h.elim) hk, g3.chg (chg_of_below hb1 (fun _ => False)) (fun _ h => h.elim) hk⟩
theorem LpB.see3 {q3 : Nat} (h : LpB w W M ub m i ev E L (some q3) o4 r) (f : TE) : LpS ub (.slice i.mo i.mn i.mc) m.pid (W.setRow q3 f.cells.toArray) := by
  have hc := chg_setRow W q3 f.cells.toArray
  have := (h.h3 q3 rfl).1
  have := h.hub
  exact ⟨hc.cell (h.hu.cell (i := 29) rfl) (by show ¬ ub = q3; omega), hc.cell (h.hu.cell (i := 1) rfl) (by show ¬ ub = q3; omega)⟩
theorem LpB.see4 {q3 q4 : Nat} (h : LpB w W M ub m i ev E L (some q3) (some q4) r) (f t : TE) : LpS ub (.slice i.mo i.mn i.mc) m.pid ((W.setRow q3 f.cells.toArray).setRow q4 t.cells.toArray) := by
  have hc := chg_setRow (W.setRow q3 f.cells.toArray) q4 t.cells.toArray
  have := (h.h4 q4 rfl).1
  have := h.hub
  have h3 := h.see3 f
  exact ⟨hc.cell h3.1 (by show ¬ ub = q4; omega), hc.cell h3.2 (by show ¬ ub = q4; omega)⟩
theorem LpB.zero4 {q3 q4 : Nat} (h : LpB w W M ub m i ev E L (some q3) (some q4) r) (f : TE) : (W.setRow q3 f.cells.toArray).heap[q4]? = some (.cells zT 25 (0, 0)) :=
  (chg_setRow W q3 f.cells.toArray).heap (h.h4 q4 rfl).2 (fun e => h.hne q3 q4 rfl rfl e.symm)
/-- the call among them -/
theorem LpB.call (h : LpB w W M ub m i ev E L o3 o4 none) (hM : ∀ k, MU M ub ev k → k < w.heap.size) (hc : Cells w 0 letL) (hv : MlOk (MU M ub ev) w (.slice i.mo i.mn i.mc) L) (hp : -9223372036854775808 ≤ m.pid ∧ m.pid ≤ 9223372036854775807) (_ : True) :
    Calls Tryz.prog 12 #[.slice i.mo i.mn i.mc, .int .i64 m.pid] W fun e W' => ∃ (k : Int) (f t : TE), e = .returned (.tuple #[.int .i8 k, .agg #[.int .i8 f.k, .int .i64 f.n, .string f.s, .string f.u, .slice f.ao f.l.length f.cap], .agg #[.int .i8 t.k, .int .i64 t.n, .string t.s, .string t.u, .slice t.ao t.l.length t.cap]]) ∧ Below W.heap.size W W' ∧ LpB w W' M ub m i ev E L o3 o4 (some (k, f, t)) := by
  have hml : MlOk (fun k => MU M ub ev k ∨ (w.heap.size ≤ k ∧ k < W.heap.size)) W (.slice i.mo i.mn i.mc) L := by
    obtain ⟨ao, cap, e1, e2, e3, e4⟩ := hv
    refine ⟨ao, cap, e1, e2, e3, fun it hit => ?_⟩
    obtain ⟨g1, b, off, g2, g3⟩ := e4 it hit
    exact ⟨(g1.more (M' := fun k => MU M ub ev k ∨ (w.heap.size ≤ k ∧ k < W.heap.size)) fun k hk hl => hk.elim id fun h => by omega).chg (chg_of_below h.hb (fun _ => False)) (fun _ h => h.elim) (fun k hk hl => hk), b, off, g2, g3.keep h.hb⟩
  refine (next_any (fun k => MU M ub ev k ∨ (w.heap.size ≤ k ∧ k < W.heap.size)) W (mu_new h.hb hM) (keepCells hc h.hb) _ L m.pid hml hp).mono ?_
  rintro e W' ⟨k, f, t, rfl, hN, hf, ht, hbW⟩
  refine ⟨k, f, t, rfl, hbW, h.hb.trans (hbW.mono h.hb.size), h.hu.keep hbW, h.hub, h.hev, fun q e => ⟨(h.h3 q e).1, keep_heap (h.h3 q e).2 hbW⟩, fun q e => ⟨(h.h4 q e).1, keep_heap (h.h4 q e).2 hbW⟩, h.hne, fun k' f' t' e => ?_⟩
  injection e with e
  injection e with e1 e
  injection e with e2 e3
  subst e1 e2 e3
  have hk : ∀ k, (MU M ub ev k ∨ o3 = some k ∨ o4 = some k) → k < W'.heap.size → (MU M ub ev k ∨ (w.heap.size ≤ k ∧ k < W.heap.size)) := fun k hk hl => by
    rcases hk with hk | hk | hk
    · exact .inl hk
    · exact .inr ⟨(h.h3 k hk).1, heap_lt (h.h3 k hk).2⟩
    · exact .inr ⟨(h.h4 k hk).1, heap_lt (h.h4 k hk).2⟩
  exact ⟨hN, hf.more hk, ht.more hk⟩
end
/-- what stands behind loop's first line -/
structure LpF (w W : World) (M : Nat → Prop) (ub : Nat) (m : Mc) (i : Inn) (ev : Value) (E : List Ef) (L : List It) (q3 q4 : Nat) (k : Int) (f t : TE) : Prop where
  hb : Below w.heap.size w W
  hu : UnOk W ub (unL m i) ev E
  h3 : w.heap.size ≤ q3 ∧ W.heap[q3]? = some (.cells f.cells.toArray 25 (0, 0))
  h4 : w.heap.size ≤ q4 ∧ W.heap[q4]? = some (.cells t.cells.toArray 25 (0, 0))
  hqq : q3 ≠ q4
  hN : NextR L m.pid k f t
  hf : TeOk (MU M ub ev) W f
  ht : TeOk (MU M ub ev) W t
theorem LpB.fin {w W : World} {M : Nat → Prop} {ub : Nat} {m : Mc} {i : Inn} {ev : Value} {E : List Ef} {L : List It} {q3 q4 : Nat} {k : Int} {f t : TE} (h : LpB w W M ub m i ev E L (some q3) (some q4) (some (k, f, t))) :
    LpF w ((W.setRow q3 f.cells.toArray).setRow q4 t.cells.toArray) M ub m i ev E L q3 q4 k f t := by
  have hc3 := chg_setRow W q3 f.cells.toArray
  have hc4 := chg_setRow (W.setRow q3 f.cells.toArray) q4 t.cells.toArray
  have a3 := (h.h3 q3 rfl).1
  have a4 := (h.h4 q4 rfl).1
  have hne := h.hne q3 q4 rfl rfl
  have hub := h.hub
  obtain ⟨g1, g2, g3⟩ := h.hr k f t rfl
  have hcc : Chg (fun k => k = q3 ∨ k = q4) W ((W.setRow q3 f.cells.toArray).setRow q4 t.cells.toArray) := (hc3.mono fun k _ e => .inl e).trans (hc4.mono fun k _ e => .inr e)
  have hs3 := setRow_heap W q3 _ f.cells.toArray 25 (0, 0) (h.h3 q3 rfl).2
  have hs4 := setRow_heap (W.setRow q3 f.cells.toArray) q4 _ t.cells.toArray 25 (0, 0) (h.zero4 f)
  refine ⟨h.hb.trans (hcc.below h.hb.size fun k hk => by omega), ⟨hcc.heap h.hu.hU (fun e => by omega), h.hu.hcs, own_chg h.hu.hown hcc fun k hk e => ?_⟩, ⟨a3, hc4.heap hs3 hne⟩, ⟨a4, hs4⟩, hne, g1, ?_, ?_⟩
  · have := h.hev k hk
    omega
  · exact g2.chg hcc (fun k hk _ => .inr (hk.imp (fun e => by rw [e]) fun e => by rw [e])) (fun k hk _ => .inl hk)
  · exact g3.chg hcc (fun k hk _ => .inr (hk.imp (fun e => by rw [e]) fun e => by rw [e])) (fun k hk _ => .inl hk)
theorem LpF.keep {w W W' : World} {M : Nat → Prop} {ub : Nat} {m : Mc} {i : Inn} {ev : Value} {E : List Ef} {L : List It} {q3 q4 : Nat} {k : Int} {f t : TE} (h : LpF w W M ub m i ev E L q3 q4 k f t) (hb : Below W.heap.size W W') : LpF w W' M ub m i ev E L q3 q4 k f t :=
  ⟨h.hb.trans (hb.mono h.hb.size), h.hu.keep hb, ⟨h.h3.1, keep_heap h.h3.2 hb⟩, ⟨h.h4.1, keep_heap h.h4.2 hb⟩, h.hqq, h.hN, h.hf.keep hb, h.ht.keep hb⟩
def DuS (ub : Nat) (now dl : Int) (W : World) : Prop := W.cell? ⟨ub, 27, none⟩ = some (.int .i64 now) ∧ W.cell? ⟨ub, 3, none⟩ = some (.int .i64 dl)
/-- what stands while loop goes on -/
structure LpG (w W : World) (M : Nat → Prop) (ub : Nat) (m : Mc) (i : Inn) (ev0 ev : Value) (E : List Ef) (q3 q4 : Nat) (f t : TE) : Prop where
  hc : Chg (UnB ub ev0) w W
  hn : ∀ k, k < w.heap.size → ev.ownBlock = some k → ev0.ownBlock = some k
  hu : UnOk W ub (unL m i) ev E
  hub : ub < w.heap.size
  hqq : q3 ≠ q4
  hq3 : w.heap.size ≤ q3 ∧ ¬ UnB ub ev q3
  hq4 : w.heap.size ≤ q4 ∧ ¬ UnB ub ev q4
  h3 : W.heap[q3]? = some (.cells f.cells.toArray 25 (0, 0))
  h4 : W.heap[q4]? = some (.cells t.cells.toArray 25 (0, 0))
  hf : TeOk (MU M ub ev) W f
  ht : TeOk (MU M ub ev) W t
def CbS (ub q3 q4 : Nat) (f t V : TE) (W : World) : Prop := W.cell? ⟨q3, 0, none⟩ = some (.int .i8 f.k) ∧ W.cell? ⟨q3, 1, none⟩ = some (.int .i64 f.n) ∧ W.cell? ⟨q3, 2, none⟩ = some (.string f.s) ∧ W.cell? ⟨q3, 3, none⟩ = some (.string f.u) ∧ W.cell? ⟨q3, 4, none⟩ = some (.slice f.ao f.l.length f.cap) ∧
  W.cell? ⟨q4, 0, none⟩ = some (.int .i8 t.k) ∧ W.cell? ⟨q4, 1, none⟩ = some (.int .i64 t.n) ∧ W.cell? ⟨q4, 2, none⟩ = some (.string t.s) ∧ W.cell? ⟨q4, 3, none⟩ = some (.string t.u) ∧ W.cell? ⟨q4, 4, none⟩ = some (.slice t.ao t.l.length t.cap) ∧
  W.cell? ⟨ub, 15, none⟩ = some (.int .i8 V.k) ∧ W.cell? ⟨ub, 16, none⟩ = some (.int .i64 V.n) ∧ W.cell? ⟨ub, 17, none⟩ = some (.string V.s) ∧ W.cell? ⟨ub, 18, none⟩ = some (.string V.u) ∧ W.cell? ⟨ub, 19, none⟩ = some (.slice V.ao V.l.length V.cap)
theorem LpF.toG {w W : World} {M : Nat → Prop} {ub : Nat} {m : Mc} {i : Inn} {ev : Value} {E : List Ef} {L : List It} {q3 q4 : Nat} {k : Int} {f t : TE} (h : LpF w W M ub m i ev E L q3 q4 k f t) (hM : ∀ k, MU M ub ev k → k < w.heap.size) : LpG w W M ub m i ev ev E q3 q4 f t :=
  ⟨chg_of_below h.hb _, fun _ _ h => h, h.hu, hM _ (.inr (.inl rfl)), h.hqq, ⟨h.h3.1, fun e => by have := hM _ (.inr e); have := h.h3.1; omega⟩, ⟨h.h4.1, fun e => by have := hM _ (.inr e); have := h.h4.1; omega⟩, h.h3.2, h.h4.2, h.hf, h.ht⟩
section
variable {w W W' : World} {M : Nat → Prop} {ub : Nat} {m m' : Mc} {i : Inn} {ev0 ev ev' : Value} {E E' : List Ef} {q3 q4 : Nat} {f t : TE}
theorem LpG.keep (h : LpG w W M ub m i ev0 ev E q3 q4 f t) (hb : Below W.heap.size W W') : LpG w W' M ub m i ev0 ev E q3 q4 f t :=
  ⟨h.hc.trans ((chg_of_below hb (fun _ => False)).mono fun _ _ h => h.elim), h.hn, h.hu.keep hb, h.hub, h.hqq, h.hq3, h.hq4, keep_heap h.h3 hb, keep_heap h.h4 hb, h.hf.keep hb, h.ht.keep hb⟩
theorem LpG.step (h : LpG w W M ub m i ev0 ev E q3 q4 f t) (hu : UnOk W' ub (unL m' i) ev' E') (hc : Chg (UnB ub ev) W W') (hb : ∀ k, k < W.heap.size → ev'.ownBlock = some k → ev.ownBlock = some k) : LpG w W' M ub m' i ev0 ev' E' q3 q4 f t := by
  have hk : ∀ q, q < W.heap.size → ¬ UnB ub ev q → ¬ UnB ub ev' q := fun q hl hn hq => hn (hq.imp id (hb q hl))
  exact ⟨un_trans h.hc h.hn hc, fun k hl e => h.hn k hl (hb k (Nat.lt_of_lt_of_le hl h.hc.size) e), hu, h.hub, h.hqq, ⟨h.hq3.1, hk _ (heap_lt h.h3) h.hq3.2⟩, ⟨h.hq4.1, hk _ (heap_lt h.h4) h.hq4.2⟩, hc.heap h.h3 h.hq3.2, hc.heap h.h4 h.hq4.2, un_te hc hb h.hf, un_te hc hb h.ht⟩
theorem LpG.see (h : LpG w W M ub m i ev0 ev E q3 q4 f t) {V : TE} (hV : m.V = V) : CbS ub q3 q4 f t V W := by
  subst hV
  obtain ⟨a0, a1, a2, a3, a4⟩ := BxS.of h.h3
  obtain ⟨b0, b1, b2, b3, b4⟩ := BxS.of h.h4
  exact ⟨a0, a1, a2, a3, a4, b0, b1, b2, b3, b4, h.hu.cell (i := 15) rfl, h.hu.cell (i := 16) rfl, h.hu.cell (i := 17) rfl, h.hu.cell (i := 18) rfl, h.hu.cell (i := 19) rfl⟩
theorem LpG.new (h : LpG w W M ub m i ev0 ev E q3 q4 f t) : ¬ UnB ub ev W.heap.size := fun e => by
  rcases e with e | e
  · have := h.hub
    have := h.hc.size
    omega
  · exact Nat.lt_irrefl _ (own_lt h.hu.hown (Nat.le_refl _) _ e)
theorem LpG.back (h : LpG w W M ub m i ev0 ev E q3 q4 f t) {c : Ch} (hr : w.heap[m.rb]? = some (.cells (rcL c).toArray 64 (0, 0))) (hne : ¬ UnB ub ev0 m.rb) (hn : E.length ≤ 100) (fn : ByteArray) (ph : Int) (ao : Option Addr) (n cap : Nat) :
    Calls Tryz.prog 70 #[.pointer (some ⟨ub, 0, none⟩), .string fn, .int .i8 ph, .slice ao n cap] W (UnP W ub ev (unL { m with ph := ph } i) (E ++ [callE c fn ao n cap])) :=
  back_any W ub m i c ev E h.hu (h.hc.heap hr hne) (fun e => hne (.inl e)) hn fn ph ao n cap
/-- another unit's cells, its effects kept -/
theorem LpG.set (h : LpG w W M ub m i ev0 ev E q3 q4 f t) {o : Nat} {vs : List Value} (hl : o + vs.length ≤ 38) (he : setL (unL m i) o vs = unL m' i) : LpG w (W.setCells ub o vs) M ub m' i ev0 ev E q3 q4 f t :=
  h.step (he ▸ h.hu.setL vs o hl) ((chg_cells vs ub o W).mono fun k _ e => .inl e) (fun _ _ h => h)
theorem LpG.put4 (h : LpG w W M ub m i ev0 ev E q3 q4 f t) {y : TE} (hy : TeOk (fun k => MU M ub ev k ∨ k = q4) W y) (hf : TeOk (fun k => MU M ub ev k ∨ k = q4) W f) : LpG w (W.setRow q4 y.cells.toArray) M ub m i ev0 ev E q3 q4 f y := by
  have hc4 := chg_setRow W q4 y.cells.toArray
  have a4 := h.hq4.1
  have hub := h.hub
  have hcc : Chg (UnB ub ev0) w (W.setRow q4 y.cells.toArray) := h.hc.grow hc4 (fun k hk e => by
    have e : k = q4 := e
    omega)
  refine ⟨hcc, h.hn, ⟨hc4.heap h.hu.hU (by omega), h.hu.hcs, own_chg h.hu.hown hc4 fun k hk e => h.hq4.2 (.inr ((show k = q4 from e) ▸ hk))⟩, h.hub, h.hqq, h.hq3, h.hq4, hc4.heap h.h3 h.hqq, setRow_heap W q4 _ _ 25 (0, 0) h.h4, ?_, ?_⟩
  · exact hf.chg hc4 (fun k e _ => .inr e) (fun k hk _ => .inl hk)
  · exact hy.chg hc4 (fun k e _ => .inr e) (fun k hk _ => .inl hk)
end
set_option maxHeartbeats 16000000 in
theorem loop_any (M : Nat → Prop) (w : World) (hM : ∀ k, M k → k < w.heap.size) (hc : Cells w 0 letL) (ub : Nat) (m : Mc) (i : Inn) (c : Ch) (L : List It) (ev : Value) (E : List Ef) (h : UnOk w ub (unL m i) ev E) (hn : E.length ≤ 50)
    (hr : w.heap[m.rb]? = some (.cells (rcL c).toArray 64 (0, 0))) (hne : ¬ UnB ub ev m.rb) (hml : MlOk (MU M ub ev) w (.slice i.mo i.mn i.mc) L) (hp : -9223372036854775808 ≤ m.pid ∧ m.pid ≤ 9223372036854775807) :
    Calls Tryz.prog 48 #[.pointer (some ⟨ub, 0, none⟩)] w (LoP M w ub m i c L ev E) := by
  have HM := Lib.hid (And.intro (mu_lt h hM) (And.intro hc (And.intro hml (And.intro hp trivial))))
  have hdr : Below w.heap.size w w.drew := (Below.refl _ _).drew
  have H0 : Hid (LpB w w.drew M ub m i ev E L none none none) := Lib.hid ⟨hdr, h.keep hdr, heap_lt h.hU, own_lt h.hown (Nat.le_refl _), fun q e => by (cases e), fun q e => by (cases e), fun q q' e => by (cases e), fun k f t e => by (cases e)⟩
  have hS1 : LpS ub (.slice i.mo i.mn i.mc) m.pid w.drew := ⟨(h.keep hdr).cell (i := 29) rfl, (h.keep hdr).cell (i := 1) rfl⟩
  have HR := Lib.hid (And.intro hr hne)
  clear h hM hc hml hp hr hne hdr
  go_enter Tryz.func48, Tryz.ntmps48
  go_upto_region 0 with fail
  go_cut [2, 3, 4] from 5 to 20 (fun kv fv tv wx => ∃ (k : Int) (f t : TE) (q3 q4 : Nat), kv = .int .i8 k ∧ fv = .pointer (some ⟨q3, 0, none⟩) ∧ tv = .pointer (some ⟨q4, 0, none⟩) ∧ Hid (LpF w wx M ub m i ev E L q3 q4 k f t))
  case first =>
    refine region_planV (LpS ub (.slice i.mo i.mn i.mc) m.pid) (.take 0 (.take 1 (.take 2 (.take 3 (.take 4 (.take 5 (.take 6 (.take 7 (.take 8 (.take 9 (.forkc 10 (.take 11 (.take 12 (.take 13 (.take 14 (.fork 15 (.run 16 (.take 17 (.run 18 (.run 19 .done)))) 16 (.run 15 (.take 17 (.run 18 (.run 19 .done))))))))) 15 (.fork 10 (.take 11 (.take 12 (.take 13 (.take 14 (.run 16 (.take 17 (.run 18 (.run 19 .done)))))))) 16 (.run 10 (.take 11 (.take 12 (.take 13 (.take 14 (.take 17 (.run 18 (.run 19 .done))))))))) 16 (.fork 10 (.take 11 (.take 12 (.take 13 (.take 14 (.run 15 (.take 17 (.run 18 (.run 19 .done)))))))) 15 (.run 10 (.take 11 (.take 12 (.take 13 (.take 14 (.take 17 (.run 18 (.run 19 .done)))))))))))))))))))) (by kernel_rfl) (by kernel_rfl) (by kernel_rfl) hS1 ?_
    generalize w.drew = W0 at *
    iterate 10 (first | (refine planV_skip rfl ?_ ?_; (focus (rfl)); (try simp only [Act.put, List.setIfInBounds_toArray, List.set_cons_zero, List.set_cons_succ])) | (refine planV_take (v := ?_) rfl ?_ (fun w hSw => ?_) ?_; rotate_left; (focus (rfl)); (focus (unfold LpS at hSw; (go_simp <;> with_reducible rfl))); (try simp only [Act.put, List.setIfInBounds_toArray, List.set_cons_zero, List.set_cons_succ])))
    refine planV_forkc ?_ ?_ ?_
    · skip
      have HN := Lib.hid (H0.out.call HM.out.1 HM.out.2.1 HM.out.2.2.1 HM.out.2.2.2.1 HM.out.2.2.2.2)
      clear H0
      refine planV_run rfl ?_ (fun K hK => ?_)
      focus (rfl)
      go_simp
      refine HN.out.mono ?_
      clear HN
      rintro e W1 ⟨k, f, t, rfl, hbV, hJ⟩
      have H1 := Lib.hid hJ
      have hS2 := hS1.keep hbV
      refine hK.out _ _ (hS2) ?_
      clear hK K
      (try simp only [Act.put, List.setIfInBounds_toArray, List.set_cons_zero, List.set_cons_succ])
      clear hS1 hbV hJ
      have hS1 := hS2
      clear hS2
      iterate 4 (first | (refine planV_skip rfl ?_ ?_; (focus (rfl)); (try simp only [Act.put, List.setIfInBounds_toArray, List.set_cons_zero, List.set_cons_succ])) | (refine planV_take (v := ?_) rfl ?_ (fun w hSw => ?_) ?_; rotate_left; (focus (rfl)); (focus (unfold LpS at hSw; (go_simp <;> with_reducible rfl))); (try simp only [Act.put, List.setIfInBounds_toArray, List.set_cons_zero, List.set_cons_succ])))
      refine planV_fork ?_ ?_
      · skip
        have hS2 := hS1.keep ((Below.refl W1.heap.size W1).alloc (Nat.le_refl _) (.cells zT 25))
        refine planV_run rfl ?_ (fun K hK => ?_)
        focus (rfl)
        go_simp
        refine hK.out _ _ (hS2) ?_
        clear hK K
        (try simp only [Act.put, List.setIfInBounds_toArray, List.set_cons_zero, List.set_cons_succ])
        have H2 := Lib.hid H1.out.box3
        clear H1 hS1
        have hS1 := hS2
        clear hS2
        generalize hWn : W1.alloc (.cells zT 25) = W2 at *
        clear hWn
        generalize W1.heap.size = q3 at *
        have hS2 := hS1.keep ((Below.refl W2.heap.size W2).alloc (Nat.le_refl _) (.cells zT 25))
        refine planV_run rfl ?_ (fun K hK => ?_)
        focus (rfl)
        go_simp
        refine hK.out _ _ (hS2) ?_
        clear hK K
        (try simp only [Act.put, List.setIfInBounds_toArray, List.set_cons_zero, List.set_cons_succ])
        have H3 := Lib.hid H2.out.box4
        clear H2 hS1
        have hS1 := hS2
        clear hS2
        generalize hWn : W2.alloc (.cells zT 25) = W3 at *
        clear hWn
        generalize W2.heap.size = q4 at *
        iterate 1 (first | (refine planV_skip rfl ?_ ?_; (focus (rfl)); (try simp only [Act.put, List.setIfInBounds_toArray, List.set_cons_zero, List.set_cons_succ])) | (refine planV_take (v := ?_) rfl ?_ (fun w hSw => ?_) ?_; rotate_left; (focus (rfl)); (focus (unfold LpS at hSw; (go_simp <;> with_reducible rfl))); (try simp only [Act.put, List.setIfInBounds_toArray, List.set_cons_zero, List.set_cons_succ])))
        have hS3 : LpS ub (.slice i.mo i.mn i.mc) m.pid (W3.setRow q3 #[.int .i8 f.k, .int .i64 f.n, .string f.s, .string f.u, .slice f.ao f.l.length f.cap]) := H3.out.see3 f
        refine planV_run rfl ?_ (fun K hK => ?_)
        focus (rfl)
        refine wp_store_row 25 (.tmp 3) (.tmp 18) rfl q3 #[.int .i8 f.k, .int .i64 f.n, .string f.s, .string f.u, .slice f.ao f.l.length f.cap] rfl rfl 25 zT (H3.out.h3 q3 rfl).2 (infoTM' _ rfl) rfl (by simp [Value.oneCell']) ?_
        refine hK.out _ _ (hS3) ?_
        clear hK K
        (try simp only [Act.put, List.setIfInBounds_toArray, List.set_cons_zero, List.set_cons_succ])
        have hS4 : LpS ub (.slice i.mo i.mn i.mc) m.pid ((W3.setRow q3 #[.int .i8 f.k, .int .i64 f.n, .string f.s, .string f.u, .slice f.ao f.l.length f.cap]).setRow q4 #[.int .i8 t.k, .int .i64 t.n, .string t.s, .string t.u, .slice t.ao t.l.length t.cap]) := H3.out.see4 f t
        have hz4 := H3.out.zero4 f
        refine planV_run rfl ?_ (fun K hK => ?_)
        focus (rfl)
        refine wp_store_row 25 (.tmp 4) (.tmp 19) rfl q4 #[.int .i8 t.k, .int .i64 t.n, .string t.s, .string t.u, .slice t.ao t.l.length t.cap] rfl rfl 25 zT hz4 (infoTM' _ rfl) rfl (by simp [Value.oneCell']) ?_
        refine hK.out _ _ (hS4) ?_
        clear hK K
        (try simp only [Act.put, List.setIfInBounds_toArray, List.set_cons_zero, List.set_cons_succ])
        refine planV_done ?_
        have HF := Lib.hid (H3.out.fin)
        clear hS1 hS3 hS4 hz4 H3
        go_wp2_with fail
        go_meet
        refine ⟨k, f, t, q3, q4, rfl, rfl, rfl, HF⟩
      · skip
        have hS2 := hS1.keep ((Below.refl W1.heap.size W1).alloc (Nat.le_refl _) (.cells zT 25))
        refine planV_run rfl ?_ (fun K hK => ?_)
        focus (rfl)
        go_simp
        refine hK.out _ _ (hS2) ?_
        clear hK K
        (try simp only [Act.put, List.setIfInBounds_toArray, List.set_cons_zero, List.set_cons_succ])
        have H2 := Lib.hid H1.out.box4
        clear H1 hS1
        have hS1 := hS2
        clear hS2
        generalize hWn : W1.alloc (.cells zT 25) = W2 at *
        clear hWn
        generalize W1.heap.size = q4 at *
        have hS2 := hS1.keep ((Below.refl W2.heap.size W2).alloc (Nat.le_refl _) (.cells zT 25))
        refine planV_run rfl ?_ (fun K hK => ?_)
        focus (rfl)
        go_simp
        refine hK.out _ _ (hS2) ?_
        clear hK K
        (try simp only [Act.put, List.setIfInBounds_toArray, List.set_cons_zero, List.set_cons_succ])
        have H3 := Lib.hid H2.out.box3
        clear H2 hS1
        have hS1 := hS2
        clear hS2
        generalize hWn : W2.alloc (.cells zT 25) = W3 at *
        clear hWn
        generalize W2.heap.size = q3 at *
        iterate 1 (first | (refine planV_skip rfl ?_ ?_; (focus (rfl)); (try simp only [Act.put, List.setIfInBounds_toArray, List.set_cons_zero, List.set_cons_succ])) | (refine planV_take (v := ?_) rfl ?_ (fun w hSw => ?_) ?_; rotate_left; (focus (rfl)); (focus (unfold LpS at hSw; (go_simp <;> with_reducible rfl))); (try simp only [Act.put, List.setIfInBounds_toArray, List.set_cons_zero, List.set_cons_succ])))
        have hS3 : LpS ub (.slice i.mo i.mn i.mc) m.pid (W3.setRow q3 #[.int .i8 f.k, .int .i64 f.n, .string f.s, .string f.u, .slice f.ao f.l.length f.cap]) := H3.out.see3 f
        refine planV_run rfl ?_ (fun K hK => ?_)
        focus (rfl)
        refine wp_store_row 25 (.tmp 3) (.tmp 18) rfl q3 #[.int .i8 f.k, .int .i64 f.n, .string f.s, .string f.u, .slice f.ao f.l.length f.cap] rfl rfl 25 zT (H3.out.h3 q3 rfl).2 (infoTM' _ rfl) rfl (by simp [Value.oneCell']) ?_
        refine hK.out _ _ (hS3) ?_
        clear hK K
        (try simp only [Act.put, List.setIfInBounds_toArray, List.set_cons_zero, List.set_cons_succ])
        have hS4 : LpS ub (.slice i.mo i.mn i.mc) m.pid ((W3.setRow q3 #[.int .i8 f.k, .int .i64 f.n, .string f.s, .string f.u, .slice f.ao f.l.length f.cap]).setRow q4 #[.int .i8 t.k, .int .i64 t.n, .string t.s, .string t.u, .slice t.ao t.l.length t.cap]) := H3.out.see4 f t
        have hz4 := H3.out.zero4 f
        refine planV_run rfl ?_ (fun K hK => ?_)
        focus (rfl)
        refine wp_store_row 25 (.tmp 4) (.tmp 19) rfl q4 #[.int .i8 t.k, .int .i64 t.n, .string t.s, .string t.u, .slice t.ao t.l.length t.cap] rfl rfl 25 zT hz4 (infoTM' _ rfl) rfl (by simp [Value.oneCell']) ?_
        refine hK.out _ _ (hS4) ?_
        clear hK K
        (try simp only [Act.put, List.setIfInBounds_toArray, List.set_cons_zero, List.set_cons_succ])
        refine planV_done ?_
        have HF := Lib.hid (H3.out.fin)
        clear hS1 hS3 hS4 hz4 H3
        go_wp2_with fail
        go_meet
        refine ⟨k, f, t, q3, q4, rfl, rfl, rfl, HF⟩
    · skip
      have hS2 := hS1.keep ((Below.refl W0.heap.size W0).alloc (Nat.le_refl _) (.cells zT 25))
      refine planV_run rfl ?_ (fun K hK => ?_)
      focus (rfl)
      go_simp
      refine hK.out _ _ (hS2) ?_
      clear hK K
      (try simp only [Act.put, List.setIfInBounds_toArray, List.set_cons_zero, List.set_cons_succ])
      have H1 := Lib.hid H0.out.box3
      clear H0 hS1
      have hS1 := hS2
      clear hS2
      generalize hWn : W0.alloc (.cells zT 25) = W1 at *
      clear hWn
      generalize W0.heap.size = q3 at *
      refine planV_fork ?_ ?_
      · skip
        have HN := Lib.hid (H1.out.call HM.out.1 HM.out.2.1 HM.out.2.2.1 HM.out.2.2.2.1 HM.out.2.2.2.2)
        clear H1
        refine planV_run rfl ?_ (fun K hK => ?_)
        focus (rfl)
        go_simp
        refine HN.out.mono ?_
        clear HN
        rintro e W2 ⟨k, f, t, rfl, hbV, hJ⟩
        have H2 := Lib.hid hJ
        have hS2 := hS1.keep hbV
        refine hK.out _ _ (hS2) ?_
        clear hK K
        (try simp only [Act.put, List.setIfInBounds_toArray, List.set_cons_zero, List.set_cons_succ])
        clear hS1 hbV hJ
        have hS1 := hS2
        clear hS2
        iterate 4 (first | (refine planV_skip rfl ?_ ?_; (focus (rfl)); (try simp only [Act.put, List.setIfInBounds_toArray, List.set_cons_zero, List.set_cons_succ])) | (refine planV_take (v := ?_) rfl ?_ (fun w hSw => ?_) ?_; rotate_left; (focus (rfl)); (focus (unfold LpS at hSw; (go_simp <;> with_reducible rfl))); (try simp only [Act.put, List.setIfInBounds_toArray, List.set_cons_zero, List.set_cons_succ])))
        have hS2 := hS1.keep ((Below.refl W2.heap.size W2).alloc (Nat.le_refl _) (.cells zT 25))
        refine planV_run rfl ?_ (fun K hK => ?_)
        focus (rfl)
        go_simp
        refine hK.out _ _ (hS2) ?_
        clear hK K
        (try simp only [Act.put, List.setIfInBounds_toArray, List.set_cons_zero, List.set_cons_succ])
        have H3 := Lib.hid H2.out.box4
        clear H2 hS1
        have hS1 := hS2
        clear hS2
        generalize hWn : W2.alloc (.cells zT 25) = W3 at *
        clear hWn
        generalize W2.heap.size = q4 at *
        iterate 1 (first | (refine planV_skip rfl ?_ ?_; (focus (rfl)); (try simp only [Act.put, List.setIfInBounds_toArray, List.set_cons_zero, List.set_cons_succ])) | (refine planV_take (v := ?_) rfl ?_ (fun w hSw => ?_) ?_; rotate_left; (focus (rfl)); (focus (unfold LpS at hSw; (go_simp <;> with_reducible rfl))); (try simp only [Act.put, List.setIfInBounds_toArray, List.set_cons_zero, List.set_cons_succ])))
        have hS3 : LpS ub (.slice i.mo i.mn i.mc) m.pid (W3.setRow q3 #[.int .i8 f.k, .int .i64 f.n, .string f.s, .string f.u, .slice f.ao f.l.length f.cap]) := H3.out.see3 f
        refine planV_run rfl ?_ (fun K hK => ?_)
        focus (rfl)
        refine wp_store_row 25 (.tmp 3) (.tmp 18) rfl q3 #[.int .i8 f.k, .int .i64 f.n, .string f.s, .string f.u, .slice f.ao f.l.length f.cap] rfl rfl 25 zT (H3.out.h3 q3 rfl).2 (infoTM' _ rfl) rfl (by simp [Value.oneCell']) ?_
        refine hK.out _ _ (hS3) ?_
        clear hK K
        (try simp only [Act.put, List.setIfInBounds_toArray, List.set_cons_zero, List.set_cons_succ])
        have hS4 : LpS ub (.slice i.mo i.mn i.mc) m.pid ((W3.setRow q3 #[.int .i8 f.k, .int .i64 f.n, .string f.s, .string f.u, .slice f.ao f.l.length f.cap]).setRow q4 #[.int .i8 t.k, .int .i64 t.n, .string t.s, .string t.u, .slice t.ao t.l.length t.cap]) := H3.out.see4 f t
        have hz4 := H3.out.zero4 f
        refine planV_run rfl ?_ (fun K hK => ?_)
        focus (rfl)
        refine wp_store_row 25 (.tmp 4) (.tmp 19) rfl q4 #[.int .i8 t.k, .int .i64 t.n, .string t.s, .string t.u, .slice t.ao t.l.length t.cap] rfl rfl 25 zT hz4 (infoTM' _ rfl) rfl (by simp [Value.oneCell']) ?_
        refine hK.out _ _ (hS4) ?_
        clear hK K
        (try simp only [Act.put, List.setIfInBounds_toArray, List.set_cons_zero, List.set_cons_succ])
        refine planV_done ?_
        have HF := Lib.hid (H3.out.fin)
        clear hS1 hS3 hS4 hz4 H3
        go_wp2_with fail
        go_meet
        refine ⟨k, f, t, q3, q4, rfl, rfl, rfl, HF⟩
      · skip
        have hS2 := hS1.keep ((Below.refl W1.heap.size W1).alloc (Nat.le_refl _) (.cells zT 25))
        refine planV_run rfl ?_ (fun K hK => ?_)
        focus (rfl)
        go_simp
        refine hK.out _ _ (hS2) ?_
        clear hK K
        (try simp only [Act.put, List.setIfInBounds_toArray, List.set_cons_zero, List.set_cons_succ])
        have H2 := Lib.hid H1.out.box4
        clear H1 hS1
        have hS1 := hS2
        clear hS2
        generalize hWn : W1.alloc (.cells zT 25) = W2 at *
        clear hWn
        generalize W1.heap.size = q4 at *
        have HN := Lib.hid (H2.out.call HM.out.1 HM.out.2.1 HM.out.2.2.1 HM.out.2.2.2.1 HM.out.2.2.2.2)
        clear H2
        refine planV_run rfl ?_ (fun K hK => ?_)
        focus (rfl)
        go_simp
        refine HN.out.mono ?_
        clear HN
        rintro e W3 ⟨k, f, t, rfl, hbV, hJ⟩
        have H3 := Lib.hid hJ
        have hS2 := hS1.keep hbV
        refine hK.out _ _ (hS2) ?_
        clear hK K
        (try simp only [Act.put, List.setIfInBounds_toArray, List.set_cons_zero, List.set_cons_succ])
        clear hS1 hbV hJ
        have hS1 := hS2
        clear hS2
        iterate 5 (first | (refine planV_skip rfl ?_ ?_; (focus (rfl)); (try simp only [Act.put, List.setIfInBounds_toArray, List.set_cons_zero, List.set_cons_succ])) | (refine planV_take (v := ?_) rfl ?_ (fun w hSw => ?_) ?_; rotate_left; (focus (rfl)); (focus (unfold LpS at hSw; (go_simp <;> with_reducible rfl))); (try simp only [Act.put, List.setIfInBounds_toArray, List.set_cons_zero, List.set_cons_succ])))
        have hS3 : LpS ub (.slice i.mo i.mn i.mc) m.pid (W3.setRow q3 #[.int .i8 f.k, .int .i64 f.n, .string f.s, .string f.u, .slice f.ao f.l.length f.cap]) := H3.out.see3 f
        refine planV_run rfl ?_ (fun K hK => ?_)
        focus (rfl)
        refine wp_store_row 25 (.tmp 3) (.tmp 18) rfl q3 #[.int .i8 f.k, .int .i64 f.n, .string f.s, .string f.u, .slice f.ao f.l.length f.cap] rfl rfl 25 zT (H3.out.h3 q3 rfl).2 (infoTM' _ rfl) rfl (by simp [Value.oneCell']) ?_
        refine hK.out _ _ (hS3) ?_
        clear hK K
        (try simp only [Act.put, List.setIfInBounds_toArray, List.set_cons_zero, List.set_cons_succ])
        have hS4 : LpS ub (.slice i.mo i.mn i.mc) m.pid ((W3.setRow q3 #[.int .i8 f.k, .int .i64 f.n, .string f.s, .string f.u, .slice f.ao f.l.length f.cap]).setRow q4 #[.int .i8 t.k, .int .i64 t.n, .string t.s, .string t.u, .slice t.ao t.l.length t.cap]) := H3.out.see4 f t
        have hz4 := H3.out.zero4 f
        refine planV_run rfl ?_ (fun K hK => ?_)
        focus (rfl)
        refine wp_store_row 25 (.tmp 4) (.tmp 19) rfl q4 #[.int .i8 t.k, .int .i64 t.n, .string t.s, .string t.u, .slice t.ao t.l.length t.cap] rfl rfl 25 zT hz4 (infoTM' _ rfl) rfl (by simp [Value.oneCell']) ?_
        refine hK.out _ _ (hS4) ?_
        clear hK K
        (try simp only [Act.put, List.setIfInBounds_toArray, List.set_cons_zero, List.set_cons_succ])
        refine planV_done ?_
        have HF := Lib.hid (H3.out.fin)
        clear hS1 hS3 hS4 hz4 H3
        go_wp2_with fail
        go_meet
        refine ⟨k, f, t, q3, q4, rfl, rfl, rfl, HF⟩
    · skip
      have hS2 := hS1.keep ((Below.refl W0.heap.size W0).alloc (Nat.le_refl _) (.cells zT 25))
      refine planV_run rfl ?_ (fun K hK => ?_)
      focus (rfl)
      go_simp
      refine hK.out _ _ (hS2) ?_
      clear hK K
      (try simp only [Act.put, List.setIfInBounds_toArray, List.set_cons_zero, List.set_cons_succ])
      have H1 := Lib.hid H0.out.box4
      clear H0 hS1
      have hS1 := hS2
      clear hS2
      generalize hWn : W0.alloc (.cells zT 25) = W1 at *
      clear hWn
      generalize W0.heap.size = q4 at *
      refine planV_fork ?_ ?_
      · skip
        have HN := Lib.hid (H1.out.call HM.out.1 HM.out.2.1 HM.out.2.2.1 HM.out.2.2.2.1 HM.out.2.2.2.2)
        clear H1
        refine planV_run rfl ?_ (fun K hK => ?_)
        focus (rfl)
        go_simp
        refine HN.out.mono ?_
        clear HN
        rintro e W2 ⟨k, f, t, rfl, hbV, hJ⟩
        have H2 := Lib.hid hJ
        have hS2 := hS1.keep hbV
        refine hK.out _ _ (hS2) ?_
        clear hK K
        (try simp only [Act.put, List.setIfInBounds_toArray, List.set_cons_zero, List.set_cons_succ])
        clear hS1 hbV hJ
        have hS1 := hS2
        clear hS2
        iterate 4 (first | (refine planV_skip rfl ?_ ?_; (focus (rfl)); (try simp only [Act.put, List.setIfInBounds_toArray, List.set_cons_zero, List.set_cons_succ])) | (refine planV_take (v := ?_) rfl ?_ (fun w hSw => ?_) ?_; rotate_left; (focus (rfl)); (focus (unfold LpS at hSw; (go_simp <;> with_reducible rfl))); (try simp only [Act.put, List.setIfInBounds_toArray, List.set_cons_zero, List.set_cons_succ])))
        have hS2 := hS1.keep ((Below.refl W2.heap.size W2).alloc (Nat.le_refl _) (.cells zT 25))
        refine planV_run rfl ?_ (fun K hK => ?_)
        focus (rfl)
        go_simp
        refine hK.out _ _ (hS2) ?_
        clear hK K
        (try simp only [Act.put, List.setIfInBounds_toArray, List.set_cons_zero, List.set_cons_succ])
        have H3 := Lib.hid H2.out.box3
        clear H2 hS1
        have hS1 := hS2
        clear hS2
        generalize hWn : W2.alloc (.cells zT 25) = W3 at *
        clear hWn
        generalize W2.heap.size = q3 at *
        iterate 1 (first | (refine planV_skip rfl ?_ ?_; (focus (rfl)); (try simp only [Act.put, List.setIfInBounds_toArray, List.set_cons_zero, List.set_cons_succ])) | (refine planV_take (v := ?_) rfl ?_ (fun w hSw => ?_) ?_; rotate_left; (focus (rfl)); (focus (unfold LpS at hSw; (go_simp <;> with_reducible rfl))); (try simp only [Act.put, List.setIfInBounds_toArray, List.set_cons_zero, List.set_cons_succ])))
        have hS3 : LpS ub (.slice i.mo i.mn i.mc) m.pid (W3.setRow q3 #[.int .i8 f.k, .int .i64 f.n, .string f.s, .string f.u, .slice f.ao f.l.length f.cap]) := H3.out.see3 f
        refine planV_run rfl ?_ (fun K hK => ?_)
        focus (rfl)
        refine wp_store_row 25 (.tmp 3) (.tmp 18) rfl q3 #[.int .i8 f.k, .int .i64 f.n, .string f.s, .string f.u, .slice f.ao f.l.length f.cap] rfl rfl 25 zT (H3.out.h3 q3 rfl).2 (infoTM' _ rfl) rfl (by simp [Value.oneCell']) ?_
        refine hK.out _ _ (hS3) ?_
        clear hK K
        (try simp only [Act.put, List.setIfInBounds_toArray, List.set_cons_zero, List.set_cons_succ])
        have hS4 : LpS ub (.slice i.mo i.mn i.mc) m.pid ((W3.setRow q3 #[.int .i8 f.k, .int .i64 f.n, .string f.s, .string f.u, .slice f.ao f.l.length f.cap]).setRow q4 #[.int .i8 t.k, .int .i64 t.n, .string t.s, .string t.u, .slice t.ao t.l.length t.cap]) := H3.out.see4 f t
        have hz4 := H3.out.zero4 f
        refine planV_run rfl ?_ (fun K hK => ?_)
        focus (rfl)
        refine wp_store_row 25 (.tmp 4) (.tmp 19) rfl q4 #[.int .i8 t.k, .int .i64 t.n, .string t.s, .string t.u, .slice t.ao t.l.length t.cap] rfl rfl 25 zT hz4 (infoTM' _ rfl) rfl (by simp [Value.oneCell']) ?_
        refine hK.out _ _ (hS4) ?_
        clear hK K
        (try simp only [Act.put, List.setIfInBounds_toArray, List.set_cons_zero, List.set_cons_succ])
        refine planV_done ?_
        have HF := Lib.hid (H3.out.fin)
        clear hS1 hS3 hS4 hz4 H3
        go_wp2_with fail
        go_meet
        refine ⟨k, f, t, q3, q4, rfl, rfl, rfl, HF⟩
      · skip
        have hS2 := hS1.keep ((Below.refl W1.heap.size W1).alloc (Nat.le_refl _) (.cells zT 25))
        refine planV_run rfl ?_ (fun K hK => ?_)
        focus (rfl)
        go_simp
        refine hK.out _ _ (hS2) ?_
        clear hK K
        (try simp only [Act.put, List.setIfInBounds_toArray, List.set_cons_zero, List.set_cons_succ])
        have H2 := Lib.hid H1.out.box3
        clear H1 hS1
        have hS1 := hS2
        clear hS2
        generalize hWn : W1.alloc (.cells zT 25) = W2 at *
        clear hWn
        generalize W1.heap.size = q3 at *
        have HN := Lib.hid (H2.out.call HM.out.1 HM.out.2.1 HM.out.2.2.1 HM.out.2.2.2.1 HM.out.2.2.2.2)
        clear H2
        refine planV_run rfl ?_ (fun K hK => ?_)
        focus (rfl)
        go_simp
        refine HN.out.mono ?_
        clear HN
        rintro e W3 ⟨k, f, t, rfl, hbV, hJ⟩
        have H3 := Lib.hid hJ
        have hS2 := hS1.keep hbV
        refine hK.out _ _ (hS2) ?_
        clear hK K
        (try simp only [Act.put, List.setIfInBounds_toArray, List.set_cons_zero, List.set_cons_succ])
        clear hS1 hbV hJ
        have hS1 := hS2
        clear hS2
        iterate 5 (first | (refine planV_skip rfl ?_ ?_; (focus (rfl)); (try simp only [Act.put, List.setIfInBounds_toArray, List.set_cons_zero, List.set_cons_succ])) | (refine planV_take (v := ?_) rfl ?_ (fun w hSw => ?_) ?_; rotate_left; (focus (rfl)); (focus (unfold LpS at hSw; (go_simp <;> with_reducible rfl))); (try simp only [Act.put, List.setIfInBounds_toArray, List.set_cons_zero, List.set_cons_succ])))
        have hS3 : LpS ub (.slice i.mo i.mn i.mc) m.pid (W3.setRow q3 #[.int .i8 f.k, .int .i64 f.n, .string f.s, .string f.u, .slice f.ao f.l.length f.cap]) := H3.out.see3 f
        refine planV_run rfl ?_ (fun K hK => ?_)
        focus (rfl)
        refine wp_store_row 25 (.tmp 3) (.tmp 18) rfl q3 #[.int .i8 f.k, .int .i64 f.n, .string f.s, .string f.u, .slice f.ao f.l.length f.cap] rfl rfl 25 zT (H3.out.h3 q3 rfl).2 (infoTM' _ rfl) rfl (by simp [Value.oneCell']) ?_
        refine hK.out _ _ (hS3) ?_
        clear hK K
        (try simp only [Act.put, List.setIfInBounds_toArray, List.set_cons_zero, List.set_cons_succ])
        have hS4 : LpS ub (.slice i.mo i.mn i.mc) m.pid ((W3.setRow q3 #[.int .i8 f.k, .int .i64 f.n, .string f.s, .string f.u, .slice f.ao f.l.length f.cap]).setRow q4 #[.int .i8 t.k, .int .i64 t.n, .string t.s, .string t.u, .slice t.ao t.l.length t.cap]) := H3.out.see4 f t
        have hz4 := H3.out.zero4 f
        refine planV_run rfl ?_ (fun K hK => ?_)
        focus (rfl)
        refine wp_store_row 25 (.tmp 4) (.tmp 19) rfl q4 #[.int .i8 t.k, .int .i64 t.n, .string t.s, .string t.u, .slice t.ao t.l.length t.cap] rfl rfl 25 zT hz4 (infoTM' _ rfl) rfl (by simp [Value.oneCell']) ?_
        refine hK.out _ _ (hS4) ?_
        clear hK K
        (try simp only [Act.put, List.setIfInBounds_toArray, List.set_cons_zero, List.set_cons_succ])
        refine planV_done ?_
        have HF := Lib.hid (H3.out.fin)
        clear hS1 hS3 hS4 hz4 H3
        go_wp2_with fail
        go_meet
        refine ⟨k, f, t, q3, q4, rfl, rfl, rfl, HF⟩
  case rest =>
    obtain ⟨k, f, t, q3, q4, rfl, rfl, rfl, HI⟩ := hcut
    have HG := Lib.hid (HI.out.toG HM.out.1)
    have HN := Lib.hid HI.out.hN
    clear HI
    cases L with
    | nil =>
      obtain ⟨rfl, rfl, rfl⟩ := HN.out
      clear HN
      go_wp2_with fail
      have hdr : Below wc.heap.size wc wc.drew := (Below.refl _ _).drew
      have hG := HG.out.keep hdr
      have hS : DuS ub i.now m.dl wc.drew := ⟨hG.hu.cell (i := 27) rfl, hG.hu.cell (i := 3) rfl⟩
      refine region_plan (DuS ub i.now m.dl) [(0, 0), (1, 0), (2, 0), (3, 0), (4, 0), (5, 0), (6, 0), (7, 0), (8, 0), (9, 0), (10, 1), (11, 0)] (by kernel_rfl) (by kernel_rfl) (by kernel_rfl) hS ?_
      generalize wc.drew = WD at *
      clear hdr HG
      iterate 10 (first | (refine plan_skip rfl ?_ ?_; (focus (rfl)); (try simp only [Act.put, List.setIfInBounds_toArray, List.set_cons_zero, List.set_cons_succ])) | (refine plan_take (v := ?_) rfl ?_ (fun w hSw => ?_) ?_; rotate_left; (focus (rfl)); (focus (unfold DuS at hSw; (go_simp <;> with_reducible rfl))); (try simp only [Act.put, List.setIfInBounds_toArray, List.set_cons_zero, List.set_cons_succ])))
      refine plan_run rfl ?_ (fun K hK => ?_)
      focus (rfl)
      go_simp
      refine (due_any i.now m.dl WD).mono ?_
      rintro e W1 ⟨rfl, rfl⟩
      have hS1 := hS
      refine hK.out _ _ hS1 ?_
      clear hK K 
      (try simp only [Act.put, List.setIfInBounds_toArray, List.set_cons_zero, List.set_cons_succ])
      iterate 1 (first | (refine plan_skip rfl ?_ ?_; (focus (rfl)); (try simp only [Act.put, List.setIfInBounds_toArray, List.set_cons_zero, List.set_cons_succ])) | (refine plan_take (v := ?_) rfl ?_ (fun w hSw => ?_) ?_; rotate_left; (focus (rfl)); (focus (unfold DuS at hSw; (go_simp <;> with_reducible rfl))); (try simp only [Act.put, List.setIfInBounds_toArray, List.set_cons_zero, List.set_cons_succ])))
      refine plan_done ?_
      have HG := Lib.hid hG
      clear hS hG hS1
      cases hd : dueB i.now m.dl
      · go_wp2_with fail
        have HC := Lib.hid (effect_any WD ub _ ev E idleE HG.out.hu (by omega))
        refine HC.out.mono ?_
        clear HC
        rintro e W1 ⟨⟨v, rfl⟩, ev1, hu1, hc1, hb1⟩
        have HF := Lib.hid (HG.out.step hu1 hc1 hb1)
        clear hu1 hc1 hb1
        go_wp2_with fail
        go_end0
        refine ⟨⟨_, rfl⟩, ev1, m, [idleE], ?_, ?_, ?_, ?_⟩
        · exact HF.out.hu
        · exact HF.out.hc
        · exact HF.out.hn
        · exact .inl ⟨rfl, rfl, rfl⟩
      · have c3 := HG.out.hu.cell (i := 3) (v := .int .i64 m.dl) rfl
        have f3 := HG.out.hu.frozen (i := 3) (v := .int .i64 m.dl) rfl
        have HS := Lib.hid (HG.out.set (m' := { m with dl := -2 }) (o := 3) (vs := [.int .i64 (-2)]) (by simp) rfl)
        change Hid (LpG w (WD.setCell ⟨ub, 3, none⟩ (.int .i64 (-2))) M ub { m with dl := -2 } i ev ev E q3 q4 (numT 0 0) (numT 0 0)) at HS
        go_wp2_with fail
        generalize WD.setCell ⟨ub, 3, none⟩ (.int .i64 (-2)) = W1 at *
        clear c3 f3 HG
        refine (satom_x W1 _).mono ?_
        rintro e W2 ⟨rfl, hb2⟩
        have HG2 := Lib.hid (HS.out.keep hb2)
        have HP := Lib.hid (HG2.out.put4 (y := atomT timS) (atomT_ok _ _ _ (by decide)) (numT_ok _ _ _ _ (by omega) (by omega)))
        change Hid (LpG w (W2.setRow q4 #[.int .i8 1, .int .i64 0, .string ⟨#[116, 105, 109, 101, 111, 117, 116]⟩, .string ⟨#[]⟩, .slice none 0 0]) M ub { m with dl := -2 } i ev ev E q3 q4 (numT 0 0) (atomT timS)) at HP
        clear hb2 HS
        go_wp2_with (with_reducible refine stop_op (o := ⟨_, .store 25 (.tmp 4) (.tmp 88), _, _, _, _⟩) ?_)
        refine Lib.hid ?_
        refine wpList_store_row (o := ⟨none, _, _, _, _, _⟩) rfl 25 (.tmp 4) (.tmp 88) rfl q4 #[.int .i8 1, .int .i64 0, .string ⟨#[116, 105, 109, 101, 111, 117, 116]⟩, .string ⟨#[]⟩, .slice none 0 0] rfl rfl 25 zT HG2.out.h4 (infoTM' _ rfl) rfl (by simp [Value.oneCell']) ?_
        clear HG2
        generalize W2.setRow q4 #[.int .i8 1, .int .i64 0, .string ⟨#[116, 105, 109, 101, 111, 117, 116]⟩, .string ⟨#[]⟩, .slice none 0 0] = W4 at *
        generalize atomT timS = t at *
        generalize numT 0 0 = f at *
        go_wp2_with fail
        have hdr : Below W4.heap.size W4 W4.drew := (Below.refl _ _).drew
        have hG := HP.out.keep hdr
        have hS : CbS ub q3 q4 f t m.V W4.drew := hG.see rfl
        refine region_plan (CbS ub q3 q4 f t m.V) [(0, 0), (1, 0), (2, 0), (3, 0), (4, 0), (5, 0), (6, 0), (7, 1), (8, 1)] (by kernel_rfl) (by kernel_rfl) (by kernel_rfl) hS ?_
        generalize W4.drew = WD at *
        clear hdr HP
        iterate 7 (first | (refine plan_skip rfl ?_ ?_; (focus (rfl)); (try simp only [Act.put, List.setIfInBounds_toArray, List.set_cons_zero, List.set_cons_succ])) | (refine plan_take (v := ?_) rfl ?_ (fun w hSw => ?_) ?_; rotate_left; (focus (rfl)); (focus (unfold CbS at hSw; (go_simp <;> with_reducible rfl))); (try simp only [Act.put, List.setIfInBounds_toArray, List.set_cons_zero, List.set_cons_succ])))
        have hb2 := (Below.refl WD.heap.size WD).alloc (Nat.le_refl _) (.cells #[.int .i8 t.k, .int .i64 t.n, .string t.s, .string t.u, .slice t.ao t.l.length t.cap, .int .i8 m.V.k, .int .i64 m.V.n, .string m.V.s, .string m.V.u, .slice m.V.ao m.V.l.length m.V.cap] 25)
        have hG2 := hG.keep hb2
        have hS2 : CbS ub q3 q4 f t m.V _ := hG2.see rfl
        refine plan_run rfl ?_ (fun K hK => ?_)
        focus (rfl)
        go_simp
        refine hK.out _ _ (hS2) ?_
        clear hK K
        (try simp only [Act.put, List.setIfInBounds_toArray, List.set_cons_zero, List.set_cons_succ])
        have HN := Lib.hid (heap_new WD (.cells #[.int .i8 t.k, .int .i64 t.n, .string t.s, .string t.u, .slice t.ao t.l.length t.cap, .int .i8 m.V.k, .int .i64 m.V.n, .string m.V.s, .string m.V.u, .slice m.V.ao m.V.l.length m.V.cap] 25))
        have HC := Lib.hid (hG2.back HR.out.1 HR.out.2 (by first | omega | (simp; omega)) hinS 4 (some ⟨WD.heap.size, 0, none⟩) 2 2)
        have HQ := Lib.hid (And.intro hG.hc.size (And.intro hG.new hG2))
        clear hS hS2 hb2 hG hG2
        generalize WD.alloc (.cells #[.int .i8 t.k, .int .i64 t.n, .string t.s, .string t.u, .slice t.ao t.l.length t.cap, .int .i8 m.V.k, .int .i64 m.V.n, .string m.V.s, .string m.V.u, .slice m.V.ao m.V.l.length m.V.cap] 25) = W2 at *
        generalize WD.heap.size = g at *
        refine plan_run rfl ?_ (fun K hK => ?_)
        focus (rfl)
        go_simp
        refine HC.out.mono ?_
        clear HC
        rintro e W3 ⟨⟨v, rfl⟩, ev3, hu3, hc3, hb3⟩
        have hrow : W3.heap[g]? = some (.cells #[.int .i8 t.k, .int .i64 t.n, .string t.s, .string t.u, .slice t.ao t.l.length t.cap, .int .i8 m.V.k, .int .i64 m.V.n, .string m.V.s, .string m.V.u, .slice m.V.ao m.V.l.length m.V.cap] 25 (0, 0)) := hc3.heap HN.out HQ.out.2.1
        have hG3 := HQ.out.2.2.step hu3 hc3 hb3
        have hS3 : CbS ub q3 q4 f t m.V W3 := hG3.see rfl
        refine hK.out _ _ (hS3) ?_
        clear hK K
        (try simp only [Act.put, List.setIfInBounds_toArray, List.set_cons_zero, List.set_cons_succ])
        refine plan_done ?_
        have HF := Lib.hid (And.intro hG3 (And.intro HQ.out.1 hrow))
        clear hS3 hG3 hu3 hc3 hb3 hrow HQ HN
        go_wp2_with fail
        go_end0
        refine ⟨⟨_, rfl⟩, ev3, { m with dl := -2, ph := 4 }, [callE c hinS (some ⟨g, 0, none⟩) 2 2], ?_, ?_, ?_, ?_⟩
        · exact HF.out.1.hu
        · exact HF.out.1.hc
        · exact HF.out.1.hn
        · exact .inr (.inl ⟨rfl, rfl, _, rfl, g, [t], rfl, HF.out.2.1, HF.out.2.2, rfl⟩)
    | cons it L' =>
      have HK : Hid (k = 1 ∨ k = 2 ∨ k = 3 ∨ k = 4) := Lib.hid (by
        rcases HN.out with h | h | h | h
        · exact .inl h.2.1
        · exact .inr (.inl h.2.choose_spec.choose_spec.choose_spec.2.1)
        · exact .inr (.inr (.inl h.2.2.2.1))
        · exact .inr (.inr (.inr h.2.2.2.1)))
      have HN2 : Hid (k = 2 → (callP it.x.t).isSome = true) := Lib.hid (fun hk => by
        rcases HN.out with h | h | h | h
        · have := h.2.1
          omega
        · obtain ⟨-, p, r, q, h1, -⟩ := h
          rw [h1]
          rfl
        · have := h.2.2.2.1
          omega
        · have := h.2.2.2.1
          omega)
      have HN1 : Hid (k = 1 → parB it m.pid = true) := Lib.hid (fun hk => by
        rcases HN.out with h | h | h | h
        · exact h.1
        · have := h.2.choose_spec.choose_spec.choose_spec.2.1
          omega
        · have := h.2.2.2.1
          omega
        · have := h.2.2.2.1
          omega)
      have HN4 : Hid (k = 4 → isB it.x.t gcaS 2 = false) := Lib.hid (fun hk => by
        rcases HN.out with h | h | h | h
        · have := h.2.1
          omega
        · have := h.2.choose_spec.choose_spec.choose_spec.2.1
          omega
        · have := h.2.2.2.1
          omega
        · exact h.2.2.1)
      have q0 : (k != 0) = true := by
        have := HK.out
        simp
        omega
      clear HN
      go_wp2_with fail
      have HC := Lib.hid (effect_any wc ub _ ev E takeE HG.out.hu (by omega))
      refine HC.out.mono ?_
      clear HC q0
      rintro e W1 ⟨⟨v, rfl⟩, ev1, hu1, hc1, hb1⟩
      have HG1 := Lib.hid (HG.out.step hu1 hc1 hb1)
      clear hu1 hc1 hb1 HG
      rcases HK.out with rfl | rfl | rfl | rfl
      · clear HK HN2 HN4
        obtain ⟨b0, b1, b2, b3, b4⟩ := BxS.of HG1.out.h4
        go_wp2_with (with_reducible refine stop_op (o := ⟨_, .store 25 (.tmp 41) (.tmp 38), _, _, _, _⟩) ?_)
        refine Lib.hid ?_
        refine wpList_store_mid (op := ⟨none, _, _, _, _, _⟩) rfl 25 (.tmp 41) (.tmp 38) rfl ub 10 #[.int .i8 t.k, .int .i64 t.n, .string t.s, .string t.u, .slice t.ao t.l.length t.cap] rfl rfl (HG1.out.hu.there (by simp)) (infoTM' _ rfl) (by simp [Value.oneCell']) ?_
        have HS := Lib.hid (HG1.out.set (m' := { m with U := t }) (o := 10) (vs := [.int .i8 t.k, .int .i64 t.n, .string t.s, .string t.u, .slice t.ao t.l.length t.cap]) (by simp) (setU m i t))
        change Hid (LpG w (W1.setCells ub 10 #[.int .i8 t.k, .int .i64 t.n, .string t.s, .string t.u, .slice t.ao t.l.length t.cap].toList) M ub { m with U := t } i ev ev1 (E ++ [takeE]) q3 q4 f t) at HS
        clear b0 b1 b2 b3 b4 HG1
        generalize W1.setCells ub 10 #[.int .i8 t.k, .int .i64 t.n, .string t.s, .string t.u, .slice t.ao t.l.length t.cap].toList = W2 at *
        have c0 := HS.out.hu.cell (i := 0) (v := .int .i8 m.ph) rfl
        have f0 := HS.out.hu.frozen (i := 0) (v := .int .i8 m.ph) rfl
        have HF := Lib.hid (HS.out.set (m' := { m with U := t, ph := 5 }) (o := 0) (vs := [.int .i8 5]) (by simp) rfl)
        change Hid (LpG w (W2.setCell ⟨ub, 0, none⟩ (.int .i8 5)) M ub { m with U := t, ph := 5 } i ev ev1 (E ++ [takeE]) q3 q4 f t) at HF
        clear HS
        go_wp2_with fail
        go_end0
        refine ⟨⟨_, rfl⟩, ev1, { m with U := t, ph := 5 }, [takeE], ?_, ?_, ?_, ?_⟩
        · exact HF.out.hu
        · exact HF.out.hc
        · exact HF.out.hn
        · exact .inr (.inr (.inl ⟨it, L', rfl, HN1.out (by trivial), t, rfl, rfl, HF.out.ht⟩))
      · clear HK HN1 HN4
        obtain ⟨b0, b1, b2, b3, b4⟩ := BxS.of HG1.out.h3
        go_wp2_with (with_reducible refine stop_op (o := ⟨_, .store 25 (.tmp 49) (.tmp 46), _, _, _, _⟩) ?_)
        refine Lib.hid ?_
        refine wpList_store_mid (op := ⟨none, _, _, _, _, _⟩) rfl 25 (.tmp 49) (.tmp 46) rfl ub 5 #[.int .i8 f.k, .int .i64 f.n, .string f.s, .string f.u, .slice f.ao f.l.length f.cap] rfl rfl (HG1.out.hu.there (by simp)) (infoTM' _ rfl) (by simp [Value.oneCell']) ?_
        have HS := Lib.hid (HG1.out.set (m' := { m with T := f }) (o := 5) (vs := [.int .i8 f.k, .int .i64 f.n, .string f.s, .string f.u, .slice f.ao f.l.length f.cap]) (by simp) (setT m i f))
        change Hid (LpG w (W1.setCells ub 5 #[.int .i8 f.k, .int .i64 f.n, .string f.s, .string f.u, .slice f.ao f.l.length f.cap].toList) M ub { m with T := f } i ev ev1 (E ++ [takeE]) q3 q4 f t) at HS
        clear b0 b1 b2 b3 b4 HG1
        generalize W1.setCells ub 5 #[.int .i8 f.k, .int .i64 f.n, .string f.s, .string f.u, .slice f.ao f.l.length f.cap].toList = W4 at *
        go_wp2_with fail
        have hdr : Below W4.heap.size W4 W4.drew := (Below.refl _ _).drew
        have hG := HS.out.keep hdr
        have hS : CbS ub q3 q4 f t m.V W4.drew := hG.see rfl
        refine region_plan (CbS ub q3 q4 f t m.V) [(0, 0), (1, 0), (2, 0), (3, 0), (4, 0), (5, 0), (6, 0), (7, 0), (8, 1), (9, 1)] (by kernel_rfl) (by kernel_rfl) (by kernel_rfl) hS ?_
        generalize W4.drew = WD at *
        clear hdr HS
        iterate 8 (first | (refine plan_skip rfl ?_ ?_; (focus (rfl)); (try simp only [Act.put, List.setIfInBounds_toArray, List.set_cons_zero, List.set_cons_succ])) | (refine plan_take (v := ?_) rfl ?_ (fun w hSw => ?_) ?_; rotate_left; (focus (rfl)); (focus (unfold CbS at hSw; (go_simp <;> with_reducible rfl))); (try simp only [Act.put, List.setIfInBounds_toArray, List.set_cons_zero, List.set_cons_succ])))
        have hb2 := (Below.refl WD.heap.size WD).alloc (Nat.le_refl _) (.cells #[.int .i8 t.k, .int .i64 t.n, .string t.s, .string t.u, .slice t.ao t.l.length t.cap, .int .i8 f.k, .int .i64 f.n, .string f.s, .string f.u, .slice f.ao f.l.length f.cap, .int .i8 m.V.k, .int .i64 m.V.n, .string m.V.s, .string m.V.u, .slice m.V.ao m.V.l.length m.V.cap] 25)
        have hG2 := hG.keep hb2
        have hS2 : CbS ub q3 q4 f t m.V _ := hG2.see rfl
        refine plan_run rfl ?_ (fun K hK => ?_)
        focus (rfl)
        go_simp
        refine hK.out _ _ (hS2) ?_
        clear hK K
        (try simp only [Act.put, List.setIfInBounds_toArray, List.set_cons_zero, List.set_cons_succ])
        have HN := Lib.hid (heap_new WD (.cells #[.int .i8 t.k, .int .i64 t.n, .string t.s, .string t.u, .slice t.ao t.l.length t.cap, .int .i8 f.k, .int .i64 f.n, .string f.s, .string f.u, .slice f.ao f.l.length f.cap, .int .i8 m.V.k, .int .i64 m.V.n, .string m.V.s, .string m.V.u, .slice m.V.ao m.V.l.length m.V.cap] 25))
        have HC := Lib.hid (hG2.back HR.out.1 HR.out.2 (by first | omega | (simp; omega)) hcaS 3 (some ⟨WD.heap.size, 0, none⟩) 3 3)
        have HQ := Lib.hid (And.intro hG.hc.size (And.intro hG.new hG2))
        clear hS hS2 hb2 hG hG2
        generalize WD.alloc (.cells #[.int .i8 t.k, .int .i64 t.n, .string t.s, .string t.u, .slice t.ao t.l.length t.cap, .int .i8 f.k, .int .i64 f.n, .string f.s, .string f.u, .slice f.ao f.l.length f.cap, .int .i8 m.V.k, .int .i64 m.V.n, .string m.V.s, .string m.V.u, .slice m.V.ao m.V.l.length m.V.cap] 25) = W2 at *
        generalize WD.heap.size = g at *
        refine plan_run rfl ?_ (fun K hK => ?_)
        focus (rfl)
        go_simp
        refine HC.out.mono ?_
        clear HC
        rintro e W3 ⟨⟨v, rfl⟩, ev3, hu3, hc3, hb3⟩
        have hrow : W3.heap[g]? = some (.cells #[.int .i8 t.k, .int .i64 t.n, .string t.s, .string t.u, .slice t.ao t.l.length t.cap, .int .i8 f.k, .int .i64 f.n, .string f.s, .string f.u, .slice f.ao f.l.length f.cap, .int .i8 m.V.k, .int .i64 m.V.n, .string m.V.s, .string m.V.u, .slice m.V.ao m.V.l.length m.V.cap] 25 (0, 0)) := hc3.heap HN.out HQ.out.2.1
        have hG3 := HQ.out.2.2.step hu3 hc3 hb3
        have hS3 : CbS ub q3 q4 f t m.V W3 := hG3.see rfl
        refine hK.out _ _ (hS3) ?_
        clear hK K
        (try simp only [Act.put, List.setIfInBounds_toArray, List.set_cons_zero, List.set_cons_succ])
        refine plan_done ?_
        have HF := Lib.hid (And.intro hG3 (And.intro HQ.out.1 hrow))
        clear hS3 hG3 hu3 hc3 hb3 hrow HQ HN
        go_wp2_with fail
        go_end0
        refine ⟨⟨_, rfl⟩, ev3, { m with T := f, ph := 3 }, [takeE, callE c hcaS (some ⟨g, 0, none⟩) 3 3], ?_, ?_, ?_, ?_⟩
        · have := HF.out.1.hu
          rw [List.append_assoc] at this
          exact this
        · exact HF.out.1.hc
        · exact HF.out.1.hn
        · exact .inr (.inr (.inr (.inl ⟨it, L', f, _, rfl, HN2.out (by trivial), rfl, rfl, ⟨g, [t, f], rfl, HF.out.2.1, HF.out.2.2, rfl⟩, HF.out.1.hf⟩)))
      · clear HK HN1 HN2 HN4
        go_wp2_with fail
        have hdr : Below W1.heap.size W1 W1.drew := (Below.refl _ _).drew
        have hG := HG1.out.keep hdr
        have hS : CbS ub q3 q4 f t m.V W1.drew := hG.see rfl
        refine region_plan (CbS ub q3 q4 f t m.V) [(0, 0), (1, 0), (2, 0), (3, 0), (4, 0), (5, 0), (6, 0), (7, 1), (8, 1)] (by kernel_rfl) (by kernel_rfl) (by kernel_rfl) hS ?_
        generalize W1.drew = WD at *
        clear hdr HG1
        iterate 7 (first | (refine plan_skip rfl ?_ ?_; (focus (rfl)); (try simp only [Act.put, List.setIfInBounds_toArray, List.set_cons_zero, List.set_cons_succ])) | (refine plan_take (v := ?_) rfl ?_ (fun w hSw => ?_) ?_; rotate_left; (focus (rfl)); (focus (unfold CbS at hSw; (go_simp <;> with_reducible rfl))); (try simp only [Act.put, List.setIfInBounds_toArray, List.set_cons_zero, List.set_cons_succ])))
        have hb2 := (Below.refl WD.heap.size WD).alloc (Nat.le_refl _) (.cells #[.int .i8 t.k, .int .i64 t.n, .string t.s, .string t.u, .slice t.ao t.l.length t.cap, .int .i8 m.V.k, .int .i64 m.V.n, .string m.V.s, .string m.V.u, .slice m.V.ao m.V.l.length m.V.cap] 25)
        have hG2 := hG.keep hb2
        have hS2 : CbS ub q3 q4 f t m.V _ := hG2.see rfl
        refine plan_run rfl ?_ (fun K hK => ?_)
        focus (rfl)
        go_simp
        refine hK.out _ _ (hS2) ?_
        clear hK K
        (try simp only [Act.put, List.setIfInBounds_toArray, List.set_cons_zero, List.set_cons_succ])
        have HN := Lib.hid (heap_new WD (.cells #[.int .i8 t.k, .int .i64 t.n, .string t.s, .string t.u, .slice t.ao t.l.length t.cap, .int .i8 m.V.k, .int .i64 m.V.n, .string m.V.s, .string m.V.u, .slice m.V.ao m.V.l.length m.V.cap] 25))
        have HC := Lib.hid (hG2.back HR.out.1 HR.out.2 (by first | omega | (simp; omega)) hcsS 4 (some ⟨WD.heap.size, 0, none⟩) 2 2)
        have HQ := Lib.hid (And.intro hG.hc.size (And.intro hG.new hG2))
        clear hS hS2 hb2 hG hG2
        generalize WD.alloc (.cells #[.int .i8 t.k, .int .i64 t.n, .string t.s, .string t.u, .slice t.ao t.l.length t.cap, .int .i8 m.V.k, .int .i64 m.V.n, .string m.V.s, .string m.V.u, .slice m.V.ao m.V.l.length m.V.cap] 25) = W2 at *
        generalize WD.heap.size = g at *
        refine plan_run rfl ?_ (fun K hK => ?_)
        focus (rfl)
        go_simp
        refine HC.out.mono ?_
        clear HC
        rintro e W3 ⟨⟨v, rfl⟩, ev3, hu3, hc3, hb3⟩
        have hrow : W3.heap[g]? = some (.cells #[.int .i8 t.k, .int .i64 t.n, .string t.s, .string t.u, .slice t.ao t.l.length t.cap, .int .i8 m.V.k, .int .i64 m.V.n, .string m.V.s, .string m.V.u, .slice m.V.ao m.V.l.length m.V.cap] 25 (0, 0)) := hc3.heap HN.out HQ.out.2.1
        have hG3 := HQ.out.2.2.step hu3 hc3 hb3
        have hS3 : CbS ub q3 q4 f t m.V W3 := hG3.see rfl
        refine hK.out _ _ (hS3) ?_
        clear hK K
        (try simp only [Act.put, List.setIfInBounds_toArray, List.set_cons_zero, List.set_cons_succ])
        refine plan_done ?_
        have HF := Lib.hid (And.intro hG3 (And.intro HQ.out.1 hrow))
        clear hS3 hG3 hu3 hc3 hb3 hrow HQ HN
        go_wp2_with fail
        go_end0
        refine ⟨⟨_, rfl⟩, ev3, { m with ph := 4 }, [takeE, callE c hcsS (some ⟨g, 0, none⟩) 2 2], ?_, ?_, ?_, ?_⟩
        · have := HF.out.1.hu
          rw [List.append_assoc] at this
          exact this
        · exact HF.out.1.hc
        · exact HF.out.1.hn
        · exact .inr (.inr (.inr (.inr ⟨it, L', hcsS, _, rfl, fun _ => rfl, rfl, rfl, g, [t], rfl, HF.out.2.1, HF.out.2.2, rfl⟩)))
      · clear HK HN1 HN2
        go_wp2_with fail
        have hdr : Below W1.heap.size W1 W1.drew := (Below.refl _ _).drew
        have hG := HG1.out.keep hdr
        have hS : CbS ub q3 q4 f t m.V W1.drew := hG.see rfl
        refine region_plan (CbS ub q3 q4 f t m.V) [(0, 0), (1, 0), (2, 0), (3, 0), (4, 0), (5, 0), (6, 0), (7, 1), (8, 1)] (by kernel_rfl) (by kernel_rfl) (by kernel_rfl) hS ?_
        generalize W1.drew = WD at *
        clear hdr HG1
        iterate 7 (first | (refine plan_skip rfl ?_ ?_; (focus (rfl)); (try simp only [Act.put, List.setIfInBounds_toArray, List.set_cons_zero, List.set_cons_succ])) | (refine plan_take (v := ?_) rfl ?_ (fun w hSw => ?_) ?_; rotate_left; (focus (rfl)); (focus (unfold CbS at hSw; (go_simp <;> with_reducible rfl))); (try simp only [Act.put, List.setIfInBounds_toArray, List.set_cons_zero, List.set_cons_succ])))
        have hb2 := (Below.refl WD.heap.size WD).alloc (Nat.le_refl _) (.cells #[.int .i8 t.k, .int .i64 t.n, .string t.s, .string t.u, .slice t.ao t.l.length t.cap, .int .i8 m.V.k, .int .i64 m.V.n, .string m.V.s, .string m.V.u, .slice m.V.ao m.V.l.length m.V.cap] 25)
        have hG2 := hG.keep hb2
        have hS2 : CbS ub q3 q4 f t m.V _ := hG2.see rfl
        refine plan_run rfl ?_ (fun K hK => ?_)
        focus (rfl)
        go_simp
        refine hK.out _ _ (hS2) ?_
        clear hK K
        (try simp only [Act.put, List.setIfInBounds_toArray, List.set_cons_zero, List.set_cons_succ])
        have HN := Lib.hid (heap_new WD (.cells #[.int .i8 t.k, .int .i64 t.n, .string t.s, .string t.u, .slice t.ao t.l.length t.cap, .int .i8 m.V.k, .int .i64 m.V.n, .string m.V.s, .string m.V.u, .slice m.V.ao m.V.l.length m.V.cap] 25))
        have HC := Lib.hid (hG2.back HR.out.1 HR.out.2 (by first | omega | (simp; omega)) hinS 4 (some ⟨WD.heap.size, 0, none⟩) 2 2)
        have HQ := Lib.hid (And.intro hG.hc.size (And.intro hG.new hG2))
        clear hS hS2 hb2 hG hG2
        generalize WD.alloc (.cells #[.int .i8 t.k, .int .i64 t.n, .string t.s, .string t.u, .slice t.ao t.l.length t.cap, .int .i8 m.V.k, .int .i64 m.V.n, .string m.V.s, .string m.V.u, .slice m.V.ao m.V.l.length m.V.cap] 25) = W2 at *
        generalize WD.heap.size = g at *
        refine plan_run rfl ?_ (fun K hK => ?_)
        focus (rfl)
        go_simp
        refine HC.out.mono ?_
        clear HC
        rintro e W3 ⟨⟨v, rfl⟩, ev3, hu3, hc3, hb3⟩
        have hrow : W3.heap[g]? = some (.cells #[.int .i8 t.k, .int .i64 t.n, .string t.s, .string t.u, .slice t.ao t.l.length t.cap, .int .i8 m.V.k, .int .i64 m.V.n, .string m.V.s, .string m.V.u, .slice m.V.ao m.V.l.length m.V.cap] 25 (0, 0)) := hc3.heap HN.out HQ.out.2.1
        have hG3 := HQ.out.2.2.step hu3 hc3 hb3
        have hS3 : CbS ub q3 q4 f t m.V W3 := hG3.see rfl
        refine hK.out _ _ (hS3) ?_
        clear hK K
        (try simp only [Act.put, List.setIfInBounds_toArray, List.set_cons_zero, List.set_cons_succ])
        refine plan_done ?_
        have HF := Lib.hid (And.intro hG3 (And.intro HQ.out.1 hrow))
        clear hS3 hG3 hu3 hc3 hb3 hrow HQ HN
        go_wp2_with fail
        go_end0
        refine ⟨⟨_, rfl⟩, ev3, { m with ph := 4 }, [takeE, callE c hinS (some ⟨g, 0, none⟩) 2 2], ?_, ?_, ?_, ?_⟩
        · have := HF.out.1.hu
          rw [List.append_assoc] at this
          exact this
        · exact HF.out.1.hc
        · exact HF.out.1.hn
        · exact .inr (.inr (.inr (.inr ⟨it, L', hinS, _, rfl, fun h => absurd (h.symm.trans (HN4.out (by trivial))) (by decide), rfl, rfl, g, [t], rfl, HF.out.2.1, HF.out.2.2, rfl⟩)))
end Go.Proofs.YthpmdeofdlcccaaGreatDoor
