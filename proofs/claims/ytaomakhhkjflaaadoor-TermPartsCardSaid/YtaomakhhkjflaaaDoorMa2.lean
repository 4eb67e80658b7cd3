/- term.Size. Conditions: the term reads. -/
/- term.Read of a term's text. Conditions: the table of letters reads as laid. -/
/- terms in memory: every block of a term that reads is there. No conditions. -/
import Derived.Test.YtaomakhhkjflaaaDoorTf
import Derived.Test.YtaomakhhkjflaaaDoorYn
import Derived.Test.YtaomakhhkjflaaaDoorMa1
namespace Go.Proofs.YtaomakhhkjflaaaDoor
open Go.ChangeShapes Go.WideShapes Go.ChangeAt Go.RowKit
set_option linter.unusedVariables false
mutual
def szT : Tm → Int → Int
  | .mk k n s u l, c => szL l (c + 1)
def szL : List Tm → Int → Int
  | [], c => c
  | t :: l, c => if 256 < c then c else szL l (szT t c)
end
mutual
theorem szT_le : ∀ (t : Tm) (c : Int), 0 ≤ c → c ≤ 256 → c ≤ szT t c ∧ szT t c ≤ 257
  | .mk k n s u l, c, h0, h => by
    rw [szT]
    have := szL_le l (c + 1) (by omega) (by omega)
    omega
theorem szL_le : ∀ (l : List Tm) (c : Int), 0 ≤ c → c ≤ 257 → c ≤ szL l c ∧ szL l c ≤ 257
  | [], c, h0, h => by rw [szL]; omega
  | t :: l, c, h0, h => by
    rw [szL]
    split
    · omega
    · have h1 := szT_le t c h0 (by omega)
      have h2 := szL_le l (szT t c) (by omega) h1.2
      omega
end
mutual
theorem szT_eq : ∀ (t : Tm) (c : Int), 0 ≤ c → c + nT t ≤ 256 → szT t c = c + nT t
  | .mk k n s u l, c, h0, h => by
    rw [szT]
    rw [nT] at h ⊢
    rw [szL_eq l (c + 1) (by omega) (by omega)]
    omega
theorem szL_eq : ∀ (l : List Tm) (c : Int), 0 ≤ c → c + nL l ≤ 256 → szL l c = c + nL l
  | [], c, h0, h => by rw [szL, nL]; omega
  | t :: l, c, h0, h => by
    rw [nL] at h ⊢
    rw [szL, if_neg (by omega), szT_eq t c h0 (by omega), szL_eq l _ (by omega) (by omega)]
    omega
end
def Szs (w : World) (pn pw : Nat) (c : Int) : Prop :=
  w.heap[pn]? = some (.cells #[.int .i64 c] 3 (0, 0)) ∧ w.heap[pw]? = some (.cells #[.func (.func 24) #[] #[.pointer (some ⟨pn, 0, none⟩), .pointer (some ⟨pw, 0, none⟩)]] 44 (0, 0))
theorem Szs.small {w : World} {pn pw : Nat} {c : Int} (h : Szs w pn pw c) : Small w (fun k => k = pn) := by
  rintro k rfl
  exact ⟨_, _, _, h.1, by simp⟩
theorem Szs.ne {w : World} {pn pw : Nat} {c : Int} (h : Szs w pn pw c) : pw ≠ pn := by
  obtain ⟨h1, h2⟩ := h
  rintro rfl
  rw [h1] at h2; injection h2 with h2; injection h2 with _ h2; cases h2
theorem Szs.setN {w : World} {pn pw : Nat} {c : Int} (h : Szs w pn pw c) (c' : Int) : Szs (w.setCell ⟨pn, 0, none⟩ (.int .i64 c')) pn pw c' := by
  have hg := chg_set (w := w) (p := ⟨pn, 0, none⟩) (.int .i64 c')
  exact ⟨set_at h.1 _, hg.heap h.2 h.ne⟩
theorem Szs.keep {w w' : World} {pn pw : Nat} {c : Int} (h : Szs w pn pw c) (hb : Below w.heap.size w w') : Szs w' pn pw c := ⟨keep_heap h.1 hb, keep_heap h.2 hb⟩
theorem Szs.cells {w : World} {pn pw : Nat} {c : Int} (h : Szs w pn pw c) :
    (w.cell? ⟨pn, 0, none⟩ = some (.int .i64 c) ∧ w.frozen? ⟨pn, 0, none⟩ = false ∧ pn < w.heap.size) ∧
    w.cell? ⟨pw, 0, none⟩ = some (.func (.func 24) #[] #[.pointer (some ⟨pn, 0, none⟩), .pointer (some ⟨pw, 0, none⟩)]) :=
  ⟨⟨(cells_at h.1 0 _ rfl).1, (cells_at h.1 0 _ rfl).2, heap_lt h.1⟩, (cells_at h.2 0 _ rfl).1⟩
def SzPost (w : World) (pn pw : Nat) (c : Int) (e : Ending) (w' : World) : Prop := (∃ v, e = .returned v) ∧ Szs w' pn pw c ∧ Chg (fun k => k = pn) w w'
def SzS (pn pw b o : Nat) (lv : Value) (w : World) : Prop :=
  w.cell? ⟨pw, 0, none⟩ = some (.func (.func 24) #[] #[.pointer (some ⟨pn, 0, none⟩), .pointer (some ⟨pw, 0, none⟩)]) ∧ w.cell? ⟨b, o + 4, none⟩ = some lv
set_option maxHeartbeats 4000000 in
theorem walkz_any : ∀ (f : Nat) (t : Tm) (b o : Nat) (w : World) (c : Int) (pn pw : Nat), At f w b o t → Szs w pn pw c → 0 ≤ c → c ≤ 256 →
    Calls Tryd.prog 24 #[.pointer (some ⟨b, o, none⟩), .pointer (some ⟨pn, 0, none⟩), .pointer (some ⟨pw, 0, none⟩)] w (SzPost w pn pw (szT t c)) := by
  intro f
  induction f with
  | zero => intro t b o w c pn pw h; exact h.elim
  | succ f ih =>
    intro t b o w c pn pw ht hs hc0 hc1
    obtain ⟨k, n, s, u, l⟩ := t
    obtain ⟨hf, lv, hnode, hrow⟩ := ht.open
    have hrow0 := hrow
    obtain ⟨ao, cap, rfl, hl, hcap, _⟩ := hrow
    have IH := Lib.hid ih
    have hcN : Chg (fun k => k = pn) w (w.setCell ⟨pn, 0, none⟩ (.int .i64 (c + 1))) := chg_set (p := ⟨pn, 0, none⟩) _
    obtain ⟨⟨x1, x2, x3⟩, x7⟩ := hs.cells
    have hnX : ∀ W, Chg (fun k => k = pn) w W → W.cell? ⟨b, o + 4, none⟩ = some (.slice ao l.length cap) := fun W hc => hc.cell hnode.2.2.2.2 (hnode.apart hs.small)
    have hx := hnX _ hcN
    have HNX := Lib.hid hnX
    have HS0 := Lib.hid hs
    have HST := Lib.hid (And.intro (hs.setN (c + 1)) (And.intro hcN (show Hid (szL (l.drop 0) (c + 1) = szT (.mk k n s u l) c) from Lib.hid (by rw [List.drop_zero, szT]))))
    have HROW := Lib.hid hrow0
    have hl63 : l.length ≤ 9223372036854775807 := by omega
    clear ih hs hcN hnode hrow0 ht hf x7 hnX
    go_enter Tryd.func24, Tryd.ntmps24
    go_wp2_with fail
    clear x1 x2 x3
    go_loopw [12] (fun iv wr => ∃ (i : Nat) (c' : Int), i ≤ l.length ∧ iv = .int .i64 i ∧ Szs wr pn pw c' ∧ Chg (fun k => k = pn) w wr ∧ 0 ≤ c' ∧ c' ≤ 257 ∧ Hid (szL (l.drop i) c' = szT (.mk k n s u l) c))
      (fun iv _ => l.length - (intOf iv).toNat)
    case atStart => exact ⟨0, c + 1, by omega, rfl, HST.out.1, HST.out.2.1, by omega, by omega, HST.out.2.2⟩
    case round =>
      clear HST hx
      obtain ⟨i, c', hi, rfl, hs1, hcg, hc2, hc3, HF⟩ := hrel
      have hx := HNX.out _ hcg
      obtain ⟨⟨q1, q2, q3⟩, q7⟩ := hs1.cells
      have HS1 := Lib.hid hs1
      have HCG := Lib.hid hcg
      clear hs1 hcg
      by_cases hlt : i < l.length
      · obtain ⟨t, ht⟩ : ∃ t, l[i]? = some t := ⟨l[i], by simp [hlt]⟩
        obtain ⟨b', off, e, hat⟩ := HROW.out.at ht
        subst e
        have hat1 := hat.chg HCG.out HS0.out.small
        have HD := Lib.hid (drop_cons ht)
        clear hat ht
        by_cases hbig : 256 < c'
        · have hd1 : decide (256 < c') = true := by simpa using hbig
          have hfin : c' = szT (.mk k n s u l) c := by
            have := HF.out
            rw [HD.out, szL, if_pos hbig] at this
            exact this
          have HFIN := Lib.hid hfin
          clear hfin hbig
          go_wp2_with fail
          refine bodyPost_ret (results_none rfl _ _ _) rfl ⟨⟨_, rfl⟩, ?_, HCG.out⟩
          rw [← HFIN.out]
          exact HS1.out
        · have hd1 : decide (256 < c') = false := by simpa using hbig
          have hfin : szL (l.drop (i + 1)) (szT t c') = szT (.mk k n s u l) c := by
            have := HF.out
            rw [HD.out, szL, if_neg hbig] at this
            exact this
          have hle := szT_le t c' hc2 (by omega)
          have HFIN := Lib.hid hfin
          have hdr : Below wr.heap.size wr wr.drew := (Below.refl _ _).drew
          have hcgd := HCG.out.trans (chg_of_below hdr _)
          have HCD := Lib.hid hcgd
          have hcall := IH.out t b' (off + i * 5) wr.drew c' pn pw (hat1.keep hdr) (HS1.out.keep hdr) hc2 (by omega)
          have HCALL := Lib.hid hcall
          have hS : SzS pn pw b o (.slice (some ⟨b', off, none⟩) l.length cap) wr := ⟨q7, hx⟩
          clear hfin hcall hat1 hcgd hdr
          go_wp2_with fail
          have hD : SzS pn pw b o (.slice (some ⟨b', off, none⟩) l.length cap) wr.drew := hS
          refine region_plan (SzS pn pw b o (.slice (some ⟨b', off, none⟩) l.length cap)) [(0, 0), (1, 0), (2, 0), (3, 0), (4, 0), (5, 0), (6, 0), (7, 1)] (by kernel_rfl) (by kernel_rfl) (by kernel_rfl) hD ?_
          iterate 7 (first | (refine plan_skip rfl ?_ ?_; (focus (rfl)); (try simp only [Act.put, List.setIfInBounds_toArray, List.set_cons_zero, List.set_cons_succ])) | (refine plan_take (v := ?_) rfl ?_ (fun w hSw => ?_) ?_; rotate_left; (focus (rfl)); (focus (unfold SzS at hSw; (go_simp <;> with_reducible rfl))); (try simp only [Act.put, List.setIfInBounds_toArray, List.set_cons_zero, List.set_cons_succ])))
          refine plan_run rfl ?_ (fun K hK => ?_)
          focus (rfl)
          go_simp
          refine (HCALL.out).mono ?_
          rintro e W1 ⟨⟨v, rfl⟩, hs2, hcg2⟩
          have hcg3 := HCD.out.trans hcg2
          have hS1 : SzS pn pw b o (.slice (some ⟨b', off, none⟩) l.length cap) W1 := ⟨hs2.cells.2, HNX.out _ hcg3⟩
          refine hK.out _ _ hS1 ?_
          clear hK K 
          (try simp only [Act.put, List.setIfInBounds_toArray, List.set_cons_zero, List.set_cons_succ])
          refine plan_done ?_
          go_wp2_with fail
          go_roundw
          case rel => exact ⟨i + 1, _, by omega, by go_num, hs2, hcg3, by omega, hle.2, HFIN.out⟩
          case measure => simp [intOf]; omega
      · have hil : i = l.length := by omega
        have hfin : c' = szT (.mk k n s u l) c := by
          have := HF.out
          rw [hil, List.drop_length, szL] at this
          exact this
        have HFIN := Lib.hid hfin
        clear hfin hil
        go_wp2_with fail
        go_end0
        refine ⟨⟨_, rfl⟩, ?_, HCG.out⟩
        rw [← HFIN.out]
        exact HS1.out
theorem szs_new (w : World) (n : Nat) (hn : w.heap.size = n) (o1 o3 : Obj) (h1 : o1 = .cells #[.int .i64 0] 3)
    (h3 : o3 = .cells #[.func (.func 24) #[] #[.pointer (some ⟨n, 0, none⟩), .pointer (some ⟨n + 1, 0, none⟩)]] 44) :
    Szs ((w.alloc o1).alloc o3) n (n + 1) 0 ∧ Below w.heap.size w ((w.alloc o1).alloc o3) := by
  subst h1 h3 hn
  refine ⟨⟨heap_old (heap_new _ _) _, ?_⟩, ((Below.refl _ _).alloc (Nat.le_refl _) _).alloc (by simp) _⟩
  have := heap_new (w.alloc (.cells #[.int .i64 0] 3)) (.cells #[.func (.func 24) #[] #[.pointer (some ⟨w.heap.size, 0, none⟩), .pointer (some ⟨w.heap.size + 1, 0, none⟩)]] 44)
  rw [World.size_alloc] at this
  exact this
set_option maxHeartbeats 1000000 in
theorem psize_any (f : Nat) (t : Tm) (v : Value) (w : World) (h : TermV f w v t) : Calls Tryd.prog 11 #[v] w (IntPost w (szT t 0)) := by
  obtain ⟨lv, rfl, hat⟩ := h.boxed
  clear h
  go_enter Tryd.func11, Tryd.ntmps11
  go_wp2_with fail
  have hb0 := (Below.refl w.heap.size w).alloc (Nat.le_refl _) (.cells #[.int .i8 t.k, .int .i64 t.n, .string t.s, .string t.u, lv] 25)
  obtain ⟨hs, hb1⟩ := szs_new (w.alloc (.cells #[.int .i8 t.k, .int .i64 t.n, .string t.s, .string t.u, lv] 25)) (w.heap.size + 1) (by simp) _ _ rfl rfl
  have hB := hb0.trans (hb1.mono (by simp))
  refine (walkz_any (f + 1) t w.heap.size 0 _ 0 _ _ (hat.keep hb1) hs (by omega) (by omega)).mono ?_
  rintro e w2 ⟨⟨v, rfl⟩, hs2, hc2⟩
  have hB2 : Below w.heap.size w w2 := hB.trans (hc2.below (by have := hB.size; omega) (by rintro k rfl; omega))
  obtain ⟨⟨x1, _, _⟩, _⟩ := hs2.cells
  clear hs hb0 hb1 hB hat hs2 hc2
  generalize szT t 0 = p at *
  go_wp2_with fail
  go_ret
  exact ⟨rfl, hB2⟩
end Go.Proofs.YtaomakhhkjflaaaDoor
namespace Go.Proofs.YtaomakhhkjflaaaDoor
open Go.ChangeShapes Go.WideShapes Go.ChangeAt Go.RowKit
set_option linter.unusedVariables false
set_option linter.unusedSimpArgs false
set_option maxRecDepth 100000
theorem ret_row3 {P : Program} {fn : Func} {R : Ending → World → Prop} {tmps : Array Value} {w : World} {g p q q2 : Nat} {ty t : TypeId} {fr : Nat × Nat} {d : TypeDesc} {cs : Array Value} {u u2 : Value} (hg : w.heap[g]? = some (.cells cs t fr)) (hfn : fn.results = #[.cell p ty, .tmp q, .tmp q2])
    (hu : P.underlying ty = some d) (hd : (match d with | .struct _ | .array _ _ => true | _ => false) = true) (hi : (P.info? ty).map (·.size) = some cs.size)
    (hp : tmps.getD p undef = .pointer (some ⟨g, 0, none⟩)) (hq : tmps.getD q undef = u) (hq2 : tmps.getD q2 undef = u2) (hpost : R (.returned (.tuple #[.agg cs, u, u2])) w) : bodyPost P fn R .ret { tmps := tmps, defers := [] } w := by
  refine bodyPost_ret (v := .tuple #[.agg cs, u, u2]) ?_ rfl hpost
  have hl := run_loadVar_row (P := P) w g t ty cs fr d hg hu hd hi
  unfold results
  rw [hfn]
  simp only [Array.getD_eq_getD_getElem?] at hp hq hq2
  simp [asAddr, hp, hq, hq2, hl]
theorem infoRD' (cs : Array Value) (h : cs.size = 3) : (Tryd.prog.info? 51).map (·.size) = some cs.size := by
  rw [h]
  kernel_rfl
theorem letters_lt {w : World} (h : Cells w 0 letL) : 0 < w.heap.size := World.block_lt_of_cell? w _ (h 0 _ rfl).1
/-- a text is read whole -/
def ReadW (W : World) (n : Nat) (t : Tm) (e : Ending) (W' : World) : Prop :=
  ∃ te : TE, e = .returned (.tuple #[.agg te.cells.toArray, .int .i64 n, .int .i64 0]) ∧ te.t = t ∧ fields te.k te.n te.s te.u ∧ Below W.heap.size W W' ∧ RowS (fun k => W.heap.size ≤ k) (nT t) W' te.lv te.l
/-- what region 7 reads -/
def X7 (g r : Nat) (p : Int) (k n : Int) (s u : ByteArray) (lv : Value) (W : World) : Prop := W.cell? ⟨g, 0, none⟩ = some (.int .i8 k) ∧ W.cell? ⟨g, 1, none⟩ = some (.int .i64 n) ∧ W.cell? ⟨g, 2, none⟩ = some (.string s) ∧ W.cell? ⟨g, 3, none⟩ = some (.string u) ∧ W.cell? ⟨g, 4, none⟩ = some lv ∧ W.cell? ⟨r, 1, none⟩ = some (.int .i64 p)
set_option maxHeartbeats 8000000 in
theorem readw_any (t : Tm) (hok : okT t) (hnt : nT t ≤ 256) (s : ByteArray) (hs : s.size ≤ 1099511627776) (htx : s.data.toList = tx t) (W : World) (hcl : Cells W 0 letL) : Calls Tryd.prog 15 #[.string s] W (ReadW W s.size t) := by
  have hlv := letters_lt hcl
  have hb2 := ((Below.refl W.heap.size W).alloc (Nat.le_refl _) (.cells zT 25)).alloc (by simp) (.cells #[.string s, .int .i64 0, .int .i64 0] 51)
  have hX := heap_old (heap_new W (.cells zT 25)) (.cells #[.string s, .int .i64 0, .int .i64 0] 51)
  have hY := heap_new (W.alloc (.cells zT 25)) (.cells #[.string s, .int .i64 0, .int .i64 0] 51)
  have hs1 : (W.alloc (.cells zT 25)).heap.size = W.heap.size + 1 := by simp
  rw [hs1] at hY
  have hs2 : ((W.alloc (.cells zT 25)).alloc (.cells #[.string s, .int .i64 0, .int .i64 0] 51)).heap.size = W.heap.size + 2 := by simp
  have hlen : (tx t).length = s.size := by rw [← htx]; simp
  have hbg := bg_le (nT t) t (Nat.le_refl _) hok
  have hc0 : Cells ((W.alloc (.cells zT 25)).alloc (.cells #[.string s, .int .i64 0, .int .i64 0] 51)) 0 letL := cells_chg hcl (chg_of_below hb2 (fun _ => False)) (fun e => e)
  have hrest : Rest s 0 (tx t ++ []) := ⟨Nat.zero_le _, by rw [List.drop_zero, List.append_nil]; exact htx⟩
  have HT := Lib.hid (term_any 256 (Nat.le_refl _) t hnt hok _ (W.heap.size + 1) s 0 0 [] hY hc0 (by omega) hs hrest foll_nil (by omega))
  rw [Nat.zero_add, hlen] at HT
  have HB2 := Lib.hid hb2
  have HX := Lib.hid hX
  have HS1 := Lib.hid hs1
  have HS2 := Lib.hid hs2
  have hsz : szT t 0 = nT t := by
    have := szT_eq t 0 (by omega) (by omega)
    omega
  clear hcl hlv hb2 hX hY hs1 hs2 hlen hbg hc0 hrest htx
  go_enter Tryd.func15, Tryd.ntmps15
  go_wp2_with (with_reducible refine stop_op (o := ⟨_, .store 51 (.tmp 5) (.tmp 7), _, _, _, _⟩) ?_)
  refine Lib.hid ?_
  refine wpList_store_new (o := ⟨none, _, _, _, _, _⟩) rfl 51 (.tmp 5) (.tmp 7) rfl #[.string s, .int .i64 0, .int .i64 0] (by rw [HS1.out]; rfl) rfl (infoRD' _ rfl) rfl (by simp [Value.oneCell']) ?_
  generalize (W.alloc (.cells zT 25)).alloc (.cells #[.string s, .int .i64 0, .int .i64 0] 51) = W2 at *
  clear HS1
  go_wp2_with fail
  refine HT.out.mono ?_
  rintro e W3 ⟨te, rfl, hte, hfe, hc3, hr3, hrs3⟩
  have hX3 := hc3.heap HX.out (fun e => by have e : W.heap.size = W.heap.size + 1 := e; omega)
  have hcs := chg_setRow W3 W.heap.size te.cells.toArray
  have hX4 := setRow_heap W3 W.heap.size _ te.cells.toArray _ _ hX3
  have hr4 := hcs.heap hr3 (fun e => by have e : W.heap.size + 1 = W.heap.size := e; omega)
  have hw2 := HS2.out
  have hrs4 := hrs3.chg (S' := fun k => W.heap.size + 2 ≤ k) hcs (fun k hk _ e => by have e : k = W.heap.size := e; have hk : W2.heap.size ≤ k := hk; omega) (fun k hk _ => by have hk : W2.heap.size ≤ k := hk; show W.heap.size + 2 ≤ k; omega) (Nat.le_refl _)
  have hB4 : Below W.heap.size W (W3.setRow W.heap.size te.cells.toArray) := (HB2.out.trans (hc3.below (by omega) (fun k e => by have e : k = W.heap.size + 1 := e; omega))).trans (hcs.below (by have := hc3.size; omega) (fun k e => by have e : k = W.heap.size := e; omega))
  have hTV : TermV (nT t) (W3.setRow W.heap.size te.cells.toArray) (.agg te.cells.toArray) t := by
    subst hte
    exact ⟨hfe, _, rfl, hrs4.row⟩
  have HSZ := Lib.hid (psize_any _ t _ _ hTV)
  rw [hsz] at HSZ
  have HX3 := Lib.hid hX3
  have HX4 := Lib.hid hX4
  have HR4 := Lib.hid hr4
  have HRS := Lib.hid hrs4
  have HB4 := Lib.hid hB4
  have HTE := Lib.hid (And.intro hte hfe)
  obtain ⟨gk, gn, gs, gu, gao, gcap, gl⟩ := te
  clear hte hfe hc3 hr3 hrs3 hX3 hcs hX4 hr4 hw2 hrs4 hB4 hTV HT HB2 HX HS2
  simp only [TE.cells, TE.lv] at *
  have hgt : ¬ (256 : Int) < (nT t : Int) := by omega
  go_wp2_with (with_reducible refine stop_op (o := ⟨_, .store 25 (.tmp 2) (.tmp 10), _, _, _, _⟩) ?_)
  refine Lib.hid ?_
  refine wpList_store_row (o := ⟨none, _, _, _, _, _⟩) rfl 25 (.tmp 2) (.tmp 10) rfl W.heap.size #[.int .i8 gk, .int .i64 gn, .string gs, .string gu, .slice gao gl.length gcap] rfl rfl 25 zT HX3.out (infoTM' _ rfl) rfl (by simp [Value.oneCell']) ?_
  generalize W3.setRow W.heap.size #[.int .i8 gk, .int .i64 gn, .string gs, .string gu, .slice gao gl.length gcap] = W4 at *
  obtain ⟨z0, -⟩ := cells_at HX4.out 0 _ rfl
  obtain ⟨z1, -⟩ := cells_at HX4.out 1 _ rfl
  obtain ⟨z2, -⟩ := cells_at HX4.out 2 _ rfl
  obtain ⟨z3, -⟩ := cells_at HX4.out 3 _ rfl
  obtain ⟨z4, -⟩ := cells_at HX4.out 4 _ rfl
  go_wp2_with fail
  refine HSZ.out.mono ?_
  rintro e W5 ⟨rfl, hb5⟩
  clear z0 z1 z2 z3 z4
  have hd5 := hb5.trans ((Below.refl W5.heap.size W5).drew.mono hb5.size)
  have hX5 := keep_heap HX4.out hd5
  have hr5 := keep_heap HR4.out hd5
  have hS : X7 W.heap.size (W.heap.size + 1) s.size gk gn gs gu (.slice gao gl.length gcap) W5.drew := ⟨(cells_at hX5 0 _ rfl).1, (cells_at hX5 1 _ rfl).1, (cells_at hX5 2 _ rfl).1, (cells_at hX5 3 _ rfl).1, (cells_at hX5 4 _ rfl).1, (cells_at hr5 1 _ rfl).1⟩
  have HX5 := Lib.hid hX5
  have HD5 := Lib.hid hd5
  clear hX5 hr5 hd5 hb5 HSZ
  go_wp2_with fail
  refine region_plan (X7 W.heap.size (W.heap.size + 1) s.size gk gn gs gu (.slice gao gl.length gcap)) [(0, 0), (1, 0), (2, 0), (3, 1), (4, 0), (5, 0)] (by kernel_rfl) (by kernel_rfl) (by kernel_rfl) hS ?_
  generalize W5.drew = WD at *
  iterate 3 (first | (refine plan_skip rfl ?_ ?_; (focus (rfl)); (try simp only [Act.put, List.setIfInBounds_toArray, List.set_cons_zero, List.set_cons_succ])) | (refine plan_take (v := ?_) rfl ?_ (fun w hSw => ?_) ?_; rotate_left; (focus (rfl)); (focus (unfold X7 at hSw; (go_simp <;> with_reducible rfl))); (try simp only [Act.put, List.setIfInBounds_toArray, List.set_cons_zero, List.set_cons_succ])))
  refine plan_run rfl ?_ (fun K hK => ?_)
  focus (rfl)
  refine wp_store_row 25 (.tmp 2) (.tmp 23) rfl W.heap.size #[.int .i8 gk, .int .i64 gn, .string gs, .string gu, .slice gao gl.length gcap] rfl rfl 25 _ HX5.out (infoTM' _ rfl) (by simp) (by simp [Value.oneCell']) ?_
  rw [setRow_self _ _ _ _ _ HX5.out]
  refine hK.out _ _ hS ?_
  clear hK K
  (try simp only [Act.put, List.setIfInBounds_toArray, List.set_cons_zero, List.set_cons_succ])
  iterate 2 (first | (refine plan_skip rfl ?_ ?_; (focus (rfl)); (try simp only [Act.put, List.setIfInBounds_toArray, List.set_cons_zero, List.set_cons_succ])) | (refine plan_take (v := ?_) rfl ?_ (fun w hSw => ?_) ?_; rotate_left; (focus (rfl)); (focus (unfold X7 at hSw; (go_simp <;> with_reducible rfl))); (try simp only [Act.put, List.setIfInBounds_toArray, List.set_cons_zero, List.set_cons_succ])))
  refine plan_done ?_
  go_wp2_with fail
  exact ret_row3 HX5.out rfl Tryd.underlying25 rfl (infoTM' _ rfl) rfl rfl rfl ⟨⟨gk, gn, gs, gu, gao, gcap, gl⟩, rfl, HTE.out.1, HTE.out.2, HB4.out.trans (HD5.out.mono HB4.out.size), HRS.out.chg (chg_of_below HD5.out (fun _ => False)) (fun _ _ _ h => h) (fun k hk _ => by have hk : W.heap.size + 2 ≤ k := hk; show W.heap.size ≤ k; omega) (Nat.le_refl _)⟩
end Go.Proofs.YtaomakhhkjflaaaDoor
namespace Go.Proofs.YtaomakhhkjflaaaDoor
open Go.ChangeShapes Go.WideShapes Go.ChangeAt Go.RowKit
set_option linter.unusedVariables false
theorem At.ats {w : World} : ∀ {f b o : Nat} {t : Tm}, At f w b o t → AtS (fun k => k < w.heap.size) f w b o t := by
  intro f
  induction f with
  | zero => intro b o t h; exact h.elim
  | succ f ih =>
    intro b o t h
    obtain ⟨k, n, s, u, l⟩ := t
    obtain ⟨hf, lv, hnode, hrow⟩ := h.open
    obtain ⟨ao, cap, rfl, hl, hcap, hp⟩ := hrow
    exact ⟨World.block_lt_of_cell? w _ hnode.1, hf, ao, cap, hnode, hl, hcap, fun i t hi => by
      obtain ⟨b', off, e, h⟩ := hp i t hi
      exact ⟨b', off, e, ih h⟩⟩
theorem Row.rows {w : World} {f : Nat} {v : Value} {l : List Tm} (h : Row f w v l) : RowS (fun k => k < w.heap.size) f w v l := by
  obtain ⟨ao, cap, rfl, hl, hcap, hp⟩ := h
  exact ⟨ao, cap, rfl, hl, hcap, fun i t hi => by
    obtain ⟨b', off, e, h⟩ := hp i t hi
    exact ⟨b', off, e, h.ats⟩⟩
/-- a term that reads, as an element of a row -/
theorem TermV.te {f : Nat} {w : World} {v : Value} {t : Tm} (h : TermV f w v t) : ∃ te : TE, v = .agg te.cells.toArray ∧ te.t = t ∧ fields te.k te.n te.s te.u ∧ RowS (fun k => k < w.heap.size) f w te.lv te.l := by
  obtain ⟨hf, lv, rfl, hr⟩ := h
  obtain ⟨ao, cap, rfl, hl, hcap, hp⟩ := hr.rows
  obtain ⟨k, n, s, u, l⟩ := t
  exact ⟨⟨k, n, s, u, ao, cap, l⟩, rfl, rfl, hf, ao, cap, rfl, hl, hcap, hp⟩
/-- a step down a list -/
theorem sp_step {a d : Tm} {s u : ByteArray} {n : Int} : spL (.mk 7 n s u [a, d]) = a :: spL d ∧ spE (.mk 7 n s u [a, d]) = spE d := by
  constructor
  · simp [spL, spC, spD]
  · simp [spE, spF, spG]
theorem sp_stop {t : Tm} (h : t.k ≠ 7) : spL t = [] ∧ spE t = t := by
  obtain ⟨k, n, s, u, l⟩ := t
  have h : k ≠ 7 := h
  exact ⟨by rw [spL, if_neg h], by rw [spE, if_neg h]⟩
end Go.Proofs.YtaomakhhkjflaaaDoor
