/- the law HeapBack, walked. Conditions: the table of letters reads as laid; what comes reads. -/
import Derived.Test.YtfbmjcblnemkgaaDoorGy
import Derived.Test.YtfbmjcblnemkgaaDoorGi
import Derived.Test.YtfbmjcblnemkgaaDoorTr
import Derived.Test.YtfbmjcblnemkgaaDoorLt
import Derived.Test.YtfbmjcblnemkgaaDoorKu
namespace Go.Proofs.YtfbmjcblnemkgaaDoor
open Go.ChangeShapes Go.WideShapes Go.ChangeAt Go.RowKit
set_option linter.unusedVariables false
set_option maxRecDepth 100000
/-- what region 17 reads -/
def B17 (b o : Nat) (x : Wd) (W : World) : Prop := W.cell? ⟨b, o, none⟩ = some (.bool x.c) ∧ W.cell? ⟨b, o + 1, none⟩ = some (.int .i64 x.a) ∧ W.cell? ⟨b, o + 2, none⟩ = some (.int .i8 x.k) ∧ W.cell? ⟨b, o + 3, none⟩ = some (.int .i64 x.n) ∧ W.cell? ⟨b, o + 4, none⟩ = some (.string x.s) ∧ W.cell? ⟨b, o + 5, none⟩ = some (.string x.u) ∧ W.cell? ⟨b, o + 6, none⟩ = some (.slice x.ao x.l.length x.cap)
theorem B17.of {b o : Nat} {x : Wd} {W : World} (h : ∀ (j : Nat) (u : Value), x.cells[j]? = some u → W.cell? ⟨b, o + j, none⟩ = some u) : B17 b o x W :=
  ⟨h 0 _ rfl, h 1 _ rfl, h 2 _ rfl, h 3 _ rfl, h 4 _ rfl, h 5 _ rfl, h 6 _ rfl⟩
theorem B17.keep {b o : Nat} {x : Wd} {W W' : World} (h : B17 b o x W) (hk : Below W.heap.size W W') : B17 b o x W' := by
  obtain ⟨h1, h2, h3, h4, h5, h6, h7⟩ := h
  exact ⟨keep_cell h1 hk, keep_cell h2 hk, keep_cell h3 hk, keep_cell h4 hk, keep_cell h5 hk, keep_cell h6 hk, keep_cell h7 hk⟩
theorem BkI.b17 {w0 : World} {f : Nat} {l : List Tm} {m : Nat} {v : Value} {C : List HC} {L : List Wd} {wr : World} {b o n cap : Nat} {i : Nat} {x : Wd} (h : BkI w0 f l m (.slice (some ⟨b, o, none⟩) n cap) v C L wr) (hi : L[i]? = some x) : B17 b (o + i * 7) x wr := by
  obtain ⟨b', o', e, -, hc⟩ := h.word.2 i x hi
  injection e with e
  injection e with e1 e2
  subst e1 e2
  exact B17.of hc
/-- what region 18 reads -/
def B18 (b o : Nat) (k n : Int) (s u : ByteArray) (lv : Value) (W : World) : Prop := W.cell? ⟨b, o, none⟩ = some (.int .i8 k) ∧ W.cell? ⟨b, o + 1, none⟩ = some (.int .i64 n) ∧ W.cell? ⟨b, o + 2, none⟩ = some (.string s) ∧ W.cell? ⟨b, o + 3, none⟩ = some (.string u) ∧ W.cell? ⟨b, o + 4, none⟩ = some lv
theorem B18.keep {b o : Nat} {k n : Int} {s u : ByteArray} {lv : Value} {W W' : World} (h : B18 b o k n s u lv W) (hk : Below W.heap.size W W') : B18 b o k n s u lv W' := by
  obtain ⟨h1, h2, h3, h4, h5⟩ := h
  exact ⟨keep_cell h1 hk, keep_cell h2 hk, keep_cell h3 hk, keep_cell h4 hk, keep_cell h5 hk⟩
/-- what region 30 reads -/
def B30 (g : Nat) (gk gn : Int) (gs gu : ByteArray) (glv : Value) (b o : Nat) (k n : Int) (s u : ByteArray) (lv : Value) (W : World) : Prop := W.cell? ⟨g, 0, none⟩ = some (.int .i8 gk) ∧ W.cell? ⟨g, 1, none⟩ = some (.int .i64 gn) ∧ W.cell? ⟨g, 2, none⟩ = some (.string gs) ∧ W.cell? ⟨g, 3, none⟩ = some (.string gu) ∧ W.cell? ⟨g, 4, none⟩ = some glv ∧
  W.cell? ⟨b, o, none⟩ = some (.int .i8 k) ∧ W.cell? ⟨b, o + 1, none⟩ = some (.int .i64 n) ∧ W.cell? ⟨b, o + 2, none⟩ = some (.string s) ∧ W.cell? ⟨b, o + 3, none⟩ = some (.string u) ∧ W.cell? ⟨b, o + 4, none⟩ = some lv
theorem B30.keep {g : Nat} {gk gn : Int} {gs gu : ByteArray} {glv : Value} {b o : Nat} {k n : Int} {s u : ByteArray} {lv : Value} {W W' : World} (h : B30 g gk gn gs gu glv b o k n s u lv W) (hk : Below W.heap.size W W') : B30 g gk gn gs gu glv b o k n s u lv W' := by
  obtain ⟨g1, g2, g3, g4, g5, h1, h2, h3, h4, h5⟩ := h
  exact ⟨keep_cell g1 hk, keep_cell g2 hk, keep_cell g3 hk, keep_cell g4 hk, keep_cell g5 hk, keep_cell h1 hk, keep_cell h2 hk, keep_cell h3 hk, keep_cell h4 hk, keep_cell h5 hk⟩
def TakeQ (F : Nat) (t : Tm) (W : World) (e : Ending) (W' : World) : Prop := ∃ te : TE, e = .returned (.tuple #[.agg #[.int .i8 te.k, .int .i64 te.n, .string te.s, .string te.u, .slice te.ao te.l.length te.cap], .int .i64 0]) ∧ Below W.heap.size W W' ∧ TermV F W' (.agg #[.int .i8 te.k, .int .i64 te.n, .string te.s, .string te.u, .slice te.ao te.l.length te.cap]) t
theorem TakeP.q {w0 : World} {F : Nat} {C : List HC} {x : Wd} {t : Tm} {W W' : World} {e : Ending} (h : TakeP w0 F C x W e W') (hm : mayW C.length x = true) (ht : tkN C C.length x = t) : TakeQ F t W e W' := by
  obtain ⟨hb, (⟨-, te, rfl, h1, h2, h3⟩ | ⟨h1, -⟩)⟩ := h
  · refine ⟨te, rfl, hb, ?_⟩
    rw [← ht, ← h1]
    exact ⟨h2, _, rfl, h3.row⟩
  · rw [hm] at h1
    cases h1
set_option maxHeartbeats 16000000 in
theorem back_law (w : World) (f : Nat) (l : List Tm) (ao : Option Addr) (cap : Nat) (hL : Cells w 0 letL) (hr : Row f w (.slice ao l.length cap) l) : Calls Tryd.prog 3 #[.slice ao l.length cap] w (IsPost w true) := by
  have HL := Lib.hid hL
  have HR := Lib.hid hr
  have hl63 : l.length ≤ 9223372036854775807 := by obtain ⟨a, c, e, h1, h2, -⟩ := hr; injection e with e1 e2 e3; omega
  clear hL hr
  by_cases h12 : 12 < l.length
  · have hd : decide (12 < l.length) = true := by simpa using h12
    go_enter Tryd.func3, Tryd.ntmps3
    go_wp2_with fail
    refine (wakes_any _ HL.out).mono ?_
    rintro e w1 ⟨rfl, hb1⟩
    go_wp2_with fail
    go_ret
    exact ⟨rfl, hb1⟩
  · have hd : decide (12 < l.length) = false := by simpa using h12
    go_enter Tryd.func3, Tryd.ntmps3
    go_wp2_with fail
    refine (new_any _).mono ?_
    rintro e w1 ⟨rfl, hp1, hb1⟩
    have HI0 : Hid (BkI w f l (0 * 256) (.slice none 0 0) (.slice none 0 0) [] [] w1) := Lib.hid ⟨hb1, hp1, World.ownsRow_nil _ _ _ _, by simp, fun c hc => by simp at hc, fun i x hi => by simp at hi, fun c hc => by simp at hc⟩
    clear hp1 hb1
    go_wp2_with fail
    go_loopw [4, 5] (fun wv iv wr => ∃ (i : Nat) (v : Value) (C : List HC) (L : List Wd), i ≤ l.length ∧ iv = .int .i64 i ∧ L.length = i ∧ Hid (BkI w f l (i * 256) wv v C L wr))
      (fun _ iv _ => l.length - (intOf iv).toNat)
    case atStart => exact ⟨0, _, _, _, by omega, rfl, rfl, HI0⟩
    case round =>
      clear HI0
      obtain ⟨i, v, C, L, hi, rfl, hLi, HI⟩ := hrel
      by_cases hlt : i < l.length
      · obtain ⟨t, ht⟩ : ∃ t, l[i]? = some t := ⟨l[i], by simp [hlt]⟩
        obtain ⟨b', off, f', lv, rfl, rfl, hnode, htv⟩ := HR.out.elem ht
        obtain ⟨c0, c1, c2, c3, c4⟩ := hnode.keep HI.out.hb
        have HTV := Lib.hid htv
        have HT := Lib.hid ht
        have HNODE := Lib.hid hnode
        have HCK := Lib.hid (rcheck_any f' t _ wr (htv.keep HI.out.hb))
        clear hnode htv ht
        go_wp2_with fail
        refine HCK.out.mono ?_
        rintro e w2 ⟨rfl, hb2⟩
        have HI2 := Lib.hid (HI.out.keep hb2)
        clear hb2 c0 c1 c2 c3 c4 HCK
        by_cases hck : rcheckN t = 0
        · rw [hck]
          obtain ⟨c0, c1, c2, c3, c4⟩ := HNODE.out.keep HI2.out.hb
          have hroom : C.length + 256 ≤ 1048576 := by have := HI.out.len; omega
          have HP := Lib.hid (put_any w f' w.heap.size HL.out t _ w2 v C HI2.out.hp HI2.out.hb (Nat.le_refl _) HTV.out hroom)
          have HCK := Lib.hid hck
          clear hck
          go_wp2_with fail
          refine HP.out.mono ?_
          rintro e w3 (⟨hc0, hok, hnt, x, v', C', rfl, hpt⟩ | ⟨hc0, -⟩)
          · have HC0 := Lib.hid hc0
            have HOK := Lib.hid hok
            have HI3 : Hid (BkI w (f' + 1) l ((i + 1) * 256) _ v' C' L w3) := Lib.hid (HI2.out.up hpt.up hpt.hp (by have := hpt.len; have := HI.out.len; omega) (fun c hc => (hpt.oks c hc).imp id fun h y hy => (h y hy).le (by omega)))
            have HX := Lib.hid (show WOk (f' + 1) w x ∧ mayW C'.length x = true ∧ tkN C' C'.length x = t ∧ nodesW C' x = nT t from ⟨hpt.wok.le (by omega), hpt.may, hpt.tk, hpt.nod⟩)
            obtain ⟨xc, xa, xk, xn, xs, xu, xao, xcap, xl⟩ := x
            clear hpt c0 c1 c2 c3 c4 HP hc0 hok
            simp only [Wd.cells]
            go_wp2_with (with_reducible refine stop_op (o := ⟨_, .store 33 (.tmp 6) (.tmp 45), _, _, _, _⟩) ?_)
            refine Lib.hid ?_
            refine wpList_store_new (o := ⟨none, _, _, _, _, _⟩) rfl 33 (.tmp 6) (.tmp 45) rfl #[.bool xc, .int .i64 xa, .int .i8 xk, .int .i64 xn, .string xs, .string xu, .slice xao xl.length xcap] rfl rfl (infoWD _ rfl) rfl (by simp [Value.oneCell']) ?_
            have hb4 := (Below.refl w3.heap.size w3).alloc (Nat.le_refl _) (.cells #[.bool xc, .int .i64 xa, .int .i8 xk, .int .i64 xn, .string xs, .string xu, .slice xao xl.length xcap] 33)
            have hn4 := heap_new w3 (.cells #[.bool xc, .int .i64 xa, .int .i8 xk, .int .i64 xn, .string xs, .string xu, .slice xao xl.length xcap] 33)
            have HI4 := Lib.hid (HI3.out.keep hb4)
            have hs4 : (w3.alloc (.cells #[.bool xc, .int .i64 xa, .int .i8 xk, .int .i64 xn, .string xs, .string xu, .slice xao xl.length xcap] 33)).heap.size = w3.heap.size + 1 := by simp
            obtain ⟨y0, -⟩ := cells_at hn4 0 _ rfl
            obtain ⟨y1, -⟩ := cells_at hn4 1 _ rfl
            obtain ⟨y2, -⟩ := cells_at hn4 2 _ rfl
            obtain ⟨y3, -⟩ := cells_at hn4 3 _ rfl
            obtain ⟨y4, -⟩ := cells_at hn4 4 _ rfl
            obtain ⟨y5, -⟩ := cells_at hn4 5 _ rfl
            obtain ⟨y6, -⟩ := cells_at hn4 6 _ rfl
            clear hb4 hn4 HI3
            generalize w3.alloc (.cells #[.bool xc, .int .i64 xa, .int .i8 xk, .int .i64 xn, .string xs, .string xu, .slice xao xl.length xcap] 33) = w4 at *
            have hb5 := (Below.refl w4.heap.size w4).alloc (Nat.le_refl _) (.cells #[.bool xc, .int .i64 xa, .int .i8 xk, .int .i64 xn, .string xs, .string xu, .slice xao xl.length xcap] 33)
            have hn5 := heap_new w4 (.cells #[.bool xc, .int .i64 xa, .int .i8 xk, .int .i64 xn, .string xs, .string xu, .slice xao xl.length xcap] 33)
            rw [hs4] at hn5
            have HI5 := Lib.hid (HI4.out.keep hb5)
            have HN5 := Lib.hid hn5
            clear hb5 hn5 HI4
            obtain ⟨i0, z0, q1, q2, q3, q4, q5⟩ := infoWD2
            have hw5 : w.heap.size ≤ (w4.alloc (.cells #[.bool xc, .int .i64 xa, .int .i8 xk, .int .i64 xn, .string xs, .string xu, .slice xao xl.length xcap] 33)).heap.size := HI5.out.hb.size
            go_wp2_with (at_builtin; refine stop_here ?_)
            refine Lib.hid ?_
            refine wpList_append_own2 rfl (.tmp 49) (.tmp 51) 26 rfl w.heap.size 33 i0 z0 7 88 Tryd.underlying26 q1 q2 q3 q4 q5 (by decide) _ L.length (wcs L) rfl HI5.out.own ⟨w3.heap.size + 1, 0, none⟩ 1 1 [.bool xc, .int .i64 xa, .int .i8 xk, .int .i64 xn, .string xs, .string xu, .slice xao xl.length xcap] rfl rfl (fun q u hq => by
              rw [Addr.add_lit, Nat.zero_add]
              exact (cells_at HN5.out q u (by simpa using hq)).1) (by simp [Value.oneCell']) (by unfold maxLen; omega) (by omega) hw5 ?_
            intro v6 W6 hown6 hg6 hwh6
            have HFIN := Lib.hid (HI5.out.push hown6 hg6 hwh6 HX.out.1 HX.out.2.1 (by rw [hLi]; exact HT.out) HC0.out HOK.out hnt HX.out.2.2.1 HX.out.2.2.2)
            clear hown6 hg6 hwh6 y0 y1 y2 y3 y4 y5 y6
            go_wp2_with fail
            go_roundw
            case rel => exact ⟨i + 1, _, _, _, by omega, by go_num, by simp [hLi], HFIN⟩
            case measure => simp [intOf]; omega
          · exact absurd ((check_eq t).symm.trans HCK.out) hc0
        · have hck' : (rcheckN t != 0) = true := by simpa using hck
          go_wp2_with fail
          refine (wakes_any _ (keep_let HL.out HI2.out.hb)).mono ?_
          rintro e w3 ⟨rfl, hb3⟩
          have HB := Lib.hid (HI2.out.hb.trans (hb3.mono HI2.out.hb.size))
          clear hb3
          go_wp2_with fail
          go_ret
          exact ⟨rfl, HB.out⟩
      · obtain rfl : i = l.length := by omega
        obtain ⟨lo, lc, rfl⟩ := own_slice HI.out.own
        have HI1 : Hid (BkI w f l (3072 + 0) (.slice lo l.length lc) v C L wr) := Lib.hid (by
          have := HI.out
          rw [hLi] at this
          exact ⟨this.hb, this.hp, this.own, by have := this.len; omega, this.oks, this.ws, this.ap⟩)
        clear HI
        rw [hLi]
        have HLI := Lib.hid hLi
        clear hLi
        go_wp2_with fail
        go_loopw [8] (fun iv wr => ∃ (i : Nat) (v : Value) (C : List HC), i ≤ l.length ∧ iv = .int .i64 i ∧ Hid (BkI w f l (3072 + i) (.slice lo l.length lc) v C L wr))
          (fun iv _ => l.length - (intOf iv).toNat)
        case atStart => exact ⟨0, _, _, by omega, rfl, HI1⟩
        case round =>
          clear HI1
          obtain ⟨i, v, C, hi, rfl, HI⟩ := hrel
          by_cases hlt : i < l.length
          · obtain ⟨t, ht⟩ : ∃ t, l[i]? = some t := ⟨l[i], by simp [hlt]⟩
            obtain ⟨x, hx⟩ : ∃ x, L[i]? = some x := ⟨L[i]'(by have := HLI.out; omega), List.getElem?_eq_getElem _⟩
            obtain ⟨b1, o1, rfl, -, -⟩ := HI.out.word.2 i x hx
            obtain ⟨b2, o2, f', lv, rfl, rfl, hnode, htv⟩ := HR.out.elem ht
            have HNODE := Lib.hid hnode
            have HTV := Lib.hid htv
            have HX := Lib.hid hx
            have HT := Lib.hid ht
            obtain ⟨-, -, t', ht', hck, -, hnt, -, -⟩ := HI.out.ws i x hx
            obtain rfl : t' = t := Option.some.inj (ht'.symm.trans ht)
            have HCK := Lib.hid ((check_eq t').trans hck)
            have HTWO : Hid (∀ (W : World) (b : Nat), BkI w (f' + 1) l (3072 + i) (.slice (some ⟨b1, o1, none⟩) l.length lc) v C L W → WRow W (some ⟨b, 0, none⟩) [x, x] → Calls Tryd.prog 10 #[.pointer (some ⟨w.heap.size, 0, none⟩), .int .i8 5, .slice (some ⟨b, 0, none⟩) 2 2] W (TwoP w (f' + 1) l (3072 + i) (.slice (some ⟨b1, o1, none⟩) l.length lc) C L t' W)) :=
              Lib.hid (fun W b h hw => two_any w (f' + 1) l (3072 + i) _ v C L W b h HL.out (by omega) i x t' hx ht hw)
            have HNEW : Hid (∀ W : World, WRow (W.alloc (.cells #[.bool x.c, .int .i64 x.a, .int .i8 x.k, .int .i64 x.n, .string x.s, .string x.u, .slice x.ao x.l.length x.cap, .bool x.c, .int .i64 x.a, .int .i8 x.k, .int .i64 x.n, .string x.s, .string x.u, .slice x.ao x.l.length x.cap] 33)) (some ⟨W.heap.size, 0, none⟩) [x, x]) := Lib.hid (fun W => wrow_new W [x, x] _ (by simp [wcs, Wd.cells]))
            have HROWS : Hid (∀ c ∈ C, ∀ j, (Value.slice c.lo c.l.length c.lc).ownBlock = some j → j < wr.heap.size) := Lib.hid (fun c hc => own_lt (HI.out.hp.2.2.1.2 c hc) (Nat.le_refl _))
            have HOWN : Hid (b1 < wr.heap.size) := Lib.hid (by
              obtain ⟨b', o', e, hb', -⟩ := HI.out.word.2 i x hx
              injection e with e
              injection e with e1 e2
              omega)
            have hwB := HI.out.hb.size
            clear hnode htv hx ht ht' hck
            go_wp2_with fail
            go_cut [9, 10, 8] from 53 to 120 (fun yv ev iv wx => iv = .int .i64 i ∧ ∃ (Y : Nat) (y : Wd) (er : Int) (v' : Value) (C' : List HC), yv = .pointer (some ⟨Y, 0, none⟩) ∧ ev = .int .i64 er ∧
              Hid (BkI w (f' + 1) l (3072 + (i + 1)) (.slice (some ⟨b1, o1, none⟩) l.length lc) v' C' L wx ∧ wx.heap[Y]? = some (.cells y.cells.toArray 33 (0, 0)) ∧ w.heap.size ≤ Y ∧ TwoD w (f' + 1) C' t' y er))
            case first =>
              have HI0 := Lib.hid (HI.out.keep (Below.refl wr.heap.size wr).drew)
              have hS := HI0.out.b17 HX.out
              refine region_planT (B17 b1 (o1 + i * 7) x) (.take 0 (.take 1 (.take 2 (.take 3 (.take 4 (.take 5 (.take 6 (.take 7 (.take 8 (.fork 9 (.fork 10 (.take 11 (.take 12 (.take 13 (.run 14 (.run 15 (.take 16 .done)))))) 14 (.run 10 (.take 11 (.take 12 (.take 13 (.run 15 (.take 16 .done))))))) 14 (.run 9 (.run 10 (.take 11 (.take 12 (.take 13 (.run 15 (.take 16 .done))))))))))))))))) (by kernel_rfl) (by kernel_rfl) (by kernel_rfl) hS ?_
              generalize hWD : wr.drew = WD at *
              have hwd : Hid (WD.heap.size = wr.heap.size) := Lib.hid (by rw [← hWD]; rfl)
              clear hWD
              iterate 9 (first | (refine planT_skip rfl ?_ ?_; (focus (rfl)); (try simp only [Act.put, List.setIfInBounds_toArray, List.set_cons_zero, List.set_cons_succ])) | (refine planT_take (v := ?_) rfl ?_ (fun w hSw => ?_) ?_; rotate_left; (focus (rfl)); (focus (unfold B17 at hSw; (go_simp <;> with_reducible rfl))); (try simp only [Act.put, List.setIfInBounds_toArray, List.set_cons_zero, List.set_cons_succ])))
              refine planT_fork ?_ ?_
              · skip
                have hba := (Below.refl WD.heap.size WD).alloc (Nat.le_refl _) (.cells #[.bool x.c, .int .i64 x.a, .int .i8 x.k, .int .i64 x.n, .string x.s, .string x.u, .slice x.ao x.l.length x.cap, .bool x.c, .int .i64 x.a, .int .i8 x.k, .int .i64 x.n, .string x.s, .string x.u, .slice x.ao x.l.length x.cap] 33)
                have hSa := hS.keep hba
                have hIa := HI0.out.keep hba
                have hWa := HNEW.out WD
                have hsa : Hid ((WD.alloc (.cells #[.bool x.c, .int .i64 x.a, .int .i8 x.k, .int .i64 x.n, .string x.s, .string x.u, .slice x.ao x.l.length x.cap, .bool x.c, .int .i64 x.a, .int .i8 x.k, .int .i64 x.n, .string x.s, .string x.u, .slice x.ao x.l.length x.cap] 33)).heap.size = WD.heap.size + 1) := Lib.hid (by simp)
                refine planT_run rfl ?_ (fun K hK => ?_)
                focus (rfl)
                go_simp
                refine hK.out _ _ (hSa) ?_
                clear hK K
                (try simp only [Act.put, List.setIfInBounds_toArray, List.set_cons_zero, List.set_cons_succ])
                clear hba
                generalize WD.alloc (.cells #[.bool x.c, .int .i64 x.a, .int .i8 x.k, .int .i64 x.n, .string x.s, .string x.u, .slice x.ao x.l.length x.cap, .bool x.c, .int .i64 x.a, .int .i8 x.k, .int .i64 x.n, .string x.s, .string x.u, .slice x.ao x.l.length x.cap] 33) = Wa at *
                refine planT_fork ?_ ?_
                · skip
                  refine planT_run rfl ?_ (fun K hK => ?_)
                  focus (rfl)
                  go_simp
                  refine (HTWO.out _ _ hIa hWa).mono ?_
                  rintro e W1 ⟨y, er, v', C', rfl, hI1, hk1, hr1, hs1, hor⟩
                  have hS1 := hI1.b17 HX.out
                  refine hK.out _ _ hS1 ?_
                  clear hK K 
                  (try simp only [Act.put, List.setIfInBounds_toArray, List.set_cons_zero, List.set_cons_succ])
                  iterate 3 (first | (refine planT_skip rfl ?_ ?_; (focus (rfl)); (try simp only [Act.put, List.setIfInBounds_toArray, List.set_cons_zero, List.set_cons_succ])) | (refine planT_take (v := ?_) rfl ?_ (fun w hSw => ?_) ?_; rotate_left; (focus (rfl)); (focus (unfold B17 at hSw; (go_simp <;> with_reducible rfl))); (try simp only [Act.put, List.setIfInBounds_toArray, List.set_cons_zero, List.set_cons_succ])))
                  have hb2 := (Below.refl W1.heap.size W1).alloc (Nat.le_refl _) (.cells wzC 33)
                  have hS2 := hS1.keep hb2
                  refine planT_run rfl ?_ (fun K hK => ?_)
                  focus (rfl)
                  go_simp
                  refine hK.out _ _ (hS2) ?_
                  clear hK K
                  (try simp only [Act.put, List.setIfInBounds_toArray, List.set_cons_zero, List.set_cons_succ])
                  have hb3 := (Below.refl W1.heap.size W1).alloc (Nat.le_refl _) (.cells y.cells.toArray 33)
                  have hS3 := hS1.keep hb3
                  refine planT_run rfl ?_ (fun K hK => ?_)
                  focus (rfl)
                  refine wp_store_row 33 (.tmp 9) (.tmp 71) rfl W1.heap.size y.cells.toArray rfl rfl 33 wzC (heap_new W1 _) (infoWD _ (by simp [Wd.cells])) (by simp [Wd.cells]) (by simp [Wd.cells, Value.oneCell']) ?_
                  rw [setRow_alloc]
                  refine hK.out _ _ (hS3) ?_
                  clear hK K
                  (try simp only [Act.put, List.setIfInBounds_toArray, List.set_cons_zero, List.set_cons_succ])
                  iterate 1 (first | (refine planT_skip rfl ?_ ?_; (focus (rfl)); (try simp only [Act.put, List.setIfInBounds_toArray, List.set_cons_zero, List.set_cons_succ])) | (refine planT_take (v := ?_) rfl ?_ (fun w hSw => ?_) ?_; rotate_left; (focus (rfl)); (focus (unfold B17 at hSw; (go_simp <;> with_reducible rfl))); (try simp only [Act.put, List.setIfInBounds_toArray, List.set_cons_zero, List.set_cons_succ])))
                  refine planT_done ?_
                  have HF := Lib.hid (And.intro (hI1.keep hb3) (And.intro (heap_new W1 (.cells y.cells.toArray 33)) (And.intro hI1.hb.size hor)))
                  clear hb2 hb3 hS1 hS2 hS3 hI1 hk1 hr1 hs1 hor hSa hIa hWa
                  go_wp2_with fail
                  go_meet
                  exact ⟨rfl, _, y, er, v', C', rfl, rfl, HF⟩
                · skip
                  have hbb := (Below.refl Wa.heap.size Wa).alloc (Nat.le_refl _) (.cells wzC 33)
                  have hSb := hSa.keep hbb
                  have hIb := hIa.keep hbb
                  have hWb := hWa.keep hbb
                  have hzb := heap_new Wa (.cells wzC 33)
                  have hsb : Hid ((Wa.alloc (.cells wzC 33)).heap.size = Wa.heap.size + 1) := Lib.hid (by simp)
                  refine planT_run rfl ?_ (fun K hK => ?_)
                  focus (rfl)
                  go_simp
                  refine hK.out _ _ (hSb) ?_
                  clear hK K
                  (try simp only [Act.put, List.setIfInBounds_toArray, List.set_cons_zero, List.set_cons_succ])
                  clear hbb
                  generalize Wa.alloc (.cells wzC 33) = Wb at *
                  refine planT_run rfl ?_ (fun K hK => ?_)
                  focus (rfl)
                  go_simp
                  refine (HTWO.out _ _ hIb hWb).mono ?_
                  rintro e W1 ⟨y, er, v', C', rfl, hI1, hk1, hr1, hs1, hor⟩
                  have hS1 := hI1.b17 HX.out
                  refine hK.out _ _ hS1 ?_
                  clear hK K 
                  (try simp only [Act.put, List.setIfInBounds_toArray, List.set_cons_zero, List.set_cons_succ])
                  have hz1 := hk1 _ _ hzb
                  iterate 3 (first | (refine planT_skip rfl ?_ ?_; (focus (rfl)); (try simp only [Act.put, List.setIfInBounds_toArray, List.set_cons_zero, List.set_cons_succ])) | (refine planT_take (v := ?_) rfl ?_ (fun w hSw => ?_) ?_; rotate_left; (focus (rfl)); (focus (unfold B17 at hSw; (go_simp <;> with_reducible rfl))); (try simp only [Act.put, List.setIfInBounds_toArray, List.set_cons_zero, List.set_cons_succ])))
                  have hlz : w.heap.size ≤ Wa.heap.size ∧ wr.heap.size ≤ Wa.heap.size := by
                    have := hsa.out
                    have := hwd.out
                    omega
                  have hI2 := hI1.box hz1 hlz.1 (by simp only [Value.ownBlock]; intro e; injection e with e; have := HOWN.out; omega) (fun c hc e => by
                    have := hsb.out
                    rcases hr1 c hc with h | h
                    · have := HROWS.out c h _ e
                      omega
                    · have := h _ e
                      omega) y.cells.toArray
                  have hS2 := hI2.b17 HX.out
                  refine planT_run rfl ?_ (fun K hK => ?_)
                  focus (rfl)
                  refine wp_store_row 33 (.tmp 9) (.tmp 71) rfl Wa.heap.size y.cells.toArray rfl rfl 33 wzC hz1 (infoWD _ (by simp [Wd.cells])) (by simp [Wd.cells]) (by simp [Wd.cells, Value.oneCell']) ?_
                  refine hK.out _ _ (hS2) ?_
                  clear hK K
                  (try simp only [Act.put, List.setIfInBounds_toArray, List.set_cons_zero, List.set_cons_succ])
                  iterate 1 (first | (refine planT_skip rfl ?_ ?_; (focus (rfl)); (try simp only [Act.put, List.setIfInBounds_toArray, List.set_cons_zero, List.set_cons_succ])) | (refine planT_take (v := ?_) rfl ?_ (fun w hSw => ?_) ?_; rotate_left; (focus (rfl)); (focus (unfold B17 at hSw; (go_simp <;> with_reducible rfl))); (try simp only [Act.put, List.setIfInBounds_toArray, List.set_cons_zero, List.set_cons_succ])))
                  refine planT_done ?_
                  have HF := Lib.hid (And.intro hI2 (And.intro (setRow_heap W1 Wa.heap.size _ y.cells.toArray _ _ hz1) (And.intro hlz.1 hor)))
                  clear hz1 hlz hI2 hS2 hS1 hI1 hk1 hr1 hs1 hor hSa hIa hWa hSb hIb hWb hzb
                  go_wp2_with fail
                  go_meet
                  exact ⟨rfl, _, y, er, v', C', rfl, rfl, HF⟩
              · skip
                have hbz := (Below.refl WD.heap.size WD).alloc (Nat.le_refl _) (.cells wzC 33)
                have hSz := hS.keep hbz
                have hIz := HI0.out.keep hbz
                have hzz := heap_new WD (.cells wzC 33)
                have hsz : Hid ((WD.alloc (.cells wzC 33)).heap.size = WD.heap.size + 1) := Lib.hid (by simp)
                refine planT_run rfl ?_ (fun K hK => ?_)
                focus (rfl)
                go_simp
                refine hK.out _ _ (hSz) ?_
                clear hK K
                (try simp only [Act.put, List.setIfInBounds_toArray, List.set_cons_zero, List.set_cons_succ])
                clear hbz
                generalize WD.alloc (.cells wzC 33) = Wz at *
                have hba := (Below.refl Wz.heap.size Wz).alloc (Nat.le_refl _) (.cells #[.bool x.c, .int .i64 x.a, .int .i8 x.k, .int .i64 x.n, .string x.s, .string x.u, .slice x.ao x.l.length x.cap, .bool x.c, .int .i64 x.a, .int .i8 x.k, .int .i64 x.n, .string x.s, .string x.u, .slice x.ao x.l.length x.cap] 33)
                have hSa := hSz.keep hba
                have hIa := hIz.keep hba
                have hWa := HNEW.out Wz
                have hza := keep_heap hzz hba
                have hsa : Hid ((Wz.alloc (.cells #[.bool x.c, .int .i64 x.a, .int .i8 x.k, .int .i64 x.n, .string x.s, .string x.u, .slice x.ao x.l.length x.cap, .bool x.c, .int .i64 x.a, .int .i8 x.k, .int .i64 x.n, .string x.s, .string x.u, .slice x.ao x.l.length x.cap] 33)).heap.size = Wz.heap.size + 1) := Lib.hid (by simp)
                refine planT_run rfl ?_ (fun K hK => ?_)
                focus (rfl)
                go_simp
                refine hK.out _ _ (hSa) ?_
                clear hK K
                (try simp only [Act.put, List.setIfInBounds_toArray, List.set_cons_zero, List.set_cons_succ])
                clear hba
                generalize Wz.alloc (.cells #[.bool x.c, .int .i64 x.a, .int .i8 x.k, .int .i64 x.n, .string x.s, .string x.u, .slice x.ao x.l.length x.cap, .bool x.c, .int .i64 x.a, .int .i8 x.k, .int .i64 x.n, .string x.s, .string x.u, .slice x.ao x.l.length x.cap] 33) = Wa at *
                refine planT_run rfl ?_ (fun K hK => ?_)
                focus (rfl)
                go_simp
                refine (HTWO.out _ _ hIa hWa).mono ?_
                rintro e W1 ⟨y, er, v', C', rfl, hI1, hk1, hr1, hs1, hor⟩
                have hS1 := hI1.b17 HX.out
                refine hK.out _ _ hS1 ?_
                clear hK K 
                (try simp only [Act.put, List.setIfInBounds_toArray, List.set_cons_zero, List.set_cons_succ])
                have hz1 := hk1 _ _ hza
                iterate 3 (first | (refine planT_skip rfl ?_ ?_; (focus (rfl)); (try simp only [Act.put, List.setIfInBounds_toArray, List.set_cons_zero, List.set_cons_succ])) | (refine planT_take (v := ?_) rfl ?_ (fun w hSw => ?_) ?_; rotate_left; (focus (rfl)); (focus (unfold B17 at hSw; (go_simp <;> with_reducible rfl))); (try simp only [Act.put, List.setIfInBounds_toArray, List.set_cons_zero, List.set_cons_succ])))
                have hlz : w.heap.size ≤ WD.heap.size ∧ wr.heap.size ≤ WD.heap.size := by
                  have := hwd.out
                  omega
                have hI2 := hI1.box hz1 hlz.1 (by simp only [Value.ownBlock]; intro e; injection e with e; have := HOWN.out; omega) (fun c hc e => by
                  have := hsa.out
                  have := hsz.out
                  rcases hr1 c hc with h | h
                  · have := HROWS.out c h _ e
                    omega
                  · have := h _ e
                    omega) y.cells.toArray
                have hS2 := hI2.b17 HX.out
                refine planT_run rfl ?_ (fun K hK => ?_)
                focus (rfl)
                refine wp_store_row 33 (.tmp 9) (.tmp 71) rfl WD.heap.size y.cells.toArray rfl rfl 33 wzC hz1 (infoWD _ (by simp [Wd.cells])) (by simp [Wd.cells]) (by simp [Wd.cells, Value.oneCell']) ?_
                refine hK.out _ _ (hS2) ?_
                clear hK K
                (try simp only [Act.put, List.setIfInBounds_toArray, List.set_cons_zero, List.set_cons_succ])
                iterate 1 (first | (refine planT_skip rfl ?_ ?_; (focus (rfl)); (try simp only [Act.put, List.setIfInBounds_toArray, List.set_cons_zero, List.set_cons_succ])) | (refine planT_take (v := ?_) rfl ?_ (fun w hSw => ?_) ?_; rotate_left; (focus (rfl)); (focus (unfold B17 at hSw; (go_simp <;> with_reducible rfl))); (try simp only [Act.put, List.setIfInBounds_toArray, List.set_cons_zero, List.set_cons_succ])))
                refine planT_done ?_
                have HF := Lib.hid (And.intro hI2 (And.intro (setRow_heap W1 WD.heap.size _ y.cells.toArray _ _ hz1) (And.intro hlz.1 hor)))
                clear hz1 hlz hI2 hS2 hS1 hI1 hk1 hr1 hs1 hor hSa hIa hWa hSz hIz hzz hza
                go_wp2_with fail
                go_meet
                exact ⟨rfl, _, y, er, v', C', rfl, rfl, HF⟩
            case rest =>
              obtain ⟨rfl, Y, y, er, v', C', rfl, rfl, HBB⟩ := hcut
              obtain ⟨hfd, lv2, e, hrw⟩ := HTV.out
              have e5 : lv = lv2 := by simpa using e
              subst e5
              obtain ⟨tao, tcap, rfl, -, -, -⟩ := id hrw
              have HTUP : Hid (∀ (W : World) (b : Nat), Below w.heap.size w W → W.heap[b]? = some (.cells #[.int .i8 t'.k, .int .i64 t'.n, .string t'.s, .string t'.u, .slice tao t'.l.length tcap, .int .i8 t'.k, .int .i64 t'.n, .string t'.s, .string t'.u, .slice tao t'.l.length tcap] 31 (0, 0)) → Calls Tryd.prog 11 #[.slice (some ⟨b, 0, none⟩) 2 2] W (TupP w.heap.size (f' + 1) t' W)) :=
                Lib.hid (fun W b h hc => tup_any w f' t' ⟨t'.k, t'.n, t'.s, t'.u, tao, tcap, t'.l⟩ b W h (by cases t'; rfl) hfd hrw HCK.out hc)
              have hYl := heap_lt HBB.out.2.1
              clear hfd e hrw
              go_wp2_with fail
              go_cut [11, 12, 8] from 53 to 120 (fun zv ev iv wx => iv = .int .i64 i ∧ ∃ (Z : Nat) (te : TE) (e2 : Int), zv = .pointer (some ⟨Z, 0, none⟩) ∧ ev = .int .i64 e2 ∧
                Hid (BkI w (f' + 1) l (3072 + (i + 1)) (.slice (some ⟨b1, o1, none⟩) l.length lc) v' C' L wx ∧ wx.heap[Y]? = some (.cells y.cells.toArray 33 (0, 0)) ∧ wx.heap[Z]? = some (.cells te.cells.toArray 31 (0, 0)) ∧ ∃ n1, TupD w.heap.size n1 (f' + 1) wx t' te e2))
              case first =>
                have hdr := (Below.refl wc.heap.size wc).drew
                have HI0 := Lib.hid (HBB.out.1.keep hdr)
                have HY0 := Lib.hid (keep_heap HBB.out.2.1 hdr)
                have hS : B18 b2 (o2 + i * 5) t'.k t'.n t'.s t'.u (.slice tao t'.l.length tcap) wc.drew := by
                  obtain ⟨c0, c1, c2, c3, c4⟩ := HNODE.out.keep HI0.out.hb
                  exact ⟨c0, c1, c2, c3, c4⟩
                clear hdr
                refine region_planT (B18 b2 (o2 + i * 5) t'.k t'.n t'.s t'.u (.slice tao t'.l.length tcap)) (.take 0 (.take 1 (.take 2 (.take 3 (.take 4 (.take 5 (.take 6 (.take 7 (.fork 8 (.fork 9 (.take 10 (.take 11 (.take 12 (.run 13 (.run 14 (.take 15 .done)))))) 13 (.run 9 (.take 10 (.take 11 (.take 12 (.run 14 (.take 15 .done))))))) 13 (.run 8 (.run 9 (.take 10 (.take 11 (.take 12 (.run 14 (.take 15 .done)))))))))))))))) (by kernel_rfl) (by kernel_rfl) (by kernel_rfl) hS ?_
                generalize hWD : wc.drew = WD at *
                have hwd : Hid (WD.heap.size = wc.heap.size) := Lib.hid (by rw [← hWD]; rfl)
                clear hWD
                iterate 8 (first | (refine planT_skip rfl ?_ ?_; (focus (rfl)); (try simp only [Act.put, List.setIfInBounds_toArray, List.set_cons_zero, List.set_cons_succ])) | (refine planT_take (v := ?_) rfl ?_ (fun w hSw => ?_) ?_; rotate_left; (focus (rfl)); (focus (unfold B18 at hSw; (go_simp <;> with_reducible rfl))); (try simp only [Act.put, List.setIfInBounds_toArray, List.set_cons_zero, List.set_cons_succ])))
                refine planT_fork ?_ ?_
                · skip
                  have hba := (Below.refl WD.heap.size WD).alloc (Nat.le_refl _) (.cells #[.int .i8 t'.k, .int .i64 t'.n, .string t'.s, .string t'.u, .slice tao t'.l.length tcap, .int .i8 t'.k, .int .i64 t'.n, .string t'.s, .string t'.u, .slice tao t'.l.length tcap] 31)
                  have hSa := hS.keep hba
                  have hIa := HI0.out.keep hba
                  have hYa := keep_heap HY0.out hba
                  have hna := heap_new WD (.cells #[.int .i8 t'.k, .int .i64 t'.n, .string t'.s, .string t'.u, .slice tao t'.l.length tcap, .int .i8 t'.k, .int .i64 t'.n, .string t'.s, .string t'.u, .slice tao t'.l.length tcap] 31)
                  have hsa : Hid ((WD.alloc (.cells #[.int .i8 t'.k, .int .i64 t'.n, .string t'.s, .string t'.u, .slice tao t'.l.length tcap, .int .i8 t'.k, .int .i64 t'.n, .string t'.s, .string t'.u, .slice tao t'.l.length tcap] 31)).heap.size = WD.heap.size + 1) := Lib.hid (by simp)
                  refine planT_run rfl ?_ (fun K hK => ?_)
                  focus (rfl)
                  go_simp
                  refine hK.out _ _ (hSa) ?_
                  clear hK K
                  (try simp only [Act.put, List.setIfInBounds_toArray, List.set_cons_zero, List.set_cons_succ])
                  clear hba
                  generalize WD.alloc (.cells #[.int .i8 t'.k, .int .i64 t'.n, .string t'.s, .string t'.u, .slice tao t'.l.length tcap, .int .i8 t'.k, .int .i64 t'.n, .string t'.s, .string t'.u, .slice tao t'.l.length tcap] 31) = Wa at *
                  refine planT_fork ?_ ?_
                  · skip
                    refine planT_run rfl ?_ (fun K hK => ?_)
                    focus (rfl)
                    go_simp
                    refine (HTUP.out _ _ hIa.hb hna).mono ?_
                    rintro e W1 ⟨te, e2, rfl, hb1, hor⟩
                    have hS1 := hSa.keep hb1
                    refine hK.out _ _ hS1 ?_
                    clear hK K 
                    (try simp only [Act.put, List.setIfInBounds_toArray, List.set_cons_zero, List.set_cons_succ])
                    iterate 3 (first | (refine planT_skip rfl ?_ ?_; (focus (rfl)); (try simp only [Act.put, List.setIfInBounds_toArray, List.set_cons_zero, List.set_cons_succ])) | (refine planT_take (v := ?_) rfl ?_ (fun w hSw => ?_) ?_; rotate_left; (focus (rfl)); (focus (unfold B18 at hSw; (go_simp <;> with_reducible rfl))); (try simp only [Act.put, List.setIfInBounds_toArray, List.set_cons_zero, List.set_cons_succ])))
                    have hb2 := (Below.refl W1.heap.size W1).alloc (Nat.le_refl _) (.cells zT 31)
                    have hS2 := hS1.keep hb2
                    refine planT_run rfl ?_ (fun K hK => ?_)
                    focus (rfl)
                    go_simp
                    refine hK.out _ _ (hS2) ?_
                    clear hK K
                    (try simp only [Act.put, List.setIfInBounds_toArray, List.set_cons_zero, List.set_cons_succ])
                    have hb3 := (Below.refl W1.heap.size W1).alloc (Nat.le_refl _) (.cells te.cells.toArray 31)
                    have hS3 := hS1.keep hb3
                    refine planT_run rfl ?_ (fun K hK => ?_)
                    focus (rfl)
                    refine wp_store_row 31 (.tmp 11) (.tmp 84) rfl W1.heap.size te.cells.toArray rfl rfl 31 zT (heap_new W1 _) (infoTM' _ (by simp [TE.cells])) (by simp [TE.cells]) (by simp [TE.cells, Value.oneCell']) ?_
                    rw [setRow_alloc]
                    refine hK.out _ _ (hS3) ?_
                    clear hK K
                    (try simp only [Act.put, List.setIfInBounds_toArray, List.set_cons_zero, List.set_cons_succ])
                    iterate 1 (first | (refine planT_skip rfl ?_ ?_; (focus (rfl)); (try simp only [Act.put, List.setIfInBounds_toArray, List.set_cons_zero, List.set_cons_succ])) | (refine planT_take (v := ?_) rfl ?_ (fun w hSw => ?_) ?_; rotate_left; (focus (rfl)); (focus (unfold B18 at hSw; (go_simp <;> with_reducible rfl))); (try simp only [Act.put, List.setIfInBounds_toArray, List.set_cons_zero, List.set_cons_succ])))
                    refine planT_done ?_
                    have HF := Lib.hid (And.intro ((hIa.keep hb1).keep hb3) (And.intro (keep_heap (keep_heap hYa hb1) hb3) (And.intro (heap_new W1 (.cells te.cells.toArray 31)) (hor.keep hb3).ex)))
                    clear hb1 hb2 hb3 hS1 hS2 hS3 hor hSa hIa hYa hna
                    go_wp2_with fail
                    go_meet
                    exact ⟨rfl, _, te, e2, rfl, rfl, HF⟩
                  · skip
                    have hbb := (Below.refl Wa.heap.size Wa).alloc (Nat.le_refl _) (.cells zT 31)
                    have hSb := hSa.keep hbb
                    have hIb := hIa.keep hbb
                    have hYb := keep_heap hYa hbb
                    have hnb := keep_heap hna hbb
                    have hzb := heap_new Wa (.cells zT 31)
                    have hsb : Hid ((Wa.alloc (.cells zT 31)).heap.size = Wa.heap.size + 1) := Lib.hid (by simp)
                    refine planT_run rfl ?_ (fun K hK => ?_)
                    focus (rfl)
                    go_simp
                    refine hK.out _ _ (hSb) ?_
                    clear hK K
                    (try simp only [Act.put, List.setIfInBounds_toArray, List.set_cons_zero, List.set_cons_succ])
                    clear hbb
                    generalize Wa.alloc (.cells zT 31) = Wb at *
                    refine planT_run rfl ?_ (fun K hK => ?_)
                    focus (rfl)
                    go_simp
                    refine (HTUP.out _ _ hIb.hb hnb).mono ?_
                    rintro e W1 ⟨te, e2, rfl, hb1, hor⟩
                    have hS1 := hSb.keep hb1
                    refine hK.out _ _ hS1 ?_
                    clear hK K 
                    (try simp only [Act.put, List.setIfInBounds_toArray, List.set_cons_zero, List.set_cons_succ])
                    have hz1 := keep_heap hzb hb1
                    iterate 3 (first | (refine planT_skip rfl ?_ ?_; (focus (rfl)); (try simp only [Act.put, List.setIfInBounds_toArray, List.set_cons_zero, List.set_cons_succ])) | (refine planT_take (v := ?_) rfl ?_ (fun w hSw => ?_) ?_; rotate_left; (focus (rfl)); (focus (unfold B18 at hSw; (go_simp <;> with_reducible rfl))); (try simp only [Act.put, List.setIfInBounds_toArray, List.set_cons_zero, List.set_cons_succ])))
                    have hlz : w.heap.size ≤ Wa.heap.size ∧ wc.heap.size ≤ Wa.heap.size := by
                      have := hsa.out
                      have := hwd.out
                      have := HI0.out.hb.size
                      omega
                    have hcs := chg_setRow W1 Wa.heap.size te.cells.toArray
                    have hI2 := HBB.out.1.late (hIb.keep hb1) hlz.2 te.cells.toArray
                    have hY2 := hcs.heap (keep_heap hYb hb1) (fun e => by have e : Y = Wa.heap.size := e; omega)
                    have hor2 := hor.chg hcs (fun k e => by have e : k = Wa.heap.size := e; have := hsb.out; omega)
                    have hS2 : B18 b2 (o2 + i * 5) t'.k t'.n t'.s t'.u (.slice tao t'.l.length tcap) (W1.setRow Wa.heap.size te.cells.toArray) := by
                      obtain ⟨c0, c1, c2, c3, c4⟩ := HNODE.out.keep hI2.hb
                      exact ⟨c0, c1, c2, c3, c4⟩
                    refine planT_run rfl ?_ (fun K hK => ?_)
                    focus (rfl)
                    refine wp_store_row 31 (.tmp 11) (.tmp 84) rfl Wa.heap.size te.cells.toArray rfl rfl 31 zT hz1 (infoTM' _ (by simp [TE.cells])) (by simp [TE.cells]) (by simp [TE.cells, Value.oneCell']) ?_
                    refine hK.out _ _ (hS2) ?_
                    clear hK K
                    (try simp only [Act.put, List.setIfInBounds_toArray, List.set_cons_zero, List.set_cons_succ])
                    iterate 1 (first | (refine planT_skip rfl ?_ ?_; (focus (rfl)); (try simp only [Act.put, List.setIfInBounds_toArray, List.set_cons_zero, List.set_cons_succ])) | (refine planT_take (v := ?_) rfl ?_ (fun w hSw => ?_) ?_; rotate_left; (focus (rfl)); (focus (unfold B18 at hSw; (go_simp <;> with_reducible rfl))); (try simp only [Act.put, List.setIfInBounds_toArray, List.set_cons_zero, List.set_cons_succ])))
                    refine planT_done ?_
                    have HF := Lib.hid (And.intro hI2 (And.intro hY2 (And.intro (setRow_heap W1 Wa.heap.size _ te.cells.toArray _ _ hz1) hor2.ex)))
                    clear hz1 hlz hcs hI2 hY2 hor2 hS2 hS1 hb1 hor hSa hIa hYa hna hSb hIb hYb hnb hzb
                    go_wp2_with fail
                    go_meet
                    exact ⟨rfl, _, te, e2, rfl, rfl, HF⟩
                · skip
                  have hbz := (Below.refl WD.heap.size WD).alloc (Nat.le_refl _) (.cells zT 31)
                  have hSz := hS.keep hbz
                  have hIz := HI0.out.keep hbz
                  have hYz := keep_heap HY0.out hbz
                  have hzz := heap_new WD (.cells zT 31)
                  have hsz : Hid ((WD.alloc (.cells zT 31)).heap.size = WD.heap.size + 1) := Lib.hid (by simp)
                  refine planT_run rfl ?_ (fun K hK => ?_)
                  focus (rfl)
                  go_simp
                  refine hK.out _ _ (hSz) ?_
                  clear hK K
                  (try simp only [Act.put, List.setIfInBounds_toArray, List.set_cons_zero, List.set_cons_succ])
                  clear hbz
                  generalize WD.alloc (.cells zT 31) = Wz at *
                  have hba := (Below.refl Wz.heap.size Wz).alloc (Nat.le_refl _) (.cells #[.int .i8 t'.k, .int .i64 t'.n, .string t'.s, .string t'.u, .slice tao t'.l.length tcap, .int .i8 t'.k, .int .i64 t'.n, .string t'.s, .string t'.u, .slice tao t'.l.length tcap] 31)
                  have hSa := hSz.keep hba
                  have hIa := hIz.keep hba
                  have hYa := keep_heap hYz hba
                  have hza := keep_heap hzz hba
                  have hna := heap_new Wz (.cells #[.int .i8 t'.k, .int .i64 t'.n, .string t'.s, .string t'.u, .slice tao t'.l.length tcap, .int .i8 t'.k, .int .i64 t'.n, .string t'.s, .string t'.u, .slice tao t'.l.length tcap] 31)
                  have hsa : Hid ((Wz.alloc (.cells #[.int .i8 t'.k, .int .i64 t'.n, .string t'.s, .string t'.u, .slice tao t'.l.length tcap, .int .i8 t'.k, .int .i64 t'.n, .string t'.s, .string t'.u, .slice tao t'.l.length tcap] 31)).heap.size = Wz.heap.size + 1) := Lib.hid (by simp)
                  refine planT_run rfl ?_ (fun K hK => ?_)
                  focus (rfl)
                  go_simp
                  refine hK.out _ _ (hSa) ?_
                  clear hK K
                  (try simp only [Act.put, List.setIfInBounds_toArray, List.set_cons_zero, List.set_cons_succ])
                  clear hba
                  generalize Wz.alloc (.cells #[.int .i8 t'.k, .int .i64 t'.n, .string t'.s, .string t'.u, .slice tao t'.l.length tcap, .int .i8 t'.k, .int .i64 t'.n, .string t'.s, .string t'.u, .slice tao t'.l.length tcap] 31) = Wa at *
                  refine planT_run rfl ?_ (fun K hK => ?_)
                  focus (rfl)
                  go_simp
                  refine (HTUP.out _ _ hIa.hb hna).mono ?_
                  rintro e W1 ⟨te, e2, rfl, hb1, hor⟩
                  have hS1 := hSa.keep hb1
                  refine hK.out _ _ hS1 ?_
                  clear hK K 
                  (try simp only [Act.put, List.setIfInBounds_toArray, List.set_cons_zero, List.set_cons_succ])
                  have hz1 := keep_heap hza hb1
                  iterate 3 (first | (refine planT_skip rfl ?_ ?_; (focus (rfl)); (try simp only [Act.put, List.setIfInBounds_toArray, List.set_cons_zero, List.set_cons_succ])) | (refine planT_take (v := ?_) rfl ?_ (fun w hSw => ?_) ?_; rotate_left; (focus (rfl)); (focus (unfold B18 at hSw; (go_simp <;> with_reducible rfl))); (try simp only [Act.put, List.setIfInBounds_toArray, List.set_cons_zero, List.set_cons_succ])))
                  have hlz : w.heap.size ≤ WD.heap.size ∧ wc.heap.size ≤ WD.heap.size := by
                    have := hwd.out
                    have := HI0.out.hb.size
                    omega
                  have hcs := chg_setRow W1 WD.heap.size te.cells.toArray
                  have hI2 := HBB.out.1.late (hIa.keep hb1) hlz.2 te.cells.toArray
                  have hY2 := hcs.heap (keep_heap hYa hb1) (fun e => by have e : Y = WD.heap.size := e; omega)
                  have hor2 := hor.chg hcs (fun k e => by have e : k = WD.heap.size := e; have := hsa.out; have := hsz.out; omega)
                  have hS2 : B18 b2 (o2 + i * 5) t'.k t'.n t'.s t'.u (.slice tao t'.l.length tcap) (W1.setRow WD.heap.size te.cells.toArray) := by
                    obtain ⟨c0, c1, c2, c3, c4⟩ := HNODE.out.keep hI2.hb
                    exact ⟨c0, c1, c2, c3, c4⟩
                  refine planT_run rfl ?_ (fun K hK => ?_)
                  focus (rfl)
                  refine wp_store_row 31 (.tmp 11) (.tmp 84) rfl WD.heap.size te.cells.toArray rfl rfl 31 zT hz1 (infoTM' _ (by simp [TE.cells])) (by simp [TE.cells]) (by simp [TE.cells, Value.oneCell']) ?_
                  refine hK.out _ _ (hS2) ?_
                  clear hK K
                  (try simp only [Act.put, List.setIfInBounds_toArray, List.set_cons_zero, List.set_cons_succ])
                  iterate 1 (first | (refine planT_skip rfl ?_ ?_; (focus (rfl)); (try simp only [Act.put, List.setIfInBounds_toArray, List.set_cons_zero, List.set_cons_succ])) | (refine planT_take (v := ?_) rfl ?_ (fun w hSw => ?_) ?_; rotate_left; (focus (rfl)); (focus (unfold B18 at hSw; (go_simp <;> with_reducible rfl))); (try simp only [Act.put, List.setIfInBounds_toArray, List.set_cons_zero, List.set_cons_succ])))
                  refine planT_done ?_
                  have HF := Lib.hid (And.intro hI2 (And.intro hY2 (And.intro (setRow_heap W1 WD.heap.size _ te.cells.toArray _ _ hz1) hor2.ex)))
                  clear hz1 hlz hcs hI2 hY2 hor2 hS2 hS1 hb1 hor hSa hIa hYa hna hSz hIz hYz hzz hza
                  go_wp2_with fail
                  go_meet
                  exact ⟨rfl, _, te, e2, rfl, rfl, HF⟩
              case rest =>
                obtain ⟨rfl, Z, te, e2, rfl, rfl, HBC⟩ := hcut
                obtain ⟨n1, hd2⟩ := HBC.out.2.2.2
                have hd1 := HBB.out.2.2.2
                rcases hd1 with ⟨rfl, hs1, hyo, hym, hyt, hyn⟩ | ⟨rfl, hs1⟩
                · rcases hd2 with ⟨rfl, hs2, hte, hrs⟩ | ⟨rfl, hs2⟩
                  · have HY := Lib.hid (And.intro hyo (And.intro hym (And.intro hyt hyn)))
                    have HTE := Lib.hid (te_val hte hrs)
                    have HI := Lib.hid HBC.out.1
                    obtain ⟨yc, ya, yk, yn, ys, yu, yao, ycap, yl⟩ := y
                    obtain ⟨ek, en, es, eu, eao, ecap, el⟩ := te
                    have hy1 := HBC.out.2.1
                    have hz1 := HBC.out.2.2.1
                    simp only [Wd.cells] at hy1
                    simp only [TE.cells] at hz1
                    have HYB := Lib.hid hy1
                    have HZB := Lib.hid hz1
                    obtain ⟨y0, -⟩ := cells_at hy1 0 _ rfl
                    obtain ⟨y1, -⟩ := cells_at hy1 1 _ rfl
                    obtain ⟨y2, -⟩ := cells_at hy1 2 _ rfl
                    obtain ⟨y3, -⟩ := cells_at hy1 3 _ rfl
                    obtain ⟨y4, -⟩ := cells_at hy1 4 _ rfl
                    obtain ⟨y5, -⟩ := cells_at hy1 5 _ rfl
                    obtain ⟨y6, -⟩ := cells_at hy1 6 _ rfl
                    have htk := take_any w (f' + 1) w.heap.size w.heap.size v' C' ⟨yc, ya, yk, yn, ys, yu, yao, ycap, yl⟩ wc HI.out.oks HI.out.hp (keep_let HL.out HI.out.hb) hyo HI.out.hb
                    simp only [Wd.V] at htk
                    have HTK := Lib.hid (htk.mono fun e W' h => TakeP.q h hym hyt)
                    clear hyo hym hyt hyn hte hrs hy1 hz1 htk HBC HBB
                    go_wp2_with fail
                    refine HTK.out.mono ?_
                    rintro e w2 ⟨te3, rfl, hb2, htv3⟩
                    obtain ⟨gk, gn, gs, gu, gao, gcap, gl⟩ := te3
                    have HI2 := Lib.hid (HI.out.keep hb2)
                    have HYB2 := Lib.hid (keep_heap HYB.out hb2)
                    have HZB2 := Lib.hid (keep_heap HZB.out hb2)
                    have HTE2 := Lib.hid (HTE.out.keep hb2)
                    have HTV3 := Lib.hid htv3
                    clear hb2 htv3 HI HYB HZB HTE HTK y0 y1 y2 y3 y4 y5 y6
                    simp only
                    go_wp2_with (with_reducible refine stop_op (o := ⟨_, .store 31 (.tmp 13) (.tmp 95), _, _, _, _⟩) ?_)
                    refine Lib.hid ?_
                    refine wpList_store_new (o := ⟨none, _, _, _, _, _⟩) rfl 31 (.tmp 13) (.tmp 95) rfl #[.int .i8 gk, .int .i64 gn, .string gs, .string gu, .slice gao gl.length gcap] rfl rfl (infoTM' _ rfl) rfl (by simp [Value.oneCell']) ?_
                    have hba := (Below.refl w2.heap.size w2).alloc (Nat.le_refl _) (.cells #[.int .i8 gk, .int .i64 gn, .string gs, .string gu, .slice gao gl.length gcap] 31)
                    have hna := heap_new w2 (.cells #[.int .i8 gk, .int .i64 gn, .string gs, .string gu, .slice gao gl.length gcap] 31)
                    have HI3 := Lib.hid (HI2.out.keep hba)
                    have HYB3 := Lib.hid (keep_heap HYB2.out hba)
                    have HZB3 := Lib.hid (keep_heap HZB2.out hba)
                    have HTE3 := Lib.hid (HTE2.out.keep hba)
                    have HTV4 := Lib.hid (HTV3.out.keep hba)
                    have HGB := Lib.hid hna
                    clear hba hna HI2 HYB2 HZB2 HTE2 HTV3
                    generalize w2.alloc (.cells #[.int .i8 gk, .int .i64 gn, .string gs, .string gu, .slice gao gl.length gcap] 31) = w3 at *
                    obtain ⟨y0, -⟩ := cells_at HYB3.out 0 _ rfl
                    obtain ⟨y1, -⟩ := cells_at HYB3.out 1 _ rfl
                    obtain ⟨y2, -⟩ := cells_at HYB3.out 2 _ rfl
                    obtain ⟨y3, -⟩ := cells_at HYB3.out 3 _ rfl
                    obtain ⟨y4, -⟩ := cells_at HYB3.out 4 _ rfl
                    obtain ⟨y5, -⟩ := cells_at HYB3.out 5 _ rfl
                    obtain ⟨y6, -⟩ := cells_at HYB3.out 6 _ rfl
                    have hsz := sizeH_any (f' + 1) w3 w.heap.size w.heap.size v' C' ⟨yc, ya, yk, yn, ys, yu, yao, ycap, yl⟩ HI3.out.hp (keep_let HL.out HI3.out.hb) (HY.out.1.keep HI3.out.hb)
                    simp only [Wd.V] at hsz
                    have HSZ := Lib.hid hsz
                    clear hsz
                    go_wp2_with fail
                    refine HSZ.out.mono ?_
                    rintro e w4 ⟨hb4, (⟨-, rfl⟩ | ⟨hm, -⟩)⟩
                    · rw [HY.out.2.2.2]
                      have HI4 := Lib.hid (HI3.out.keep hb4)
                      have hz4 := keep_heap HZB3.out hb4
                      have HZB4 := Lib.hid hz4
                      have hg4 := keep_heap HGB.out hb4
                      have HTE4 := Lib.hid (HTE3.out.keep hb4)
                      have HRS := Lib.hid (rsame_any _ _ _ _ _ _ w4 (HTV4.out.keep hb4) HTE4.out)
                      obtain ⟨g0, -⟩ := cells_at hg4 0 _ rfl
                      obtain ⟨g1, -⟩ := cells_at hg4 1 _ rfl
                      obtain ⟨g2, -⟩ := cells_at hg4 2 _ rfl
                      obtain ⟨g3, -⟩ := cells_at hg4 3 _ rfl
                      obtain ⟨g4, -⟩ := cells_at hg4 4 _ rfl
                      obtain ⟨z0, -⟩ := cells_at hz4 0 _ rfl
                      obtain ⟨z1, -⟩ := cells_at hz4 1 _ rfl
                      obtain ⟨z2, -⟩ := cells_at hz4 2 _ rfl
                      obtain ⟨z3, -⟩ := cells_at hz4 3 _ rfl
                      obtain ⟨z4, -⟩ := cells_at hz4 4 _ rfl
                      clear hb4 hg4 hz4 HI3 HYB3 HZB3 HTE3 HTV4 HGB HSZ y0 y1 y2 y3 y4 y5 y6
                      go_wp2_with fail
                      refine HRS.out.mono ?_
                      rintro e w5 ⟨rfl, hb5⟩
                      rw [eqT_refl]
                      have HI5 := Lib.hid (HI4.out.keep hb5)
                      have hz5 := keep_heap HZB4.out hb5
                      have hsz5 := rsizeT_any _ _ _ w5 (HTE4.out.keep hb5)
                      rw [siz_two] at hsz5
                      have hmin : min ((2 * nT t' + 1 : Nat) : Int) 257 = ((2 * nT t' + 1 : Nat) : Int) := by omega
                      rw [hmin] at hsz5
                      have HSZ5 := Lib.hid hsz5
                      clear g0 g1 g2 g3 g4 z0 z1 z2 z3 z4 hb5 hsz5 hmin HI4 HZB4 HTE4 HRS
                      obtain ⟨z0, -⟩ := cells_at hz5 0 _ rfl
                      obtain ⟨z1, -⟩ := cells_at hz5 1 _ rfl
                      obtain ⟨z2, -⟩ := cells_at hz5 2 _ rfl
                      obtain ⟨z3, -⟩ := cells_at hz5 3 _ rfl
                      obtain ⟨z4, -⟩ := cells_at hz5 4 _ rfl
                      clear hz5
                      go_wp2_with fail
                      refine HSZ5.out.mono ?_
                      rintro e w6 ⟨rfl, hb6⟩
                      have HI6 := Lib.hid (HI5.out.keep hb6)
                      clear hb6 HI5 z0 z1 z2 z3 z4
                      go_wp2_with fail
                      go_roundw
                      case rel => exact ⟨i + 1, _, _, by omega, by go_num, HI6⟩
                      case measure => simp [intOf]; omega
                    · exact absurd (HY.out.2.1.symm.trans hm) (by simp)
                  · omega
                · rcases hd2 with ⟨rfl, hs2, hte, hrs⟩ | ⟨rfl, hs2⟩
                  · omega
                  · have HF := Lib.hid HBC.out.1
                    go_wp2_with fail
                    go_roundw
                    case rel => exact ⟨i + 1, _, _, by omega, by go_num, HF⟩
                    case measure => simp [intOf]; omega
          · obtain rfl : i = l.length := by omega
            go_wp2_with fail
            go_loopw [17] (fun iv wr => ∃ (i : Nat), i ≤ l.length ∧ iv = .int .i64 i ∧ Hid (BkI w f l (3072 + l.length) (.slice lo l.length lc) v C L wr))
              (fun iv _ => l.length - (intOf iv).toNat)
            case atStart => exact ⟨0, by omega, rfl, HI⟩
            case round =>
              clear HI
              obtain ⟨i, hi, rfl, HI⟩ := hrel
              by_cases hlt : i < l.length
              · obtain ⟨t, ht⟩ : ∃ t, l[i]? = some t := ⟨l[i], by simp [hlt]⟩
                obtain ⟨x, hx⟩ : ∃ x, L[i]? = some x := ⟨L[i]'(by have := HLI.out; omega), List.getElem?_eq_getElem _⟩
                obtain ⟨b1, o1, rfl, -, -⟩ := HI.out.word.2 i x hx
                obtain ⟨b2, o2, f', lv, rfl, rfl, hnode, htv⟩ := HR.out.elem ht
                obtain ⟨hxo, hxm, t', ht', -, -, -, htk, -⟩ := HI.out.ws i x hx
                obtain rfl : t' = t := Option.some.inj (ht'.symm.trans ht)
                obtain ⟨c0, c1, c2, c3, c4, c5, c6⟩ := HI.out.b17 hx
                obtain ⟨xc, xa, xk, xn, xs, xu, xao, xcap, xl⟩ := x
                simp only at c0 c1 c2 c3 c4 c5 c6
                have htk2 := (take_any w (f' + 1) w.heap.size w.heap.size v C ⟨xc, xa, xk, xn, xs, xu, xao, xcap, xl⟩ wr HI.out.oks HI.out.hp (keep_let HL.out HI.out.hb) hxo HI.out.hb).mono fun e W' h => TakeP.q h hxm htk
                simp only [Wd.V] at htk2
                have HTK := Lib.hid htk2
                have HNODE := Lib.hid hnode
                have HTV := Lib.hid htv
                clear hx ht ht' hnode htv hxo hxm htk htk2
                go_wp2_with fail
                refine HTK.out.mono ?_
                rintro e w2 ⟨te3, rfl, hb2, htv3⟩
                obtain ⟨gk, gn, gs, gu, gao, gcap, gl⟩ := te3
                have HI2 := Lib.hid (HI.out.keep hb2)
                have HTV3 := Lib.hid htv3
                clear hb2 htv3 HI HTK c0 c1 c2 c3 c4 c5 c6
                simp only
                go_wp2_with (with_reducible refine stop_op (o := ⟨_, .store 31 (.tmp 18) (.tmp 134), _, _, _, _⟩) ?_)
                refine Lib.hid ?_
                refine wpList_store_new (o := ⟨none, _, _, _, _, _⟩) rfl 31 (.tmp 18) (.tmp 134) rfl #[.int .i8 gk, .int .i64 gn, .string gs, .string gu, .slice gao gl.length gcap] rfl rfl (infoTM' _ rfl) rfl (by simp [Value.oneCell']) ?_
                have hba := (Below.refl w2.heap.size w2).alloc (Nat.le_refl _) (.cells #[.int .i8 gk, .int .i64 gn, .string gs, .string gu, .slice gao gl.length gcap] 31)
                have hna := heap_new w2 (.cells #[.int .i8 gk, .int .i64 gn, .string gs, .string gu, .slice gao gl.length gcap] 31)
                have HI3 := Lib.hid (HI2.out.keep hba)
                have HTV4 := Lib.hid (HTV3.out.keep hba)
                have HGB := Lib.hid hna
                clear hba hna HI2 HTV3
                generalize w2.alloc (.cells #[.int .i8 gk, .int .i64 gn, .string gs, .string gu, .slice gao gl.length gcap] 31) = w3 at *
                have hdr := (Below.refl w3.heap.size w3).drew
                have hI4 := HI3.out.keep hdr
                have hS : B30 w2.heap.size gk gn gs gu (.slice gao gl.length gcap) b2 (o2 + i * 5) t'.k t'.n t'.s t'.u lv w3.drew := by
                  have hg := keep_heap HGB.out hdr
                  obtain ⟨c0, c1, c2, c3, c4⟩ := HNODE.out.keep hI4.hb
                  exact ⟨(cells_at hg 0 _ rfl).1, (cells_at hg 1 _ rfl).1, (cells_at hg 2 _ rfl).1, (cells_at hg 3 _ rfl).1, (cells_at hg 4 _ rfl).1, c0, c1, c2, c3, c4⟩
                have HRS := Lib.hid (rsame_any _ _ _ _ _ _ w3.drew (HTV4.out.keep hdr) (HTV.out.keep hI4.hb))
                have HI4 := Lib.hid hI4
                clear hdr hI4 HI3 HTV4 HGB
                go_wp2_with fail
                refine region_plan (B30 w2.heap.size gk gn gs gu (.slice gao gl.length gcap) b2 (o2 + i * 5) t'.k t'.n t'.s t'.u lv) [(0, 0), (1, 0), (2, 0), (3, 0), (4, 0), (5, 0), (6, 0), (7, 0), (8, 1), (9, 0), (10, 0)] (by kernel_rfl) (by kernel_rfl) (by kernel_rfl) hS ?_
                generalize w3.drew = WD at *
                iterate 8 (first | (refine plan_skip rfl ?_ ?_; (focus (rfl)); (try simp only [Act.put, List.setIfInBounds_toArray, List.set_cons_zero, List.set_cons_succ])) | (refine plan_take (v := ?_) rfl ?_ (fun w hSw => ?_) ?_; rotate_left; (focus (rfl)); (focus (unfold B30 at hSw; (go_simp <;> with_reducible rfl))); (try simp only [Act.put, List.setIfInBounds_toArray, List.set_cons_zero, List.set_cons_succ])))
                refine plan_run rfl ?_ (fun K hK => ?_)
                focus (rfl)
                go_simp
                refine (HRS.out).mono ?_
                rintro e W1 ⟨rfl, hb1⟩
                have hS1 := hS.keep hb1
                have HI5 := Lib.hid (HI4.out.keep hb1)
                refine hK.out _ _ hS1 ?_
                clear hK K 
                (try simp only [Act.put, List.setIfInBounds_toArray, List.set_cons_zero, List.set_cons_succ])
                rw [eqT_refl]
                iterate 2 (first | (refine plan_skip rfl ?_ ?_; (focus (rfl)); (try simp only [Act.put, List.setIfInBounds_toArray, List.set_cons_zero, List.set_cons_succ])) | (refine plan_take (v := ?_) rfl ?_ (fun w hSw => ?_) ?_; rotate_left; (focus (rfl)); (focus (unfold B30 at hSw; (go_simp <;> with_reducible rfl))); (try simp only [Act.put, List.setIfInBounds_toArray, List.set_cons_zero, List.set_cons_succ])))
                refine plan_done ?_
                clear hS hS1 hb1 HI4 HRS
                go_wp2_with fail
                go_roundw
                case rel => exact ⟨i + 1, by omega, by go_num, HI5⟩
                case measure => simp [intOf]; omega
              · have HF := Lib.hid HI.out.hb
                go_wp2_with fail
                refine (wakes_any _ (keep_let HL.out HF.out)).mono ?_
                rintro e w3 ⟨rfl, hb3⟩
                have HB := Lib.hid (HF.out.trans (hb3.mono HF.out.size))
                clear hb3
                go_wp2_with fail
                go_ret
                exact ⟨rfl, HB.out⟩
theorem back_row {H : Type} {enc : TypeId × Value → H} (W : World) {base : Nat} {v0 : Value} {d0 : DataW H} {p0 : List MemPlace} (hv0 : Value.okWide Tryd.prog W .any base 22 v0) (h0 : DataW.Trod enc Tryd.prog W 0 (fun _ => true) true 22 v0 d0 p0)
    (hL : laidMetH Tryd.prog [("pleach/atoms.letters", letD)] W) : Calls Tryd.prog 3 #[v0] W (IsPost W true) := by
  obtain ⟨ao0, n0, cap0, rfl⟩ := okWide_slice Tryd.underlying22 hv0
  obtain ⟨fuel, hf⟩ := h0
  obtain ⟨l, hl⟩ := row_of_trod hf
  obtain ⟨ao, cap, e, -⟩ := id hl
  injection e with e1 e2 e3
  subst e1 e2 e3
  exact back_law W fuel l ao0 cap0 (letters_of W hL) hl
end Go.Proofs.YtfbmjcblnemkgaaDoor
