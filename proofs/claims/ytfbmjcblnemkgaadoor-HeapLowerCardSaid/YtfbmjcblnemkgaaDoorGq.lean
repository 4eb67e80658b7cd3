/- heap: Put's closure, walked. Conditions: the table of letters reads as laid; the term reads and may be; there is room. -/
import Derived.Test.YtfbmjcblnemkgaaDoorGp
import Derived.Test.YtfbmjcblnemkgaaDoorTr
namespace Go.Proofs.YtfbmjcblnemkgaaDoor
open Go.ChangeShapes Go.WideShapes Go.ChangeAt Go.RowKit
set_option linter.unusedVariables false
set_option maxRecDepth 100000
set_option maxHeartbeats 8000000 in
theorem put1_any (w0 : World) (f p hb tb : Nat) (hL0 : Cells w0 0 letL) : ∀ (F : Nat) (t : Tm) (tv : Value) (W : World) (v : Value) (C : List HC), F ≤ f → PkC w0 p hb tb v C W → TermV F w0 tv t → okT t → nT t ≤ 256 → C.length + nT t ≤ 1048576 →
    Calls Tryd.prog 26 #[tv, .pointer (some ⟨tb, 0, none⟩), .pointer (some ⟨hb, 0, none⟩)] W (PutP w0 f p v C t W) := by
  intro F
  induction F using Nat.strongRecOn with
  | ind F ih =>
    intro t tv W v C hF hpk htv hok hn hroom
    obtain ⟨k, n, s, u, l, ao, cap, rfl, rfl, hfd, hlc, hcap, hrow⟩ := htv.mk'
    have hb1 := (Below.refl W.heap.size W).alloc (Nat.le_refl _) (.cells #[.int .i8 k, .int .i64 n, .string s, .string u, .slice ao l.length cap] 31)
    have hs1 : (W.alloc (.cells #[.int .i8 k, .int .i64 n, .string s, .string u, .slice ao l.length cap] 31)).heap.size = W.heap.size + 1 := by simp
    have hX0 := heap_new W (.cells #[.int .i8 k, .int .i64 n, .string s, .string u, .slice ao l.length cap] 31)
    have hY0 := heap_new (W.alloc (.cells #[.int .i8 k, .int .i64 n, .string s, .string u, .slice ao l.length cap] 31)) (.cells wzC 33)
    have hX1 := heap_old hX0 (.cells wzC 33)
    rw [hs1] at hY0
    have hb2 := hb1.alloc hb1.size (.cells wzC 33)
    have hs2 : ((W.alloc (.cells #[.int .i8 k, .int .i64 n, .string s, .string u, .slice ao l.length cap] 31)).alloc (.cells wzC 33)).heap.size = W.heap.size + 2 := by simp
    obtain ⟨x0, -⟩ := cells_at hX1 0 _ rfl
    obtain ⟨x1, -⟩ := cells_at hX1 1 _ rfl
    obtain ⟨x2, -⟩ := cells_at hX1 2 _ rfl
    obtain ⟨x3, -⟩ := cells_at hX1 3 _ rfl
    obtain ⟨x4, -⟩ := cells_at hX1 4 _ rfl
    have HPA := Lib.hid (parts_any ((W.alloc (.cells #[.int .i8 k, .int .i64 n, .string s, .string u, .slice ao l.length cap] 31)).alloc (.cells wzC 33)) k)
    have HX1 := Lib.hid hX1
    have HY1 := Lib.hid hY0
    have HB2 := Lib.hid hb2
    have HPK := Lib.hid hpk
    have HTV := Lib.hid htv
    have HOK := Lib.hid hok
    have HFD := Lib.hid hfd
    have HROW := Lib.hid hrow
    have HIH := Lib.hid ih
    have hxl := heap_lt hX1
    clear hb1 hs1 hX0 hY0 hX1 hb2 hpk htv hok hfd hrow ih
    cases hp : partsB k
    · rw [hp] at HPA
      have hmay : ∀ m, mayW m ⟨false, 0, k, n, s, u, ao, cap, l⟩ = true := fun m => leaf_may HOK.out hn hp
      have HMAY := Lib.hid hmay
      have HNT : Hid (nT (.mk k n s u l) = 1) := Lib.hid (by
        have h1 := leaf_may.leaf_one HOK.out hp
        have h2 := cnt_of (.mk k n s u l) 257 (by omega) (by rw [h1]) (by rw [h1]; simp)
        rw [h1] at h2
        have := h2.2
        simp only at this
        omega)
      clear hmay hp
      go_enter Tryd.func26, Tryd.ntmps26
      go_wp2_with fail
      generalize (W.alloc (.cells #[.int .i8 k, .int .i64 n, .string s, .string u, .slice ao l.length cap] 31)).alloc (.cells wzC 33) = W2 at *
      refine HPA.out.mono ?_
      rintro e w' ⟨rfl, rfl⟩
      go_wp2_with (with_reducible refine stop_op (o := ⟨_, .store 33 (.tmp 4) (.tmp 16), _, _, _, _⟩) ?_)
      refine Lib.hid ?_
      refine wpList_store_row (o := ⟨none, _, _, _, _, _⟩) rfl 33 (.tmp 4) (.tmp 16) rfl (W.heap.size + 1) #[.bool false, .int .i64 0, .int .i8 k, .int .i64 n, .string s, .string u, .slice ao l.length cap] rfl rfl 33 wzC HY1.out (infoWD _ rfl) rfl (by simp [Value.oneCell']) ?_
      have HZ := Lib.hid (setRow_heap _ (W.heap.size + 1) _ #[.bool false, .int .i64 0, .int .i8 k, .int .i64 n, .string s, .string u, .slice ao l.length cap] _ _ HY1.out)
      have hc := chg_setRow W2 (W.heap.size + 1) #[.bool false, .int .i64 0, .int .i8 k, .int .i64 n, .string s, .string u, .slice ao l.length cap]
      have HB3 := Lib.hid (HB2.out.trans (hc.below HB2.out.size (fun k h => by have h : k = W.heap.size + 1 := h; omega)))
      clear hc x0 x1 x2 x3 x4
      generalize W2.setRow (W.heap.size + 1) #[.bool false, .int .i64 0, .int .i8 k, .int .i64 n, .string s, .string u, .slice ao l.length cap] = W9 at *
      go_wp2_with fail
      refine ret_row HZ.out rfl Tryd.underlying33 rfl (infoWD _ rfl) rfl rfl ⟨⟨false, 0, k, n, s, u, ao, cap, l⟩, v, C, rfl, HPK.out.hp.keep HB3.out, Up.below HB3.out, by omega, ⟨by simp, HFD.out, ?_⟩, HMAY.out _, ?_, ?_, fun c hc => .inl hc, fun h => h⟩
      · exact HROW.out.le hF
      · rw [tkN_leaf _ _ _ rfl]
        rfl
      · rw [HNT.out]
        rfl
    · rw [hp] at HPA
      have hnl : nL l + 1 = nT (.mk k n s u l) := by rw [nT]
      have hll : l.length ≤ nL l := nL_len l
      obtain ⟨cs, hcs⟩ := made_words l.length (by omega)
      have hmk := fun w => (hcs w).1
      have HOWN := Lib.hid (fun w => (hcs w).2)
      obtain ⟨hn0, rfl, rfl, h7⟩ := one_parts (by rw [okT] at HOK; exact HOK.out.1) hp
      subst hn0
      have hn7 : k = 7 → l.length = 2 := h7
      have HN7 := Lib.hid hn7
      have HPB := Lib.hid hp
      have HOL : Hid (okL l) := Lib.hid (by have := HOK.out; rw [okT] at this; exact this.2)
      clear h7 hn7 hp hcs
      go_enter Tryd.func26, Tryd.ntmps26
      go_wp2_with fail
      refine HPA.out.mono ?_
      rintro e w' ⟨rfl, rfl⟩
      clear HPA
      go_wp2_with fail
      have hI0 : PkI w0 f p hb tb v C k 0 ⟨#[]⟩ ⟨#[]⟩ ao cap l W 0 (.slice (some ⟨W.heap.size + 2, 0, none⟩) 0 l.length) v C [] (((W.alloc (.cells #[.int .i8 k, .int .i64 0, .string ⟨#[]⟩, .string ⟨#[]⟩, .slice ao l.length cap] 31)).alloc (.cells wzC 33)).alloc (.cells cs 33)) := by
        have hb3 := HB2.out.alloc HB2.out.size (.cells cs 33)
        have ho := HOWN.out ((W.alloc (.cells #[.int .i8 k, .int .i64 0, .string ⟨#[]⟩, .string ⟨#[]⟩, .slice ao l.length cap] 31)).alloc (.cells wzC 33)) (W.heap.size + 2) (by rw [hs2]; omega)
        rw [hs2] at ho
        refine ⟨Up.below hb3, HPK.out.keep hb3, heap_old HX1.out _, heap_old HY1.out _, ho, rfl, by simp [nL], fun c hc => .inl hc, fun h => h, fun i x hi => by simp at hi, fun c hc g hg e => ?_, fun c hc g hg => ?_⟩
        · have h1 := own_lt (HPK.out.hp.2.2.1.2 c hc) (Nat.le_refl _) g hg
          simp [Value.ownBlock] at e
          omega
        · have h1 := own_lt (HPK.out.hp.2.2.1.2 c hc) (Nat.le_refl _) g hg
          omega
      have HI0 := Lib.hid hI0
      have hs3 : (((W.alloc (.cells #[.int .i8 k, .int .i64 0, .string ⟨#[]⟩, .string ⟨#[]⟩, .slice ao l.length cap] 31)).alloc (.cells wzC 33)).alloc (.cells cs 33)).heap.size = W.heap.size + 3 := by simp
      clear hI0
      generalize (((W.alloc (.cells #[.int .i8 k, .int .i64 0, .string ⟨#[]⟩, .string ⟨#[]⟩, .slice ao l.length cap] 31)).alloc (.cells wzC 33)).alloc (.cells cs 33)) = W3 at *
      clear hs2 x0 x1 x2 x3 x4 hmk HOWN
      go_loopw [6, 24] (fun lv iv wr => ∃ (j : Nat) (v1 : Value) (C1 : List HC) (L : List Wd), j ≤ l.length ∧ iv = .int .i64 j ∧ Hid (PkI w0 f p hb tb v C k 0 ⟨#[]⟩ ⟨#[]⟩ ao cap l W j lv v1 C1 L wr))
        (fun _ iv _ => l.length - (intOf iv).toNat)
      case atStart => exact ⟨0, _, _, _, by omega, rfl, HI0⟩
      case round =>
        clear HI0
        obtain ⟨j, v1, C1, L, hj', rfl, HI⟩ := hrel
        by_cases hlt : j < l.length
        · obtain ⟨t, ht⟩ : ∃ t, l[j]? = some t := ⟨l[j], by simp [hlt]⟩
          obtain ⟨b', off, f', lv', eao, hf', hnode, htv⟩ := HROW.out.elem ht
          have hnt1 := nL_take ht
          have hnt2 := nL_le l (j + 1)
          have hnode := hnode.keep HI.out.pk.hb0
          obtain ⟨c0, c1, c2, c3, c4⟩ := hnode
          have hokt := okL_at HOL.out ht
          have hroom2 : C1.length + nT t ≤ 1048576 := by have := HI.out.len; omega
          have HT := Lib.hid ht
          have hby := (Below.refl wr.heap.size wr).alloc (Nat.le_refl _) (.cells #[.int .i8 t.k, .int .i64 t.n, .string t.s, .string t.u, lv'] 31)
          have hny := heap_new wr (.cells #[.int .i8 t.k, .int .i64 t.n, .string t.s, .string t.u, lv'] 31)
          have hI1 := HI.out.keep hby
          have HC := Lib.hid (HIH.out f' (by omega) t _ _ v1 C1 (by omega) hI1.pk htv hokt (by omega) hroom2)
          have hht := (cells_at hI1.pk.ht 0 _ rfl).1
          obtain ⟨y0, -⟩ := cells_at hny 0 _ rfl
          obtain ⟨y1, -⟩ := cells_at hny 1 _ rfl
          obtain ⟨y2, -⟩ := cells_at hny 2 _ rfl
          obtain ⟨y3, -⟩ := cells_at hny 3 _ rfl
          obtain ⟨y4, -⟩ := cells_at hny 4 _ rfl
          have HI1 := Lib.hid hI1
          have hone : lv'.oneCell' = true := by
            obtain ⟨-, lv2, e, h3⟩ := htv
            simp only [Value.agg.injEq] at e
            have e : lv' = lv2 := by simpa using e
            obtain ⟨ao2, cap2, e2, -⟩ := h3
            rw [e, e2]
            rfl
          subst eao
          clear ht hby hny hI1 htv hokt
          go_wp2_with (with_reducible refine stop_op (o := ⟨_, .store 31 (.tmp 8) (.tmp 27), _, _, _, _⟩) ?_)
          refine Lib.hid ?_
          refine wpList_store_new (o := ⟨none, _, _, _, _, _⟩) rfl 31 (.tmp 8) (.tmp 27) rfl #[.int .i8 t.k, .int .i64 t.n, .string t.s, .string t.u, lv'] rfl rfl (infoTM' _ rfl) rfl (by simp only [List.all_toArray, List.all_cons, List.all_nil, hone]; rfl) ?_
          have hwl := heap_lt HI.out.hY
          generalize wr.alloc (.cells #[.int .i8 t.k, .int .i64 t.n, .string t.s, .string t.u, lv'] 31) = wy at *
          clear HI c0 c1 c2 c3 c4 hone
          go_wp2_with fail
          refine HC.out.mono ?_
          rintro e W3 ⟨x, v2, C2, rfl, hpt⟩
          obtain ⟨xc, xa, xk, xn, xs, xu, xao, xcap, xl⟩ := x
          have HQ := Lib.hid (HI1.out.put HT.out hpt)
          clear hpt y0 y1 y2 y3 y4 hht HC
          simp only [Wd.cells]
          go_wp2_with (with_reducible refine stop_op (o := ⟨_, .store 33 (.tmp 9) (.tmp 32), _, _, _, _⟩) ?_)
          refine Lib.hid ?_
          refine wpList_store_new (o := ⟨none, _, _, _, _, _⟩) rfl 33 (.tmp 9) (.tmp 32) rfl #[.bool xc, .int .i64 xa, .int .i8 xk, .int .i64 xn, .string xs, .string xu, .slice xao xl.length xcap] rfl rfl (infoWD _ rfl) rfl (by simp [Value.oneCell']) ?_
          obtain ⟨i0, z0, hi, hz0, hz1, hz2, hz3⟩ := infoWD2
          have hb4 := (Below.refl W3.heap.size W3).alloc (Nat.le_refl _) (.cells #[.bool xc, .int .i64 xa, .int .i8 xk, .int .i64 xn, .string xs, .string xu, .slice xao xl.length xcap] 33)
          have hn4 := heap_new W3 (.cells #[.bool xc, .int .i64 xa, .int .i8 xk, .int .i64 xn, .string xs, .string xu, .slice xao xl.length xcap] 33)
          obtain ⟨y0, -⟩ := cells_at hn4 0 _ rfl
          obtain ⟨y1, -⟩ := cells_at hn4 1 _ rfl
          obtain ⟨y2, -⟩ := cells_at hn4 2 _ rfl
          obtain ⟨y3, -⟩ := cells_at hn4 3 _ rfl
          obtain ⟨y4, -⟩ := cells_at hn4 4 _ rfl
          obtain ⟨y5, -⟩ := cells_at hn4 5 _ rfl
          obtain ⟨y6, -⟩ := cells_at hn4 6 _ rfl
          have HB4 := Lib.hid hb4
          have hs4 : (W3.alloc (.cells #[.bool xc, .int .i64 xa, .int .i8 xk, .int .i64 xn, .string xs, .string xu, .slice xao xl.length xcap] 33)).heap.size = W3.heap.size + 1 := by simp
          clear hb4 hn4
          generalize W3.alloc (.cells #[.bool xc, .int .i64 xa, .int .i8 xk, .int .i64 xn, .string xs, .string xu, .slice xao xl.length xcap] 33) = W4 at *
          have hb5 := (Below.refl W4.heap.size W4).alloc (Nat.le_refl _) (.cells #[.bool xc, .int .i64 xa, .int .i8 xk, .int .i64 xn, .string xs, .string xu, .slice xao xl.length xcap] 33)
          have hn5 := heap_new W4 (.cells #[.bool xc, .int .i64 xa, .int .i8 xk, .int .i64 xn, .string xs, .string xu, .slice xao xl.length xcap] 33)
          have hB5 := (HB4.out.trans (hb5.mono (by omega)))
          have HB5 := Lib.hid hB5
          rw [hs4] at hn5
          have HN5 := Lib.hid hn5
          clear hb5 hn5 hB5 HB4
          have hown : W4.heap.size = W4.heap.size := rfl
          have hjl : L.length = j := HI1.out.hl
          have hj255 : j ≤ 255 := by omega
          have hw5 : W.heap.size + 2 ≤ W4.heap.size := by have := heap_lt HQ.out.2.2.2.1; omega
          have hw6 := HB5.out.size
          go_wp2_with (at_builtin; refine stop_here ?_)
          refine Lib.hid ?_
          refine wpList_append_own2 rfl (.tmp 38) (.tmp 40) 26 rfl (W.heap.size + 2) 33 i0 z0 7 88 Tryd.underlying26 hi hz0 hz1 hz2 hz3 (by decide) _ j (wcs L) rfl (own_keep HQ.out.2.2.2.2.1 HB5.out) ⟨W3.heap.size + 1, 0, none⟩ 1 1 [.bool xc, .int .i64 xa, .int .i8 xk, .int .i64 xn, .string xs, .string xu, .slice xao xl.length xcap] rfl rfl (fun q u hq => by
            rw [Addr.add_lit, Nat.zero_add]
            exact (cells_at HN5.out q u (by simpa using hq)).1) (by simp [Value.oneCell']) (by unfold maxLen; omega) (by omega) (by rw [World.size_alloc]; omega) ?_
          intro v5 W5 hown5 hg5 hwh5
          obtain ⟨vo, vc, rfl⟩ := own_slice hown5
          obtain ⟨q1, q2, q3, q4, q5, q6, q7, q8, q9, q10, q11⟩ := HQ.out
          have g1 := heap_lt HPK.out.hh
          have g2 := heap_lt HPK.out.ht
          have g3 := HPK.out.hb0.size
          have HFIN := Lib.hid (PkI.push (q1.trans (Up.below HB5.out)) (q2.keep HB5.out) (keep_heap q3 HB5.out) (keep_heap q4 HB5.out) (own_keep q5 HB5.out) hjl q6 q7 q8 q9 q10 q11 hown5 hg5 hwh5 (by omega) (by omega) (by omega))
          clear q1 q2 q3 q4 q5 q6 q7 q8 q9 q10 q11 hown5 hg5 hwh5 y0 y1 y2 y3 y4 y5 y6
          go_wp2_with fail
          go_roundw
          case rel => exact ⟨j + 1, _, _, _, by omega, by go_num, HFIN⟩
          case measure => simp [intOf]; omega
        · obtain rfl : j = l.length := by omega
          obtain ⟨x0, -⟩ := cells_at HI.out.hX 0 _ rfl
          have hh := (cells_at HI.out.pk.hh 0 _ rfl).1
          have hL : Cells wr 0 letL := keep_let hL0 HI.out.pk.hb0
          have howl := HI.out.own
          rw [← HI.out.hl] at howl
          obtain ⟨la, lc, rfl, l1, l2, hrw, hno⟩ := own_wrow howl
          have hlL := HI.out.hl
          have hroom3 : C1.length < 1048576 := by have := HI.out.len; rw [List.take_length] at this; omega
          have HP := Lib.hid (put_fin HPB.out HN7.out HI.out.pk.hp.2.2.2 hroom3 hlL (by omega) HI.out.ws)
          have HMK := Lib.hid (make_any f wr p p v1 C1 k L la lc HI.out.pk.hp hL hrw (fun y hy => by
            obtain ⟨i, hi⟩ := List.getElem?_of_mem hy
            exact (HI.out.ws i y hi).1.keep HI.out.pk.hb0) (by omega) hno)
          clear hL howl l1 l2 hrw hno
          rw [hlL] at HMK
          go_wp2_with fail
          refine HMK.out.mono ?_
          rintro e W6 (⟨-, v', lo, lc', rfl, hp6, hc6, hv6, hr6⟩ | ⟨h1, -⟩)
          · have hcn : C1.length ≤ 1048576 := by omega
            have hwr := HI.out.up.hc.size
            have hwl := heap_lt HI.out.hY
            have hSb : ∀ g, heapS p v1 g → ¬ g = W.heap.size + 1 := by
              intro g hg e
              subst e
              exact heapS_not HI.out.pk.hp HI.out.hY (by decide) (by decide) hg
            have hY6 := hc6.heap HI.out.hY (fun e => hSb _ e rfl)
            have hu : Up w0 p v C W v' (C1 ++ [⟨k, sizeW C1 L, lo, lc', L⟩]) W6 := HI.out.up.trans ⟨hc6, hv6, ⟨_, rfl⟩, fun c hc => by
              rw [List.mem_append, List.mem_singleton] at hc
              rcases hc with hc | rfl
              · exact .inl hc
              · exact .inr hr6⟩
            have hcs := chg_setRow W6 (W.heap.size + 1) (wcC C1.length)
            have hp9 : Hp (W6.setRow (W.heap.size + 1) (wcC C1.length)) p p v' (C1 ++ [⟨k, sizeW C1 L, lo, lc', L⟩]) := hp6.turn hcs (fun g hg => ⟨wzC, by rw [show g = W.heap.size + 1 from hg]; exact hY6⟩) (fun c hc g hg e => by
              have e : g = W.heap.size + 1 := e
              rw [List.mem_append, List.mem_singleton] at hc
              rcases hc with hc | rfl
              · exact HI.out.ro c hc g hg e
              · have := hr6 g hg
                omega)
            have hu9 := hu.turn hcs (fun g hg => by rw [show g = W.heap.size + 1 from hg]; omega)
            have HX9 := Lib.hid (setRow_heap _ (W.heap.size + 1) _ (wcC C1.length) _ _ hY6)
            obtain ⟨p1, p2, p3⟩ := HP.out
            obtain ⟨p4, p5, p6⟩ := p3 lo lc'
            have hlen := HI.out.len
            rw [List.take_length] at hlen
            have HFIN : Hid (PutP w0 f p v C (.mk k 0 ⟨#[]⟩ ⟨#[]⟩ l) W (.returned (.tuple #[.agg (wcC C1.length), .int .i64 0])) (W6.setRow (W.heap.size + 1) (wcC C1.length))) := Lib.hid
              ⟨cellX C1.length, v', C1 ++ [⟨k, sizeW C1 L, lo, lc', L⟩], rfl, hp9, hu9, by simp; omega, wokX _ _ _ hcn, by simpa using p6, by simpa using p4, by rw [p5, hnl], fun c hc => by
                rw [List.mem_append, List.mem_singleton] at hc
                rcases hc with hc | rfl
                · exact HI.out.oks c hc
                · refine .inr fun y hy => ?_
                  obtain ⟨i, hi⟩ := List.getElem?_of_mem hy
                  exact (HI.out.ws i y hi).1, fun hm => (HI.out.made hm).snoc⟩
            clear hp6 hc6 hv6 hr6 hu hcs hp9 hu9 p1 p2 p3 p4 p5 p6 hSb x0 hh
            go_wp2_with (with_reducible refine stop_op (o := ⟨_, .store 33 (.tmp 4) (.tmp 48), _, _, _, _⟩) ?_)
            refine Lib.hid ?_
            refine wpList_store_row (o := ⟨none, _, _, _, _, _⟩) rfl 33 (.tmp 4) (.tmp 48) rfl (W.heap.size + 1) (wcC C1.length) rfl rfl 33 wzC hY6 (infoWD _ rfl) rfl (by simp [wcC, Value.oneCell']) ?_
            generalize W6.setRow (W.heap.size + 1) (wcC C1.length) = W9 at *
            go_wp2_with fail
            exact ret_row HX9.out rfl Tryd.underlying33 rfl (infoWD _ rfl) rfl rfl HFIN.out
          · exact absurd HP.out.1 h1
end Go.Proofs.YtfbmjcblnemkgaaDoor
