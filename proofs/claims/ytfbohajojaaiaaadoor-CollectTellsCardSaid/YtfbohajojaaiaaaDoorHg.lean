/- collect: words are seen (the closure), walked. Conditions: what comes reads. -/
import Derived.Test.YtfbohajojaaiaaaDoorHf
namespace Go.Proofs.YtfbohajojaaiaaaDoor
open Go.ChangeShapes Go.WideShapes Go.ChangeAt Go.RowKit
open Go.Maps (Keyed)
set_option linter.unusedVariables false
set_option maxRecDepth 100000
theorem kI : Keyed Tryd.prog 3 := Go.Maps.int_keyed Tryd.underlying3
theorem zB (w : World) : (zeroValue 4).run Tryd.prog w = .ok (.bool false) w := by kernel_rfl
theorem infoLI : (Tryd.prog.info? 3).map (fun i => (i.zero, i.size, i.bytes)) = some (some (.int .i64 0), 1, 8) := by kernel_rfl
theorem plainElem_bool_inv {H : Type} {P : Program} {e : TypeId} (he : P.underlying e = some .bool) {v : Value} {z : DataW H × List MemPlace} (h : plainElem P e v = some z) : ∃ x, v = .bool x ∧ z = (.lit (.bool x), []) := by
  unfold plainElem at h
  rw [he] at h
  cases v <;> simp at h
  exact ⟨_, rfl, h.symm⟩
theorem look_set {w : World} {b n : Nat} {s : List Int} (h : w.ownsMap Tryd.prog 3 (plainElem Tryd.prog 4) b n (setM s)) (p : Int) (h1 : -9223372036854775808 ≤ p) (h2 : p ≤ 9223372036854775807) :
    (Instr.lookup 42 (.map (some b)) (.int .i64 p) false).run Tryd.prog w = .ok (.bool (decide (p ∈ s))) w := by
  obtain ⟨v, ps, hr, hv⟩ := h.lookup kI Tryd.underlying42 (zB w) (plainElem_bool Tryd.underlying4 false) (Go.Maps.keyOf_int_mk Tryd.underlying3 (WalkArith.wf_i64 ⟨h1, h2⟩))
  have := setM_at s p
  unfold ikey at this
  rw [this] at hv
  obtain ⟨x, rfl, hx⟩ := plainElem_bool_inv Tryd.underlying4 hv
  injection hx with hx _
  injection hx with hx
  injection hx with hx
  rw [hx]
  exact hr
def intsV (l : List Int) : List Value := l.map (Value.int .i64)
/-- what is seen, what is to do -/
structure See (W : World) (base m mb t : Nat) (tv : Value) (s td : List Int) : Prop where
  hm : W.heap[m]? = some (.cells #[.map (some mb)] 42 (0, 0))
  hmap : W.ownsMap Tryd.prog 3 (plainElem Tryd.prog 4) mb s.length (setM s)
  ht : W.heap[t]? = some (.cells #[tv] 31 (0, 0))
  hown : W.ownsRow base 3 1 tv td.length (intsV td)
def SeeS (mb t : Nat) (tv : Value) (k : Nat) : Prop := k = t ∨ k = mb ∨ tv.ownBlock = some k
theorem See.keep {W W' : World} {base m mb t : Nat} {tv : Value} {s td : List Int} (h : See W base m mb t tv s td) (hb : Below W.heap.size W W') : See W' base m mb t tv s td :=
  ⟨keep_heap h.hm hb, map_chg h.hmap (chg_of_below hb (fun _ => False)) (fun h => h), keep_heap h.ht hb, own_keep h.hown hb⟩
theorem See.ne {W : World} {base m mb t : Nat} {tv : Value} {s td : List Int} (h : See W base m mb t tv s td) : m ≠ t ∧ m ≠ mb ∧ t ≠ mb ∧ (∀ k, tv.ownBlock = some k → k ≠ m ∧ k ≠ t ∧ k ≠ mb) := by
  obtain ⟨es, ck, hmo⟩ := map_obj h.hmap
  have e1 : m ≠ t := fun e => by have := h.hm; rw [e, h.ht] at this; cases this
  have e2 : m ≠ mb := fun e => by have := h.hm; rw [e, hmo] at this; cases this
  have e3 : t ≠ mb := fun e => by have := h.ht; rw [e, hmo] at this; cases this
  refine ⟨e1, e2, e3, fun k hk => ?_⟩
  obtain ⟨cur, hcur⟩ := own_type h.hown k hk
  refine ⟨fun e => ?_, fun e => ?_, fun e => ?_⟩
  · rw [e, h.hm] at hcur; cases hcur
  · rw [e, h.ht] at hcur; cases hcur
  · rw [e, hmo] at hcur; cases hcur
def SeeP (W : World) (base m mb t : Nat) (tv : Value) (s td : List Int) (L : List Wd) (e : Ending) (W' : World) : Prop :=
  (∃ v, e = .returned v) ∧ ∃ tv', See W' base m mb t tv' (seeL s td L).1 (seeL s td L).2 ∧ Chg (SeeS mb t tv) W W' ∧ (tv'.ownBlock = tv.ownBlock ∨ ∃ g, tv'.ownBlock = some g ∧ W.heap.size ≤ g)
set_option maxHeartbeats 4000000 in
theorem see_any (W : World) (base m mb t : Nat) (tv : Value) (s td : List Int) (L : List Wd) (ao : Option Addr) (cap : Nat) (hS : See W base m mb t tv s td) (hr : WRow W ao L) (hbd : ∀ x ∈ L, -9223372036854775808 ≤ x.a ∧ x.a ≤ 9223372036854775807)
    (hap : L ≠ [] → ∀ ad, ao = some ad → ad.block ≠ t ∧ ad.block ≠ mb ∧ tv.ownBlock ≠ some ad.block) (hn : L.length ≤ 1099511627776) (hs1 : s.length ≤ 1099511627776) (ht1 : td.length ≤ 1099511627776) (hbase : base ≤ W.heap.size) :
    Calls Tryd.prog 33 #[.slice ao L.length cap, .pointer (some ⟨m, 0, none⟩), .pointer (some ⟨t, 0, none⟩)] W (SeeP W base m mb t tv s td L) := by
  obtain ⟨i0, hi, hz0, hz1, hz2⟩ := info_parts infoLI
  have HS0 := Lib.hid hS
  have HR := Lib.hid hr
  have HBD := Lib.hid hbd
  have HAP := Lib.hid hap
  clear hS hr hbd hap
  go_enter Tryd.func33, Tryd.ntmps33
  go_wp2_with fail
  go_loopw [8] (fun iv wr => ∃ (i : Nat) (tv' : Value) (s' td' : List Int), i ≤ L.length ∧ iv = .int .i64 i ∧ s'.length ≤ s.length + i ∧ td'.length ≤ td.length + i ∧
      Hid (See wr base m mb t tv' s' td' ∧ Chg (SeeS mb t tv) W wr ∧ (tv'.ownBlock = tv.ownBlock ∨ ∃ g, tv'.ownBlock = some g ∧ W.heap.size ≤ g) ∧ seeL s' td' (L.drop i) = seeL s td L))
    (fun iv _ => L.length - (intOf iv).toNat)
  case atStart => exact ⟨0, tv, s, td, by omega, rfl, by omega, by omega, Lib.hid ⟨HS0.out, Chg.refl _ _, .inl rfl, rfl⟩⟩
  case round =>
    obtain ⟨i, tv', s', td', hi', rfl, hs2, ht2, HI⟩ := hrel
    by_cases hlt : i < L.length
    · obtain ⟨x, hx⟩ : ∃ x, L[i]? = some x := ⟨L[i], by simp [hlt]⟩
      have hxm := List.mem_of_getElem? hx
      obtain ⟨hx1, hx2⟩ := HBD.out x hxm
      obtain ⟨b', off, rfl, hbs, hcx⟩ := HR.out i x hx
      have hnb : ¬ SeeS mb t tv b' := fun h => by
        have := HAP.out (List.ne_nil_of_mem hxm) _ rfl
        rcases h with h | h | h
        · exact this.1 h
        · exact this.2.1 h
        · exact this.2.2 h
      have c0 : wr.cell? ⟨b', off + i * 7, none⟩ = some (.bool x.c) := HI.out.2.1.cell (hcx 0 _ rfl) hnb
      have c1 : wr.cell? ⟨b', off + i * 7 + 1, none⟩ = some (.int .i64 x.a) := HI.out.2.1.cell (hcx 1 _ rfl) hnb
      have c2 : wr.cell? ⟨b', off + i * 7 + 2, none⟩ = some (.int .i8 x.k) := HI.out.2.1.cell (hcx 2 _ rfl) hnb
      have c3 : wr.cell? ⟨b', off + i * 7 + 3, none⟩ = some (.int .i64 x.n) := HI.out.2.1.cell (hcx 3 _ rfl) hnb
      have c4 : wr.cell? ⟨b', off + i * 7 + 4, none⟩ = some (.string x.s) := HI.out.2.1.cell (hcx 4 _ rfl) hnb
      have c5 : wr.cell? ⟨b', off + i * 7 + 5, none⟩ = some (.string x.u) := HI.out.2.1.cell (hcx 5 _ rfl) hnb
      have c6 : wr.cell? ⟨b', off + i * 7 + 6, none⟩ = some (.slice x.ao x.l.length x.cap) := HI.out.2.1.cell (hcx 6 _ rfl) hnb
      have HD := Lib.hid (drop_cons hx)
      clear hcx hnb hx hxm
      obtain ⟨xc, xa, xk, xn, xs, xu, xao, xcap, xl⟩ := x
      dsimp only at c0 c1 c2 c3 c4 c5 c6 hx1 hx2
      have hbx := (Below.refl wr.heap.size wr).alloc (Nat.le_refl _) (.cells #[.bool xc, .int .i64 xa, .int .i8 xk, .int .i64 xn, .string xs, .string xu, .slice xao xl.length xcap] 58)
      have HSX := Lib.hid (HI.out.1.keep hbx)
      have HCX := Lib.hid (HI.out.2.1.grow (chg_of_below hbx (fun _ => False)) (fun _ _ h => h.elim))
      clear hbx
      cases xc
      · go_wp2_with (with_reducible refine stop_op (o := ⟨_, .store 58 (.tmp 5) (.tmp 11), _, _, _, _⟩) ?_)
        refine Lib.hid ?_
        refine wpList_store_new (o := ⟨none, _, _, _, _, _⟩) rfl 58 (.tmp 5) (.tmp 11) rfl #[.bool false, .int .i64 xa, .int .i8 xk, .int .i64 xn, .string xs, .string xu, .slice xao xl.length xcap] rfl rfl (infoWD _ rfl) rfl (by simp [Value.oneCell']) ?_
        go_wp2_with fail
        go_roundw
        case rel => exact ⟨i + 1, tv', s', td', by omega, by go_num, by omega, by omega, Lib.hid ⟨HSX.out, HCX.out, HI.out.2.2.1, by rw [← HI.out.2.2.2, HD.out, seeL, if_neg (by simp)]⟩⟩
        case measure => simp [intOf]; omega
      · obtain ⟨m0, m0f⟩ := cells_at HSX.out.hm 0 _ rfl
        obtain ⟨t0, t0f⟩ := cells_at HSX.out.ht 0 _ rfl
        have hmlt := heap_lt HI.out.1.hm
        have htlt := heap_lt HI.out.1.ht
        have hlook := look_set HSX.out.hmap xa hx1 hx2
        by_cases hin : xa ∈ s'
        · rw [decide_eq_true hin] at hlook
          have HIN := Lib.hid hin
          clear hin
          go_wp2_with (with_reducible refine stop_op (o := ⟨_, .store 58 (.tmp 5) (.tmp 11), _, _, _, _⟩) ?_)
          refine Lib.hid ?_
          refine wpList_store_new (o := ⟨none, _, _, _, _, _⟩) rfl 58 (.tmp 5) (.tmp 11) rfl #[.bool true, .int .i64 xa, .int .i8 xk, .int .i64 xn, .string xs, .string xu, .slice xao xl.length xcap] rfl rfl (infoWD _ rfl) rfl (by simp [Value.oneCell']) ?_
          go_wp2_with fail
          go_roundw
          case rel => exact ⟨i + 1, tv', s', td', by omega, by go_num, by omega, by omega, Lib.hid ⟨HSX.out, HCX.out, HI.out.2.2.1, by rw [← HI.out.2.2.2, HD.out, seeL, if_neg (fun h => h.2 HIN.out)]⟩⟩
          case measure => simp [intOf]; omega
        · rw [decide_eq_false hin] at hlook
          have HIN := Lib.hid hin
          clear hin
          go_wp2_with (with_reducible refine stop_op (o := ⟨_, .store 58 (.tmp 5) (.tmp 11), _, _, _, _⟩) ?_)
          refine Lib.hid ?_
          refine wpList_store_new (o := ⟨none, _, _, _, _, _⟩) rfl 58 (.tmp 5) (.tmp 11) rfl #[.bool true, .int .i64 xa, .int .i8 xk, .int .i64 xn, .string xs, .string xu, .slice xao xl.length xcap] rfl rfl (infoWD _ rfl) rfl (by simp [Value.oneCell']) ?_
          go_wp2_with (at_mapUpdate; refine stop_here ?_)
          refine Lib.hid ?_
          have hwx := heap_new wr (.cells #[.bool true, .int .i64 xa, .int .i8 xk, .int .i64 xn, .string xs, .string xu, .slice xao xl.length xcap] 58)
          have hwsz : (wr.alloc (.cells #[.bool true, .int .i64 xa, .int .i8 xk, .int .i64 xn, .string xs, .string xu, .slice xao xl.length xcap] 58)).heap.size = wr.heap.size + 1 := by simp
          generalize wr.alloc (.cells #[.bool true, .int .i64 xa, .int .i8 xk, .int .i64 xn, .string xs, .string xu, .slice xao xl.length xcap] 58) = wx at *
          refine wpList_mapUpdate_own _ rfl (.tmp 21) (.tmp 23) (.const (.bool true)) 42 rfl 3 4 kI Tryd.underlying42 _ mb s'.length _ rfl HSX.out.hmap (by unfold maxLen; omega) (.int .i64 xa) (.bool true) (ikey xa) rfl rfl (Go.Maps.keyOf_int_mk Tryd.underlying3 (WalkArith.wf_i64 ⟨hx1, hx2⟩)) (.lit (.bool true)) [] (plainElem_bool Tryd.underlying4 _) ?_
          intro W2 hown2 hg2
          obtain ⟨n1, n2, n3, n4⟩ := HSX.out.ne
          have hc2 := chg_grown hg2
          have hmb : ¬ (some mb = some m) := fun e => n2 (Option.some.inj e).symm
          have hwm : ¬ (some wr.heap.size = some mb) := fun e => by
            obtain ⟨es, ck, hmo⟩ := map_obj HSX.out.hmap
            rw [← Option.some.inj e, hwx] at hmo
            cases hmo
          rw [← setM_snoc] at hown2
          have hs2' : See W2 base m mb t tv' (s' ++ [xa]) td' := by
            refine ⟨hc2.heap HSX.out.hm (fun e => hmb e.symm), by rw [List.length_append]; exact hown2, hc2.heap HSX.out.ht (fun e => n3 (Option.some.inj e)), own_chg HSX.out.hown hc2 (fun j hj hs => ?_)⟩
            exact (n4 j hj).2.2 (Option.some.inj hs)
          have hw2 := hc2.heap hwx hwm
          have w1 := (cells_at hw2 1 _ rfl).1
          have w1' : W2.cell? ⟨wr.heap.size, 1, none⟩ = some (.int .i64 xa) := w1
          obtain ⟨u0, u0f⟩ := cells_at hs2'.ht 0 _ rfl
          have htl := heap_lt hs2'.ht
          have hwl := heap_lt hw2
          have HS2 := Lib.hid hs2'
          have HC2 := Lib.hid (HCX.out.grow hc2 (fun j _ h => .inr (.inl (Option.some.inj h))))
          have HNEW := Lib.hid (one_new W2 (.int .i64 xa) 3)
          have hszW : W.heap.size ≤ W2.heap.size := Nat.le_trans HCX.out.size hc2.size
          clear hown2 hg2 hc2 hmb hwm hs2' hw2 w1 hlook m0 m0f t0 t0f hmlt htlt
          go_wp2_with (at_builtin; refine stop_here ?_)
          refine Lib.hid ?_
          refine wpList_append_own2 rfl (.tmp 24) (.tmp 27) 31 rfl base 3 i0 (.int .i64 0) 1 8 Tryd.underlying31 hi hz0 hz1 hz2 rfl (by decide) tv' td'.length (intsV td') rfl (HS2.out.hown.alloc _) ⟨W2.heap.size, 0, none⟩ 1 1 [.int .i64 xa] rfl rfl HNEW.out (by simp [Value.oneCell']) (by unfold maxLen; omega) (by omega) (by simp; omega) ?_
          intro v3 W3 hown3 hg3 hwh3
          obtain ⟨vo, vc, rfl⟩ := own_slice hown3
          have hc3 := chg_grown hg3
          have ha3 := chg_alloc (fun _ => False) W2 (.cells #[.int .i64 xa] 3)
          obtain ⟨n1, n2, n3, n4⟩ := HS2.out.ne
          have hm3 := hc3.heap (ha3.heap HS2.out.hm (fun h => h)) (fun e => (n4 m e.symm).1 rfl)
          have ht3 := hc3.heap (ha3.heap HS2.out.ht (fun h => h)) (fun e => (n4 t e.symm).2.1 rfl)
          have hmap3 := map_chg (map_chg HS2.out.hmap ha3 (fun h => h)) hc3 (fun e => (n4 mb e.symm).2.2 rfl)
          obtain ⟨g0, g0f⟩ := cells_at ht3 0 _ rfl
          have htl3 := heap_lt ht3
          have hc4 := chg_set (w := W3) (p := ⟨t, 0, none⟩) (.slice vo (td'.length + 1) vc)
          have HFIN : Hid (See (W3.setCell ⟨t, 0, none⟩ (.slice vo (td'.length + 1) vc)) base m mb t (.slice vo (td'.length + 1) vc) (s' ++ [xa]) (td' ++ [xa]) ∧ Chg (SeeS mb t tv) W (W3.setCell ⟨t, 0, none⟩ (.slice vo (td'.length + 1) vc)) ∧ ((Value.slice vo (td'.length + 1) vc).ownBlock = tv.ownBlock ∨ ∃ g, (Value.slice vo (td'.length + 1) vc).ownBlock = some g ∧ W.heap.size ≤ g)) := Lib.hid (by
            refine ⟨⟨hc4.heap hm3 n1, map_chg hmap3 hc4 (fun e => n3 e.symm), set_at (i := 0) ht3 _, ?_⟩, ?_, ?_⟩
            · have := own_chg hown3 hc4 (fun j hj hs => by
                have hs : j = t := hs
                obtain ⟨cur, hcur⟩ := own_type hown3 j hj
                rw [hs, ht3] at hcur
                cases hcur)
              rw [List.length_append, intsV, List.map_append]
              exact this
            · refine ((HC2.out.grow ha3 (fun j _ h => h.elim)).grow hc3 (fun j hj h => ?_)).grow hc4 (fun j _ h => .inl h)
              rcases HI.out.2.2.1 with e | ⟨g, e, hg⟩
              · exact .inr (.inr (by rw [← e]; exact h.symm))
              · rw [e] at h
                have := Option.some.inj h
                omega
            · rcases hwh3 with e | e
              · rw [e]; exact HI.out.2.2.1
              · exact .inr ⟨_, e, by simp; omega⟩)
          clear hown3 hg3 hwh3 hc3 ha3 hm3 ht3 hmap3 hc4
          go_wp2_with fail
          go_roundw
          case rel => exact ⟨i + 1, .slice vo (td'.length + 1) vc, s' ++ [xa], td' ++ [xa], by omega, by go_num, by simp; omega, by simp; omega, Lib.hid ⟨HFIN.out.1, HFIN.out.2.1, HFIN.out.2.2, by rw [← HI.out.2.2.2, HD.out, seeL, if_pos ⟨rfl, HIN.out⟩]⟩⟩
          case measure => simp [intOf]; omega
    · have hil : i = L.length := by omega
      subst hil
      go_wp2_with fail
      go_end0
      refine ⟨⟨_, rfl⟩, tv', ?_, HI.out.2.1, HI.out.2.2.1⟩
      rw [← HI.out.2.2.2, List.drop_length, seeL]
      exact HI.out.1
end Go.Proofs.YtfbohajojaaiaaaDoor
