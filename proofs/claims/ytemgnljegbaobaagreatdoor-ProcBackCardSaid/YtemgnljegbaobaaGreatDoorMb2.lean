/- term.Check and what it calls, walked. Conditions: the table of letters reads as laid; the term reads. -/
/- term.Check. Conditions: the table of letters reads as laid; the term reads. -/
/- terms: the reference's bare, and what may be an integer. Conditions: lengths fit. -/
/- terms: the reference's one. Conditions: lengths fit. -/
import Derived.Test.YtemgnljegbaobaaGreatDoorMb1
import Derived.Laws.EntriesVeiled
namespace Go.Proofs.YtemgnljegbaobaaGreatDoor
open Go.ChangeShapes Go.WideShapes Go.ChangeAt Go.RowKit
set_option linter.unusedVariables false
theorem cells_small {w : World} {S : Nat → Prop} (h : Cells w 0 letL) (hs : Small w S) : ¬ S 0 := by
  intro h0
  obtain ⟨cs, e, fz, hx, hsz⟩ := hs 0 h0
  have h1 := (h 1 _ rfl).2
  simp only [World.cell?, hx] at h1
  rw [if_neg (by simp)] at h1
  have := (Array.getElem?_eq_some_iff.1 h1).1
  simp at this
  omega
theorem cells_chg0 {S : Nat → Prop} {w w' : World} (h : Cells w 0 letL) (hc : Chg S w w') (hs : Small w S) : Cells w' 0 letL := fun j r hj => ⟨hc.cell (h j r hj).1 (cells_small h hs), hc.cell (h j r hj).2 (cells_small h hs)⟩
theorem Chks.setN {w : World} {pn pk pw : Nat} {c : Int} {ok : Bool} (h : Chks w pn pk pw c ok) (c' : Int) : Chks (w.setCell ⟨pn, 0, none⟩ (.int .i64 c')) pn pk pw c' ok := by
  obtain ⟨n1, n2, n3⟩ := h.ne
  have hg := chg_set (w := w) (p := ⟨pn, 0, none⟩) (.int .i64 c')
  exact ⟨set_at h.1 _, hg.heap h.2.1 n1.symm, hg.heap h.2.2 n2⟩
theorem Chks.setK {w : World} {pn pk pw : Nat} {c : Int} {ok : Bool} (h : Chks w pn pk pw c ok) (x : Bool) : Chks (w.setCell ⟨pk, 0, none⟩ (.bool x)) pn pk pw c x := by
  obtain ⟨n1, n2, n3⟩ := h.ne
  have hg := chg_set (w := w) (p := ⟨pk, 0, none⟩) (.bool x)
  exact ⟨hg.heap h.1 n1, set_at h.2.1 _, hg.heap h.2.2 n3⟩
theorem Chks.keep {w w' : World} {pn pk pw : Nat} {c : Int} {ok : Bool} (h : Chks w pn pk pw c ok) (hb : Below w.heap.size w w') : Chks w' pn pk pw c ok := ⟨keep_heap h.1 hb, keep_heap h.2.1 hb, keep_heap h.2.2 hb⟩
theorem small_chg {S : Nat → Prop} {w w' : World} {pn pk pw : Nat} {c : Int} {ok : Bool} (h : Chks w' pn pk pw c ok) : Small w' (two pn pk) := h.small
theorem Chks.cells {w : World} {pn pk pw : Nat} {c : Int} {ok : Bool} (h : Chks w pn pk pw c ok) :
    (w.cell? ⟨pn, 0, none⟩ = some (.int .i64 c) ∧ w.frozen? ⟨pn, 0, none⟩ = false ∧ pn < w.heap.size) ∧ (w.cell? ⟨pk, 0, none⟩ = some (.bool ok) ∧ w.frozen? ⟨pk, 0, none⟩ = false ∧ pk < w.heap.size) ∧
    w.cell? ⟨pw, 0, none⟩ = some (.func (.func 57) #[] #[.pointer (some ⟨pn, 0, none⟩), .pointer (some ⟨pk, 0, none⟩), .pointer (some ⟨pw, 0, none⟩)]) :=
  ⟨⟨(cells_at h.1 0 _ rfl).1, (cells_at h.1 0 _ rfl).2, heap_lt h.1⟩, ⟨(cells_at h.2.1 0 _ rfl).1, (cells_at h.2.1 0 _ rfl).2, heap_lt h.2.1⟩, (cells_at h.2.2 0 _ rfl).1⟩
def WalkS (pn pk pw b o : Nat) (lv : Value) (w : World) : Prop :=
  w.cell? ⟨pw, 0, none⟩ = some (.func (.func 57) #[] #[.pointer (some ⟨pn, 0, none⟩), .pointer (some ⟨pk, 0, none⟩), .pointer (some ⟨pw, 0, none⟩)]) ∧ w.cell? ⟨b, o + 4, none⟩ = some lv
set_option maxHeartbeats 4000000 in
theorem walk_any : ∀ (f : Nat) (t : Tm) (b o : Nat) (w : World) (c : Int) (ok : Bool) (pn pk pw : Nat), At f w b o t → Cells w 0 letL → Chks w pn pk pw c ok → 0 ≤ c → c ≤ 256 →
    Calls Tryz.prog 57 #[.pointer (some ⟨b, o, none⟩), .pointer (some ⟨pn, 0, none⟩), .pointer (some ⟨pk, 0, none⟩), .pointer (some ⟨pw, 0, none⟩)] w (WalkPost w pn pk pw (chk t (c, ok))) := by
  intro f
  induction f with
  | zero => intro t b o w c ok pn pk pw h; exact h.elim
  | succ f ih =>
    intro t b o w c ok pn pk pw ht hw hs hc0 hc1
    obtain ⟨k, n, s, u, l⟩ := t
    obtain ⟨hf, lv, hnode, hrow⟩ := ht.open
    have hrow0 := hrow
    obtain ⟨ao, cap, rfl, hl, hcap, _⟩ := hrow
    have IH := Lib.hid ih
    have hsN := hs.setN (c + 1)
    have hcN : Chg (two pn pk) w (w.setCell ⟨pn, 0, none⟩ (.int .i64 (c + 1))) := (chg_set _).mono fun _ _ e => .inl e
    obtain ⟨⟨x1, x2, x3⟩, ⟨x4, x5, x6⟩, x7⟩ := hs.cells
    obtain ⟨⟨y1, y2, y3⟩, ⟨y4, y5, y6⟩, y7⟩ := hsN.cells
    have hall : ∀ (W : World) (x : Bool), Chks W pn pk pw (c + 1) x → Chg (two pn pk) w W → x = (ok && oneB k n s u l.length) →
        (Chks W pn pk pw (c + 1) x ∧ Chg (two pn pk) w W ∧ Hid (chkL (l.drop 0) (c + 1, x) = chk (.mk k n s u l) (c, ok))) := by
      intro W x h1 h2 h3
      refine ⟨h1, h2, ?_⟩
      show chkL (l.drop 0) (c + 1, x) = _
      rw [h3, chk]
      rfl
    have HALL := Lib.hid hall
    have hwN := cells_chg0 hw hcN hs.small
    have hnN : Node (w.setCell ⟨pn, 0, none⟩ (.int .i64 (c + 1))) b o k n s u (.slice ao l.length cap) := by
      have hb := hnode.apart hs.small
      exact ⟨hcN.cell hnode.1 hb, hcN.cell hnode.2.1 hb, hcN.cell hnode.2.2.1 hb, hcN.cell hnode.2.2.2.1 hb, hcN.cell hnode.2.2.2.2 hb⟩
    have HS0 := Lib.hid hs
    have HSN := Lib.hid hsN
    have HCN := Lib.hid hcN
    have HONE := Lib.hid (one_any _ hwN b o hf.2.2.1 hf.2.2.2 hnN)
    have HNODE := Lib.hid hnode
    have HROW := Lib.hid hrow0
    have HW := Lib.hid hw
    have hl63 : l.length ≤ 9223372036854775807 := by omega
    clear ih hs hsN hcN hall hwN hnN hnode hrow0 hw ht hf x7 y7
    have hnX : ∀ W, Chg (two pn pk) w W → W.cell? ⟨b, o + 4, none⟩ = some (.slice ao l.length cap) := fun W hc => hc.cell HNODE.out.2.2.2.2 (HNODE.out.apart HS0.out.small)
    have HNX := Lib.hid hnX
    clear hnX
    cases ok
    · have hst := HALL.out _ false (HSN.out.setK false) (HCN.out.trans ((chg_set (p := ⟨pk, 0, none⟩) (.bool false)).mono fun _ _ e => .inr e)) rfl
      have hx := HNX.out _ hst.2.1
      have HST := Lib.hid hst
      clear hst HALL HONE HSN
      go_enter Tryz.func57, Tryz.ntmps57
      go_wp2_with fail
      clear x1 x2 x3 x4 x5 x6 y1 y2 y3 y4 y5 y6
      go_loopw [18] (fun iv wr => ∃ (i : Nat) (c' : Int) (ok' : Bool), i ≤ l.length ∧ iv = .int .i64 i ∧ Chks wr pn pk pw c' ok' ∧ Chg (two pn pk) w wr ∧ 0 ≤ c' ∧ c' ≤ 257 ∧ Hid (chkL (l.drop i) (c', ok') = chk (.mk k n s u l) (c, false)))
        (fun iv _ => l.length - (intOf iv).toNat)
      case atStart => exact ⟨0, c + 1, _, by omega, rfl, HST.out.1, HST.out.2.1, by omega, by omega, HST.out.2.2⟩
      case round =>
        clear HST hx
        obtain ⟨i, c', ok', hi, rfl, hs1, hcg, hc2, hc3, HF⟩ := hrel
        have hx := HNX.out _ hcg
        obtain ⟨⟨q1, q2, q3⟩, ⟨q4, q5, q6⟩, q7⟩ := hs1.cells
        have HS1 := Lib.hid hs1
        have HCG := Lib.hid hcg
        clear hs1 hcg
        by_cases hlt : i < l.length
        · obtain ⟨t, ht⟩ : ∃ t, l[i]? = some t := ⟨l[i], by simp [hlt]⟩
          obtain ⟨b', off, e, hat⟩ := HROW.out.at ht
          subst e
          have hat1 := hat.chg HCG.out HS0.out.small
          have hdrop : l.drop i = t :: l.drop (i + 1) := by rw [List.drop_eq_getElem_cons hlt]; congr 1; rw [List.getElem?_eq_getElem hlt] at ht; exact Option.some.inj ht
          have HD := Lib.hid hdrop
          clear hat ht hdrop
          by_cases hbig : 256 < c'
          · have hd1 : decide (256 < c') = true := by simpa using hbig
            have hfin : (c', ok') = chk (.mk k n s u l) (c, false) := by
              have := HF.out
              rw [HD.out, chkL, if_pos (.inl hbig)] at this
              exact this
            have HFIN := Lib.hid hfin
            clear hfin hbig
            go_wp2_with fail
            refine bodyPost_ret (results_none rfl _ _ _) rfl ⟨⟨_, rfl⟩, ?_, HCG.out⟩
            rw [← HFIN.out]
            exact HS1.out
          · have hd1 : decide (256 < c') = false := by simpa using hbig
            cases ok'
            · have hfin : (c', false) = chk (.mk k n s u l) (c, false) := by
                have := HF.out
                rw [HD.out, chkL, if_pos (.inr rfl)] at this
                exact this
              have HFIN := Lib.hid hfin
              clear hfin hbig
              go_wp2_with fail
              refine bodyPost_ret (results_none rfl _ _ _) rfl ⟨⟨_, rfl⟩, ?_, HCG.out⟩
              rw [← HFIN.out]
              exact HS1.out
            · have hfin : chkL (l.drop (i + 1)) (chk t (c', true)) = chk (.mk k n s u l) (c, false) := by
                have := HF.out
                rw [HD.out, chkL, if_neg (by simp; omega)] at this
                exact this
              have hle := chk_le t (c', true) hc2 (by simp; omega)
              have HFIN := Lib.hid hfin
              have hdr : Below wr.heap.size wr wr.drew := (Below.refl _ _).drew
              have hcgd := HCG.out.trans (chg_of_below hdr _)
              have HCD := Lib.hid hcgd
              have hcall := IH.out t b' (off + i * 5) wr.drew c' true pn pk pw (hat1.keep hdr) (cells_chg0 HW.out hcgd HS0.out.small) (HS1.out.keep hdr) hc2 (by omega)
              have HCALL := Lib.hid hcall
              have hS : WalkS pn pk pw b o (.slice (some ⟨b', off, none⟩) l.length cap) wr := ⟨q7, hx⟩
              clear hfin hcall hat1 hcgd hdr
              go_wp2_with fail
              have hD : WalkS pn pk pw b o (.slice (some ⟨b', off, none⟩) l.length cap) wr.drew := hS
              refine region_plan (WalkS pn pk pw b o (.slice (some ⟨b', off, none⟩) l.length cap)) [(0, 0), (1, 0), (2, 0), (3, 0), (4, 0), (5, 0), (6, 0), (7, 1)] (by kernel_rfl) (by kernel_rfl) (by kernel_rfl) hD ?_
              iterate 7 (first | (refine plan_skip rfl ?_ ?_; (focus (rfl)); (try simp only [Act.put, List.setIfInBounds_toArray, List.set_cons_zero, List.set_cons_succ])) | (refine plan_take (v := ?_) rfl ?_ (fun w hSw => ?_) ?_; rotate_left; (focus (rfl)); (focus (unfold WalkS at hSw; (go_simp <;> with_reducible rfl))); (try simp only [Act.put, List.setIfInBounds_toArray, List.set_cons_zero, List.set_cons_succ])))
              refine plan_run rfl ?_ (fun K hK => ?_)
              focus (rfl)
              go_simp
              refine (HCALL.out).mono ?_
              rintro e W1 ⟨⟨v, rfl⟩, hs2, hcg2⟩
              have hcg3 := HCD.out.trans hcg2
              have hS1 : WalkS pn pk pw b o (.slice (some ⟨b', off, none⟩) l.length cap) W1 := ⟨hs2.cells.2.2, HNX.out _ hcg3⟩
              refine hK.out _ _ hS1 ?_
              clear hK K 
              (try simp only [Act.put, List.setIfInBounds_toArray, List.set_cons_zero, List.set_cons_succ])
              refine plan_done ?_
              go_wp2_with fail
              go_roundw
              case rel => exact ⟨i + 1, _, _, by omega, by go_num, hs2, hcg3, by omega, hle.2, HFIN.out⟩
              case measure => simp [intOf]; omega
        · have hil : i = l.length := by omega
          have hfin : (c', ok') = chk (.mk k n s u l) (c, false) := by
            have := HF.out
            rw [hil, List.drop_length, chkL] at this
            exact this
          have HFIN := Lib.hid hfin
          clear hfin hil
          go_wp2_with fail
          go_end0
          refine ⟨⟨_, rfl⟩, ?_, HCG.out⟩
          rw [← HFIN.out]
          exact HS1.out
    · generalize oneB k n s u l.length = x at *
      go_enter Tryz.func57, Tryz.ntmps57
      go_wp2_with fail
      refine HONE.out.mono ?_
      rintro e w2 ⟨rfl, hb2⟩
      have hs2 := HSN.out.keep hb2
      have hst := HALL.out _ x (hs2.setK x) ((HCN.out.trans (chg_of_below hb2 _)).trans ((chg_set (p := ⟨pk, 0, none⟩) (.bool x)).mono fun _ _ e => .inr e)) (by simp)
      have hx := HNX.out _ hst.2.1
      obtain ⟨⟨z1, z2, z3⟩, ⟨z4, z5, z6⟩, z7⟩ := hs2.cells
      have HST := Lib.hid hst
      clear hst HALL HONE HSN hs2 hb2 z7
      go_wp2_with fail
      clear x1 x2 x3 x4 x5 x6 y1 y2 y3 y4 y5 y6
      go_loopw [18] (fun iv wr => ∃ (i : Nat) (c' : Int) (ok' : Bool), i ≤ l.length ∧ iv = .int .i64 i ∧ Chks wr pn pk pw c' ok' ∧ Chg (two pn pk) w wr ∧ 0 ≤ c' ∧ c' ≤ 257 ∧ Hid (chkL (l.drop i) (c', ok') = chk (.mk k n s u l) (c, true)))
        (fun iv _ => l.length - (intOf iv).toNat)
      case atStart => exact ⟨0, c + 1, _, by omega, rfl, HST.out.1, HST.out.2.1, by omega, by omega, HST.out.2.2⟩
      case round =>
        clear HST hx
        obtain ⟨i, c', ok', hi, rfl, hs1, hcg, hc2, hc3, HF⟩ := hrel
        have hx := HNX.out _ hcg
        obtain ⟨⟨q1, q2, q3⟩, ⟨q4, q5, q6⟩, q7⟩ := hs1.cells
        have HS1 := Lib.hid hs1
        have HCG := Lib.hid hcg
        clear hs1 hcg
        by_cases hlt : i < l.length
        · obtain ⟨t, ht⟩ : ∃ t, l[i]? = some t := ⟨l[i], by simp [hlt]⟩
          obtain ⟨b', off, e, hat⟩ := HROW.out.at ht
          subst e
          have hat1 := hat.chg HCG.out HS0.out.small
          have hdrop : l.drop i = t :: l.drop (i + 1) := by rw [List.drop_eq_getElem_cons hlt]; congr 1; rw [List.getElem?_eq_getElem hlt] at ht; exact Option.some.inj ht
          have HD := Lib.hid hdrop
          clear hat ht hdrop
          by_cases hbig : 256 < c'
          · have hd1 : decide (256 < c') = true := by simpa using hbig
            have hfin : (c', ok') = chk (.mk k n s u l) (c, true) := by
              have := HF.out
              rw [HD.out, chkL, if_pos (.inl hbig)] at this
              exact this
            have HFIN := Lib.hid hfin
            clear hfin hbig
            go_wp2_with fail
            refine bodyPost_ret (results_none rfl _ _ _) rfl ⟨⟨_, rfl⟩, ?_, HCG.out⟩
            rw [← HFIN.out]
            exact HS1.out
          · have hd1 : decide (256 < c') = false := by simpa using hbig
            cases ok'
            · have hfin : (c', false) = chk (.mk k n s u l) (c, true) := by
                have := HF.out
                rw [HD.out, chkL, if_pos (.inr rfl)] at this
                exact this
              have HFIN := Lib.hid hfin
              clear hfin hbig
              go_wp2_with fail
              refine bodyPost_ret (results_none rfl _ _ _) rfl ⟨⟨_, rfl⟩, ?_, HCG.out⟩
              rw [← HFIN.out]
              exact HS1.out
            · have hfin : chkL (l.drop (i + 1)) (chk t (c', true)) = chk (.mk k n s u l) (c, true) := by
                have := HF.out
                rw [HD.out, chkL, if_neg (by simp; omega)] at this
                exact this
              have hle := chk_le t (c', true) hc2 (by simp; omega)
              have HFIN := Lib.hid hfin
              have hdr : Below wr.heap.size wr wr.drew := (Below.refl _ _).drew
              have hcgd := HCG.out.trans (chg_of_below hdr _)
              have HCD := Lib.hid hcgd
              have hcall := IH.out t b' (off + i * 5) wr.drew c' true pn pk pw (hat1.keep hdr) (cells_chg0 HW.out hcgd HS0.out.small) (HS1.out.keep hdr) hc2 (by omega)
              have HCALL := Lib.hid hcall
              have hS : WalkS pn pk pw b o (.slice (some ⟨b', off, none⟩) l.length cap) wr := ⟨q7, hx⟩
              clear hfin hcall hat1 hcgd hdr
              go_wp2_with fail
              have hD : WalkS pn pk pw b o (.slice (some ⟨b', off, none⟩) l.length cap) wr.drew := hS
              refine region_plan (WalkS pn pk pw b o (.slice (some ⟨b', off, none⟩) l.length cap)) [(0, 0), (1, 0), (2, 0), (3, 0), (4, 0), (5, 0), (6, 0), (7, 1)] (by kernel_rfl) (by kernel_rfl) (by kernel_rfl) hD ?_
              iterate 7 (first | (refine plan_skip rfl ?_ ?_; (focus (rfl)); (try simp only [Act.put, List.setIfInBounds_toArray, List.set_cons_zero, List.set_cons_succ])) | (refine plan_take (v := ?_) rfl ?_ (fun w hSw => ?_) ?_; rotate_left; (focus (rfl)); (focus (unfold WalkS at hSw; (go_simp <;> with_reducible rfl))); (try simp only [Act.put, List.setIfInBounds_toArray, List.set_cons_zero, List.set_cons_succ])))
              refine plan_run rfl ?_ (fun K hK => ?_)
              focus (rfl)
              go_simp
              refine (HCALL.out).mono ?_
              rintro e W1 ⟨⟨v, rfl⟩, hs2, hcg2⟩
              have hcg3 := HCD.out.trans hcg2
              have hS1 : WalkS pn pk pw b o (.slice (some ⟨b', off, none⟩) l.length cap) W1 := ⟨hs2.cells.2.2, HNX.out _ hcg3⟩
              refine hK.out _ _ hS1 ?_
              clear hK K 
              (try simp only [Act.put, List.setIfInBounds_toArray, List.set_cons_zero, List.set_cons_succ])
              refine plan_done ?_
              go_wp2_with fail
              go_roundw
              case rel => exact ⟨i + 1, _, _, by omega, by go_num, hs2, hcg3, by omega, hle.2, HFIN.out⟩
              case measure => simp [intOf]; omega
        · have hil : i = l.length := by omega
          have hfin : (c', ok') = chk (.mk k n s u l) (c, true) := by
            have := HF.out
            rw [hil, List.drop_length, chkL] at this
            exact this
          have HFIN := Lib.hid hfin
          clear hfin hil
          go_wp2_with fail
          go_end0
          refine ⟨⟨_, rfl⟩, ?_, HCG.out⟩
          rw [← HFIN.out]
          exact HS1.out
end Go.Proofs.YtemgnljegbaobaaGreatDoor
namespace Go.Proofs.YtemgnljegbaobaaGreatDoor
open Go.ChangeShapes Go.WideShapes Go.ChangeAt Go.RowKit
set_option linter.unusedVariables false
def checkN (t : Tm) : Int := if (chk t (0, true)).2 = false then 30 else if 256 < (chk t (0, true)).1 then 11 else 0
theorem chks_new (w : World) (n : Nat) (hn : w.heap.size = n) (o1 o2 o3 : Obj) (h1 : o1 = .cells #[.int .i64 0] 3) (h2 : o2 = .cells #[.bool true] 4)
    (h3 : o3 = .cells #[.func (.func 57) #[] #[.pointer (some ⟨n, 0, none⟩), .pointer (some ⟨n + 1, 0, none⟩), .pointer (some ⟨n + 1 + 1, 0, none⟩)]] 112) :
    Chks (((w.alloc o1).alloc o2).alloc o3) n (n + 1) (n + 1 + 1) 0 true ∧ Below w.heap.size w (((w.alloc o1).alloc o2).alloc o3) := by
  subst h1 h2 h3 hn
  refine ⟨⟨heap_old (heap_old (heap_new _ _) _) _, ?_, ?_⟩, (((Below.refl _ _).alloc (Nat.le_refl _) _).alloc (by simp) _).alloc (by simp; omega) _⟩
  · have := heap_new (w.alloc (.cells #[.int .i64 0] 3)) (.cells #[.bool true] 4)
    rw [World.size_alloc] at this
    exact heap_old this _
  · have := heap_new ((w.alloc (.cells #[.int .i64 0] 3)).alloc (.cells #[.bool true] 4)) (.cells #[.func (.func 57) #[] #[.pointer (some ⟨w.heap.size, 0, none⟩), .pointer (some ⟨w.heap.size + 1, 0, none⟩), .pointer (some ⟨w.heap.size + 1 + 1, 0, none⟩)]] 112)
    rw [World.size_alloc, World.size_alloc] at this
    exact this
set_option maxHeartbeats 1000000 in
theorem check_any (f : Nat) (t : Tm) (v : Value) (w : World) (hw : Cells w 0 letL) (h : TermV f w v t) : Calls Tryz.prog 30 #[v] w (IntPost w (checkN t)) := by
  obtain ⟨lv, rfl, hat⟩ := h.boxed
  clear h
  go_enter Tryz.func30, Tryz.ntmps30
  go_wp2_with fail
  have hb0 := (Below.refl w.heap.size w).alloc (Nat.le_refl _) (.cells #[.int .i8 t.k, .int .i64 t.n, .string t.s, .string t.u, lv] 31)
  obtain ⟨hs, hb1⟩ := chks_new (w.alloc (.cells #[.int .i8 t.k, .int .i64 t.n, .string t.s, .string t.u, lv] 31)) (w.heap.size + 1) (by simp) _ _ _ rfl rfl rfl
  have hB := hb0.trans (hb1.mono (by simp))
  refine (walk_any (f + 1) t w.heap.size 0 _ 0 true _ _ _ (hat.keep hb1) (keepCells hw hB) hs (by omega) (by omega)).mono ?_
  rintro e w2 ⟨⟨v, rfl⟩, hs2, hc2⟩
  have hB2 : Below w.heap.size w w2 := hB.trans (hc2.below (by have := hB.size; omega) (by rintro k (rfl | rfl) <;> omega))
  obtain ⟨⟨x1, _, _⟩, ⟨x4, _, _⟩, _⟩ := hs2.cells
  clear hs hb0 hb1 hB hat hs2 hc2 hw
  have hE : checkN t = if (chk t (0, true)).2 = false then 30 else if 256 < (chk t (0, true)).1 then 11 else 0 := rfl
  generalize chk t (0, true) = p at *
  obtain ⟨c, ok⟩ := p
  simp only at x1 x4 hE
  cases ok
  · have HE := Lib.hid (hE.trans (if_pos rfl))
    clear hE
    go_wp2_with fail
    go_ret
    exact ⟨by rw [HE.out]; rfl, hB2⟩
  · by_cases h : 256 < c
    · have HE := Lib.hid (hE.trans ((if_neg (by simp)).trans (if_pos h)))
      have hd : decide (256 < c) = true := by simpa using h
      clear hE
      go_wp2_with fail
      go_ret
      exact ⟨by rw [HE.out]; rfl, hB2⟩
    · have HE := Lib.hid (hE.trans ((if_neg (by simp)).trans (if_neg h)))
      have hd : decide (256 < c) = false := by simpa using h
      clear hE
      go_wp2_with fail
      go_ret
      exact ⟨by rw [HE.out]; rfl, hB2⟩
end Go.Proofs.YtemgnljegbaobaaGreatDoor
namespace Go.Proofs.YtemgnljegbaobaaGreatDoor
open Go.ChangeShapes Go.WideShapes Go.ChangeAt Go.RowKit
set_option linter.unusedVariables false
theorem rimay_any (n : Int) (w : World) : Calls Tryz.prog 77 #[.int .i64 n] w (SameB w (mayI n)) := by
  by_cases h1 : -576460752303423488 ≤ n
  · by_cases h2 : n ≤ 576460752303423487
    · have : mayI n = true := (mayI_iff n).2 ⟨h1, h2⟩
      rw [this]
      have hd1 : decide (-576460752303423488 ≤ n) = true := by simpa using h1
      have hd : decide (n ≤ 576460752303423487) = true := by simpa using h2
      go_enter Tryz.func77, Tryz.ntmps77
      go_wp2_with fail
      go_ret
      exact ⟨rfl, rfl⟩
    · have : mayI n = false := by simp [mayI]; omega
      rw [this]
      have hd1 : decide (-576460752303423488 ≤ n) = true := by simpa using h1
      have hd : decide (n ≤ 576460752303423487) = false := by simpa using h2
      go_enter Tryz.func77, Tryz.ntmps77
      go_wp2_with fail
      go_ret
      exact ⟨rfl, rfl⟩
  · have : mayI n = false := by simp [mayI]; omega
    rw [this]
    have hd : decide (-576460752303423488 ≤ n) = false := by simpa using h1
    go_enter Tryz.func77, Tryz.ntmps77
    go_wp2_with fail
    go_ret
    exact ⟨rfl, rfl⟩
def tv (k n : Int) (s u : ByteArray) (lv : Value) : Value := .agg #[.int .i8 k, .int .i64 n, .string s, .string u, lv]

theorem bare_tfff (w : World) (k N : Int) (S U : ByteArray) (ao : Option Addr) (len cap : Nat) :
    Calls Tryz.prog 76 #[.agg #[.int .i8 k, .int .i64 N, .string S, .string U, .slice ao len cap], .bool true, .bool false, .bool false, .bool false] w (IsPost w (bareB true false false false N S U len)) := by
  cases hS : empty S
  · obtain ⟨qS1, qS2⟩ := empty_false hS
    have e : bareB true false false false N S U len = false := by simp [bareB, *]
    rw [e]
    clear e
    clear hS
    go_enter Tryz.func76, Tryz.ntmps76
    go_wp2_with fail
    go_ret
    exact ⟨rfl, (Below.refl _ _).alloc (Nat.le_refl _) _⟩
  · obtain rfl := empty_true hS
    cases hU : empty U
    · obtain ⟨qU1, qU2⟩ := empty_false hU
      have e : bareB true false false false N ⟨#[]⟩ U len = false := by simp [bareB, *]
      rw [e]
      clear e
      clear hU
      go_enter Tryz.func76, Tryz.ntmps76
      go_wp2_with fail
      go_ret
      exact ⟨rfl, (Below.refl _ _).alloc (Nat.le_refl _) _⟩
    · obtain rfl := empty_true hU
      by_cases hl : len = 0
      · have hl' : ((len : Int) == 0) = true := by simp [hl]
        have hl2 : (len == 0) = true := by simp [hl]
        clear hl
        have e : bareB true false false false N ⟨#[]⟩ ⟨#[]⟩ len = true := by simp [bareB, *]
        rw [e]
        clear e
        clear hl2
        go_enter Tryz.func76, Tryz.ntmps76
        go_wp2_with fail
        go_ret
        exact ⟨rfl, (Below.refl _ _).alloc (Nat.le_refl _) _⟩
      · have hl' : ((len : Int) == 0) = false := by simp; omega
        have hl2 : (len == 0) = false := by simp [hl]
        clear hl
        have e : bareB true false false false N ⟨#[]⟩ ⟨#[]⟩ len = false := by simp [bareB, *]
        rw [e]
        clear e
        clear hl2
        go_enter Tryz.func76, Tryz.ntmps76
        go_wp2_with fail
        go_ret
        exact ⟨rfl, (Below.refl _ _).alloc (Nat.le_refl _) _⟩
theorem bare_ftff (w : World) (k N : Int) (S U : ByteArray) (ao : Option Addr) (len cap : Nat) :
    Calls Tryz.prog 76 #[.agg #[.int .i8 k, .int .i64 N, .string S, .string U, .slice ao len cap], .bool false, .bool true, .bool false, .bool false] w (IsPost w (bareB false true false false N S U len)) := by
  by_cases hN : N = 0
  · have hN' : (N == 0) = true := by simp [hN]
    clear hN
    cases hU : empty U
    · obtain ⟨qU1, qU2⟩ := empty_false hU
      have e : bareB false true false false N S U len = false := by simp [bareB, *]
      rw [e]
      clear e
      clear hU
      go_enter Tryz.func76, Tryz.ntmps76
      go_wp2_with fail
      go_ret
      exact ⟨rfl, (Below.refl _ _).alloc (Nat.le_refl _) _⟩
    · obtain rfl := empty_true hU
      by_cases hl : len = 0
      · have hl' : ((len : Int) == 0) = true := by simp [hl]
        have hl2 : (len == 0) = true := by simp [hl]
        clear hl
        have e : bareB false true false false N S ⟨#[]⟩ len = true := by simp [bareB, *]
        rw [e]
        clear e
        clear hl2
        go_enter Tryz.func76, Tryz.ntmps76
        go_wp2_with fail
        go_ret
        exact ⟨rfl, (Below.refl _ _).alloc (Nat.le_refl _) _⟩
      · have hl' : ((len : Int) == 0) = false := by simp; omega
        have hl2 : (len == 0) = false := by simp [hl]
        clear hl
        have e : bareB false true false false N S ⟨#[]⟩ len = false := by simp [bareB, *]
        rw [e]
        clear e
        clear hl2
        go_enter Tryz.func76, Tryz.ntmps76
        go_wp2_with fail
        go_ret
        exact ⟨rfl, (Below.refl _ _).alloc (Nat.le_refl _) _⟩
  · have hN' : (N == 0) = false := by simp [hN]
    clear hN
    have e : bareB false true false false N S U len = false := by simp [bareB, *]
    rw [e]
    clear e
    go_enter Tryz.func76, Tryz.ntmps76
    go_wp2_with fail
    go_ret
    exact ⟨rfl, (Below.refl _ _).alloc (Nat.le_refl _) _⟩
theorem bare_tttf (w : World) (k N : Int) (S U : ByteArray) (ao : Option Addr) (len cap : Nat) :
    Calls Tryz.prog 76 #[.agg #[.int .i8 k, .int .i64 N, .string S, .string U, .slice ao len cap], .bool true, .bool true, .bool true, .bool false] w (IsPost w (bareB true true true false N S U len)) := by
  by_cases hl : len = 0
  · have hl' : ((len : Int) == 0) = true := by simp [hl]
    have hl2 : (len == 0) = true := by simp [hl]
    clear hl
    have e : bareB true true true false N S U len = true := by simp [bareB, *]
    rw [e]
    clear e
    clear hl2
    go_enter Tryz.func76, Tryz.ntmps76
    go_wp2_with fail
    go_ret
    exact ⟨rfl, (Below.refl _ _).alloc (Nat.le_refl _) _⟩
  · have hl' : ((len : Int) == 0) = false := by simp; omega
    have hl2 : (len == 0) = false := by simp [hl]
    clear hl
    have e : bareB true true true false N S U len = false := by simp [bareB, *]
    rw [e]
    clear e
    clear hl2
    go_enter Tryz.func76, Tryz.ntmps76
    go_wp2_with fail
    go_ret
    exact ⟨rfl, (Below.refl _ _).alloc (Nat.le_refl _) _⟩
theorem bare_ffft (w : World) (k N : Int) (S U : ByteArray) (ao : Option Addr) (len cap : Nat) :
    Calls Tryz.prog 76 #[.agg #[.int .i8 k, .int .i64 N, .string S, .string U, .slice ao len cap], .bool false, .bool false, .bool false, .bool true] w (IsPost w (bareB false false false true N S U len)) := by
  by_cases hN : N = 0
  · have hN' : (N == 0) = true := by simp [hN]
    clear hN
    cases hS : empty S
    · obtain ⟨qS1, qS2⟩ := empty_false hS
      have e : bareB false false false true N S U len = false := by simp [bareB, *]
      rw [e]
      clear e
      clear hS
      go_enter Tryz.func76, Tryz.ntmps76
      go_wp2_with fail
      go_ret
      exact ⟨rfl, (Below.refl _ _).alloc (Nat.le_refl _) _⟩
    · obtain rfl := empty_true hS
      cases hU : empty U
      · obtain ⟨qU1, qU2⟩ := empty_false hU
        have e : bareB false false false true N ⟨#[]⟩ U len = false := by simp [bareB, *]
        rw [e]
        clear e
        clear hU
        go_enter Tryz.func76, Tryz.ntmps76
        go_wp2_with fail
        go_ret
        exact ⟨rfl, (Below.refl _ _).alloc (Nat.le_refl _) _⟩
      · obtain rfl := empty_true hU
        have e : bareB false false false true N ⟨#[]⟩ ⟨#[]⟩ len = true := by simp [bareB, *]
        rw [e]
        clear e
        go_enter Tryz.func76, Tryz.ntmps76
        go_wp2_with fail
        go_ret
        exact ⟨rfl, (Below.refl _ _).alloc (Nat.le_refl _) _⟩
  · have hN' : (N == 0) = false := by simp [hN]
    clear hN
    have e : bareB false false false true N S U len = false := by simp [bareB, *]
    rw [e]
    clear e
    go_enter Tryz.func76, Tryz.ntmps76
    go_wp2_with fail
    go_ret
    exact ⟨rfl, (Below.refl _ _).alloc (Nat.le_refl _) _⟩
theorem bare_ffff (w : World) (k N : Int) (S U : ByteArray) (ao : Option Addr) (len cap : Nat) :
    Calls Tryz.prog 76 #[.agg #[.int .i8 k, .int .i64 N, .string S, .string U, .slice ao len cap], .bool false, .bool false, .bool false, .bool false] w (IsPost w (bareB false false false false N S U len)) := by
  by_cases hN : N = 0
  · have hN' : (N == 0) = true := by simp [hN]
    clear hN
    cases hS : empty S
    · obtain ⟨qS1, qS2⟩ := empty_false hS
      have e : bareB false false false false N S U len = false := by simp [bareB, *]
      rw [e]
      clear e
      clear hS
      go_enter Tryz.func76, Tryz.ntmps76
      go_wp2_with fail
      go_ret
      exact ⟨rfl, (Below.refl _ _).alloc (Nat.le_refl _) _⟩
    · obtain rfl := empty_true hS
      cases hU : empty U
      · obtain ⟨qU1, qU2⟩ := empty_false hU
        have e : bareB false false false false N ⟨#[]⟩ U len = false := by simp [bareB, *]
        rw [e]
        clear e
        clear hU
        go_enter Tryz.func76, Tryz.ntmps76
        go_wp2_with fail
        go_ret
        exact ⟨rfl, (Below.refl _ _).alloc (Nat.le_refl _) _⟩
      · obtain rfl := empty_true hU
        by_cases hl : len = 0
        · have hl' : ((len : Int) == 0) = true := by simp [hl]
          have hl2 : (len == 0) = true := by simp [hl]
          clear hl
          have e : bareB false false false false N ⟨#[]⟩ ⟨#[]⟩ len = true := by simp [bareB, *]
          rw [e]
          clear e
          clear hl2
          go_enter Tryz.func76, Tryz.ntmps76
          go_wp2_with fail
          go_ret
          exact ⟨rfl, (Below.refl _ _).alloc (Nat.le_refl _) _⟩
        · have hl' : ((len : Int) == 0) = false := by simp; omega
          have hl2 : (len == 0) = false := by simp [hl]
          clear hl
          have e : bareB false false false false N ⟨#[]⟩ ⟨#[]⟩ len = false := by simp [bareB, *]
          rw [e]
          clear e
          clear hl2
          go_enter Tryz.func76, Tryz.ntmps76
          go_wp2_with fail
          go_ret
          exact ⟨rfl, (Below.refl _ _).alloc (Nat.le_refl _) _⟩
  · have hN' : (N == 0) = false := by simp [hN]
    clear hN
    have e : bareB false false false false N S U len = false := by simp [bareB, *]
    rw [e]
    clear e
    go_enter Tryz.func76, Tryz.ntmps76
    go_wp2_with fail
    go_ret
    exact ⟨rfl, (Below.refl _ _).alloc (Nat.le_refl _) _⟩
end Go.Proofs.YtemgnljegbaobaaGreatDoor
namespace Go.Proofs.YtemgnljegbaobaaGreatDoor
open Go.ChangeShapes Go.WideShapes Go.ChangeAt Go.RowKit
set_option linter.unusedVariables false
theorem rone_0_f (w : World) (N : Int) (S U : ByteArray) (hS : S.size ≤ 9223372036854775807) (hU : U.size ≤ 9223372036854775807) (ao : Option Addr) (len cap : Nat) (hb : bareB true false false false N S U len = false) :
    Calls Tryz.prog 47 #[.agg #[.int .i8 0, .int .i64 N, .string S, .string U, .slice ao len cap]] w (IsPost w (false)) := by
  have hB := (Below.refl w.heap.size w).alloc (Nat.le_refl _) (.cells #[.int .i8 0, .int .i64 N, .string S, .string U, .slice ao len cap] 31)
  have hh : (w.alloc (.cells #[.int .i8 0, .int .i64 N, .string S, .string U, .slice ao len cap] 31)).heap[w.heap.size]? = some (.cells #[.int .i8 0, .int .i64 N, .string S, .string U, .slice ao len cap] 31 (0, 0)) := (MapKept.heap_alloc w _).1
  have HR := bare_tfff (w.alloc (.cells #[.int .i8 0, .int .i64 N, .string S, .string U, .slice ao len cap] 31)) 0 N S U ao len cap
  rw [hb] at HR
  have HC := Lib.hid HR
  have HH := Lib.hid hh
  clear HR hh hb
  go_enter Tryz.func47, Tryz.ntmps47
  go_wp2_with fail
  refine HC.out.mono ?_
  rintro e w1 ⟨rfl, hb1⟩
  have hB1 := hB.trans (hb1.mono (by simp))
  have hh1 := keep_heap HH.out hb1
  have c1 := (cells_at hh1 1 _ rfl).1
  have c2 := (cells_at hh1 2 _ rfl).1
  have c3 := (cells_at hh1 3 _ rfl).1
  have c4 := (cells_at hh1 4 _ rfl).1
  have HH1 := Lib.hid hh1
  clear hh1 hb1 hB HC HH
  go_wp2_with fail
  go_ret
  exact ⟨rfl, hB1⟩
theorem rone_0_t (w : World) (N : Int) (S U : ByteArray) (hS : S.size ≤ 9223372036854775807) (hU : U.size ≤ 9223372036854775807) (ao : Option Addr) (len cap : Nat) (hb : bareB true false false false N S U len = true) :
    Calls Tryz.prog 47 #[.agg #[.int .i8 0, .int .i64 N, .string S, .string U, .slice ao len cap]] w (IsPost w (mayI N)) := by
  have hB := (Below.refl w.heap.size w).alloc (Nat.le_refl _) (.cells #[.int .i8 0, .int .i64 N, .string S, .string U, .slice ao len cap] 31)
  have hh : (w.alloc (.cells #[.int .i8 0, .int .i64 N, .string S, .string U, .slice ao len cap] 31)).heap[w.heap.size]? = some (.cells #[.int .i8 0, .int .i64 N, .string S, .string U, .slice ao len cap] 31 (0, 0)) := (MapKept.heap_alloc w _).1
  have HR := bare_tfff (w.alloc (.cells #[.int .i8 0, .int .i64 N, .string S, .string U, .slice ao len cap] 31)) 0 N S U ao len cap
  rw [hb] at HR
  have HC := Lib.hid HR
  have HH := Lib.hid hh
  clear HR hh hb
  go_enter Tryz.func47, Tryz.ntmps47
  go_wp2_with fail
  refine HC.out.mono ?_
  rintro e w1 ⟨rfl, hb1⟩
  have hB1 := hB.trans (hb1.mono (by simp))
  have hh1 := keep_heap HH.out hb1
  have c1 := (cells_at hh1 1 _ rfl).1
  have c2 := (cells_at hh1 2 _ rfl).1
  have c3 := (cells_at hh1 3 _ rfl).1
  have c4 := (cells_at hh1 4 _ rfl).1
  have HH1 := Lib.hid hh1
  clear hh1 hb1 hB HC HH
  go_wp2_with fail
  refine (rimay_any _ _).mono ?_
  rintro e w2 ⟨rfl, rfl⟩
  go_wp2_with fail
  go_ret
  exact ⟨rfl, hB1⟩
theorem rone_2_f (w : World) (N : Int) (S U : ByteArray) (hS : S.size ≤ 9223372036854775807) (hU : U.size ≤ 9223372036854775807) (ao : Option Addr) (len cap : Nat) (hb : bareB true false false false N S U len = false) :
    Calls Tryz.prog 47 #[.agg #[.int .i8 2, .int .i64 N, .string S, .string U, .slice ao len cap]] w (IsPost w (false)) := by
  have hB := (Below.refl w.heap.size w).alloc (Nat.le_refl _) (.cells #[.int .i8 2, .int .i64 N, .string S, .string U, .slice ao len cap] 31)
  have hh : (w.alloc (.cells #[.int .i8 2, .int .i64 N, .string S, .string U, .slice ao len cap] 31)).heap[w.heap.size]? = some (.cells #[.int .i8 2, .int .i64 N, .string S, .string U, .slice ao len cap] 31 (0, 0)) := (MapKept.heap_alloc w _).1
  have HR := bare_tfff (w.alloc (.cells #[.int .i8 2, .int .i64 N, .string S, .string U, .slice ao len cap] 31)) 2 N S U ao len cap
  rw [hb] at HR
  have HC := Lib.hid HR
  have HH := Lib.hid hh
  clear HR hh hb
  go_enter Tryz.func47, Tryz.ntmps47
  go_wp2_with fail
  refine HC.out.mono ?_
  rintro e w1 ⟨rfl, hb1⟩
  have hB1 := hB.trans (hb1.mono (by simp))
  have hh1 := keep_heap HH.out hb1
  have c1 := (cells_at hh1 1 _ rfl).1
  have c2 := (cells_at hh1 2 _ rfl).1
  have c3 := (cells_at hh1 3 _ rfl).1
  have c4 := (cells_at hh1 4 _ rfl).1
  have HH1 := Lib.hid hh1
  clear hh1 hb1 hB HC HH
  go_wp2_with fail
  go_ret
  exact ⟨rfl, hB1⟩
theorem rone_2_t (w : World) (N : Int) (S U : ByteArray) (hS : S.size ≤ 9223372036854775807) (hU : U.size ≤ 9223372036854775807) (ao : Option Addr) (len cap : Nat) (hb : bareB true false false false N S U len = true) :
    Calls Tryz.prog 47 #[.agg #[.int .i8 2, .int .i64 N, .string S, .string U, .slice ao len cap]] w (IsPost w (decide (0 ≤ N) && decide (N ≤ 576460752303423487))) := by
  by_cases h1 : 0 ≤ N
  · by_cases h2 : N ≤ 576460752303423487
    · have e : (decide (0 ≤ N) && decide (N ≤ 576460752303423487)) = true := by simp [h1, h2]
      rw [e]
      clear e
      have d1 : decide (0 ≤ N) = true := by simpa using h1
      have d2 : decide (N ≤ 576460752303423487) = true := by simpa using h2
      have hB := (Below.refl w.heap.size w).alloc (Nat.le_refl _) (.cells #[.int .i8 2, .int .i64 N, .string S, .string U, .slice ao len cap] 31)
      have hh : (w.alloc (.cells #[.int .i8 2, .int .i64 N, .string S, .string U, .slice ao len cap] 31)).heap[w.heap.size]? = some (.cells #[.int .i8 2, .int .i64 N, .string S, .string U, .slice ao len cap] 31 (0, 0)) := (MapKept.heap_alloc w _).1
      have HR := bare_tfff (w.alloc (.cells #[.int .i8 2, .int .i64 N, .string S, .string U, .slice ao len cap] 31)) 2 N S U ao len cap
      rw [hb] at HR
      have HC := Lib.hid HR
      have HH := Lib.hid hh
      clear HR hh hb
      go_enter Tryz.func47, Tryz.ntmps47
      go_wp2_with fail
      refine HC.out.mono ?_
      rintro e w1 ⟨rfl, hb1⟩
      have hB1 := hB.trans (hb1.mono (by simp))
      have hh1 := keep_heap HH.out hb1
      have c1 := (cells_at hh1 1 _ rfl).1
      have c2 := (cells_at hh1 2 _ rfl).1
      have c3 := (cells_at hh1 3 _ rfl).1
      have c4 := (cells_at hh1 4 _ rfl).1
      have HH1 := Lib.hid hh1
      clear hh1 hb1 hB HC HH
      go_wp2_with fail
      go_ret
      exact ⟨rfl, hB1⟩
    · have e : (decide (0 ≤ N) && decide (N ≤ 576460752303423487)) = false := by simp [h2]
      rw [e]
      clear e
      have d1 : decide (0 ≤ N) = true := by simpa using h1
      have d2 : decide (N ≤ 576460752303423487) = false := by simpa using h2
      have hB := (Below.refl w.heap.size w).alloc (Nat.le_refl _) (.cells #[.int .i8 2, .int .i64 N, .string S, .string U, .slice ao len cap] 31)
      have hh : (w.alloc (.cells #[.int .i8 2, .int .i64 N, .string S, .string U, .slice ao len cap] 31)).heap[w.heap.size]? = some (.cells #[.int .i8 2, .int .i64 N, .string S, .string U, .slice ao len cap] 31 (0, 0)) := (MapKept.heap_alloc w _).1
      have HR := bare_tfff (w.alloc (.cells #[.int .i8 2, .int .i64 N, .string S, .string U, .slice ao len cap] 31)) 2 N S U ao len cap
      rw [hb] at HR
      have HC := Lib.hid HR
      have HH := Lib.hid hh
      clear HR hh hb
      go_enter Tryz.func47, Tryz.ntmps47
      go_wp2_with fail
      refine HC.out.mono ?_
      rintro e w1 ⟨rfl, hb1⟩
      have hB1 := hB.trans (hb1.mono (by simp))
      have hh1 := keep_heap HH.out hb1
      have c1 := (cells_at hh1 1 _ rfl).1
      have c2 := (cells_at hh1 2 _ rfl).1
      have c3 := (cells_at hh1 3 _ rfl).1
      have c4 := (cells_at hh1 4 _ rfl).1
      have HH1 := Lib.hid hh1
      clear hh1 hb1 hB HC HH
      go_wp2_with fail
      go_ret
      exact ⟨rfl, hB1⟩
  · have e : (decide (0 ≤ N) && decide (N ≤ 576460752303423487)) = false := by simp [h1]
    rw [e]
    clear e
    have d1 : decide (0 ≤ N) = false := by simpa using h1
    have hB := (Below.refl w.heap.size w).alloc (Nat.le_refl _) (.cells #[.int .i8 2, .int .i64 N, .string S, .string U, .slice ao len cap] 31)
    have hh : (w.alloc (.cells #[.int .i8 2, .int .i64 N, .string S, .string U, .slice ao len cap] 31)).heap[w.heap.size]? = some (.cells #[.int .i8 2, .int .i64 N, .string S, .string U, .slice ao len cap] 31 (0, 0)) := (MapKept.heap_alloc w _).1
    have HR := bare_tfff (w.alloc (.cells #[.int .i8 2, .int .i64 N, .string S, .string U, .slice ao len cap] 31)) 2 N S U ao len cap
    rw [hb] at HR
    have HC := Lib.hid HR
    have HH := Lib.hid hh
    clear HR hh hb
    go_enter Tryz.func47, Tryz.ntmps47
    go_wp2_with fail
    refine HC.out.mono ?_
    rintro e w1 ⟨rfl, hb1⟩
    have hB1 := hB.trans (hb1.mono (by simp))
    have hh1 := keep_heap HH.out hb1
    have c1 := (cells_at hh1 1 _ rfl).1
    have c2 := (cells_at hh1 2 _ rfl).1
    have c3 := (cells_at hh1 3 _ rfl).1
    have c4 := (cells_at hh1 4 _ rfl).1
    have HH1 := Lib.hid hh1
    clear hh1 hb1 hB HC HH
    go_wp2_with fail
    go_ret
    exact ⟨rfl, hB1⟩
theorem rone_4_f (w : World) (N : Int) (S U : ByteArray) (hS : S.size ≤ 9223372036854775807) (hU : U.size ≤ 9223372036854775807) (ao : Option Addr) (len cap : Nat) (hb : bareB true false false false N S U len = false) :
    Calls Tryz.prog 47 #[.agg #[.int .i8 4, .int .i64 N, .string S, .string U, .slice ao len cap]] w (IsPost w (false)) := by
  have hB := (Below.refl w.heap.size w).alloc (Nat.le_refl _) (.cells #[.int .i8 4, .int .i64 N, .string S, .string U, .slice ao len cap] 31)
  have hh : (w.alloc (.cells #[.int .i8 4, .int .i64 N, .string S, .string U, .slice ao len cap] 31)).heap[w.heap.size]? = some (.cells #[.int .i8 4, .int .i64 N, .string S, .string U, .slice ao len cap] 31 (0, 0)) := (MapKept.heap_alloc w _).1
  have HR := bare_tfff (w.alloc (.cells #[.int .i8 4, .int .i64 N, .string S, .string U, .slice ao len cap] 31)) 4 N S U ao len cap
  rw [hb] at HR
  have HC := Lib.hid HR
  have HH := Lib.hid hh
  clear HR hh hb
  go_enter Tryz.func47, Tryz.ntmps47
  go_wp2_with fail
  refine HC.out.mono ?_
  rintro e w1 ⟨rfl, hb1⟩
  have hB1 := hB.trans (hb1.mono (by simp))
  have hh1 := keep_heap HH.out hb1
  have c1 := (cells_at hh1 1 _ rfl).1
  have c2 := (cells_at hh1 2 _ rfl).1
  have c3 := (cells_at hh1 3 _ rfl).1
  have c4 := (cells_at hh1 4 _ rfl).1
  have HH1 := Lib.hid hh1
  clear hh1 hb1 hB HC HH
  go_wp2_with fail
  go_ret
  exact ⟨rfl, hB1⟩
theorem rone_4_t (w : World) (N : Int) (S U : ByteArray) (hS : S.size ≤ 9223372036854775807) (hU : U.size ≤ 9223372036854775807) (ao : Option Addr) (len cap : Nat) (hb : bareB true false false false N S U len = true) :
    Calls Tryz.prog 47 #[.agg #[.int .i8 4, .int .i64 N, .string S, .string U, .slice ao len cap]] w (IsPost w (decide (0 ≤ N) && decide (N ≤ 576460752303423487))) := by
  by_cases h1 : 0 ≤ N
  · by_cases h2 : N ≤ 576460752303423487
    · have e : (decide (0 ≤ N) && decide (N ≤ 576460752303423487)) = true := by simp [h1, h2]
      rw [e]
      clear e
      have d1 : decide (0 ≤ N) = true := by simpa using h1
      have d2 : decide (N ≤ 576460752303423487) = true := by simpa using h2
      have hB := (Below.refl w.heap.size w).alloc (Nat.le_refl _) (.cells #[.int .i8 4, .int .i64 N, .string S, .string U, .slice ao len cap] 31)
      have hh : (w.alloc (.cells #[.int .i8 4, .int .i64 N, .string S, .string U, .slice ao len cap] 31)).heap[w.heap.size]? = some (.cells #[.int .i8 4, .int .i64 N, .string S, .string U, .slice ao len cap] 31 (0, 0)) := (MapKept.heap_alloc w _).1
      have HR := bare_tfff (w.alloc (.cells #[.int .i8 4, .int .i64 N, .string S, .string U, .slice ao len cap] 31)) 4 N S U ao len cap
      rw [hb] at HR
      have HC := Lib.hid HR
      have HH := Lib.hid hh
      clear HR hh hb
      go_enter Tryz.func47, Tryz.ntmps47
      go_wp2_with fail
      refine HC.out.mono ?_
      rintro e w1 ⟨rfl, hb1⟩
      have hB1 := hB.trans (hb1.mono (by simp))
      have hh1 := keep_heap HH.out hb1
      have c1 := (cells_at hh1 1 _ rfl).1
      have c2 := (cells_at hh1 2 _ rfl).1
      have c3 := (cells_at hh1 3 _ rfl).1
      have c4 := (cells_at hh1 4 _ rfl).1
      have HH1 := Lib.hid hh1
      clear hh1 hb1 hB HC HH
      go_wp2_with fail
      go_ret
      exact ⟨rfl, hB1⟩
    · have e : (decide (0 ≤ N) && decide (N ≤ 576460752303423487)) = false := by simp [h2]
      rw [e]
      clear e
      have d1 : decide (0 ≤ N) = true := by simpa using h1
      have d2 : decide (N ≤ 576460752303423487) = false := by simpa using h2
      have hB := (Below.refl w.heap.size w).alloc (Nat.le_refl _) (.cells #[.int .i8 4, .int .i64 N, .string S, .string U, .slice ao len cap] 31)
      have hh : (w.alloc (.cells #[.int .i8 4, .int .i64 N, .string S, .string U, .slice ao len cap] 31)).heap[w.heap.size]? = some (.cells #[.int .i8 4, .int .i64 N, .string S, .string U, .slice ao len cap] 31 (0, 0)) := (MapKept.heap_alloc w _).1
      have HR := bare_tfff (w.alloc (.cells #[.int .i8 4, .int .i64 N, .string S, .string U, .slice ao len cap] 31)) 4 N S U ao len cap
      rw [hb] at HR
      have HC := Lib.hid HR
      have HH := Lib.hid hh
      clear HR hh hb
      go_enter Tryz.func47, Tryz.ntmps47
      go_wp2_with fail
      refine HC.out.mono ?_
      rintro e w1 ⟨rfl, hb1⟩
      have hB1 := hB.trans (hb1.mono (by simp))
      have hh1 := keep_heap HH.out hb1
      have c1 := (cells_at hh1 1 _ rfl).1
      have c2 := (cells_at hh1 2 _ rfl).1
      have c3 := (cells_at hh1 3 _ rfl).1
      have c4 := (cells_at hh1 4 _ rfl).1
      have HH1 := Lib.hid hh1
      clear hh1 hb1 hB HC HH
      go_wp2_with fail
      go_ret
      exact ⟨rfl, hB1⟩
  · have e : (decide (0 ≤ N) && decide (N ≤ 576460752303423487)) = false := by simp [h1]
    rw [e]
    clear e
    have d1 : decide (0 ≤ N) = false := by simpa using h1
    have hB := (Below.refl w.heap.size w).alloc (Nat.le_refl _) (.cells #[.int .i8 4, .int .i64 N, .string S, .string U, .slice ao len cap] 31)
    have hh : (w.alloc (.cells #[.int .i8 4, .int .i64 N, .string S, .string U, .slice ao len cap] 31)).heap[w.heap.size]? = some (.cells #[.int .i8 4, .int .i64 N, .string S, .string U, .slice ao len cap] 31 (0, 0)) := (MapKept.heap_alloc w _).1
    have HR := bare_tfff (w.alloc (.cells #[.int .i8 4, .int .i64 N, .string S, .string U, .slice ao len cap] 31)) 4 N S U ao len cap
    rw [hb] at HR
    have HC := Lib.hid HR
    have HH := Lib.hid hh
    clear HR hh hb
    go_enter Tryz.func47, Tryz.ntmps47
    go_wp2_with fail
    refine HC.out.mono ?_
    rintro e w1 ⟨rfl, hb1⟩
    have hB1 := hB.trans (hb1.mono (by simp))
    have hh1 := keep_heap HH.out hb1
    have c1 := (cells_at hh1 1 _ rfl).1
    have c2 := (cells_at hh1 2 _ rfl).1
    have c3 := (cells_at hh1 3 _ rfl).1
    have c4 := (cells_at hh1 4 _ rfl).1
    have HH1 := Lib.hid hh1
    clear hh1 hb1 hB HC HH
    go_wp2_with fail
    go_ret
    exact ⟨rfl, hB1⟩
theorem rone_1_f (w : World) (N : Int) (S U : ByteArray) (hS : S.size ≤ 9223372036854775807) (hU : U.size ≤ 9223372036854775807) (ao : Option Addr) (len cap : Nat) (hb : bareB false true false false N S U len = false) :
    Calls Tryz.prog 47 #[.agg #[.int .i8 1, .int .i64 N, .string S, .string U, .slice ao len cap]] w (IsPost w (false)) := by
  have hB := (Below.refl w.heap.size w).alloc (Nat.le_refl _) (.cells #[.int .i8 1, .int .i64 N, .string S, .string U, .slice ao len cap] 31)
  have hh : (w.alloc (.cells #[.int .i8 1, .int .i64 N, .string S, .string U, .slice ao len cap] 31)).heap[w.heap.size]? = some (.cells #[.int .i8 1, .int .i64 N, .string S, .string U, .slice ao len cap] 31 (0, 0)) := (MapKept.heap_alloc w _).1
  have HR := bare_ftff (w.alloc (.cells #[.int .i8 1, .int .i64 N, .string S, .string U, .slice ao len cap] 31)) 1 N S U ao len cap
  rw [hb] at HR
  have HC := Lib.hid HR
  have HH := Lib.hid hh
  clear HR hh hb
  go_enter Tryz.func47, Tryz.ntmps47
  go_wp2_with fail
  refine HC.out.mono ?_
  rintro e w1 ⟨rfl, hb1⟩
  have hB1 := hB.trans (hb1.mono (by simp))
  have hh1 := keep_heap HH.out hb1
  have c1 := (cells_at hh1 1 _ rfl).1
  have c2 := (cells_at hh1 2 _ rfl).1
  have c3 := (cells_at hh1 3 _ rfl).1
  have c4 := (cells_at hh1 4 _ rfl).1
  have HH1 := Lib.hid hh1
  clear hh1 hb1 hB HC HH
  go_wp2_with fail
  go_ret
  exact ⟨rfl, hB1⟩
theorem rone_1_t (w : World) (N : Int) (S U : ByteArray) (hS : S.size ≤ 9223372036854775807) (hU : U.size ≤ 9223372036854775807) (ao : Option Addr) (len cap : Nat) (hb : bareB false true false false N S U len = true) :
    Calls Tryz.prog 47 #[.agg #[.int .i8 1, .int .i64 N, .string S, .string U, .slice ao len cap]] w (IsPost w (mayS S)) := by
  have hB := (Below.refl w.heap.size w).alloc (Nat.le_refl _) (.cells #[.int .i8 1, .int .i64 N, .string S, .string U, .slice ao len cap] 31)
  have hh : (w.alloc (.cells #[.int .i8 1, .int .i64 N, .string S, .string U, .slice ao len cap] 31)).heap[w.heap.size]? = some (.cells #[.int .i8 1, .int .i64 N, .string S, .string U, .slice ao len cap] 31 (0, 0)) := (MapKept.heap_alloc w _).1
  have HR := bare_ftff (w.alloc (.cells #[.int .i8 1, .int .i64 N, .string S, .string U, .slice ao len cap] 31)) 1 N S U ao len cap
  rw [hb] at HR
  have HC := Lib.hid HR
  have HH := Lib.hid hh
  clear HR hh hb
  go_enter Tryz.func47, Tryz.ntmps47
  go_wp2_with fail
  refine HC.out.mono ?_
  rintro e w1 ⟨rfl, hb1⟩
  have hB1 := hB.trans (hb1.mono (by simp))
  have hh1 := keep_heap HH.out hb1
  have c1 := (cells_at hh1 1 _ rfl).1
  have c2 := (cells_at hh1 2 _ rfl).1
  have c3 := (cells_at hh1 3 _ rfl).1
  have c4 := (cells_at hh1 4 _ rfl).1
  have HH1 := Lib.hid hh1
  clear hh1 hb1 hB HC HH
  go_wp2_with fail
  refine (refmay8 S hS _).mono ?_
  rintro e w2 ⟨rfl, hb2⟩
  go_wp2_with fail
  go_ret
  exact ⟨rfl, hB1.trans (hb2.mono hB1.size)⟩
theorem rone_3_f (w : World) (N : Int) (S U : ByteArray) (hS : S.size ≤ 9223372036854775807) (hU : U.size ≤ 9223372036854775807) (ao : Option Addr) (len cap : Nat) (hb : bareB true true true false N S U len = false) :
    Calls Tryz.prog 47 #[.agg #[.int .i8 3, .int .i64 N, .string S, .string U, .slice ao len cap]] w (IsPost w (false)) := by
  have hB := (Below.refl w.heap.size w).alloc (Nat.le_refl _) (.cells #[.int .i8 3, .int .i64 N, .string S, .string U, .slice ao len cap] 31)
  have hh : (w.alloc (.cells #[.int .i8 3, .int .i64 N, .string S, .string U, .slice ao len cap] 31)).heap[w.heap.size]? = some (.cells #[.int .i8 3, .int .i64 N, .string S, .string U, .slice ao len cap] 31 (0, 0)) := (MapKept.heap_alloc w _).1
  have HR := bare_tttf (w.alloc (.cells #[.int .i8 3, .int .i64 N, .string S, .string U, .slice ao len cap] 31)) 3 N S U ao len cap
  rw [hb] at HR
  have HC := Lib.hid HR
  have HH := Lib.hid hh
  clear HR hh hb
  go_enter Tryz.func47, Tryz.ntmps47
  go_wp2_with fail
  refine HC.out.mono ?_
  rintro e w1 ⟨rfl, hb1⟩
  have hB1 := hB.trans (hb1.mono (by simp))
  have hh1 := keep_heap HH.out hb1
  have c1 := (cells_at hh1 1 _ rfl).1
  have c2 := (cells_at hh1 2 _ rfl).1
  have c3 := (cells_at hh1 3 _ rfl).1
  have c4 := (cells_at hh1 4 _ rfl).1
  have HH1 := Lib.hid hh1
  clear hh1 hb1 hB HC HH
  go_wp2_with fail
  go_ret
  exact ⟨rfl, hB1⟩
theorem rone_3_t (w : World) (N : Int) (S U : ByteArray) (hS : S.size ≤ 9223372036854775807) (hU : U.size ≤ 9223372036854775807) (ao : Option Addr) (len cap : Nat) (hb : bareB true true true false N S U len = true) :
    Calls Tryz.prog 47 #[.agg #[.int .i8 3, .int .i64 N, .string S, .string U, .slice ao len cap]] w (IsPost w (mayS S && (mayS U && (decide (0 ≤ N) && decide (N ≤ 8))))) := by
  cases hmS : mayS S
  · have e : (false && (mayS U && (decide (0 ≤ N) && decide (N ≤ 8)))) = false := rfl
    rw [e]
    clear e
    have HMS := Lib.hid hmS
    clear hmS
    have hB := (Below.refl w.heap.size w).alloc (Nat.le_refl _) (.cells #[.int .i8 3, .int .i64 N, .string S, .string U, .slice ao len cap] 31)
    have hh : (w.alloc (.cells #[.int .i8 3, .int .i64 N, .string S, .string U, .slice ao len cap] 31)).heap[w.heap.size]? = some (.cells #[.int .i8 3, .int .i64 N, .string S, .string U, .slice ao len cap] 31 (0, 0)) := (MapKept.heap_alloc w _).1
    have HR := bare_tttf (w.alloc (.cells #[.int .i8 3, .int .i64 N, .string S, .string U, .slice ao len cap] 31)) 3 N S U ao len cap
    rw [hb] at HR
    have HC := Lib.hid HR
    have HH := Lib.hid hh
    clear HR hh hb
    go_enter Tryz.func47, Tryz.ntmps47
    go_wp2_with fail
    refine HC.out.mono ?_
    rintro e w1 ⟨rfl, hb1⟩
    have hB1 := hB.trans (hb1.mono (by simp))
    have hh1 := keep_heap HH.out hb1
    have c1 := (cells_at hh1 1 _ rfl).1
    have c2 := (cells_at hh1 2 _ rfl).1
    have c3 := (cells_at hh1 3 _ rfl).1
    have c4 := (cells_at hh1 4 _ rfl).1
    have HH1 := Lib.hid hh1
    clear hh1 hb1 hB HC HH
    go_wp2_with fail
    refine (refmay8 S hS _).mono ?_
    rw [HMS.out]
    rintro e w2 ⟨rfl, hb2⟩
    have f3 := keep_cell c3 hb2
    have f1 := keep_cell c1 hb2
    have hB2 := hB1.trans (hb2.mono hB1.size)
    clear c1 c2 c3 c4 hb2 hB1
    go_wp2_with fail
    go_ret
    exact ⟨rfl, hB2⟩
  · have HMS := Lib.hid hmS
    clear hmS
    cases hmU : mayS U
    · have e : (true && (false && (decide (0 ≤ N) && decide (N ≤ 8)))) = false := rfl
      rw [e]
      clear e
      have HMU := Lib.hid hmU
      clear hmU
      have hB := (Below.refl w.heap.size w).alloc (Nat.le_refl _) (.cells #[.int .i8 3, .int .i64 N, .string S, .string U, .slice ao len cap] 31)
      have hh : (w.alloc (.cells #[.int .i8 3, .int .i64 N, .string S, .string U, .slice ao len cap] 31)).heap[w.heap.size]? = some (.cells #[.int .i8 3, .int .i64 N, .string S, .string U, .slice ao len cap] 31 (0, 0)) := (MapKept.heap_alloc w _).1
      have HR := bare_tttf (w.alloc (.cells #[.int .i8 3, .int .i64 N, .string S, .string U, .slice ao len cap] 31)) 3 N S U ao len cap
      rw [hb] at HR
      have HC := Lib.hid HR
      have HH := Lib.hid hh
      clear HR hh hb
      go_enter Tryz.func47, Tryz.ntmps47
      go_wp2_with fail
      refine HC.out.mono ?_
      rintro e w1 ⟨rfl, hb1⟩
      have hB1 := hB.trans (hb1.mono (by simp))
      have hh1 := keep_heap HH.out hb1
      have c1 := (cells_at hh1 1 _ rfl).1
      have c2 := (cells_at hh1 2 _ rfl).1
      have c3 := (cells_at hh1 3 _ rfl).1
      have c4 := (cells_at hh1 4 _ rfl).1
      have HH1 := Lib.hid hh1
      clear hh1 hb1 hB HC HH
      go_wp2_with fail
      refine (refmay8 S hS _).mono ?_
      rw [HMS.out]
      rintro e w2 ⟨rfl, hb2⟩
      have f3 := keep_cell c3 hb2
      have f1 := keep_cell c1 hb2
      have hB2 := hB1.trans (hb2.mono hB1.size)
      clear c1 c2 c3 c4 hb2 hB1
      go_wp2_with fail
      refine (refmay8 U hU _).mono ?_
      rw [HMU.out]
      rintro e w3 ⟨rfl, hb3⟩
      have g1 := keep_cell f1 hb3
      have hB3 := hB2.trans (hb3.mono hB2.size)
      clear f1 f3 hb3 hB2
      go_wp2_with fail
      go_ret
      exact ⟨rfl, hB3⟩
    · have HMU := Lib.hid hmU
      clear hmU
      by_cases h1 : 0 ≤ N
      · by_cases h2 : N ≤ 8
        · have e : (true && (true && (decide (0 ≤ N) && decide (N ≤ 8)))) = true := by simp [h1, h2]
          rw [e]
          clear e
          have d1 : decide (0 ≤ N) = true := by simpa using h1
          have d2 : decide (N ≤ 8) = true := by simpa using h2
          have hB := (Below.refl w.heap.size w).alloc (Nat.le_refl _) (.cells #[.int .i8 3, .int .i64 N, .string S, .string U, .slice ao len cap] 31)
          have hh : (w.alloc (.cells #[.int .i8 3, .int .i64 N, .string S, .string U, .slice ao len cap] 31)).heap[w.heap.size]? = some (.cells #[.int .i8 3, .int .i64 N, .string S, .string U, .slice ao len cap] 31 (0, 0)) := (MapKept.heap_alloc w _).1
          have HR := bare_tttf (w.alloc (.cells #[.int .i8 3, .int .i64 N, .string S, .string U, .slice ao len cap] 31)) 3 N S U ao len cap
          rw [hb] at HR
          have HC := Lib.hid HR
          have HH := Lib.hid hh
          clear HR hh hb
          go_enter Tryz.func47, Tryz.ntmps47
          go_wp2_with fail
          refine HC.out.mono ?_
          rintro e w1 ⟨rfl, hb1⟩
          have hB1 := hB.trans (hb1.mono (by simp))
          have hh1 := keep_heap HH.out hb1
          have c1 := (cells_at hh1 1 _ rfl).1
          have c2 := (cells_at hh1 2 _ rfl).1
          have c3 := (cells_at hh1 3 _ rfl).1
          have c4 := (cells_at hh1 4 _ rfl).1
          have HH1 := Lib.hid hh1
          clear hh1 hb1 hB HC HH
          go_wp2_with fail
          refine (refmay8 S hS _).mono ?_
          rw [HMS.out]
          rintro e w2 ⟨rfl, hb2⟩
          have f3 := keep_cell c3 hb2
          have f1 := keep_cell c1 hb2
          have hB2 := hB1.trans (hb2.mono hB1.size)
          clear c1 c2 c3 c4 hb2 hB1
          go_wp2_with fail
          refine (refmay8 U hU _).mono ?_
          rw [HMU.out]
          rintro e w3 ⟨rfl, hb3⟩
          have g1 := keep_cell f1 hb3
          have hB3 := hB2.trans (hb3.mono hB2.size)
          clear f1 f3 hb3 hB2
          go_wp2_with fail
          go_ret
          exact ⟨rfl, hB3⟩
        · have e : (true && (true && (decide (0 ≤ N) && decide (N ≤ 8)))) = false := by simp [h2]
          rw [e]
          clear e
          have d1 : decide (0 ≤ N) = true := by simpa using h1
          have d2 : decide (N ≤ 8) = false := by simpa using h2
          have hB := (Below.refl w.heap.size w).alloc (Nat.le_refl _) (.cells #[.int .i8 3, .int .i64 N, .string S, .string U, .slice ao len cap] 31)
          have hh : (w.alloc (.cells #[.int .i8 3, .int .i64 N, .string S, .string U, .slice ao len cap] 31)).heap[w.heap.size]? = some (.cells #[.int .i8 3, .int .i64 N, .string S, .string U, .slice ao len cap] 31 (0, 0)) := (MapKept.heap_alloc w _).1
          have HR := bare_tttf (w.alloc (.cells #[.int .i8 3, .int .i64 N, .string S, .string U, .slice ao len cap] 31)) 3 N S U ao len cap
          rw [hb] at HR
          have HC := Lib.hid HR
          have HH := Lib.hid hh
          clear HR hh hb
          go_enter Tryz.func47, Tryz.ntmps47
          go_wp2_with fail
          refine HC.out.mono ?_
          rintro e w1 ⟨rfl, hb1⟩
          have hB1 := hB.trans (hb1.mono (by simp))
          have hh1 := keep_heap HH.out hb1
          have c1 := (cells_at hh1 1 _ rfl).1
          have c2 := (cells_at hh1 2 _ rfl).1
          have c3 := (cells_at hh1 3 _ rfl).1
          have c4 := (cells_at hh1 4 _ rfl).1
          have HH1 := Lib.hid hh1
          clear hh1 hb1 hB HC HH
          go_wp2_with fail
          refine (refmay8 S hS _).mono ?_
          rw [HMS.out]
          rintro e w2 ⟨rfl, hb2⟩
          have f3 := keep_cell c3 hb2
          have f1 := keep_cell c1 hb2
          have hB2 := hB1.trans (hb2.mono hB1.size)
          clear c1 c2 c3 c4 hb2 hB1
          go_wp2_with fail
          refine (refmay8 U hU _).mono ?_
          rw [HMU.out]
          rintro e w3 ⟨rfl, hb3⟩
          have g1 := keep_cell f1 hb3
          have hB3 := hB2.trans (hb3.mono hB2.size)
          clear f1 f3 hb3 hB2
          go_wp2_with fail
          go_ret
          exact ⟨rfl, hB3⟩
      · have e : (true && (true && (decide (0 ≤ N) && decide (N ≤ 8)))) = false := by simp [h1]
        rw [e]
        clear e
        have d1 : decide (0 ≤ N) = false := by simpa using h1
        have hB := (Below.refl w.heap.size w).alloc (Nat.le_refl _) (.cells #[.int .i8 3, .int .i64 N, .string S, .string U, .slice ao len cap] 31)
        have hh : (w.alloc (.cells #[.int .i8 3, .int .i64 N, .string S, .string U, .slice ao len cap] 31)).heap[w.heap.size]? = some (.cells #[.int .i8 3, .int .i64 N, .string S, .string U, .slice ao len cap] 31 (0, 0)) := (MapKept.heap_alloc w _).1
        have HR := bare_tttf (w.alloc (.cells #[.int .i8 3, .int .i64 N, .string S, .string U, .slice ao len cap] 31)) 3 N S U ao len cap
        rw [hb] at HR
        have HC := Lib.hid HR
        have HH := Lib.hid hh
        clear HR hh hb
        go_enter Tryz.func47, Tryz.ntmps47
        go_wp2_with fail
        refine HC.out.mono ?_
        rintro e w1 ⟨rfl, hb1⟩
        have hB1 := hB.trans (hb1.mono (by simp))
        have hh1 := keep_heap HH.out hb1
        have c1 := (cells_at hh1 1 _ rfl).1
        have c2 := (cells_at hh1 2 _ rfl).1
        have c3 := (cells_at hh1 3 _ rfl).1
        have c4 := (cells_at hh1 4 _ rfl).1
        have HH1 := Lib.hid hh1
        clear hh1 hb1 hB HC HH
        go_wp2_with fail
        refine (refmay8 S hS _).mono ?_
        rw [HMS.out]
        rintro e w2 ⟨rfl, hb2⟩
        have f3 := keep_cell c3 hb2
        have f1 := keep_cell c1 hb2
        have hB2 := hB1.trans (hb2.mono hB1.size)
        clear c1 c2 c3 c4 hb2 hB1
        go_wp2_with fail
        refine (refmay8 U hU _).mono ?_
        rw [HMU.out]
        rintro e w3 ⟨rfl, hb3⟩
        have g1 := keep_cell f1 hb3
        have hB3 := hB2.trans (hb3.mono hB2.size)
        clear f1 f3 hb3 hB2
        go_wp2_with fail
        go_ret
        exact ⟨rfl, hB3⟩
theorem rone_5_f (w : World) (N : Int) (S U : ByteArray) (hS : S.size ≤ 9223372036854775807) (hU : U.size ≤ 9223372036854775807) (ao : Option Addr) (len cap : Nat) (hb : bareB false false false true N S U len = false) :
    Calls Tryz.prog 47 #[.agg #[.int .i8 5, .int .i64 N, .string S, .string U, .slice ao len cap]] w (IsPost w (false)) := by
  have hB := (Below.refl w.heap.size w).alloc (Nat.le_refl _) (.cells #[.int .i8 5, .int .i64 N, .string S, .string U, .slice ao len cap] 31)
  have hh : (w.alloc (.cells #[.int .i8 5, .int .i64 N, .string S, .string U, .slice ao len cap] 31)).heap[w.heap.size]? = some (.cells #[.int .i8 5, .int .i64 N, .string S, .string U, .slice ao len cap] 31 (0, 0)) := (MapKept.heap_alloc w _).1
  have HR := bare_ffft (w.alloc (.cells #[.int .i8 5, .int .i64 N, .string S, .string U, .slice ao len cap] 31)) 5 N S U ao len cap
  rw [hb] at HR
  have HC := Lib.hid HR
  have HH := Lib.hid hh
  clear HR hh hb
  go_enter Tryz.func47, Tryz.ntmps47
  go_wp2_with fail
  refine HC.out.mono ?_
  rintro e w1 ⟨rfl, hb1⟩
  have hB1 := hB.trans (hb1.mono (by simp))
  have hh1 := keep_heap HH.out hb1
  have c1 := (cells_at hh1 1 _ rfl).1
  have c2 := (cells_at hh1 2 _ rfl).1
  have c3 := (cells_at hh1 3 _ rfl).1
  have c4 := (cells_at hh1 4 _ rfl).1
  have HH1 := Lib.hid hh1
  clear hh1 hb1 hB HC HH
  go_wp2_with fail
  go_ret
  exact ⟨rfl, hB1⟩
theorem rone_5_t (w : World) (N : Int) (S U : ByteArray) (hS : S.size ≤ 9223372036854775807) (hU : U.size ≤ 9223372036854775807) (ao : Option Addr) (len cap : Nat) (hb : bareB false false false true N S U len = true) :
    Calls Tryz.prog 47 #[.agg #[.int .i8 5, .int .i64 N, .string S, .string U, .slice ao len cap]] w (IsPost w (true)) := by
  have hB := (Below.refl w.heap.size w).alloc (Nat.le_refl _) (.cells #[.int .i8 5, .int .i64 N, .string S, .string U, .slice ao len cap] 31)
  have hh : (w.alloc (.cells #[.int .i8 5, .int .i64 N, .string S, .string U, .slice ao len cap] 31)).heap[w.heap.size]? = some (.cells #[.int .i8 5, .int .i64 N, .string S, .string U, .slice ao len cap] 31 (0, 0)) := (MapKept.heap_alloc w _).1
  have HR := bare_ffft (w.alloc (.cells #[.int .i8 5, .int .i64 N, .string S, .string U, .slice ao len cap] 31)) 5 N S U ao len cap
  rw [hb] at HR
  have HC := Lib.hid HR
  have HH := Lib.hid hh
  clear HR hh hb
  go_enter Tryz.func47, Tryz.ntmps47
  go_wp2_with fail
  refine HC.out.mono ?_
  rintro e w1 ⟨rfl, hb1⟩
  have hB1 := hB.trans (hb1.mono (by simp))
  have hh1 := keep_heap HH.out hb1
  have c1 := (cells_at hh1 1 _ rfl).1
  have c2 := (cells_at hh1 2 _ rfl).1
  have c3 := (cells_at hh1 3 _ rfl).1
  have c4 := (cells_at hh1 4 _ rfl).1
  have HH1 := Lib.hid hh1
  clear hh1 hb1 hB HC HH
  go_wp2_with fail
  go_ret
  exact ⟨rfl, hB1⟩
theorem rone_6_f (w : World) (N : Int) (S U : ByteArray) (hS : S.size ≤ 9223372036854775807) (hU : U.size ≤ 9223372036854775807) (ao : Option Addr) (len cap : Nat) (hb : bareB false false false false N S U len = false) :
    Calls Tryz.prog 47 #[.agg #[.int .i8 6, .int .i64 N, .string S, .string U, .slice ao len cap]] w (IsPost w (false)) := by
  have hB := (Below.refl w.heap.size w).alloc (Nat.le_refl _) (.cells #[.int .i8 6, .int .i64 N, .string S, .string U, .slice ao len cap] 31)
  have hh : (w.alloc (.cells #[.int .i8 6, .int .i64 N, .string S, .string U, .slice ao len cap] 31)).heap[w.heap.size]? = some (.cells #[.int .i8 6, .int .i64 N, .string S, .string U, .slice ao len cap] 31 (0, 0)) := (MapKept.heap_alloc w _).1
  have HR := bare_ffff (w.alloc (.cells #[.int .i8 6, .int .i64 N, .string S, .string U, .slice ao len cap] 31)) 6 N S U ao len cap
  rw [hb] at HR
  have HC := Lib.hid HR
  have HH := Lib.hid hh
  clear HR hh hb
  go_enter Tryz.func47, Tryz.ntmps47
  go_wp2_with fail
  refine HC.out.mono ?_
  rintro e w1 ⟨rfl, hb1⟩
  have hB1 := hB.trans (hb1.mono (by simp))
  have hh1 := keep_heap HH.out hb1
  have c1 := (cells_at hh1 1 _ rfl).1
  have c2 := (cells_at hh1 2 _ rfl).1
  have c3 := (cells_at hh1 3 _ rfl).1
  have c4 := (cells_at hh1 4 _ rfl).1
  have HH1 := Lib.hid hh1
  clear hh1 hb1 hB HC HH
  go_wp2_with fail
  go_ret
  exact ⟨rfl, hB1⟩
theorem rone_6_t (w : World) (N : Int) (S U : ByteArray) (hS : S.size ≤ 9223372036854775807) (hU : U.size ≤ 9223372036854775807) (ao : Option Addr) (len cap : Nat) (hb : bareB false false false false N S U len = true) :
    Calls Tryz.prog 47 #[.agg #[.int .i8 6, .int .i64 N, .string S, .string U, .slice ao len cap]] w (IsPost w (true)) := by
  have hB := (Below.refl w.heap.size w).alloc (Nat.le_refl _) (.cells #[.int .i8 6, .int .i64 N, .string S, .string U, .slice ao len cap] 31)
  have hh : (w.alloc (.cells #[.int .i8 6, .int .i64 N, .string S, .string U, .slice ao len cap] 31)).heap[w.heap.size]? = some (.cells #[.int .i8 6, .int .i64 N, .string S, .string U, .slice ao len cap] 31 (0, 0)) := (MapKept.heap_alloc w _).1
  have HR := bare_ffff (w.alloc (.cells #[.int .i8 6, .int .i64 N, .string S, .string U, .slice ao len cap] 31)) 6 N S U ao len cap
  rw [hb] at HR
  have HC := Lib.hid HR
  have HH := Lib.hid hh
  clear HR hh hb
  go_enter Tryz.func47, Tryz.ntmps47
  go_wp2_with fail
  refine HC.out.mono ?_
  rintro e w1 ⟨rfl, hb1⟩
  have hB1 := hB.trans (hb1.mono (by simp))
  have hh1 := keep_heap HH.out hb1
  have c1 := (cells_at hh1 1 _ rfl).1
  have c2 := (cells_at hh1 2 _ rfl).1
  have c3 := (cells_at hh1 3 _ rfl).1
  have c4 := (cells_at hh1 4 _ rfl).1
  have HH1 := Lib.hid hh1
  clear hh1 hb1 hB HC HH
  go_wp2_with fail
  go_ret
  exact ⟨rfl, hB1⟩
theorem rone_7_f (w : World) (N : Int) (S U : ByteArray) (hS : S.size ≤ 9223372036854775807) (hU : U.size ≤ 9223372036854775807) (ao : Option Addr) (len cap : Nat) (hb : bareB false false false true N S U len = false) :
    Calls Tryz.prog 47 #[.agg #[.int .i8 7, .int .i64 N, .string S, .string U, .slice ao len cap]] w (IsPost w (false)) := by
  have hB := (Below.refl w.heap.size w).alloc (Nat.le_refl _) (.cells #[.int .i8 7, .int .i64 N, .string S, .string U, .slice ao len cap] 31)
  have hh : (w.alloc (.cells #[.int .i8 7, .int .i64 N, .string S, .string U, .slice ao len cap] 31)).heap[w.heap.size]? = some (.cells #[.int .i8 7, .int .i64 N, .string S, .string U, .slice ao len cap] 31 (0, 0)) := (MapKept.heap_alloc w _).1
  have HR := bare_ffft (w.alloc (.cells #[.int .i8 7, .int .i64 N, .string S, .string U, .slice ao len cap] 31)) 7 N S U ao len cap
  rw [hb] at HR
  have HC := Lib.hid HR
  have HH := Lib.hid hh
  clear HR hh hb
  go_enter Tryz.func47, Tryz.ntmps47
  go_wp2_with fail
  refine HC.out.mono ?_
  rintro e w1 ⟨rfl, hb1⟩
  have hB1 := hB.trans (hb1.mono (by simp))
  have hh1 := keep_heap HH.out hb1
  have c1 := (cells_at hh1 1 _ rfl).1
  have c2 := (cells_at hh1 2 _ rfl).1
  have c3 := (cells_at hh1 3 _ rfl).1
  have c4 := (cells_at hh1 4 _ rfl).1
  have HH1 := Lib.hid hh1
  clear hh1 hb1 hB HC HH
  go_wp2_with fail
  go_ret
  exact ⟨rfl, hB1⟩
theorem rone_7_t (w : World) (N : Int) (S U : ByteArray) (hS : S.size ≤ 9223372036854775807) (hU : U.size ≤ 9223372036854775807) (ao : Option Addr) (len cap : Nat) (hb : bareB false false false true N S U len = true) :
    Calls Tryz.prog 47 #[.agg #[.int .i8 7, .int .i64 N, .string S, .string U, .slice ao len cap]] w (IsPost w (decide (len = 2))) := by
  by_cases hl : len = 2
  · have e : decide (len = 2) = true := by simp [hl]
    rw [e]
    have d1 : ((len : Int) == 2) = true := by simp; omega
    clear hl e
    have hB := (Below.refl w.heap.size w).alloc (Nat.le_refl _) (.cells #[.int .i8 7, .int .i64 N, .string S, .string U, .slice ao len cap] 31)
    have hh : (w.alloc (.cells #[.int .i8 7, .int .i64 N, .string S, .string U, .slice ao len cap] 31)).heap[w.heap.size]? = some (.cells #[.int .i8 7, .int .i64 N, .string S, .string U, .slice ao len cap] 31 (0, 0)) := (MapKept.heap_alloc w _).1
    have HR := bare_ffft (w.alloc (.cells #[.int .i8 7, .int .i64 N, .string S, .string U, .slice ao len cap] 31)) 7 N S U ao len cap
    rw [hb] at HR
    have HC := Lib.hid HR
    have HH := Lib.hid hh
    clear HR hh hb
    go_enter Tryz.func47, Tryz.ntmps47
    go_wp2_with fail
    refine HC.out.mono ?_
    rintro e w1 ⟨rfl, hb1⟩
    have hB1 := hB.trans (hb1.mono (by simp))
    have hh1 := keep_heap HH.out hb1
    have c1 := (cells_at hh1 1 _ rfl).1
    have c2 := (cells_at hh1 2 _ rfl).1
    have c3 := (cells_at hh1 3 _ rfl).1
    have c4 := (cells_at hh1 4 _ rfl).1
    have HH1 := Lib.hid hh1
    clear hh1 hb1 hB HC HH
    go_wp2_with fail
    go_ret
    exact ⟨rfl, hB1⟩
  · have e : decide (len = 2) = false := by simp [hl]
    rw [e]
    have d1 : ((len : Int) == 2) = false := by simp; omega
    clear hl e
    have hB := (Below.refl w.heap.size w).alloc (Nat.le_refl _) (.cells #[.int .i8 7, .int .i64 N, .string S, .string U, .slice ao len cap] 31)
    have hh : (w.alloc (.cells #[.int .i8 7, .int .i64 N, .string S, .string U, .slice ao len cap] 31)).heap[w.heap.size]? = some (.cells #[.int .i8 7, .int .i64 N, .string S, .string U, .slice ao len cap] 31 (0, 0)) := (MapKept.heap_alloc w _).1
    have HR := bare_ffft (w.alloc (.cells #[.int .i8 7, .int .i64 N, .string S, .string U, .slice ao len cap] 31)) 7 N S U ao len cap
    rw [hb] at HR
    have HC := Lib.hid HR
    have HH := Lib.hid hh
    clear HR hh hb
    go_enter Tryz.func47, Tryz.ntmps47
    go_wp2_with fail
    refine HC.out.mono ?_
    rintro e w1 ⟨rfl, hb1⟩
    have hB1 := hB.trans (hb1.mono (by simp))
    have hh1 := keep_heap HH.out hb1
    have c1 := (cells_at hh1 1 _ rfl).1
    have c2 := (cells_at hh1 2 _ rfl).1
    have c3 := (cells_at hh1 3 _ rfl).1
    have c4 := (cells_at hh1 4 _ rfl).1
    have HH1 := Lib.hid hh1
    clear hh1 hb1 hB HC HH
    go_wp2_with fail
    go_ret
    exact ⟨rfl, hB1⟩
theorem rone_x (w : World) (k N : Int) (S U : ByteArray) (ao : Option Addr) (len cap : Nat) (hk : k < 0 ∨ 7 < k) :
    Calls Tryz.prog 47 #[.agg #[.int .i8 k, .int .i64 N, .string S, .string U, .slice ao len cap]] w (IsPost w false) := by
  have hB := (Below.refl w.heap.size w).alloc (Nat.le_refl _) (.cells #[.int .i8 k, .int .i64 N, .string S, .string U, .slice ao len cap] 31)
  have k0 : (k == 0) = false := by simp; omega
  have k1 : (k == 1) = false := by simp; omega
  have k2 : (k == 2) = false := by simp; omega
  have k3 : (k == 3) = false := by simp; omega
  have k4 : (k == 4) = false := by simp; omega
  have k5 : (k == 5) = false := by simp; omega
  have k6 : (k == 6) = false := by simp; omega
  have k7 : (k == 7) = false := by simp; omega
  clear hk
  go_enter Tryz.func47, Tryz.ntmps47
  go_wp2_with fail
  go_ret
  exact ⟨rfl, hB⟩
theorem rone_any (w : World) (k N : Int) (S U : ByteArray) (hS : S.size ≤ 9223372036854775807) (hU : U.size ≤ 9223372036854775807) (ao : Option Addr) (len cap : Nat) :
    Calls Tryz.prog 47 #[.agg #[.int .i8 k, .int .i64 N, .string S, .string U, .slice ao len cap]] w (IsPost w (oneB k N S U len)) := by
  by_cases hk0 : k = 0
  · subst hk0
    cases hbare : bareB true false false false N S U len
    · have e : oneB 0 N S U len = false := by simp [oneB, hbare]
      rw [e]
      exact rone_0_f w N S U hS hU ao len cap hbare
    · have e : oneB 0 N S U len = mayI N := by simp [oneB, hbare]
      rw [e]
      exact rone_0_t w N S U hS hU ao len cap hbare
  by_cases hk1 : k = 1
  · subst hk1
    cases hbare : bareB false true false false N S U len
    · have e : oneB 1 N S U len = false := by simp [oneB, hbare]
      rw [e]
      exact rone_1_f w N S U hS hU ao len cap hbare
    · have e : oneB 1 N S U len = mayS S := by simp [oneB, hbare]
      rw [e]
      exact rone_1_t w N S U hS hU ao len cap hbare
  by_cases hk2 : k = 2
  · subst hk2
    cases hbare : bareB true false false false N S U len
    · have e : oneB 2 N S U len = false := by simp [oneB, hbare]
      rw [e]
      exact rone_2_f w N S U hS hU ao len cap hbare
    · have e : oneB 2 N S U len = (decide (0 ≤ N) && decide (N ≤ 576460752303423487)) := by simp [oneB, hbare]
      rw [e]
      exact rone_2_t w N S U hS hU ao len cap hbare
  by_cases hk3 : k = 3
  · subst hk3
    cases hbare : bareB true true true false N S U len
    · have e : oneB 3 N S U len = false := by simp [oneB, hbare]
      rw [e]
      exact rone_3_f w N S U hS hU ao len cap hbare
    · have e : oneB 3 N S U len = (mayS S && (mayS U && (decide (0 ≤ N) && decide (N ≤ 8)))) := by simp [oneB, hbare]
      rw [e]
      exact rone_3_t w N S U hS hU ao len cap hbare
  by_cases hk4 : k = 4
  · subst hk4
    cases hbare : bareB true false false false N S U len
    · have e : oneB 4 N S U len = false := by simp [oneB, hbare]
      rw [e]
      exact rone_4_f w N S U hS hU ao len cap hbare
    · have e : oneB 4 N S U len = (decide (0 ≤ N) && decide (N ≤ 576460752303423487)) := by simp [oneB, hbare]
      rw [e]
      exact rone_4_t w N S U hS hU ao len cap hbare
  by_cases hk5 : k = 5
  · subst hk5
    cases hbare : bareB false false false true N S U len
    · have e : oneB 5 N S U len = false := by simp [oneB, hbare]
      rw [e]
      exact rone_5_f w N S U hS hU ao len cap hbare
    · have e : oneB 5 N S U len = true := by simp [oneB, hbare]
      rw [e]
      exact rone_5_t w N S U hS hU ao len cap hbare
  by_cases hk6 : k = 6
  · subst hk6
    cases hbare : bareB false false false false N S U len
    · have e : oneB 6 N S U len = false := by simp [oneB, hbare]
      rw [e]
      exact rone_6_f w N S U hS hU ao len cap hbare
    · have e : oneB 6 N S U len = true := by simp [oneB, hbare]
      rw [e]
      exact rone_6_t w N S U hS hU ao len cap hbare
  by_cases hk7 : k = 7
  · subst hk7
    cases hbare : bareB false false false true N S U len
    · have e : oneB 7 N S U len = false := by simp [oneB, hbare]
      rw [e]
      exact rone_7_f w N S U hS hU ao len cap hbare
    · have e : oneB 7 N S U len = decide (len = 2) := by simp [oneB, hbare]
      rw [e]
      exact rone_7_t w N S U hS hU ao len cap hbare
  have e : oneB k N S U len = false := by simp [oneB, hk0, hk1, hk2, hk3, hk4, hk5, hk6, hk7]
  rw [e]
  exact rone_x w k N S U ao len cap (by omega)
end Go.Proofs.YtemgnljegbaobaaGreatDoor
