/- term.Check and what it calls, walked. Conditions: the table of letters reads as laid; the term reads. -/
import Derived.Test.YthpmdeofdlcccaaGreatDoorTd
namespace Go.Proofs.YthpmdeofdlcccaaGreatDoor
open Go.ChangeShapes Go.WideShapes Go.ChangeAt Go.RowKit
set_option linter.unusedVariables false
theorem cells_small {w : World} {S : Nat → Prop} (h : Cells w 0 letL) (hs : Small w S) : ¬ S 0 := by
  intro h0
  obtain ⟨cs, e, fz, hx, hsz⟩ := hs 0 h0
  have h1 := (h 1 _ rfl).2
  simp only [World.cell?, hx] at h1
  rw [if_neg (by simp)] at h1
  have := (Array.getElem?_eq_some_iff.1 h1).1
  simp at this
  omega
theorem cells_chg0 {S : Nat → Prop} {w w' : World} (h : Cells w 0 letL) (hc : Chg S w w') (hs : Small w S) : Cells w' 0 letL := fun j r hj => ⟨hc.cell (h j r hj).1 (cells_small h hs), hc.cell (h j r hj).2 (cells_small h hs)⟩
theorem Chks.setN {w : World} {pn pk pw : Nat} {c : Int} {ok : Bool} (h : Chks w pn pk pw c ok) (c' : Int) : Chks (w.setCell ⟨pn, 0, none⟩ (.int .i64 c')) pn pk pw c' ok := by
  obtain ⟨n1, n2, n3⟩ := h.ne
  have hg := chg_set (w := w) (p := ⟨pn, 0, none⟩) (.int .i64 c')
  exact ⟨set_at h.1 _, hg.heap h.2.1 n1.symm, hg.heap h.2.2 n2⟩
theorem Chks.setK {w : World} {pn pk pw : Nat} {c : Int} {ok : Bool} (h : Chks w pn pk pw c ok) (x : Bool) : Chks (w.setCell ⟨pk, 0, none⟩ (.bool x)) pn pk pw c x := by
  obtain ⟨n1, n2, n3⟩ := h.ne
  have hg := chg_set (w := w) (p := ⟨pk, 0, none⟩) (.bool x)
  exact ⟨hg.heap h.1 n1, set_at h.2.1 _, hg.heap h.2.2 n3⟩
theorem Chks.keep {w w' : World} {pn pk pw : Nat} {c : Int} {ok : Bool} (h : Chks w pn pk pw c ok) (hb : Below w.heap.size w w') : Chks w' pn pk pw c ok := ⟨keep_heap h.1 hb, keep_heap h.2.1 hb, keep_heap h.2.2 hb⟩
theorem small_chg {S : Nat → Prop} {w w' : World} {pn pk pw : Nat} {c : Int} {ok : Bool} (h : Chks w' pn pk pw c ok) : Small w' (two pn pk) := h.small
theorem Chks.cells {w : World} {pn pk pw : Nat} {c : Int} {ok : Bool} (h : Chks w pn pk pw c ok) :
    (w.cell? ⟨pn, 0, none⟩ = some (.int .i64 c) ∧ w.frozen? ⟨pn, 0, none⟩ = false ∧ pn < w.heap.size) ∧ (w.cell? ⟨pk, 0, none⟩ = some (.bool ok) ∧ w.frozen? ⟨pk, 0, none⟩ = false ∧ pk < w.heap.size) ∧
    w.cell? ⟨pw, 0, none⟩ = some (.func (.func 80) #[] #[.pointer (some ⟨pn, 0, none⟩), .pointer (some ⟨pk, 0, none⟩), .pointer (some ⟨pw, 0, none⟩)]) :=
  ⟨⟨(cells_at h.1 0 _ rfl).1, (cells_at h.1 0 _ rfl).2, heap_lt h.1⟩, ⟨(cells_at h.2.1 0 _ rfl).1, (cells_at h.2.1 0 _ rfl).2, heap_lt h.2.1⟩, (cells_at h.2.2 0 _ rfl).1⟩
def WalkS (pn pk pw b o : Nat) (lv : Value) (w : World) : Prop :=
  w.cell? ⟨pw, 0, none⟩ = some (.func (.func 80) #[] #[.pointer (some ⟨pn, 0, none⟩), .pointer (some ⟨pk, 0, none⟩), .pointer (some ⟨pw, 0, none⟩)]) ∧ w.cell? ⟨b, o + 4, none⟩ = some lv
set_option maxHeartbeats 4000000 in
theorem walk_any : ∀ (f : Nat) (t : Tm) (b o : Nat) (w : World) (c : Int) (ok : Bool) (pn pk pw : Nat), At f w b o t → Cells w 0 letL → Chks w pn pk pw c ok → 0 ≤ c → c ≤ 256 →
    Calls Tryz.prog 80 #[.pointer (some ⟨b, o, none⟩), .pointer (some ⟨pn, 0, none⟩), .pointer (some ⟨pk, 0, none⟩), .pointer (some ⟨pw, 0, none⟩)] w (WalkPost w pn pk pw (chk t (c, ok))) := by
  intro f
  induction f with
  | zero => intro t b o w c ok pn pk pw h; exact h.elim
  | succ f ih =>
    intro t b o w c ok pn pk pw ht hw hs hc0 hc1
    obtain ⟨k, n, s, u, l⟩ := t
    obtain ⟨hf, lv, hnode, hrow⟩ := ht.open
    have hrow0 := hrow
    obtain ⟨ao, cap, rfl, hl, hcap, _⟩ := hrow
    have IH := Lib.hid ih
    have hsN := hs.setN (c + 1)
    have hcN : Chg (two pn pk) w (w.setCell ⟨pn, 0, none⟩ (.int .i64 (c + 1))) := (chg_set _).mono fun _ _ e => .inl e
    obtain ⟨⟨x1, x2, x3⟩, ⟨x4, x5, x6⟩, x7⟩ := hs.cells
    obtain ⟨⟨y1, y2, y3⟩, ⟨y4, y5, y6⟩, y7⟩ := hsN.cells
    have hall : ∀ (W : World) (x : Bool), Chks W pn pk pw (c + 1) x → Chg (two pn pk) w W → x = (ok && oneB k n s u l.length) →
        (Chks W pn pk pw (c + 1) x ∧ Chg (two pn pk) w W ∧ Hid (chkL (l.drop 0) (c + 1, x) = chk (.mk k n s u l) (c, ok))) := by
      intro W x h1 h2 h3
      refine ⟨h1, h2, ?_⟩
      show chkL (l.drop 0) (c + 1, x) = _
      rw [h3, chk]
      rfl
    have HALL := Lib.hid hall
    have hwN := cells_chg0 hw hcN hs.small
    have hnN : Node (w.setCell ⟨pn, 0, none⟩ (.int .i64 (c + 1))) b o k n s u (.slice ao l.length cap) := by
      have hb := hnode.apart hs.small
      exact ⟨hcN.cell hnode.1 hb, hcN.cell hnode.2.1 hb, hcN.cell hnode.2.2.1 hb, hcN.cell hnode.2.2.2.1 hb, hcN.cell hnode.2.2.2.2 hb⟩
    have HS0 := Lib.hid hs
    have HSN := Lib.hid hsN
    have HCN := Lib.hid hcN
    have HONE := Lib.hid (one_any _ hwN b o hf.2.2.1 hf.2.2.2 hnN)
    have HNODE := Lib.hid hnode
    have HROW := Lib.hid hrow0
    have HW := Lib.hid hw
    have hl63 : l.length ≤ 9223372036854775807 := by omega
    clear ih hs hsN hcN hall hwN hnN hnode hrow0 hw ht hf x7 y7
    have hnX : ∀ W, Chg (two pn pk) w W → W.cell? ⟨b, o + 4, none⟩ = some (.slice ao l.length cap) := fun W hc => hc.cell HNODE.out.2.2.2.2 (HNODE.out.apart HS0.out.small)
    have HNX := Lib.hid hnX
    clear hnX
    cases ok
    · have hst := HALL.out _ false (HSN.out.setK false) (HCN.out.trans ((chg_set (p := ⟨pk, 0, none⟩) (.bool false)).mono fun _ _ e => .inr e)) rfl
      have hx := HNX.out _ hst.2.1
      have HST := Lib.hid hst
      clear hst HALL HONE HSN
      go_enter Tryz.func80, Tryz.ntmps80
      go_wp2_with fail
      clear x1 x2 x3 x4 x5 x6 y1 y2 y3 y4 y5 y6
      go_loopw [18] (fun iv wr => ∃ (i : Nat) (c' : Int) (ok' : Bool), i ≤ l.length ∧ iv = .int .i64 i ∧ Chks wr pn pk pw c' ok' ∧ Chg (two pn pk) w wr ∧ 0 ≤ c' ∧ c' ≤ 257 ∧ Hid (chkL (l.drop i) (c', ok') = chk (.mk k n s u l) (c, false)))
        (fun iv _ => l.length - (intOf iv).toNat)
      case atStart => exact ⟨0, c + 1, _, by omega, rfl, HST.out.1, HST.out.2.1, by omega, by omega, HST.out.2.2⟩
      case round =>
        clear HST hx
        obtain ⟨i, c', ok', hi, rfl, hs1, hcg, hc2, hc3, HF⟩ := hrel
        have hx := HNX.out _ hcg
        obtain ⟨⟨q1, q2, q3⟩, ⟨q4, q5, q6⟩, q7⟩ := hs1.cells
        have HS1 := Lib.hid hs1
        have HCG := Lib.hid hcg
        clear hs1 hcg
        by_cases hlt : i < l.length
        · obtain ⟨t, ht⟩ : ∃ t, l[i]? = some t := ⟨l[i], by simp [hlt]⟩
          obtain ⟨b', off, e, hat⟩ := HROW.out.at ht
          subst e
          have hat1 := hat.chg HCG.out HS0.out.small
          have hdrop : l.drop i = t :: l.drop (i + 1) := by rw [List.drop_eq_getElem_cons hlt]; congr 1; rw [List.getElem?_eq_getElem hlt] at ht; exact Option.some.inj ht
          have HD := Lib.hid hdrop
          clear hat ht hdrop
          by_cases hbig : 256 < c'
          · have hd1 : decide (256 < c') = true := by simpa using hbig
            have hfin : (c', ok') = chk (.mk k n s u l) (c, false) := by
              have := HF.out
              rw [HD.out, chkL, if_pos (.inl hbig)] at this
              exact this
            have HFIN := Lib.hid hfin
            clear hfin hbig
            go_wp2_with fail
            refine bodyPost_ret (results_none rfl _ _ _) rfl ⟨⟨_, rfl⟩, ?_, HCG.out⟩
            rw [← HFIN.out]
            exact HS1.out
          · have hd1 : decide (256 < c') = false := by simpa using hbig
            cases ok'
            · have hfin : (c', false) = chk (.mk k n s u l) (c, false) := by
                have := HF.out
                rw [HD.out, chkL, if_pos (.inr rfl)] at this
                exact this
              have HFIN := Lib.hid hfin
              clear hfin hbig
              go_wp2_with fail
              refine bodyPost_ret (results_none rfl _ _ _) rfl ⟨⟨_, rfl⟩, ?_, HCG.out⟩
              rw [← HFIN.out]
              exact HS1.out
            · have hfin : chkL (l.drop (i + 1)) (chk t (c', true)) = chk (.mk k n s u l) (c, false) := by
                have := HF.out
                rw [HD.out, chkL, if_neg (by simp; omega)] at this
                exact this
              have hle := chk_le t (c', true) hc2 (by simp; omega)
              have HFIN := Lib.hid hfin
              have hdr : Below wr.heap.size wr wr.drew := (Below.refl _ _).drew
              have hcgd := HCG.out.trans (chg_of_below hdr _)
              have HCD := Lib.hid hcgd
              have hcall := IH.out t b' (off + i * 5) wr.drew c' true pn pk pw (hat1.keep hdr) (cells_chg0 HW.out hcgd HS0.out.small) (HS1.out.keep hdr) hc2 (by omega)
              have HCALL := Lib.hid hcall
              have hS : WalkS pn pk pw b o (.slice (some ⟨b', off, none⟩) l.length cap) wr := ⟨q7, hx⟩
              clear hfin hcall hat1 hcgd hdr
              go_wp2_with fail
              have hD : WalkS pn pk pw b o (.slice (some ⟨b', off, none⟩) l.length cap) wr.drew := hS
              refine region_plan (WalkS pn pk pw b o (.slice (some ⟨b', off, none⟩) l.length cap)) [(0, 0), (1, 0), (2, 0), (3, 0), (4, 0), (5, 0), (6, 0), (7, 1)] (by kernel_rfl) (by kernel_rfl) (by kernel_rfl) hD ?_
              iterate 7 (first | (refine plan_skip rfl ?_ ?_; (focus (rfl)); (try simp only [Act.put, List.setIfInBounds_toArray, List.set_cons_zero, List.set_cons_succ])) | (refine plan_take (v := ?_) rfl ?_ (fun w hSw => ?_) ?_; rotate_left; (focus (rfl)); (focus (unfold WalkS at hSw; (go_simp <;> with_reducible rfl))); (try simp only [Act.put, List.setIfInBounds_toArray, List.set_cons_zero, List.set_cons_succ])))
              refine plan_run rfl ?_ (fun K hK => ?_)
              focus (rfl)
              go_simp
              refine (HCALL.out).mono ?_
              rintro e W1 ⟨⟨v, rfl⟩, hs2, hcg2⟩
              have hcg3 := HCD.out.trans hcg2
              have hS1 : WalkS pn pk pw b o (.slice (some ⟨b', off, none⟩) l.length cap) W1 := ⟨hs2.cells.2.2, HNX.out _ hcg3⟩
              refine hK.out _ _ hS1 ?_
              clear hK K 
              (try simp only [Act.put, List.setIfInBounds_toArray, List.set_cons_zero, List.set_cons_succ])
              refine plan_done ?_
              go_wp2_with fail
              go_roundw
              case rel => exact ⟨i + 1, _, _, by omega, by go_num, hs2, hcg3, by omega, hle.2, HFIN.out⟩
              case measure => simp [intOf]; omega
        · have hil : i = l.length := by omega
          have hfin : (c', ok') = chk (.mk k n s u l) (c, false) := by
            have := HF.out
            rw [hil, List.drop_length, chkL] at this
            exact this
          have HFIN := Lib.hid hfin
          clear hfin hil
          go_wp2_with fail
          go_end0
          refine ⟨⟨_, rfl⟩, ?_, HCG.out⟩
          rw [← HFIN.out]
          exact HS1.out
    · generalize oneB k n s u l.length = x at *
      go_enter Tryz.func80, Tryz.ntmps80
      go_wp2_with fail
      refine HONE.out.mono ?_
      rintro e w2 ⟨rfl, hb2⟩
      have hs2 := HSN.out.keep hb2
      have hst := HALL.out _ x (hs2.setK x) ((HCN.out.trans (chg_of_below hb2 _)).trans ((chg_set (p := ⟨pk, 0, none⟩) (.bool x)).mono fun _ _ e => .inr e)) (by simp)
      have hx := HNX.out _ hst.2.1
      obtain ⟨⟨z1, z2, z3⟩, ⟨z4, z5, z6⟩, z7⟩ := hs2.cells
      have HST := Lib.hid hst
      clear hst HALL HONE HSN hs2 hb2 z7
      go_wp2_with fail
      clear x1 x2 x3 x4 x5 x6 y1 y2 y3 y4 y5 y6
      go_loopw [18] (fun iv wr => ∃ (i : Nat) (c' : Int) (ok' : Bool), i ≤ l.length ∧ iv = .int .i64 i ∧ Chks wr pn pk pw c' ok' ∧ Chg (two pn pk) w wr ∧ 0 ≤ c' ∧ c' ≤ 257 ∧ Hid (chkL (l.drop i) (c', ok') = chk (.mk k n s u l) (c, true)))
        (fun iv _ => l.length - (intOf iv).toNat)
      case atStart => exact ⟨0, c + 1, _, by omega, rfl, HST.out.1, HST.out.2.1, by omega, by omega, HST.out.2.2⟩
      case round =>
        clear HST hx
        obtain ⟨i, c', ok', hi, rfl, hs1, hcg, hc2, hc3, HF⟩ := hrel
        have hx := HNX.out _ hcg
        obtain ⟨⟨q1, q2, q3⟩, ⟨q4, q5, q6⟩, q7⟩ := hs1.cells
        have HS1 := Lib.hid hs1
        have HCG := Lib.hid hcg
        clear hs1 hcg
        by_cases hlt : i < l.length
        · obtain ⟨t, ht⟩ : ∃ t, l[i]? = some t := ⟨l[i], by simp [hlt]⟩
          obtain ⟨b', off, e, hat⟩ := HROW.out.at ht
          subst e
          have hat1 := hat.chg HCG.out HS0.out.small
          have hdrop : l.drop i = t :: l.drop (i + 1) := by rw [List.drop_eq_getElem_cons hlt]; congr 1; rw [List.getElem?_eq_getElem hlt] at ht; exact Option.some.inj ht
          have HD := Lib.hid hdrop
          clear hat ht hdrop
          by_cases hbig : 256 < c'
          · have hd1 : decide (256 < c') = true := by simpa using hbig
            have hfin : (c', ok') = chk (.mk k n s u l) (c, true) := by
              have := HF.out
              rw [HD.out, chkL, if_pos (.inl hbig)] at this
              exact this
            have HFIN := Lib.hid hfin
            clear hfin hbig
            go_wp2_with fail
            refine bodyPost_ret (results_none rfl _ _ _) rfl ⟨⟨_, rfl⟩, ?_, HCG.out⟩
            rw [← HFIN.out]
            exact HS1.out
          · have hd1 : decide (256 < c') = false := by simpa using hbig
            cases ok'
            · have hfin : (c', false) = chk (.mk k n s u l) (c, true) := by
                have := HF.out
                rw [HD.out, chkL, if_pos (.inr rfl)] at this
                exact this
              have HFIN := Lib.hid hfin
              clear hfin hbig
              go_wp2_with fail
              refine bodyPost_ret (results_none rfl _ _ _) rfl ⟨⟨_, rfl⟩, ?_, HCG.out⟩
              rw [← HFIN.out]
              exact HS1.out
            · have hfin : chkL (l.drop (i + 1)) (chk t (c', true)) = chk (.mk k n s u l) (c, true) := by
                have := HF.out
                rw [HD.out, chkL, if_neg (by simp; omega)] at this
                exact this
              have hle := chk_le t (c', true) hc2 (by simp; omega)
              have HFIN := Lib.hid hfin
              have hdr : Below wr.heap.size wr wr.drew := (Below.refl _ _).drew
              have hcgd := HCG.out.trans (chg_of_below hdr _)
              have HCD := Lib.hid hcgd
              have hcall := IH.out t b' (off + i * 5) wr.drew c' true pn pk pw (hat1.keep hdr) (cells_chg0 HW.out hcgd HS0.out.small) (HS1.out.keep hdr) hc2 (by omega)
              have HCALL := Lib.hid hcall
              have hS : WalkS pn pk pw b o (.slice (some ⟨b', off, none⟩) l.length cap) wr := ⟨q7, hx⟩
              clear hfin hcall hat1 hcgd hdr
              go_wp2_with fail
              have hD : WalkS pn pk pw b o (.slice (some ⟨b', off, none⟩) l.length cap) wr.drew := hS
              refine region_plan (WalkS pn pk pw b o (.slice (some ⟨b', off, none⟩) l.length cap)) [(0, 0), (1, 0), (2, 0), (3, 0), (4, 0), (5, 0), (6, 0), (7, 1)] (by kernel_rfl) (by kernel_rfl) (by kernel_rfl) hD ?_
              iterate 7 (first | (refine plan_skip rfl ?_ ?_; (focus (rfl)); (try simp only [Act.put, List.setIfInBounds_toArray, List.set_cons_zero, List.set_cons_succ])) | (refine plan_take (v := ?_) rfl ?_ (fun w hSw => ?_) ?_; rotate_left; (focus (rfl)); (focus (unfold WalkS at hSw; (go_simp <;> with_reducible rfl))); (try simp only [Act.put, List.setIfInBounds_toArray, List.set_cons_zero, List.set_cons_succ])))
              refine plan_run rfl ?_ (fun K hK => ?_)
              focus (rfl)
              go_simp
              refine (HCALL.out).mono ?_
              rintro e W1 ⟨⟨v, rfl⟩, hs2, hcg2⟩
              have hcg3 := HCD.out.trans hcg2
              have hS1 : WalkS pn pk pw b o (.slice (some ⟨b', off, none⟩) l.length cap) W1 := ⟨hs2.cells.2.2, HNX.out _ hcg3⟩
              refine hK.out _ _ hS1 ?_
              clear hK K 
              (try simp only [Act.put, List.setIfInBounds_toArray, List.set_cons_zero, List.set_cons_succ])
              refine plan_done ?_
              go_wp2_with fail
              go_roundw
              case rel => exact ⟨i + 1, _, _, by omega, by go_num, hs2, hcg3, by omega, hle.2, HFIN.out⟩
              case measure => simp [intOf]; omega
        · have hil : i = l.length := by omega
          have hfin : (c', ok') = chk (.mk k n s u l) (c, true) := by
            have := HF.out
            rw [hil, List.drop_length, chkL] at this
            exact this
          have HFIN := Lib.hid hfin
          clear hfin hil
          go_wp2_with fail
          go_end0
          refine ⟨⟨_, rfl⟩, ?_, HCG.out⟩
          rw [← HFIN.out]
          exact HS1.out
end Go.Proofs.YthpmdeofdlcccaaGreatDoor
