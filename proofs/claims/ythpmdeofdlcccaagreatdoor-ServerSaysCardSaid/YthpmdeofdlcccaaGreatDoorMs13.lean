/- the reference's Size, made, Tuple, limit. Conditions: the terms read. -/
/- the reference's First at one item, IsAck. Conditions: the item and the term read. -/
import Derived.Test.YthpmdeofdlcccaaGreatDoorMs10
import Derived.Test.YthpmdeofdlcccaaGreatDoorMs11
import Derived.Test.YthpmdeofdlcccaaGreatDoorMs2
namespace Go.Proofs.YthpmdeofdlcccaaGreatDoor
open Go.ChangeShapes Go.WideShapes Go.ChangeAt Go.RowKit
set_option linter.unusedVariables false
set_option linter.unusedSimpArgs false
set_option maxRecDepth 100000
theorem ok_mem : ∀ {L : List Tm}, okL L → ∀ x ∈ L, okT x ∧ nT x ≤ nL L
  | [], _, x, hx => by cases hx
  | y :: L, h, x, hx => by
    rw [okL] at h
    rw [nL]
    rcases List.mem_cons.1 hx with rfl | hx
    · exact ⟨h.1, by omega⟩
    · have := ok_mem h.2 x hx
      exact ⟨this.1, by omega⟩
theorem ok_of_all : ∀ {L : List Tm}, (∀ x ∈ L, checkN x ≠ 30) → nL L ≤ 255 → okL L
  | [], _, _ => trivial
  | y :: L, h, hn => by
    rw [nL] at hn
    rw [okL]
    exact ⟨(size_ok (h y List.mem_cons_self) (by rw [ok_size (by omega)]; omega)).1, ok_of_all (fun x hx => h x (List.mem_cons_of_mem _ hx)) (by omega)⟩
theorem md_yes {L : List Tm} (h : ∀ x ∈ L, checkN x ≠ 30) (hn : nL L + 1 ≤ 256) : mdN L 1 = 0 := md_of L 1 (ok_of_all h (by omega)) (by omega) (by omega)
theorem md_not {L : List Tm} (h : (∃ x ∈ L, checkN x = 30) ∨ 256 < nL L + 1) : mdN L 1 ≠ 0 := fun h0 => by
  obtain ⟨g1, g2⟩ := md_ok L 1 (by omega) h0
  rcases h with ⟨x, hx, h⟩ | h
  · obtain ⟨h1, h2⟩ := ok_mem g1 x hx
    rw [ok_check h1 (by omega)] at h
    cases h
  · omega
theorem rsizeT_any (f : Nat) (t : Tm) (v : Value) (w : World) (hv : TermV f w v t) : Calls Tryz.prog 87 #[v] w (IntPost w (siz t 257)) := by
  have hle := siz_le t 257 (by omega)
  obtain ⟨k, n, s, u, l, ao, cap, rfl, rfl, hf, hl, hcap, hrow⟩ := hv.mk'
  have hB := (Below.refl w.heap.size w).alloc (Nat.le_refl _) (.cells #[.int .i8 k, .int .i64 n, .string s, .string u, .slice ao l.length cap] 25)
  have hn := heap_new w (.cells #[.int .i8 k, .int .i64 n, .string s, .string u, .slice ao l.length cap] 25)
  have HC := Lib.hid (size_any f _ _ _ 257 (hv.keep hB) (by omega) (by omega))
  obtain ⟨x0, -⟩ := cells_at hn 0 _ rfl
  obtain ⟨x1, -⟩ := cells_at hn 1 _ rfl
  obtain ⟨x2, -⟩ := cells_at hn 2 _ rfl
  obtain ⟨x3, -⟩ := cells_at hn 3 _ rfl
  obtain ⟨x4, -⟩ := cells_at hn 4 _ rfl
  have HB := Lib.hid hB
  clear hv hrow hn hB
  generalize siz (.mk k n s u l) 257 = r at *
  have hmin : min r 257 = r := by omega
  go_enter Tryz.func87, Tryz.ntmps87
  go_wp2_with fail
  refine HC.out.mono ?_
  rintro e w1 ⟨rfl, hb1⟩
  have HB1 := Lib.hid (HB.out.trans (hb1.mono HB.out.size))
  clear hb1 x0 x1 x2 x3 x4
  go_wp2_with fail
  go_ret
  exact ⟨rfl, HB1.out⟩
theorem TesOk.cells {M : Nat → Prop} {w : World} {b o n cap : Nat} {E : List TE} (h : TesOk M w (.slice (some ⟨b, o, none⟩) n cap) E) : ∀ (j : Nat) (u : Value), (tcs E)[j]? = some u → w.cell? ⟨b, o + j, none⟩ = some u := by
  obtain ⟨⟨ao, cap', e, -, -, h3⟩, -⟩ := h
  intro j u hj
  rcases h3 with h3 | ⟨b', off, e2, -, hcl⟩
  · subst h3
    simp [tcs] at hj
  · injection e with e
    rw [e2] at e
    injection e with e
    injection e with e3 e4
    subst e3 e4
    exact hcl j u hj
theorem te_mk {M : Nat → Prop} {w : World} {ao : Option Addr} {cap : Nat} {E : List TE} (h : TesOk M w (.slice ao E.length cap) E) : TeOk M w ⟨5, 0, ⟨#[]⟩, ⟨#[]⟩, ao, cap, E.map TE.t⟩ := by
  obtain ⟨F, hF⟩ := h.rowS
  refine ⟨⟨(by decide : (-128 : Int) ≤ 5 ∧ (5 : Int) ≤ 127), (by decide : (-9223372036854775808 : Int) ≤ 0 ∧ (0 : Int) ≤ 9223372036854775807), Nat.zero_le _, Nat.zero_le _⟩, F, ?_⟩
  have h2 := hF.chg (S' := Av M) (Chg.refl (fun _ => False) w) (fun _ _ _ h => h) (fun k hk _ => hk.1) (Nat.le_refl _)
  show RowS (Av M) F w (.slice ao (E.map TE.t).length cap) (E.map TE.t)
  rw [List.length_map]
  exact h2
def RmP (M : Nat → Prop) (w : World) (L : List Tm) (e : Ending) (w' : World) : Prop :=
  Below w.heap.size w w' ∧ ((mdN L 1 = 0 ∧ ∃ x : TE, e = .returned (.tuple #[.agg #[.int .i8 x.k, .int .i64 x.n, .string x.s, .string x.u, .slice x.ao x.l.length x.cap], .int .i64 0]) ∧ x.t = .mk 5 0 ⟨#[]⟩ ⟨#[]⟩ L ∧ TeOk M w' x) ∨ (mdN L 1 ≠ 0 ∧ ∃ en : Int, en ≠ 0 ∧ e = .returned (.tuple #[.agg zT, .int .i64 en])))
set_option maxHeartbeats 8000000 in
theorem rmade_any (M : Nat → Prop) (w : World) (hM : ∀ k, M k → k < w.heap.size) (b o cap : Nat) (E : List TE) (h : TesOk M w (.slice (some ⟨b, o, none⟩) E.length cap) E) (hl : E.length ≤ 255) :
    Calls Tryz.prog 68 #[.int .i8 5, .slice (some ⟨b, o, none⟩) E.length cap] w (RmP M w (E.map TE.t)) := by
  have hb0 := (Below.refl w.heap.size w).alloc (Nat.le_refl _) (.cells zT 25)
  have HI0 := Lib.hid (And.intro hb0 (heap_new w (.cells zT 25)))
  have HR := Lib.hid (And.intro h hM)
  have hcap : E.length ≤ cap ∧ cap ≤ 9223372036854775807 := by
    obtain ⟨ao, c, e, h1, h2⟩ := h.slice
    injection e with _ _ e
    subst e
    exact ⟨h1, h2⟩
  have HCP := Lib.hid hcap
  clear hb0 h hM hcap
  go_enter Tryz.func68, Tryz.ntmps68
  go_wp2_with fail
  generalize w.alloc (.cells zT 25) = W0 at *
  go_loopw [5, 6] (fun ev iv wr => ∃ (i : Nat), i ≤ E.length ∧ ev = .int .i64 0 ∧ iv = .int .i64 i ∧ Hid ((Below w.heap.size w wr ∧ wr.heap[w.heap.size]? = some (.cells zT 25 (0, 0))) ∧ ∀ x ∈ E.take i, checkN x.t ≠ 30))
    (fun _ iv _ => E.length - (intOf iv).toNat)
  case atStart => exact ⟨0, by omega, rfl, rfl, Lib.hid ⟨HI0.out, fun x hx => by simp at hx⟩⟩
  case round =>
    clear HI0
    obtain ⟨i, hi, rfl, rfl, HI⟩ := hrel
    have hcap := HCP.out.1
    by_cases hlt : i < E.length
    · obtain ⟨x, hx⟩ : ∃ x, E[i]? = some x := ⟨E[i], List.getElem?_eq_getElem hlt⟩
      obtain ⟨b', off, cap', e, hxo, c0, c1, c2, c3, c4⟩ := (HR.out.1.keep HI.out.1.1).at hx
      injection e with e _ ecap
      subst ecap
      injection e with e
      injection e with e3 e4
      subst e3 e4
      obtain ⟨F, htv⟩ := hxo.tv
      have HCALL : Hid (Calls Tryz.prog 55 #[.agg #[.int .i8 x.k, .int .i64 x.n, .string x.s, .string x.u, .slice x.ao x.l.length x.cap]] wr (IntPost wr (rcheckN x.t))) := Lib.hid (rcheck_any F x.t _ wr htv)
      rw [check_eq] at HCALL
      simp only [TE.lv] at c4
      have HX := Lib.hid hx
      clear hxo htv hx
      go_wp2_with fail
      refine HCALL.out.mono ?_
      rintro e w2 ⟨rfl, hb2⟩
      have HF := Lib.hid (And.intro (show Below w.heap.size w w2 ∧ w2.heap[w.heap.size]? = some (.cells zT 25 (0, 0)) from ⟨HI.out.1.1.trans (hb2.mono HI.out.1.1.size), keep_heap HI.out.1.2 hb2⟩) HI.out.2)
      clear hb2 c0 c1 c2 c3 c4 HI HCALL
      by_cases h30 : checkN x.t = 30
      · have HN := Lib.hid (show mdN (E.map TE.t) 1 ≠ 0 from md_not (.inl ⟨x.t, List.mem_map_of_mem (List.mem_of_getElem? HX.out), h30⟩))
        rw [h30]
        clear h30
        go_wp2_with (with_reducible refine stop_op (o := ⟨_, .store 25 (.tmp 4) (.tmp 20), _, _, _, _⟩) ?_)
        refine Lib.hid ?_
        refine wpList_store_row (o := ⟨none, _, _, _, _, _⟩) rfl 25 (.tmp 4) (.tmp 20) rfl (w.heap.size) zT rfl rfl 25 zT (HF.out.1.2) (infoTM' _ rfl) rfl (by simp [Value.oneCell']) ?_
        rw [setRow_self _ _ _ _ _ HF.out.1.2]
        go_wp2_with fail
        exact ret_row HF.out.1.2 rfl Tryz.underlying25 rfl (infoTM' _ rfl) rfl rfl ⟨HF.out.1.1, .inr ⟨HN.out, 30, by decide, rfl⟩⟩
      · have q1 : (checkN x.t == 30) = false := by simp [h30]
        have HF2 : Hid ((Below w.heap.size w w2 ∧ w2.heap[w.heap.size]? = some (.cells zT 25 (0, 0))) ∧ ∀ y ∈ E.take (i + 1), checkN y.t ≠ 30) := Lib.hid ⟨HF.out.1, fun y hy => by
          rw [List.take_add_one, HX.out] at hy
          simp only [Option.toList_some, List.mem_append, List.mem_cons, List.not_mem_nil, or_false] at hy
          rcases hy with hy | rfl
          · exact HF.out.2 y hy
          · exact h30⟩
        clear h30 HF
        go_wp2_with fail
        go_roundw
        case rel => exact ⟨i + 1, by omega, rfl, by go_num, HF2⟩
        case measure => simp [intOf]; omega
    · obtain rfl : i = E.length := by omega
      have HALL := Lib.hid (show ∀ x ∈ E.map TE.t, checkN x ≠ 30 from fun x hx => by
        obtain ⟨y, hy, rfl⟩ := List.mem_map.1 hx
        exact HI.out.2 y (by rw [List.take_length]; exact hy))
      go_wp2_with (with_reducible refine stop_op (o := ⟨_, .store 25 (.tmp 7) (.tmp 22), _, _, _, _⟩) ?_)
      refine Lib.hid ?_
      refine wpList_store_new (o := ⟨none, _, _, _, _, _⟩) rfl 25 (.tmp 7) (.tmp 22) rfl #[.int .i8 5, .int .i64 0, .string ⟨#[]⟩, .string ⟨#[]⟩, .slice none 0 0] rfl rfl (infoTM' _ rfl) rfl (by simp [Value.oneCell']) ?_
      have hb1 := (Below.refl wr.heap.size wr).alloc (Nat.le_refl _) (.cells #[.int .i8 5, .int .i64 0, .string ⟨#[]⟩, .string ⟨#[]⟩, .slice none 0 0] 25)
      have hY := heap_new wr (.cells #[.int .i8 5, .int .i64 0, .string ⟨#[]⟩, .string ⟨#[]⟩, .slice none 0 0] 25)
      obtain ⟨y4, y4f⟩ := cells_at hY 4 _ rfl
      have hs1 : (wr.alloc (.cells #[.int .i8 5, .int .i64 0, .string ⟨#[]⟩, .string ⟨#[]⟩, .slice none 0 0] 25)).heap.size = wr.heap.size + 1 := by simp
      have hT := (HR.out.1.keep (HI.out.1.1.trans (hb1.mono HI.out.1.1.size)))
      have hxw := heap_lt HI.out.1.2
      have HW1 := Lib.hid (And.intro hY (And.intro (keep_heap HI.out.1.2 hb1) (And.intro (HI.out.1.1.trans (hb1.mono HI.out.1.1.size)) (And.intro hT (And.intro hs1 hxw)))))
      clear hb1 hY hT hs1 hxw HI
      generalize wr.alloc (.cells #[.int .i8 5, .int .i64 0, .string ⟨#[]⟩, .string ⟨#[]⟩, .slice none 0 0] 25) = W1 at *
      generalize wr.heap.size = q7 at *
      obtain ⟨i0, z0, q1, q2, q3, q4, q5⟩ := infoTM2
      go_wp2_with (at_builtin; refine stop_here ?_)
      refine Lib.hid ?_
      refine wpList_append_own2 rfl (.tmp 24) (.tmp 25) 23 rfl W1.heap.size 25 i0 z0 5 72 Tryz.underlying23 q1 q2 q3 q4 q5 (by decide) _ 0 [] rfl (World.ownsRow_nil _ _ _ _) ⟨b, o, none⟩ E.length cap (tcs E) rfl (by rw [tcs_len]) (fun j u hj => by rw [Addr.add_lit]; exact HW1.out.2.2.2.1.cells j u hj) (tcs_one E) (by unfold maxLen; omega) (by omega) (Nat.le_refl _) ?_
      intro v2 W2 hown2 hg2 hwh2
      obtain ⟨lo, lc, rfl⟩ := own_slice hown2
      rw [List.nil_append, Nat.zero_add] at hown2
      simp only [Nat.zero_add]
      have hb2 := grown_below hg2
      have hY2 := keep_heap HW1.out.1 hb2
      obtain ⟨y4, y4f⟩ := cells_at hY2 4 _ rfl
      have hcs := chg_set (w := W2) (p := ⟨q7, 4, none⟩) (.slice lo E.length lc)
      have hwq := HW1.out.2.2.2.2.2
      have hsz1 := HW1.out.2.2.2.2.1
      have hTE : TesOk (fun k => M k ∨ k = q7 ∨ k = w.heap.size) W2 (.slice lo E.length lc) E := tes_own _ W2 W1.heap.size _ E E.length rfl hown2 (fun k hk => by
        rcases hk with hk | hk | hk
        · have := HR.out.2 k hk
          omega
        · omega
        · omega) (fun x hx => (HR.out.1.2 x hx).chg (M' := fun k => M k ∨ k = q7 ∨ k = w.heap.size) (chg_of_below (HW1.out.2.2.1.trans (hb2.mono HW1.out.2.2.1.size)) (fun _ => False)) (fun _ h => h.elim) (fun k hk hkl => by
        rcases hk with hk | hk | hk
        · exact hk
        · omega
        · omega))
      have H3 := Lib.hid (And.intro (set_at (i := 4) hY2 (.slice lo E.length lc)) (And.intro (hcs.heap (keep_heap HW1.out.2.1 hb2) (fun e => by have e : w.heap.size = q7 := e; omega)) (And.intro ((HW1.out.2.2.1.trans (hb2.mono HW1.out.2.2.1.size)).trans (hcs.below (Nat.le_trans HW1.out.2.2.1.size hb2.size) (fun k e => by have e : k = q7 := e; omega))) (hTE.chg (M' := fun k => M k ∨ k = w.heap.size) hcs (fun k e _ => .inr (.inl e)) (fun k hk _ => hk.elim .inl fun e => .inr (.inr e))))))
      change Hid ((W2.setCell ⟨q7, 4, none⟩ (.slice lo E.length lc)).heap[q7]? = some (.cells #[.int .i8 5, .int .i64 0, .string ⟨#[]⟩, .string ⟨#[]⟩, .slice lo E.length lc] 25 (0, 0)) ∧ _) at H3
      clear hown2 hg2 hwh2 hb2 hcs hTE hY2 HW1 hwq hsz1
      go_wp2_with (with_reducible refine stop_op (o := ⟨_, .load 25 (.tmp 7), _, _, _, _⟩) ?_)
      refine Lib.hid ?_
      clear y4 y4f
      generalize W2.setCell ⟨q7, 4, none⟩ (.slice lo E.length lc) = W3 at *
      refine wpList_load_row (o := ⟨_, _, _, _, _, _⟩) rfl 25 (.tmp 7) rfl q7 rfl 25 #[.int .i8 5, .int .i64 0, .string ⟨#[]⟩, .string ⟨#[]⟩, .slice lo E.length lc] (0, 0) _ H3.out.1 Tryz.underlying25 rfl (infoTM' _ rfl) ?_
      obtain ⟨F, htv⟩ := (te_mk H3.out.2.2.2).tv
      have HS : Hid (Calls Tryz.prog 87 #[.agg #[.int .i8 5, .int .i64 0, .string ⟨#[]⟩, .string ⟨#[]⟩, .slice lo E.length lc]] W3 (IntPost W3 (siz (.mk 5 0 ⟨#[]⟩ ⟨#[]⟩ (E.map TE.t)) 257))) := Lib.hid (by
        have := rsizeT_any F _ _ W3 htv
        simp only [TE.cells, TE.lv, List.length_map] at this
        exact this)
      have hsz : siz (.mk 5 0 ⟨#[]⟩ ⟨#[]⟩ (E.map TE.t)) 257 = min ((nL (E.map TE.t) + 1 : Nat) : Int) 257 := by rw [siz_eq _ _ (by omega), nT]
      rw [hsz] at HS
      clear htv hsz
      generalize hr : min ((nL (E.map TE.t) + 1 : Nat) : Int) 257 = r at *
      have HRR := Lib.hid hr
      clear hr
      go_wp2_with fail
      refine HS.out.mono ?_
      clear HS
      rintro e W4 ⟨rfl, hb4⟩
      have H4 := Lib.hid (And.intro (keep_heap H3.out.1 hb4) (And.intro (keep_heap H3.out.2.1 hb4) (And.intro (H3.out.2.2.1.trans (hb4.mono H3.out.2.2.1.size)) (H3.out.2.2.2.keep hb4))))
      clear hb4 H3
      by_cases h256 : 256 < r
      · have hd : decide (256 < r) = true := by simpa using h256
        have HN := Lib.hid (show mdN (E.map TE.t) 1 ≠ 0 from md_not (.inr (by have := HRR.out; omega)))
        clear h256
        go_wp2_with (with_reducible refine stop_op (o := ⟨_, .store 25 (.tmp 4) (.tmp 31), _, _, _, _⟩) ?_)
        refine Lib.hid ?_
        refine wpList_store_row (o := ⟨none, _, _, _, _, _⟩) rfl 25 (.tmp 4) (.tmp 31) rfl (w.heap.size) zT rfl rfl 25 zT (H4.out.2.1) (infoTM' _ rfl) rfl (by simp [Value.oneCell']) ?_
        rw [setRow_self _ _ _ _ _ H4.out.2.1]
        go_wp2_with fail
        exact ret_row H4.out.2.1 rfl Tryz.underlying25 rfl (infoTM' _ rfl) rfl rfl ⟨H4.out.2.2.1, .inr ⟨HN.out, 11, by decide, rfl⟩⟩
      · have hd : decide (256 < r) = false := by simpa using h256
        have HN := Lib.hid (show mdN (E.map TE.t) 1 = 0 from md_yes HALL.out (by have := HRR.out; omega))
        clear h256
        go_wp2_with (with_reducible refine stop_op (o := ⟨_, .load 25 (.tmp 7), _, _, _, _⟩) ?_)
        refine Lib.hid ?_
        refine wpList_load_row (o := ⟨_, _, _, _, _, _⟩) rfl 25 (.tmp 7) rfl q7 rfl 25 #[.int .i8 5, .int .i64 0, .string ⟨#[]⟩, .string ⟨#[]⟩, .slice lo E.length lc] (0, 0) _ H4.out.1 Tryz.underlying25 rfl (infoTM' _ rfl) ?_
        go_wp2_with (with_reducible refine stop_op (o := ⟨_, .store 25 (.tmp 4) (.tmp 32), _, _, _, _⟩) ?_)
        refine Lib.hid ?_
        refine wpList_store_row (o := ⟨none, _, _, _, _, _⟩) rfl 25 (.tmp 4) (.tmp 32) rfl (w.heap.size) #[.int .i8 5, .int .i64 0, .string ⟨#[]⟩, .string ⟨#[]⟩, .slice lo E.length lc] rfl rfl 25 zT (H4.out.2.1) (infoTM' _ rfl) rfl (by simp [Value.oneCell']) ?_
        have hcs := chg_setRow W4 w.heap.size #[.int .i8 5, .int .i64 0, .string ⟨#[]⟩, .string ⟨#[]⟩, .slice lo E.length lc]
        have HZ := Lib.hid (And.intro (setRow_heap W4 w.heap.size zT #[.int .i8 5, .int .i64 0, .string ⟨#[]⟩, .string ⟨#[]⟩, .slice lo E.length lc] 25 (0, 0) H4.out.2.1) (And.intro (bel_setRow H4.out.2.2.1 H4.out.2.2.1.size (Nat.le_refl _) #[.int .i8 5, .int .i64 0, .string ⟨#[]⟩, .string ⟨#[]⟩, .slice lo E.length lc]) (te_mk (H4.out.2.2.2.chg (M' := M) hcs (fun k e _ => .inr e) (fun k hk _ => .inl hk)))))
        clear hcs H4
        generalize W4.setRow w.heap.size #[.int .i8 5, .int .i64 0, .string ⟨#[]⟩, .string ⟨#[]⟩, .slice lo E.length lc] = W5 at *
        go_wp2_with fail
        exact ret_row HZ.out.1 rfl Tryz.underlying25 rfl (infoTM' _ rfl) rfl rfl ⟨HZ.out.2.1, .inl ⟨HN.out, ⟨5, 0, ⟨#[]⟩, ⟨#[]⟩, lo, lc, E.map TE.t⟩, by simp only [List.length_map]; rfl, rfl, HZ.out.2.2⟩⟩
theorem rtup_any (M : Nat → Prop) (w : World) (hM : ∀ k, M k → k < w.heap.size) (b o cap : Nat) (E : List TE) (h : TesOk M w (.slice (some ⟨b, o, none⟩) E.length cap) E) (hl : E.length ≤ 255) :
    Calls Tryz.prog 42 #[.slice (some ⟨b, o, none⟩) E.length cap] w (RmP M w (E.map TE.t)) := by
  have hb0 := (Below.refl w.heap.size w).alloc (Nat.le_refl _) (.cells zT 25)
  have hs0 : (w.alloc (.cells zT 25)).heap.size = w.heap.size + 1 := by simp
  have HM := Lib.hid (rmade_any (fun k => M k ∨ k = w.heap.size) (w.alloc (.cells zT 25)) (fun k hk => by
    rcases hk with hk | hk
    · have := hM k hk
      omega
    · omega) b o cap E (h.chg (chg_of_below hb0 (fun _ => False)) (fun _ h => h.elim) (fun k hk hkl => hk.elim id fun e => by omega)) hl)
  have HB := Lib.hid (And.intro hb0 (heap_new w (.cells zT 25)))
  clear hb0 hs0 h hM
  generalize E.map TE.t = L at *
  go_enter Tryz.func42, Tryz.ntmps42
  go_wp2_with fail
  generalize w.alloc (.cells zT 25) = W0 at *
  refine HM.out.mono ?_
  clear HM
  rintro e W2 ⟨hb2, ⟨h1, x, rfl, hxt, hxo⟩ | ⟨h1, en, hen, rfl⟩⟩
  · have H2 := Lib.hid (And.intro (HB.out.1.trans (hb2.mono HB.out.1.size)) (And.intro (keep_heap HB.out.2 hb2) (And.intro h1 (And.intro hxt hxo))))
    clear hb2 h1 hxt hxo HB
    go_wp2_with (with_reducible refine stop_op (o := ⟨_, .store 25 (.tmp 2) (.tmp 6), _, _, _, _⟩) ?_)
    refine Lib.hid ?_
    refine wpList_store_row (o := ⟨none, _, _, _, _, _⟩) rfl 25 (.tmp 2) (.tmp 6) rfl (w.heap.size) #[.int .i8 x.k, .int .i64 x.n, .string x.s, .string x.u, .slice x.ao x.l.length x.cap] rfl rfl 25 zT (H2.out.2.1) (infoTM' _ rfl) rfl (by simp [Value.oneCell']) ?_
    have hcs := chg_setRow W2 w.heap.size #[.int .i8 x.k, .int .i64 x.n, .string x.s, .string x.u, .slice x.ao x.l.length x.cap]
    have HZ := Lib.hid (And.intro (setRow_heap W2 w.heap.size zT #[.int .i8 x.k, .int .i64 x.n, .string x.s, .string x.u, .slice x.ao x.l.length x.cap] 25 (0, 0) H2.out.2.1) (And.intro (bel_setRow H2.out.1 H2.out.1.size (Nat.le_refl _) #[.int .i8 x.k, .int .i64 x.n, .string x.s, .string x.u, .slice x.ao x.l.length x.cap]) (H2.out.2.2.2.2.chg (M' := M) hcs (fun k e _ => .inr e) (fun k hk _ => .inl hk))))
    clear hcs
    generalize W2.setRow w.heap.size #[.int .i8 x.k, .int .i64 x.n, .string x.s, .string x.u, .slice x.ao x.l.length x.cap] = W5 at *
    go_wp2_with fail
    exact ret_row HZ.out.1 rfl Tryz.underlying25 rfl (infoTM' _ rfl) rfl rfl ⟨HZ.out.2.1, .inl ⟨H2.out.2.2.1, x, rfl, H2.out.2.2.2.1, HZ.out.2.2⟩⟩
  · have H2 := Lib.hid (And.intro (HB.out.1.trans (hb2.mono HB.out.1.size)) (And.intro (keep_heap HB.out.2 hb2) (And.intro h1 hen)))
    clear hb2 h1 hen HB
    go_wp2_with (with_reducible refine stop_op (o := ⟨_, .store 25 (.tmp 2) (.tmp 6), _, _, _, _⟩) ?_)
    refine Lib.hid ?_
    refine wpList_store_row (o := ⟨none, _, _, _, _, _⟩) rfl 25 (.tmp 2) (.tmp 6) rfl (w.heap.size) zT rfl rfl 25 zT (H2.out.2.1) (infoTM' _ rfl) rfl (by simp [Value.oneCell']) ?_
    rw [setRow_self _ _ _ _ _ H2.out.2.1]
    go_wp2_with fail
    exact ret_row H2.out.2.1 rfl Tryz.underlying25 rfl (infoTM' _ rfl) rfl rfl ⟨H2.out.1, .inr ⟨H2.out.2.2.1, en, H2.out.2.2.2, rfl⟩⟩
end Go.Proofs.YthpmdeofdlcccaaGreatDoor
namespace Go.Proofs.YthpmdeofdlcccaaGreatDoor
open Go.ChangeShapes Go.WideShapes Go.ChangeAt Go.RowKit
set_option linter.unusedVariables false
set_option linter.unusedSimpArgs false
set_option maxRecDepth 100000
theorem ratom_x (w : World) (s : ByteArray) : Calls Tryz.prog 25 #[.string s] w fun e w' => e = .returned (.agg #[.int .i8 1, .int .i64 0, .string s, .string ⟨#[]⟩, .slice none 0 0]) ∧ Below w.heap.size w w' := by
  have hb1 := (Below.refl w.heap.size w).alloc (Nat.le_refl _) (.cells #[.int .i8 1, .int .i64 0, .string s, .string ⟨#[]⟩, .slice none 0 0] 25)
  have hx1 := heap_new w (.cells #[.int .i8 1, .int .i64 0, .string s, .string ⟨#[]⟩, .slice none 0 0] 25)
  have HB := Lib.hid (And.intro hb1 hx1)
  clear hb1 hx1
  go_enter Tryz.func25, Tryz.ntmps25
  go_wp2_with fail
  exact ret_cell HB.out.2 rfl Tryz.underlying25 rfl (infoTM' _ rfl) rfl ⟨rfl, HB.out.1⟩
theorem rpid_x (w : World) (n : Int) : Calls Tryz.prog 33 #[.int .i64 n] w fun e w' => e = .returned (.agg #[.int .i8 4, .int .i64 n, .string ⟨#[]⟩, .string ⟨#[]⟩, .slice none 0 0]) ∧ Below w.heap.size w w' := by
  have hb1 := (Below.refl w.heap.size w).alloc (Nat.le_refl _) (.cells #[.int .i8 4, .int .i64 n, .string ⟨#[]⟩, .string ⟨#[]⟩, .slice none 0 0] 25)
  have hx1 := heap_new w (.cells #[.int .i8 4, .int .i64 n, .string ⟨#[]⟩, .string ⟨#[]⟩, .slice none 0 0] 25)
  have HB := Lib.hid (And.intro hb1 hx1)
  clear hb1 hx1
  go_enter Tryz.func33, Tryz.ntmps33
  go_wp2_with fail
  exact ret_cell HB.out.2 rfl Tryz.underlying25 rfl (infoTM' _ rfl) rfl ⟨rfl, HB.out.1⟩
theorem rref_x (w : World) (n : Int) : Calls Tryz.prog 36 #[.int .i64 n] w fun e w' => e = .returned (.agg #[.int .i8 2, .int .i64 n, .string ⟨#[]⟩, .string ⟨#[]⟩, .slice none 0 0]) ∧ Below w.heap.size w w' := by
  have hb1 := (Below.refl w.heap.size w).alloc (Nat.le_refl _) (.cells #[.int .i8 2, .int .i64 n, .string ⟨#[]⟩, .string ⟨#[]⟩, .slice none 0 0] 25)
  have hx1 := heap_new w (.cells #[.int .i8 2, .int .i64 n, .string ⟨#[]⟩, .string ⟨#[]⟩, .slice none 0 0] 25)
  have HB := Lib.hid (And.intro hb1 hx1)
  clear hb1 hx1
  go_enter Tryz.func36, Tryz.ntmps36
  go_wp2_with fail
  exact ret_cell HB.out.2 rfl Tryz.underlying25 rfl (infoTM' _ rfl) rfl ⟨rfl, HB.out.1⟩
theorem rsure_x (w : World) (n : Int) : Calls Tryz.prog 41 #[.int .i64 n] w fun e w' => e = .returned (.int .i64 (sureN n)) ∧ Below w.heap.size w w' := by
  have hsure : min (max n 0) 576460752303423487 = sureN n := rfl
  go_enter Tryz.func41, Tryz.ntmps41
  go_wp2_with fail
  go_ret
  exact ⟨rfl, Below.refl _ _⟩
def RiS1 (q : Nat) (k : Int) (lv : Value) (W : World) : Prop := W.cell? ⟨q, 0, none⟩ = some (.int .i8 k) ∧ W.cell? ⟨q, 4, none⟩ = some lv
def RiS3 (q b o : Nat) (lv0 : Value) (y y1 z : TE) (W : World) : Prop := W.cell? ⟨q, 0, none⟩ = some (.int .i8 5) ∧ W.cell? ⟨q, 4, none⟩ = some lv0 ∧
  (W.cell? ⟨b, o, none⟩ = some (.int .i8 y.k) ∧ W.cell? ⟨b, o + 1, none⟩ = some (.int .i64 y.n) ∧ W.cell? ⟨b, o + 2, none⟩ = some (.string y.s) ∧ W.cell? ⟨b, o + 3, none⟩ = some (.string y.u) ∧ W.cell? ⟨b, o + 4, none⟩ = some (.slice y.ao y.l.length y.cap)) ∧
  (W.cell? ⟨b, o + 5, none⟩ = some (.int .i8 y1.k) ∧ W.cell? ⟨b, o + 5 + 1, none⟩ = some (.int .i64 y1.n) ∧ W.cell? ⟨b, o + 5 + 2, none⟩ = some (.string y1.s) ∧ W.cell? ⟨b, o + 5 + 3, none⟩ = some (.string y1.u) ∧ W.cell? ⟨b, o + 5 + 4, none⟩ = some (.slice y1.ao y1.l.length y1.cap)) ∧
  W.cell? ⟨q + 1, 0, none⟩ = some (.int .i8 z.k) ∧ W.cell? ⟨q + 1, 1, none⟩ = some (.int .i64 z.n) ∧ W.cell? ⟨q + 1, 2, none⟩ = some (.string z.s) ∧ W.cell? ⟨q + 1, 3, none⟩ = some (.string z.u) ∧ W.cell? ⟨q + 1, 4, none⟩ = some (.slice z.ao z.l.length z.cap)
theorem RiS3.keep {q b o : Nat} {lv0 : Value} {y y1 z : TE} {W W' : World} (h : RiS3 q b o lv0 y y1 z W) (hb : Below W.heap.size W W') : RiS3 q b o lv0 y y1 z W' := by
  obtain ⟨g1, g2, ⟨h1, h2, h3, h4, h5⟩, ⟨i1, i2, i3, i4, i5⟩, h6, h7, h8, h9, h10⟩ := h
  exact ⟨keep_cell g1 hb, keep_cell g2 hb, ⟨keep_cell h1 hb, keep_cell h2 hb, keep_cell h3 hb, keep_cell h4 hb, keep_cell h5 hb⟩, ⟨keep_cell i1 hb, keep_cell i2 hb, keep_cell i3 hb, keep_cell i4 hb, keep_cell i5 hb⟩, keep_cell h6 hb, keep_cell h7 hb, keep_cell h8 hb, keep_cell h9 hb, keep_cell h10 hb⟩
set_option maxHeartbeats 4000000 in
theorem ris_any (M M' : Nat → Prop) (w : World) (i : It) (tag : ByteArray) (z : TE) (hi : TeOk M w i.x) (hz : TeOk M' w z) : Calls Tryz.prog 59 #[.agg i.cells.toArray, .string tag, .agg z.cells.toArray] w (IsPost w (isIt i.x.t tag z.t)) := by
  obtain ⟨x, o⟩ := i
  have hb2 := ((Below.refl w.heap.size w).alloc (Nat.le_refl _) (.cells (It.mk x o).cells.toArray 59)).alloc (by simp) (.cells z.cells.toArray 25)
  have n1 := heap_old (heap_new w (.cells (It.mk x o).cells.toArray 59)) (.cells z.cells.toArray 25)
  have n2 := heap_new (w.alloc (.cells (It.mk x o).cells.toArray 59)) (.cells z.cells.toArray 25)
  rw [World.size_alloc] at n2
  have hdr : Below (((w.alloc (.cells (It.mk x o).cells.toArray 59)).alloc (.cells z.cells.toArray 25))).heap.size ((w.alloc (.cells (It.mk x o).cells.toArray 59)).alloc (.cells z.cells.toArray 25)) (World.drew ((w.alloc (.cells (It.mk x o).cells.toArray 59)).alloc (.cells z.cells.toArray 25))) := (Below.refl _ _).drew
  have HBD := Lib.hid (hb2.trans (hdr.mono hb2.size))
  have x0 : (World.drew ((w.alloc (.cells (It.mk x o).cells.toArray 59)).alloc (.cells z.cells.toArray 25))).cell? ⟨w.heap.size, 0, none⟩ = some (.int .i8 x.k) := (cells_at n1 0 _ rfl).1
  have x4 : (World.drew ((w.alloc (.cells (It.mk x o).cells.toArray 59)).alloc (.cells z.cells.toArray 25))).cell? ⟨w.heap.size, 4, none⟩ = some (.slice x.ao x.l.length x.cap) := (cells_at n1 4 _ rfl).1
  have hx2 : TeOk M (World.drew ((w.alloc (.cells (It.mk x o).cells.toArray 59)).alloc (.cells z.cells.toArray 25))) x := (TeOk.keep hi hb2).keep hdr
  have hz2 := (hz.keep hb2).keep hdr
  have HZ0 := Lib.hid (show (((w.alloc (.cells (It.mk x o).cells.toArray 59)).alloc (.cells z.cells.toArray 25))).heap[w.heap.size + 1]? = some (.cells z.cells.toArray 25 (0, 0)) from n2)
  have hE : isIt x.t tag z.t = (decide (x.k = 5) && match x.l with
    | a :: b :: _ => decide (a.k = 1) && (decide (a.s = tag) && eqT b z.t)
    | _ => false) := rfl
  clear n1 n2 hb2 hi hz hdr
  show Calls Tryz.prog 59 _ w (IsPost w (isIt x.t tag z.t))
  generalize isIt x.t tag z.t = res at *
  by_cases hk : x.k = 5
  · by_cases hl : 2 ≤ x.l.length
    · obtain ⟨b, off, y, e1, e2, hy, hp, -⟩ := hx2.part (i := 0) (by omega)
      obtain ⟨b', off', y1, e1', e2', hy1, hp1, -⟩ := hx2.part (i := 1) (by omega)
      rw [e1] at e1'
      injection e1' with e1'
      injection e1' with e3 e4 e5
      subst e3 e4
      have hE2 : res = (isAtomB y.t tag && eqT y1.t z.t) := by
        rw [hE]
        cases hxl : x.l with
        | nil => rw [hxl] at hl; simp at hl
        | cons a l =>
          cases l with
          | nil => rw [hxl] at hl; simp at hl
          | cons c l =>
            rw [hxl] at e2 e2'
            simp at e2 e2'
            subst e2 e2'
            simp only [hk, decide_true, Bool.true_and, isAtomB, Bool.and_assoc]
      have HE := Lib.hid hE2
      have hn0 : ((x.l.length : Int) ≥ 2) := by omega
      have hn1 : 0 < x.l.length := by omega
      have hn2 : 1 < x.l.length := by omega
      have hn3 : (1 : Int) < (x.l.length : Int) := by omega
      rw [e1] at x4
      rw [hk] at x0
      obtain ⟨p0, p1, p2, p3, p4⟩ := hp
      obtain ⟨r0, r1, r2, r3, r4⟩ := hp1
      rw [show off + 0 * 5 = off by omega] at p0 p1 p2 p3 p4
      rw [show off + 1 * 5 = off + 5 by omega] at r0 r1 r2 r3 r4
      have hS : RiS3 w.heap.size b off (.slice (some ⟨b, off, none⟩) x.l.length x.cap) y y1 z (World.drew ((w.alloc (.cells (It.mk x o).cells.toArray 59)).alloc (.cells z.cells.toArray 25))) := ⟨x0, x4, ⟨p0, p1, p2, p3, p4⟩, ⟨r0, r1, r2, r3, r4⟩, (cells_at HZ0.out 0 _ rfl).1, (cells_at HZ0.out 1 _ rfl).1, (cells_at HZ0.out 2 _ rfl).1, (cells_at HZ0.out 3 _ rfl).1, (cells_at HZ0.out 4 _ rfl).1⟩
      have HC := Lib.hid (And.intro hy (And.intro hy1 hz2))
      clear hE hE2 hx2 hy hy1 hz2 e2 e2' hl hk e1 x0 x4 p0 p1 p2 p3 p4 r0 r1 r2 r3 r4 HZ0
      go_enter Tryz.func59, Tryz.ntmps59
      go_wp2_with fail
      refine region_plan (RiS3 w.heap.size b off (.slice (some ⟨b, off, none⟩) x.l.length x.cap) y y1 z) [(0, 0), (1, 0), (2, 0), (3, 0), (4, 0), (5, 0), (6, 0), (7, 0), (8, 0), (9, 0), (10, 0), (11, 0), (12, 0), (13, 0), (14, 0), (15, 0), (16, 0), (17, 0), (18, 1), (19, 0), (20, 0), (21, 0), (22, 0), (23, 0), (24, 0), (25, 0), (26, 0), (27, 1), (28, 0), (29, 0)] (by kernel_rfl) (by kernel_rfl) (by kernel_rfl) hS ?_
      generalize World.drew _ = WD at *
      iterate 18 (first | (refine plan_skip rfl ?_ ?_; (focus (rfl)); (try simp only [Act.put, List.setIfInBounds_toArray, List.set_cons_zero, List.set_cons_succ])) | (refine plan_take (v := ?_) rfl ?_ (fun w hSw => ?_) ?_; rotate_left; (focus (rfl)); (focus (unfold RiS3 at hSw; (go_simp <;> with_reducible rfl))); (try simp only [Act.put, List.setIfInBounds_toArray, List.set_cons_zero, List.set_cons_succ])))
      obtain ⟨F, htv⟩ := HC.out.1.tv
      have HA : Hid (Calls Tryz.prog 37 #[.agg #[.int .i8 y.k, .int .i64 y.n, .string y.s, .string y.u, .slice y.ao y.l.length y.cap], .string tag] WD (IsPost WD (isAtomB y.t tag))) := Lib.hid (isatom_any F y.t _ tag WD htv)
      clear htv
      generalize isAtomB y.t tag = ba at *
      refine plan_run rfl ?_ (fun K hK => ?_)
      focus (rfl)
      go_simp
      refine (HA.out).mono ?_
      rintro e W1 ⟨rfl, hb1⟩
      have hS1 := hS.keep hb1
      have HB1 := Lib.hid (And.intro (HBD.out.trans (hb1.mono HBD.out.size)) (And.intro (HC.out.2.1.keep hb1) (HC.out.2.2.keep hb1)))
      refine hK.out _ _ hS1 ?_
      clear hK K 
      (try simp only [Act.put, List.setIfInBounds_toArray, List.set_cons_zero, List.set_cons_succ])
      clear hS hb1 HA HBD HC
      cases ba
      · skip
        iterate 8 (first | (refine plan_skip rfl ?_ ?_; (focus (rfl)); (try simp only [Act.put, List.setIfInBounds_toArray, List.set_cons_zero, List.set_cons_succ])) | (refine plan_take (v := ?_) rfl ?_ (fun w hSw => ?_) ?_; rotate_left; (focus (rfl)); (focus (unfold RiS3 at hSw; (go_simp <;> with_reducible rfl))); (try simp only [Act.put, List.setIfInBounds_toArray, List.set_cons_zero, List.set_cons_succ])))
        (refine plan_run_skip rfl ?_ hS1 ?_; (focus (rfl)); (try simp only [Act.put, List.setIfInBounds_toArray, List.set_cons_zero, List.set_cons_succ]))
        iterate 2 (first | (refine plan_skip rfl ?_ ?_; (focus (rfl)); (try simp only [Act.put, List.setIfInBounds_toArray, List.set_cons_zero, List.set_cons_succ])) | (refine plan_take (v := ?_) rfl ?_ (fun w hSw => ?_) ?_; rotate_left; (focus (rfl)); (focus (unfold RiS3 at hSw; (go_simp <;> with_reducible rfl))); (try simp only [Act.put, List.setIfInBounds_toArray, List.set_cons_zero, List.set_cons_succ])))
        refine plan_done ?_
        go_wp2_with fail
        go_ret
        exact ⟨by rw [HE.out]; rfl, HB1.out.1⟩
      · skip
        iterate 8 (first | (refine plan_skip rfl ?_ ?_; (focus (rfl)); (try simp only [Act.put, List.setIfInBounds_toArray, List.set_cons_zero, List.set_cons_succ])) | (refine plan_take (v := ?_) rfl ?_ (fun w hSw => ?_) ?_; rotate_left; (focus (rfl)); (focus (unfold RiS3 at hSw; (go_simp <;> with_reducible rfl))); (try simp only [Act.put, List.setIfInBounds_toArray, List.set_cons_zero, List.set_cons_succ])))
        refine plan_run rfl ?_ (fun K hK => ?_)
        focus (rfl)
        go_simp
        refine (rsame_any _ _ _ _ _ _ W1 HB1.out.2.1.tv.choose_spec HB1.out.2.2.tv.choose_spec).mono ?_
        rintro e W2 ⟨rfl, hb2⟩
        have hS2 := hS1.keep hb2
        have HB2 := Lib.hid (HB1.out.1.trans (hb2.mono HB1.out.1.size))
        refine hK.out _ _ hS2 ?_
        clear hK K 
        (try simp only [Act.put, List.setIfInBounds_toArray, List.set_cons_zero, List.set_cons_succ])
        iterate 2 (first | (refine plan_skip rfl ?_ ?_; (focus (rfl)); (try simp only [Act.put, List.setIfInBounds_toArray, List.set_cons_zero, List.set_cons_succ])) | (refine plan_take (v := ?_) rfl ?_ (fun w hSw => ?_) ?_; rotate_left; (focus (rfl)); (focus (unfold RiS3 at hSw; (go_simp <;> with_reducible rfl))); (try simp only [Act.put, List.setIfInBounds_toArray, List.set_cons_zero, List.set_cons_succ])))
        refine plan_done ?_
        go_wp2_with fail
        go_ret
        exact ⟨by rw [HE.out]; rfl, HB2.out⟩
    · have q1 : ¬ ((2 : Int) ≤ (x.l.length : Int)) := by omega
      have q2 : ¬ (2 ≤ x.l.length) := hl
      have q3 : decide ((x.l.length : Int) ≥ 2) = false := by simp; omega
      have HE := Lib.hid (show res = false by rw [hE]; match hxl : x.l with | [] => simp | [a] => simp | a :: b :: l => rw [hxl] at hl; simp at hl)
      rw [hk] at x0
      clear hE hk hl hx2 hz2 HZ0
      have hS : RiS1 w.heap.size 5 (.slice x.ao x.l.length x.cap) (World.drew ((w.alloc (.cells (It.mk x o).cells.toArray 59)).alloc (.cells z.cells.toArray 25))) := ⟨x0, x4⟩
      go_enter Tryz.func59, Tryz.ntmps59
      go_wp2_with fail
      refine region_plan (RiS1 w.heap.size 5 (.slice x.ao x.l.length x.cap)) [(0, 0), (1, 0), (2, 0), (3, 0), (4, 0), (5, 0), (6, 0), (7, 0), (8, 0), (9, 0), (10, 0), (11, 0), (12, 0), (13, 0), (14, 0), (15, 0), (16, 0), (17, 0), (18, 1), (19, 0), (20, 0), (21, 0), (22, 0), (23, 0), (24, 0), (25, 0), (26, 0), (27, 1), (28, 0), (29, 0)] (by kernel_rfl) (by kernel_rfl) (by kernel_rfl) hS ?_
      generalize World.drew _ = WD at *
      iterate 18 (first | (refine plan_skip rfl ?_ ?_; (focus (rfl)); (try simp only [Act.put, List.setIfInBounds_toArray, List.set_cons_zero, List.set_cons_succ])) | (refine plan_take (v := ?_) rfl ?_ (fun w hSw => ?_) ?_; rotate_left; (focus (rfl)); (focus (unfold RiS1 at hSw; (go_simp <;> with_reducible rfl))); (try simp only [Act.put, List.setIfInBounds_toArray, List.set_cons_zero, List.set_cons_succ])))
      (refine plan_run_skip rfl ?_ hS ?_; (focus (rfl)); (try simp only [Act.put, List.setIfInBounds_toArray, List.set_cons_zero, List.set_cons_succ]))
      iterate 8 (first | (refine plan_skip rfl ?_ ?_; (focus (rfl)); (try simp only [Act.put, List.setIfInBounds_toArray, List.set_cons_zero, List.set_cons_succ])) | (refine plan_take (v := ?_) rfl ?_ (fun w hSw => ?_) ?_; rotate_left; (focus (rfl)); (focus (unfold RiS1 at hSw; (go_simp <;> with_reducible rfl))); (try simp only [Act.put, List.setIfInBounds_toArray, List.set_cons_zero, List.set_cons_succ])))
      (refine plan_run_skip rfl ?_ hS ?_; (focus (rfl)); (try simp only [Act.put, List.setIfInBounds_toArray, List.set_cons_zero, List.set_cons_succ]))
      iterate 2 (first | (refine plan_skip rfl ?_ ?_; (focus (rfl)); (try simp only [Act.put, List.setIfInBounds_toArray, List.set_cons_zero, List.set_cons_succ])) | (refine plan_take (v := ?_) rfl ?_ (fun w hSw => ?_) ?_; rotate_left; (focus (rfl)); (focus (unfold RiS1 at hSw; (go_simp <;> with_reducible rfl))); (try simp only [Act.put, List.setIfInBounds_toArray, List.set_cons_zero, List.set_cons_succ])))
      refine plan_done ?_
      go_wp2_with fail
      go_ret
      exact ⟨by rw [HE.out]; rfl, HBD.out⟩
  · have q1 : (x.k == 5) = false := by simp [hk]
    have HE := Lib.hid (show res = false by rw [hE]; simp [hk])
    clear hE hk hx2 hz2 HZ0
    have hS : RiS1 w.heap.size x.k (.slice x.ao x.l.length x.cap) (World.drew ((w.alloc (.cells (It.mk x o).cells.toArray 59)).alloc (.cells z.cells.toArray 25))) := ⟨x0, x4⟩
    go_enter Tryz.func59, Tryz.ntmps59
    go_wp2_with fail
    refine region_plan (RiS1 w.heap.size x.k (.slice x.ao x.l.length x.cap)) [(0, 0), (1, 0), (2, 0), (3, 0), (4, 0), (5, 0), (6, 0), (7, 0), (8, 0), (9, 0), (10, 0), (11, 0), (12, 0), (13, 0), (14, 0), (15, 0), (16, 0), (17, 0), (18, 1), (19, 0), (20, 0), (21, 0), (22, 0), (23, 0), (24, 0), (25, 0), (26, 0), (27, 1), (28, 0), (29, 0)] (by kernel_rfl) (by kernel_rfl) (by kernel_rfl) hS ?_
    generalize World.drew _ = WD at *
    iterate 18 (first | (refine plan_skip rfl ?_ ?_; (focus (rfl)); (try simp only [Act.put, List.setIfInBounds_toArray, List.set_cons_zero, List.set_cons_succ])) | (refine plan_take (v := ?_) rfl ?_ (fun w hSw => ?_) ?_; rotate_left; (focus (rfl)); (focus (unfold RiS1 at hSw; (go_simp <;> with_reducible rfl))); (try simp only [Act.put, List.setIfInBounds_toArray, List.set_cons_zero, List.set_cons_succ])))
    (refine plan_run_skip rfl ?_ hS ?_; (focus (rfl)); (try simp only [Act.put, List.setIfInBounds_toArray, List.set_cons_zero, List.set_cons_succ]))
    iterate 8 (first | (refine plan_skip rfl ?_ ?_; (focus (rfl)); (try simp only [Act.put, List.setIfInBounds_toArray, List.set_cons_zero, List.set_cons_succ])) | (refine plan_take (v := ?_) rfl ?_ (fun w hSw => ?_) ?_; rotate_left; (focus (rfl)); (focus (unfold RiS1 at hSw; (go_simp <;> with_reducible rfl))); (try simp only [Act.put, List.setIfInBounds_toArray, List.set_cons_zero, List.set_cons_succ])))
    (refine plan_run_skip rfl ?_ hS ?_; (focus (rfl)); (try simp only [Act.put, List.setIfInBounds_toArray, List.set_cons_zero, List.set_cons_succ]))
    iterate 2 (first | (refine plan_skip rfl ?_ ?_; (focus (rfl)); (try simp only [Act.put, List.setIfInBounds_toArray, List.set_cons_zero, List.set_cons_succ])) | (refine plan_take (v := ?_) rfl ?_ (fun w hSw => ?_) ?_; rotate_left; (focus (rfl)); (focus (unfold RiS1 at hSw; (go_simp <;> with_reducible rfl))); (try simp only [Act.put, List.setIfInBounds_toArray, List.set_cons_zero, List.set_cons_succ])))
    refine plan_done ?_
    go_wp2_with fail
    go_ret
    exact ⟨by rw [HE.out]; rfl, HBD.out⟩
def FiS (b o q : Nat) (i : It) (ob : Bool) (z : TE) (W : World) : Prop := (W.cell? ⟨b, o, none⟩ = some (.int .i8 i.x.k) ∧ W.cell? ⟨b, o + 1, none⟩ = some (.int .i64 i.x.n) ∧ W.cell? ⟨b, o + 2, none⟩ = some (.string i.x.s) ∧ W.cell? ⟨b, o + 3, none⟩ = some (.string i.x.u) ∧ W.cell? ⟨b, o + 4, none⟩ = some (.slice i.x.ao i.x.l.length i.x.cap) ∧ W.cell? ⟨b, o + 5, none⟩ = some (.bool ob)) ∧ W.cell? ⟨q, 0, none⟩ = some (.int .i8 z.k) ∧ W.cell? ⟨q, 1, none⟩ = some (.int .i64 z.n) ∧ W.cell? ⟨q, 2, none⟩ = some (.string z.s) ∧ W.cell? ⟨q, 3, none⟩ = some (.string z.u) ∧ W.cell? ⟨q, 4, none⟩ = some (.slice z.ao z.l.length z.cap)
theorem FiS.keep {b o q : Nat} {i : It} {ob : Bool} {z : TE} {W W' : World} (h : FiS b o q i ob z W) (hb : Below W.heap.size W W') : FiS b o q i ob z W' := ⟨⟨keep_cell h.1.1 hb, keep_cell h.1.2.1 hb, keep_cell h.1.2.2.1 hb, keep_cell h.1.2.2.2.1 hb, keep_cell h.1.2.2.2.2.1 hb, keep_cell h.1.2.2.2.2.2 hb⟩, BxS.keep (q := q) (x := z) h.2 hb⟩
def RfP (w : World) (b : Bool) (e : Ending) (w' : World) : Prop := e = .returned (.tuple #[.int .i64 0, .bool b]) ∧ Below w.heap.size w w'
set_option maxHeartbeats 4000000 in
theorem rfirst_one (M M' : Nat → Prop) (w : World) (b o cap : Nat) (i : It) (tag : ByteArray) (z : TE) (hcap : 1 ≤ cap) (ha : ItAt w b o i) (hi : TeOk M w i.x) (hz : TeOk M' w z) :
    Calls Tryz.prog 32 #[.slice (some ⟨b, o, none⟩) 1 cap, .string tag, .agg #[.int .i8 z.k, .int .i64 z.n, .string z.s, .string z.u, .slice z.ao z.l.length z.cap], .bool true] w (RfP w (fsB i true tag z)) := by
  have hb1 := (Below.refl w.heap.size w).alloc (Nat.le_refl _) (.cells #[.int .i8 z.k, .int .i64 z.n, .string z.s, .string z.u, .slice z.ao z.l.length z.cap] 25)
  have n1 := heap_new w (.cells #[.int .i8 z.k, .int .i64 z.n, .string z.s, .string z.u, .slice z.ao z.l.length z.cap] 25)
  have HI0 : Hid (Below w.heap.size w (w.alloc (.cells #[.int .i8 z.k, .int .i64 z.n, .string z.s, .string z.u, .slice z.ao z.l.length z.cap] 25)) ∧ FiS b o w.heap.size i i.o z (w.alloc (.cells #[.int .i8 z.k, .int .i64 z.n, .string z.s, .string z.u, .slice z.ao z.l.length z.cap] 25))) := Lib.hid ⟨hb1, ⟨keep_cell ha.c0 hb1, keep_cell ha.c1 hb1, keep_cell ha.c2 hb1, keep_cell ha.c3 hb1, keep_cell ha.c4 hb1, keep_cell ha.c5 hb1⟩, BxS.of (x := z) n1⟩
  have HX := Lib.hid (And.intro hi hz)
  have HE := Lib.hid (show fsB i true tag z = ((i.o || !true) && isIt i.x.t tag z.t) from rfl)
  generalize fsB i true tag z = res at *
  clear hb1 n1 ha hi hz
  go_enter Tryz.func32, Tryz.ntmps32
  go_wp2_with fail
  generalize w.alloc (.cells #[.int .i8 z.k, .int .i64 z.n, .string z.s, .string z.u, .slice z.ao z.l.length z.cap] 25) = w1 at *
  go_loopw [10] (fun iv wr => ∃ k : Nat, k ≤ 1 ∧ iv = .int .i64 k ∧ Hid ((Below w.heap.size w wr ∧ FiS b o w.heap.size i i.o z wr) ∧ (k = 1 → res = false))) (fun iv _ => 1 - (intOf iv).toNat)
  case atStart => exact ⟨0, by omega, rfl, Lib.hid ⟨HI0.out, fun h => by omega⟩⟩
  case round =>
    clear HI0
    obtain ⟨k, hk, rfl, HI⟩ := hrel
    by_cases hlt : k = 0
    · subst hlt
      have hdr : Below wr.heap.size wr wr.drew := (Below.refl _ _).drew
      have hS0 := HI.out.1.2.keep hdr
      have HB := Lib.hid (HI.out.1.1.trans (hdr.mono HI.out.1.1.size))
      have HC : Hid (Calls Tryz.prog 59 #[.agg #[.int .i8 i.x.k, .int .i64 i.x.n, .string i.x.s, .string i.x.u, .slice i.x.ao i.x.l.length i.x.cap, .bool true], .string tag, .agg #[.int .i8 z.k, .int .i64 z.n, .string z.s, .string z.u, .slice z.ao z.l.length z.cap]] wr.drew (IsPost wr.drew (isIt i.x.t tag z.t))) := Lib.hid (ris_any M M' wr.drew ⟨i.x, true⟩ tag z (HX.out.1.keep HB.out) (HX.out.2.keep HB.out))
      generalize isIt i.x.t tag z.t = r at *
      clear hdr HI
      generalize hob : i.o = ob at *
      have HOB := Lib.hid hob
      clear hob
      cases ob
      · have HF := Lib.hid (show res = false by rw [HE.out]; rfl)
        have hS : FiS b o w.heap.size i false z wr.drew := hS0
        clear hS0 HC
        go_upto_region 4 with fail
        refine region_plan (FiS b o w.heap.size i false z) [(0, 0), (1, 0), (2, 0), (3, 0), (4, 0), (5, 0), (6, 0), (7, 0), (8, 0), (9, 0), (10, 0), (11, 0), (12, 0), (13, 0), (14, 0), (15, 0), (16, 1), (17, 0)] (by kernel_rfl) (by kernel_rfl) (by kernel_rfl) hS ?_
        generalize wr.drew = WD at *
        iterate 16 (first | (refine plan_skip rfl ?_ ?_; (focus (rfl)); (try simp only [Act.put, List.setIfInBounds_toArray, List.set_cons_zero, List.set_cons_succ])) | (refine plan_take (v := ?_) rfl ?_ (fun w hSw => ?_) ?_; rotate_left; (focus (rfl)); (focus (unfold FiS at hSw; (go_simp <;> with_reducible rfl))); (try simp only [Act.put, List.setIfInBounds_toArray, List.set_cons_zero, List.set_cons_succ])))
        (refine plan_run_skip rfl ?_ hS ?_; (focus (rfl)); (try simp only [Act.put, List.setIfInBounds_toArray, List.set_cons_zero, List.set_cons_succ]))
        iterate 1 (first | (refine plan_skip rfl ?_ ?_; (focus (rfl)); (try simp only [Act.put, List.setIfInBounds_toArray, List.set_cons_zero, List.set_cons_succ])) | (refine plan_take (v := ?_) rfl ?_ (fun w hSw => ?_) ?_; rotate_left; (focus (rfl)); (focus (unfold FiS at hSw; (go_simp <;> with_reducible rfl))); (try simp only [Act.put, List.setIfInBounds_toArray, List.set_cons_zero, List.set_cons_succ])))
        refine plan_done ?_
        have HN := Lib.hid (And.intro (And.intro HB.out hS) HF.out)
        clear hS HB
        go_wp2_with fail
        go_roundw
        case rel => exact ⟨1, by omega, rfl, Lib.hid ⟨HN.out.1, fun _ => HN.out.2⟩⟩
        case measure => simp [intOf]
      · have hS : FiS b o w.heap.size i true z wr.drew := hS0
        clear hS0
        go_upto_region 4 with fail
        refine region_plan (FiS b o w.heap.size i true z) [(0, 0), (1, 0), (2, 0), (3, 0), (4, 0), (5, 0), (6, 0), (7, 0), (8, 0), (9, 0), (10, 0), (11, 0), (12, 0), (13, 0), (14, 0), (15, 0), (16, 1), (17, 0)] (by kernel_rfl) (by kernel_rfl) (by kernel_rfl) hS ?_
        generalize wr.drew = WD at *
        iterate 16 (first | (refine plan_skip rfl ?_ ?_; (focus (rfl)); (try simp only [Act.put, List.setIfInBounds_toArray, List.set_cons_zero, List.set_cons_succ])) | (refine plan_take (v := ?_) rfl ?_ (fun w hSw => ?_) ?_; rotate_left; (focus (rfl)); (focus (unfold FiS at hSw; (go_simp <;> with_reducible rfl))); (try simp only [Act.put, List.setIfInBounds_toArray, List.set_cons_zero, List.set_cons_succ])))
        refine plan_run rfl ?_ (fun K hK => ?_)
        focus (rfl)
        go_simp
        refine (HC.out).mono ?_
        rintro e W1 ⟨rfl, hb1⟩
        have hS1 := hS.keep hb1
        have HB1 := Lib.hid (HB.out.trans (hb1.mono HB.out.size))
        refine hK.out _ _ hS1 ?_
        clear hK K 
        (try simp only [Act.put, List.setIfInBounds_toArray, List.set_cons_zero, List.set_cons_succ])
        iterate 1 (first | (refine plan_skip rfl ?_ ?_; (focus (rfl)); (try simp only [Act.put, List.setIfInBounds_toArray, List.set_cons_zero, List.set_cons_succ])) | (refine plan_take (v := ?_) rfl ?_ (fun w hSw => ?_) ?_; rotate_left; (focus (rfl)); (focus (unfold FiS at hSw; (go_simp <;> with_reducible rfl))); (try simp only [Act.put, List.setIfInBounds_toArray, List.set_cons_zero, List.set_cons_succ])))
        refine plan_done ?_
        clear hS hb1 HB HC
        cases r
        · have HF := Lib.hid (show res = false by rw [HE.out]; rfl)
          have HN := Lib.hid (And.intro (And.intro HB1.out hS1) HF.out)
          clear hS1 HB1
          go_wp2_with fail
          go_roundw
          case rel => exact ⟨1, by omega, rfl, Lib.hid ⟨HN.out.1, fun _ => HN.out.2⟩⟩
          case measure => simp [intOf]
        · have HF := Lib.hid (show res = true by rw [HE.out]; rfl)
          clear hS1
          go_wp2_with fail
          go_ret2
          exact ⟨by rw [HF.out]; rfl, HB1.out⟩
    · obtain rfl : k = 1 := by omega
      have HF := Lib.hid (HI.out.2 rfl)
      go_wp2_with fail
      go_ret2
      exact ⟨by rw [HF.out]; rfl, HI.out.1.1⟩
end Go.Proofs.YthpmdeofdlcccaaGreatDoor
