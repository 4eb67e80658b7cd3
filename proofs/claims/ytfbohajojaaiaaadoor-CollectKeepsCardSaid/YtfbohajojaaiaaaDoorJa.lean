/- the law's both. Conditions: the table of letters reads as laid; what comes reads. -/
import Derived.Test.YtfbohajojaaiaaaDoorHz
import Derived.Test.YtfbohajojaaiaaaDoorHl
import Derived.Test.YtfbohajojaaiaaaDoorKu
import Derived.Deep.CutRange
namespace Go.Proofs.YtfbohajojaaiaaaDoor
open Go.ChangeShapes Go.WideShapes Go.ChangeAt Go.RowKit
set_option linter.unusedVariables false
set_option maxRecDepth 100000
theorem wok_w {f : Nat} {w : World} {x : Wd} (h : WOk f w x) : WOk f w x.w := by
  unfold Wd.w
  split
  · exact ⟨h.1, ⟨by simp, by simp, Nat.zero_le _, Nat.zero_le _⟩, none, 0, rfl, by simp, by omega, fun i t h => by simp at h⟩
  · exact ⟨by simp, h.2.1, h.2.2⟩
theorem pure_w (x : Wd) : Pure x.w := by
  unfold Wd.w Pure
  cases x.c <;> simp
/-- what is plain of both heaps -/
structure BP (f : Nat) (w : World) (i : Nat) (C C' : List HC) : Prop where
  sim : Sim C C'
  made : Made C
  len : C.length ≤ i
  ok : ∀ c ∈ C, ∀ x ∈ c.l, WOk f w x ∧ Pure x
theorem BP.next {f : Nat} {w : World} {i : Nat} {C C' C1 C1' : List HC} {k : Int} {L : List Wd} (h : BP f w i C C') (g : Grow C k L C1) (g' : Grow C' k L C1') (hL : ∀ x ∈ L, WOk f w x ∧ Pure x) : BP f w (i + 1) C1 C1' := by
  refine ⟨h.sim.grow g g', ?_, ?_, ?_⟩ <;> unfold Grow at g <;> split at g
  · rename_i h0
    obtain ⟨lo, lc, rfl⟩ := g
    exact h.made.snoc h0
  · subst g
    exact h.made
  · obtain ⟨lo, lc, rfl⟩ := g
    have := h.len
    simp
    omega
  · subst g
    have := h.len
    omega
  · obtain ⟨lo, lc, rfl⟩ := g
    intro c hc
    rw [List.mem_append] at hc
    rcases hc with hc | hc
    · exact h.ok c hc
    · obtain rfl := List.mem_singleton.1 hc
      exact hL
  · subst g
    exact h.ok
/-- what a round reads -/
def BS (b o : Nat) (k : Int) (v : Value) (W : World) : Prop := W.cell? ⟨b, o, none⟩ = some (.int .i8 k) ∧ W.cell? ⟨b, o + 1, none⟩ = some v
theorem BS.keep {b o : Nat} {k : Int} {v : Value} {W W' : World} (h : BS b o k v W) (hb : Below W.heap.size W W') : BS b o k v W' := ⟨keep_cell h.1 hb, keep_cell h.2 hb⟩
/-- behind the first of the round's two -/
def B1 (w : World) (p q : Nat) (v1 v' : Value) (C C1 C' : List HC) (k : Int) (L : List Wd) (X : Nat) (W : World) : Prop :=
  BI w p q v1 v' C1 C' W ∧ Grow C k L C1 ∧ W.heap[X]? = some (Obj.cells (resW C k L) 58 (0, 0))
/-- behind both -/
def B2 (w : World) (p q : Nat) (v1 v1' : Value) (C C' C1 C1' : List HC) (k : Int) (L : List Wd) (X Y : Nat) (W : World) : Prop :=
  BI w p q v1 v1' C1 C1' W ∧ (Grow C k L C1 ∧ Grow C' k L C1') ∧ W.heap[X]? = some (Obj.cells (resW C k L) 58 (0, 0)) ∧ W.heap[Y]? = some (Obj.cells (resW C' k L) 58 (0, 0))
theorem rows_ne {C C1 : List HC} {Wm W' : World} {N X : Nat} (h : ∀ d ∈ C, ∀ j, (Value.slice d.lo d.l.length d.lc).ownBlock = some j → j < N) (hN : N ≤ X) (hl : Left C C1 Wm W') (hX : X < Wm.heap.size) : ∀ d ∈ C1, ∀ j, (Value.slice d.lo d.l.length d.lc).ownBlock = some j → j ≠ X := by
  intro d hd j hj e
  rcases hl.2.2 d hd with h1 | h1
  · have := h d h1 j hj
    omega
  · have := h1 j hj
    omega
theorem crow_lt {W : World} {B : Nat} {v : Value} {C : List HC} (h : CRow W B v C) : ∀ d ∈ C, ∀ j, (Value.slice d.lo d.l.length d.lc).ownBlock = some j → j < W.heap.size := fun d hd => own_lt (h.2 d hd) (Nat.le_refl _)
def BothP (f : Nat) (w : World) (M : List Mk) (e : Ending) (w' : World) : Prop :=
  ∃ p q v v' C C', e = .returned (.tuple #[.pointer (some ⟨p, 0, none⟩), .pointer (some ⟨q, 0, none⟩), .bool true]) ∧ BI w p q v v' C C' w' ∧ BP f w M.length C C'
set_option maxHeartbeats 8000000 in
theorem both_any (w : World) (f : Nat) (M : List Mk) (mo : Option Addr) (mc : Nat) (hL : Cells w 0 letL) (hM : MRow f w mo M) (h1 : M.length ≤ 400) (h3 : ∀ m ∈ M, m.l.length ≤ 400) :
    Calls Tryd.prog 13 #[.slice mo M.length mc] w (BothP f w M) := by
  have HM := Lib.hid hM
  have HL := Lib.hid hL
  have H3 := Lib.hid h3
  clear hM hL h3
  go_enter Tryd.func13, Tryd.ntmps13
  go_wp2_with fail
  refine (new_any _).mono ?_
  rintro e w1 ⟨rfl, hp1, hb1⟩
  have HP1 := Lib.hid hp1
  have HB1 := Lib.hid hb1
  clear hp1 hb1
  go_wp2_with fail
  refine (rnew_any _).mono ?_
  rintro e w2 ⟨rfl, hp2, hb2⟩
  have hsz := HB1.out.size
  have hI : BI w w.heap.size w1.heap.size (.slice none 0 0) (.slice none 0 0) [] [] w2 := ⟨HB1.out.trans (hb2.mono HB1.out.size), HP1.out.keep hb2, hp2, fun j hj => (by cases hj), Nat.le_refl _, hsz⟩
  have HI0 := Lib.hid hI
  clear hp2 hb2 hI HP1 HB1
  generalize w.heap.size = p at *
  generalize w1.heap.size = q at *
  go_wp2_with fail
  go_loopw [18] (fun iv wr => ∃ (i : Nat) (v v' : Value) (C C' : List HC), i ≤ M.length ∧ iv = .int .i64 i ∧ Hid (BI w p q v v' C C' wr ∧ BP f w i C C'))
    (fun iv _ => M.length - (intOf iv).toNat)
  case atStart => exact ⟨0, _, _, [], [], by omega, rfl, Lib.hid ⟨HI0.out, rfl, Made.nil, by simp, by simp⟩⟩
  case round =>
    clear HI0
    obtain ⟨i, v, v', C, C', hi', rfl, HI⟩ := hrel
    by_cases hlt : i < M.length
    · obtain ⟨m, hm⟩ : ∃ m, M[i]? = some m := ⟨M[i], by simp [hlt]⟩
      have hml := H3.out m (List.mem_of_getElem? hm)
      obtain ⟨b, off, rfl, hbl, d0, d1, hwr, hwo⟩ := HM.out i m hm
      have HD : Hid (BS b (off + i * 2) m.k (.slice m.lo m.l.length m.lc) w) := Lib.hid ⟨d0, d1⟩
      have HWR := Lib.hid hwr
      have HWO : Hid (∀ x ∈ m.l.map Wd.w, WOk f w x ∧ Pure x) := Lib.hid (fun x hx => by
        obtain ⟨y, hy, rfl⟩ := List.mem_map.1 hx
        exact ⟨wok_w (hwo y hy), pure_w y⟩)
      clear hwr hwo hm d0 d1
      obtain ⟨mk, mlo, mlc, ml⟩ := m
      dsimp only at hml HD HWR HWO
      have hlm : (ml.map Wd.w).length = ml.length := by simp
      have HMK : Hid (∀ (W : World) (B : Nat) (ao : Option Addr) (cap : Nat), BI w p q v v' C C' W → W.ownsRow B 58 7 (.slice ao ml.length cap) (ml.map Wd.w).length (wcs (ml.map Wd.w)) →
          Calls Tryd.prog 25 #[.pointer (some ⟨p, 0, none⟩), .int .i8 mk, .slice ao ml.length cap] W fun e W' => ∃ v1 C1, e = .returned (.tuple #[.agg (resW C mk (ml.map Wd.w)), .int .i64 (makeN C mk (ml.map Wd.w))]) ∧ BI w p q v1 v' C1 C' W' ∧ Grow C mk (ml.map Wd.w) C1 ∧ Left C C1 W W') := Lib.hid (fun W B ao cap hI hown => by
        have h := BI.make f mk (ml.map Wd.w) ao cap B hI HL.out (by rw [hlm] at hown ⊢; exact hown) (fun x hx => (HWO.out x hx).1) (by omega)
        rw [hlm] at h
        exact h)
      have HRMK : Hid (∀ (v1 : Value) (C1 : List HC) (W : World) (B : Nat) (ao : Option Addr) (cap : Nat), BI w p q v1 v' C1 C' W → W.ownsRow B 58 7 (.slice ao ml.length cap) (ml.map Wd.w).length (wcs (ml.map Wd.w)) →
          Calls Tryd.prog 36 #[.pointer (some ⟨q, 0, none⟩), .int .i8 mk, .slice ao ml.length cap] W fun e W' => ∃ v2 C2, e = .returned (.tuple #[.agg (resW C' mk (ml.map Wd.w)), .int .i64 (makeN C' mk (ml.map Wd.w))]) ∧ BI w p q v1 v2 C1 C2 W' ∧ Grow C' mk (ml.map Wd.w) C2 ∧ Left C' C2 W W') := Lib.hid (fun v1 C1 W B ao cap hI hown => by
        have h := BI.rmake f mk (ml.map Wd.w) ao cap B hI (by rw [hlm] at hown ⊢; exact hown) (fun x hx => (HWO.out x hx).1) (fun x hx => (HWO.out x hx).2) (by omega)
        rw [hlm] at h
        exact h)
      go_wp2_with fail
      go_cut [8, 9, 18] from 18 to 62 (fun xv ev cv wx => cv = .int .i64 i ∧ ∃ (X : Nat) (v1 : Value) (C1 : List HC), xv = .pointer (some ⟨X, 0, none⟩) ∧ ev = .int .i64 (makeN C mk (ml.map Wd.w)) ∧ Hid (B1 w p q v1 v' C C1 C' mk (ml.map Wd.w) X wx))
      case first =>
        have HI5 := Lib.hid (HI.out.1.keep (Below.refl wr.heap.size wr).drew)
        have hS5 : BS b (off + i * 2) mk (.slice mlo ml.length mlc) wr.drew := ⟨keep_cell HD.out.1 (HI5.out.hb), keep_cell HD.out.2 (HI5.out.hb)⟩
        have HWR5 := Lib.hid (HWR.out.keep HI5.out.hb)
        have HR5 := Lib.hid (crow_lt HI5.out.hp.2.2.1)
        have HR5' := Lib.hid (crow_lt HI5.out.hr.2.2.1)
        have hw5 := HI5.out.hb.size
        refine region_planT (BS b (off + i * 2) mk (.slice mlo ml.length mlc)) (.take 0 (.take 1 (.take 2 (.take 3 (.take 4 (.take 5 (.take 6 (.take 7 (.take 8 (.take 9 (.take 10 (.fork 11 (.fork 12 (.take 13 (.take 14 (.take 15 (.run 16 (.run 17 (.take 18 .done)))))) 16 (.run 12 (.take 13 (.take 14 (.take 15 (.run 17 (.take 18 .done))))))) 16 (.run 11 (.run 12 (.take 13 (.take 14 (.take 15 (.run 17 (.take 18 .done))))))))))))))))))) (by kernel_rfl) (by kernel_rfl) (by kernel_rfl) hS5 ?_
        generalize wr.drew = WD at *
        iterate 11 (first | (refine planT_skip rfl ?_ ?_; (focus (rfl)); (try simp only [Act.put, List.setIfInBounds_toArray, List.set_cons_zero, List.set_cons_succ])) | (refine planT_take (v := ?_) rfl ?_ (fun w hSw => ?_) ?_; rotate_left; (focus (rfl)); (focus (unfold BS at hSw; (go_simp <;> with_reducible rfl))); (try simp only [Act.put, List.setIfInBounds_toArray, List.set_cons_zero, List.set_cons_succ])))
        refine planT_fork ?_ ?_
        · skip
          refine planT_run rfl ?_ (fun K hK => ?_)
          focus (rfl)
          go_simp
          refine (words_any WD ml mlo mlc HWR5.out (by omega)).mono ?_
          rintro e W6 ⟨hb6, ao6, cap6, rfl, hown6⟩
          have hS6 := hS5.keep hb6
          refine hK.out _ _ hS6 ?_
          clear hK K 
          (try simp only [Act.put, List.setIfInBounds_toArray, List.set_cons_zero, List.set_cons_succ])
          have hI6 := HI5.out.keep hb6
          have hw6 := hb6.size
          refine planT_fork ?_ ?_
          · skip
            refine planT_run rfl ?_ (fun K hK => ?_)
            focus (rfl)
            go_simp
            refine (HMK.out W6 _ ao6 cap6 hI6 (by rw [List.length_map]; exact hown6)).mono ?_
            rintro e W7 ⟨v7, C7, rfl, hI7, hg7, hl7⟩
            have hS7 : BS b (off + i * 2) mk (.slice mlo ml.length mlc) W7 := ⟨keep_cell HD.out.1 hI7.hb, keep_cell HD.out.2 hI7.hb⟩
            refine hK.out _ _ hS7 ?_
            clear hK K 
            (try simp only [Act.put, List.setIfInBounds_toArray, List.set_cons_zero, List.set_cons_succ])
            iterate 3 (first | (refine planT_skip rfl ?_ ?_; (focus (rfl)); (try simp only [Act.put, List.setIfInBounds_toArray, List.set_cons_zero, List.set_cons_succ])) | (refine planT_take (v := ?_) rfl ?_ (fun w hSw => ?_) ?_; rotate_left; (focus (rfl)); (focus (unfold BS at hSw; (go_simp <;> with_reducible rfl))); (try simp only [Act.put, List.setIfInBounds_toArray, List.set_cons_zero, List.set_cons_succ])))
            have hb8 := (Below.refl W7.heap.size W7).alloc (Nat.le_refl _) (.cells wzC 58)
            have hS8 := hS7.keep hb8
            refine planT_run rfl ?_ (fun K hK => ?_)
            focus (rfl)
            go_simp
            refine hK.out _ _ (hS8) ?_
            clear hK K
            (try simp only [Act.put, List.setIfInBounds_toArray, List.set_cons_zero, List.set_cons_succ])
            have hb9 := (Below.refl W7.heap.size W7).alloc (Nat.le_refl _) (.cells (resW C mk (ml.map Wd.w)) 58)
            have hI9 := hI7.keep hb9
            have hX9 := heap_new W7 (.cells (resW C mk (ml.map Wd.w)) 58)
            have hS9 := hS7.keep hb9
            refine planT_run rfl ?_ (fun K hK => ?_)
            focus (rfl)
            refine wp_store_row 58 (.tmp 8) (.tmp 35) rfl W7.heap.size (resW C mk (ml.map Wd.w)) rfl rfl 58 wzC (heap_new W7 _) (infoWD _ (resW_size _ _ _)) (by rw [resW_size]; rfl) (resW_one _ _ _) ?_
            rw [setRow_alloc]
            refine hK.out _ _ (hS9) ?_
            clear hK K
            (try simp only [Act.put, List.setIfInBounds_toArray, List.set_cons_zero, List.set_cons_succ])
            iterate 1 (first | (refine planT_skip rfl ?_ ?_; (focus (rfl)); (try simp only [Act.put, List.setIfInBounds_toArray, List.set_cons_zero, List.set_cons_succ])) | (refine planT_take (v := ?_) rfl ?_ (fun w hSw => ?_) ?_; rotate_left; (focus (rfl)); (focus (unfold BS at hSw; (go_simp <;> with_reducible rfl))); (try simp only [Act.put, List.setIfInBounds_toArray, List.set_cons_zero, List.set_cons_succ])))
            refine planT_done ?_
            go_wp2_with fail
            go_meet
            exact ⟨rfl, _, _, _, rfl, rfl, Lib.hid ⟨hI9, hg7, hX9⟩⟩
          · skip
            have hb6a := (Below.refl W6.heap.size W6).alloc (Nat.le_refl _) (.cells wzC 58)
            have hS6a := hS6.keep hb6a
            have hz6 := heap_new W6 (.cells wzC 58)
            have hI6a := hI6.keep hb6a
            have hsz6 : (W6.alloc (.cells wzC 58)).heap.size = W6.heap.size + 1 := by simp
            refine planT_run rfl ?_ (fun K hK => ?_)
            focus (rfl)
            go_simp
            refine hK.out _ _ (hS6a) ?_
            clear hK K
            (try simp only [Act.put, List.setIfInBounds_toArray, List.set_cons_zero, List.set_cons_succ])
            refine planT_run rfl ?_ (fun K hK => ?_)
            focus (rfl)
            go_simp
            refine (HMK.out _ _ ao6 cap6 hI6a (by rw [List.length_map]; exact hown6.alloc _)).mono ?_
            rintro e W7 ⟨v7, C7, rfl, hI7, hg7, hl7⟩
            have hS7 : BS b (off + i * 2) mk (.slice mlo ml.length mlc) W7 := ⟨keep_cell HD.out.1 hI7.hb, keep_cell HD.out.2 hI7.hb⟩
            refine hK.out _ _ hS7 ?_
            clear hK K 
            (try simp only [Act.put, List.setIfInBounds_toArray, List.set_cons_zero, List.set_cons_succ])
            have hz7 := hl7.2.1 _ _ hz6
            iterate 3 (first | (refine planT_skip rfl ?_ ?_; (focus (rfl)); (try simp only [Act.put, List.setIfInBounds_toArray, List.set_cons_zero, List.set_cons_succ])) | (refine planT_take (v := ?_) rfl ?_ (fun w hSw => ?_) ?_; rotate_left; (focus (rfl)); (focus (unfold BS at hSw; (go_simp <;> with_reducible rfl))); (try simp only [Act.put, List.setIfInBounds_toArray, List.set_cons_zero, List.set_cons_succ])))
            have hI9 := hI7.box hz7 (by omega) (rows_ne HR5.out hw6 hl7 (by omega)) (fun d hd j hj => by have := HR5'.out d hd j hj; omega) (resW C mk (ml.map Wd.w))
            have hX9 := setRow_heap W7 W6.heap.size _ (resW C mk (ml.map Wd.w)) _ _ hz7
            have hS9 : BS b (off + i * 2) mk (.slice mlo ml.length mlc) (W7.setRow W6.heap.size (resW C mk (ml.map Wd.w))) := ⟨keep_cell HD.out.1 hI9.hb, keep_cell HD.out.2 hI9.hb⟩
            refine planT_run rfl ?_ (fun K hK => ?_)
            focus (rfl)
            refine wp_store_row 58 (.tmp 8) (.tmp 35) rfl W6.heap.size (resW C mk (ml.map Wd.w)) rfl rfl 58 wzC hz7 (infoWD _ (resW_size _ _ _)) (by rw [resW_size]; rfl) (resW_one _ _ _) ?_
            refine hK.out _ _ (hS9) ?_
            clear hK K
            (try simp only [Act.put, List.setIfInBounds_toArray, List.set_cons_zero, List.set_cons_succ])
            iterate 1 (first | (refine planT_skip rfl ?_ ?_; (focus (rfl)); (try simp only [Act.put, List.setIfInBounds_toArray, List.set_cons_zero, List.set_cons_succ])) | (refine planT_take (v := ?_) rfl ?_ (fun w hSw => ?_) ?_; rotate_left; (focus (rfl)); (focus (unfold BS at hSw; (go_simp <;> with_reducible rfl))); (try simp only [Act.put, List.setIfInBounds_toArray, List.set_cons_zero, List.set_cons_succ])))
            refine planT_done ?_
            go_wp2_with fail
            go_meet
            exact ⟨rfl, _, _, _, rfl, rfl, Lib.hid ⟨hI9, hg7, hX9⟩⟩
        · skip
          have hb5a := (Below.refl WD.heap.size WD).alloc (Nat.le_refl _) (.cells wzC 58)
          have hS5a := hS5.keep hb5a
          have hz5 := heap_new WD (.cells wzC 58)
          have hI5a := HI5.out.keep hb5a
          have hsz5 : (WD.alloc (.cells wzC 58)).heap.size = WD.heap.size + 1 := by simp
          have hwr5 := HWR5.out.keep hb5a
          refine planT_run rfl ?_ (fun K hK => ?_)
          focus (rfl)
          go_simp
          refine hK.out _ _ (hS5a) ?_
          clear hK K
          (try simp only [Act.put, List.setIfInBounds_toArray, List.set_cons_zero, List.set_cons_succ])
          refine planT_run rfl ?_ (fun K hK => ?_)
          focus (rfl)
          go_simp
          refine (words_any _ ml mlo mlc hwr5 (by omega)).mono ?_
          rintro e W6 ⟨hb6, ao6, cap6, rfl, hown6⟩
          have hS6 := hS5a.keep hb6
          refine hK.out _ _ hS6 ?_
          clear hK K 
          (try simp only [Act.put, List.setIfInBounds_toArray, List.set_cons_zero, List.set_cons_succ])
          have hI6 := hI5a.keep hb6
          have hz6 := keep_heap hz5 hb6
          have hw6 := hb6.size
          refine planT_run rfl ?_ (fun K hK => ?_)
          focus (rfl)
          go_simp
          refine (HMK.out W6 _ ao6 cap6 hI6 (by rw [List.length_map]; exact hown6)).mono ?_
          rintro e W7 ⟨v7, C7, rfl, hI7, hg7, hl7⟩
          have hS7 : BS b (off + i * 2) mk (.slice mlo ml.length mlc) W7 := ⟨keep_cell HD.out.1 hI7.hb, keep_cell HD.out.2 hI7.hb⟩
          refine hK.out _ _ hS7 ?_
          clear hK K 
          (try simp only [Act.put, List.setIfInBounds_toArray, List.set_cons_zero, List.set_cons_succ])
          have hz7 := hl7.2.1 _ _ hz6
          iterate 3 (first | (refine planT_skip rfl ?_ ?_; (focus (rfl)); (try simp only [Act.put, List.setIfInBounds_toArray, List.set_cons_zero, List.set_cons_succ])) | (refine planT_take (v := ?_) rfl ?_ (fun w hSw => ?_) ?_; rotate_left; (focus (rfl)); (focus (unfold BS at hSw; (go_simp <;> with_reducible rfl))); (try simp only [Act.put, List.setIfInBounds_toArray, List.set_cons_zero, List.set_cons_succ])))
          have hI9 := hI7.box hz7 (by omega) (rows_ne HR5.out (Nat.le_refl _) hl7 (by omega)) (fun d hd j hj => by have := HR5'.out d hd j hj; omega) (resW C mk (ml.map Wd.w))
          have hX9 := setRow_heap W7 WD.heap.size _ (resW C mk (ml.map Wd.w)) _ _ hz7
          have hS9 : BS b (off + i * 2) mk (.slice mlo ml.length mlc) (W7.setRow WD.heap.size (resW C mk (ml.map Wd.w))) := ⟨keep_cell HD.out.1 hI9.hb, keep_cell HD.out.2 hI9.hb⟩
          refine planT_run rfl ?_ (fun K hK => ?_)
          focus (rfl)
          refine wp_store_row 58 (.tmp 8) (.tmp 35) rfl WD.heap.size (resW C mk (ml.map Wd.w)) rfl rfl 58 wzC hz7 (infoWD _ (resW_size _ _ _)) (by rw [resW_size]; rfl) (resW_one _ _ _) ?_
          refine hK.out _ _ (hS9) ?_
          clear hK K
          (try simp only [Act.put, List.setIfInBounds_toArray, List.set_cons_zero, List.set_cons_succ])
          iterate 1 (first | (refine planT_skip rfl ?_ ?_; (focus (rfl)); (try simp only [Act.put, List.setIfInBounds_toArray, List.set_cons_zero, List.set_cons_succ])) | (refine planT_take (v := ?_) rfl ?_ (fun w hSw => ?_) ?_; rotate_left; (focus (rfl)); (focus (unfold BS at hSw; (go_simp <;> with_reducible rfl))); (try simp only [Act.put, List.setIfInBounds_toArray, List.set_cons_zero, List.set_cons_succ])))
          refine planT_done ?_
          go_wp2_with fail
          go_meet
          exact ⟨rfl, _, _, _, rfl, rfl, Lib.hid ⟨hI9, hg7, hX9⟩⟩
      case rest =>
        obtain ⟨rfl, X, v1, C1, rfl, rfl, HBB⟩ := hcut
        go_wp2_with fail
        go_cut [10, 11, 18] from 18 to 62 (fun xv ev cv wx => cv = .int .i64 i ∧ ∃ (Y : Nat) (v2 : Value) (C2 : List HC), xv = .pointer (some ⟨Y, 0, none⟩) ∧ ev = .int .i64 (makeN C' mk (ml.map Wd.w)) ∧ Hid (B2 w p q v1 v2 C C' C1 C2 mk (ml.map Wd.w) X Y wx))
        case first =>
          have HI5 := Lib.hid (HBB.out.1.keep (Below.refl wc.heap.size wc).drew)
          have HXX := Lib.hid (keep_heap HBB.out.2.2 (Below.refl wc.heap.size wc).drew)
          have hXl := heap_lt HXX.out
          have hS5 : BS b (off + i * 2) mk (.slice mlo ml.length mlc) wc.drew := ⟨keep_cell HD.out.1 (HI5.out.hb), keep_cell HD.out.2 (HI5.out.hb)⟩
          have HWR5 := Lib.hid (HWR.out.keep HI5.out.hb)
          have HR5 := Lib.hid (crow_lt HI5.out.hp.2.2.1)
          have HR5' := Lib.hid (crow_lt HI5.out.hr.2.2.1)
          have hw5 := HI5.out.hb.size
          refine region_planT (BS b (off + i * 2) mk (.slice mlo ml.length mlc)) (.take 0 (.take 1 (.take 2 (.take 3 (.take 4 (.take 5 (.take 6 (.take 7 (.take 8 (.take 9 (.take 10 (.fork 11 (.fork 12 (.take 13 (.take 14 (.take 15 (.run 16 (.run 17 (.take 18 .done)))))) 16 (.run 12 (.take 13 (.take 14 (.take 15 (.run 17 (.take 18 .done))))))) 16 (.run 11 (.run 12 (.take 13 (.take 14 (.take 15 (.run 17 (.take 18 .done))))))))))))))))))) (by kernel_rfl) (by kernel_rfl) (by kernel_rfl) hS5 ?_
          generalize wc.drew = WD at *
          iterate 11 (first | (refine planT_skip rfl ?_ ?_; (focus (rfl)); (try simp only [Act.put, List.setIfInBounds_toArray, List.set_cons_zero, List.set_cons_succ])) | (refine planT_take (v := ?_) rfl ?_ (fun w hSw => ?_) ?_; rotate_left; (focus (rfl)); (focus (unfold BS at hSw; (go_simp <;> with_reducible rfl))); (try simp only [Act.put, List.setIfInBounds_toArray, List.set_cons_zero, List.set_cons_succ])))
          refine planT_fork ?_ ?_
          · skip
            refine planT_run rfl ?_ (fun K hK => ?_)
            focus (rfl)
            go_simp
            refine (words_any WD ml mlo mlc HWR5.out (by omega)).mono ?_
            rintro e W6 ⟨hb6, ao6, cap6, rfl, hown6⟩
            have hS6 := hS5.keep hb6
            refine hK.out _ _ hS6 ?_
            clear hK K 
            (try simp only [Act.put, List.setIfInBounds_toArray, List.set_cons_zero, List.set_cons_succ])
            have hI6 := HI5.out.keep hb6
            have hw6 := hb6.size
            refine planT_fork ?_ ?_
            · skip
              refine planT_run rfl ?_ (fun K hK => ?_)
              focus (rfl)
              go_simp
              refine (HRMK.out v1 C1 W6 _ ao6 cap6 hI6 (by rw [List.length_map]; exact hown6)).mono ?_
              rintro e W7 ⟨v7, C7, rfl, hI7, hg7, hl7⟩
              have hS7 : BS b (off + i * 2) mk (.slice mlo ml.length mlc) W7 := ⟨keep_cell HD.out.1 hI7.hb, keep_cell HD.out.2 hI7.hb⟩
              refine hK.out _ _ hS7 ?_
              clear hK K 
              (try simp only [Act.put, List.setIfInBounds_toArray, List.set_cons_zero, List.set_cons_succ])
              iterate 3 (first | (refine planT_skip rfl ?_ ?_; (focus (rfl)); (try simp only [Act.put, List.setIfInBounds_toArray, List.set_cons_zero, List.set_cons_succ])) | (refine planT_take (v := ?_) rfl ?_ (fun w hSw => ?_) ?_; rotate_left; (focus (rfl)); (focus (unfold BS at hSw; (go_simp <;> with_reducible rfl))); (try simp only [Act.put, List.setIfInBounds_toArray, List.set_cons_zero, List.set_cons_succ])))
              have hb8 := (Below.refl W7.heap.size W7).alloc (Nat.le_refl _) (.cells wzC 58)
              have hS8 := hS7.keep hb8
              refine planT_run rfl ?_ (fun K hK => ?_)
              focus (rfl)
              go_simp
              refine hK.out _ _ (hS8) ?_
              clear hK K
              (try simp only [Act.put, List.setIfInBounds_toArray, List.set_cons_zero, List.set_cons_succ])
              have hb9 := (Below.refl W7.heap.size W7).alloc (Nat.le_refl _) (.cells (resW C' mk (ml.map Wd.w)) 58)
              have hI9 := hI7.keep hb9
              have hX9 := heap_new W7 (.cells (resW C' mk (ml.map Wd.w)) 58)
              have hS9 := hS7.keep hb9
              refine planT_run rfl ?_ (fun K hK => ?_)
              focus (rfl)
              refine wp_store_row 58 (.tmp 10) (.tmp 51) rfl W7.heap.size (resW C' mk (ml.map Wd.w)) rfl rfl 58 wzC (heap_new W7 _) (infoWD _ (resW_size _ _ _)) (by rw [resW_size]; rfl) (resW_one _ _ _) ?_
              rw [setRow_alloc]
              refine hK.out _ _ (hS9) ?_
              clear hK K
              (try simp only [Act.put, List.setIfInBounds_toArray, List.set_cons_zero, List.set_cons_succ])
              iterate 1 (first | (refine planT_skip rfl ?_ ?_; (focus (rfl)); (try simp only [Act.put, List.setIfInBounds_toArray, List.set_cons_zero, List.set_cons_succ])) | (refine planT_take (v := ?_) rfl ?_ (fun w hSw => ?_) ?_; rotate_left; (focus (rfl)); (focus (unfold BS at hSw; (go_simp <;> with_reducible rfl))); (try simp only [Act.put, List.setIfInBounds_toArray, List.set_cons_zero, List.set_cons_succ])))
              refine planT_done ?_
              go_wp2_with fail
              go_meet
              exact ⟨rfl, _, _, _, rfl, rfl, Lib.hid ⟨hI9, ⟨HBB.out.2.1, hg7⟩, keep_heap (hl7.2.1 _ _ (keep_heap HXX.out hb6)) hb9, hX9⟩⟩
            · skip
              have hb6a := (Below.refl W6.heap.size W6).alloc (Nat.le_refl _) (.cells wzC 58)
              have hS6a := hS6.keep hb6a
              have hz6 := heap_new W6 (.cells wzC 58)
              have hI6a := hI6.keep hb6a
              have hsz6 : (W6.alloc (.cells wzC 58)).heap.size = W6.heap.size + 1 := by simp
              refine planT_run rfl ?_ (fun K hK => ?_)
              focus (rfl)
              go_simp
              refine hK.out _ _ (hS6a) ?_
              clear hK K
              (try simp only [Act.put, List.setIfInBounds_toArray, List.set_cons_zero, List.set_cons_succ])
              refine planT_run rfl ?_ (fun K hK => ?_)
              focus (rfl)
              go_simp
              refine (HRMK.out v1 C1 _ _ ao6 cap6 hI6a (by rw [List.length_map]; exact hown6.alloc _)).mono ?_
              rintro e W7 ⟨v7, C7, rfl, hI7, hg7, hl7⟩
              have hS7 : BS b (off + i * 2) mk (.slice mlo ml.length mlc) W7 := ⟨keep_cell HD.out.1 hI7.hb, keep_cell HD.out.2 hI7.hb⟩
              refine hK.out _ _ hS7 ?_
              clear hK K 
              (try simp only [Act.put, List.setIfInBounds_toArray, List.set_cons_zero, List.set_cons_succ])
              have hz7 := hl7.2.1 _ _ hz6
              iterate 3 (first | (refine planT_skip rfl ?_ ?_; (focus (rfl)); (try simp only [Act.put, List.setIfInBounds_toArray, List.set_cons_zero, List.set_cons_succ])) | (refine planT_take (v := ?_) rfl ?_ (fun w hSw => ?_) ?_; rotate_left; (focus (rfl)); (focus (unfold BS at hSw; (go_simp <;> with_reducible rfl))); (try simp only [Act.put, List.setIfInBounds_toArray, List.set_cons_zero, List.set_cons_succ])))
              have hI9 := hI7.box hz7 (by omega) (fun d hd j hj => by have := HR5.out d hd j hj; omega) (rows_ne HR5'.out hw6 hl7 (by omega)) (resW C' mk (ml.map Wd.w))
              have hX9 := setRow_heap W7 W6.heap.size _ (resW C' mk (ml.map Wd.w)) _ _ hz7
              have hS9 : BS b (off + i * 2) mk (.slice mlo ml.length mlc) (W7.setRow W6.heap.size (resW C' mk (ml.map Wd.w))) := ⟨keep_cell HD.out.1 hI9.hb, keep_cell HD.out.2 hI9.hb⟩
              refine planT_run rfl ?_ (fun K hK => ?_)
              focus (rfl)
              refine wp_store_row 58 (.tmp 10) (.tmp 51) rfl W6.heap.size (resW C' mk (ml.map Wd.w)) rfl rfl 58 wzC hz7 (infoWD _ (resW_size _ _ _)) (by rw [resW_size]; rfl) (resW_one _ _ _) ?_
              refine hK.out _ _ (hS9) ?_
              clear hK K
              (try simp only [Act.put, List.setIfInBounds_toArray, List.set_cons_zero, List.set_cons_succ])
              iterate 1 (first | (refine planT_skip rfl ?_ ?_; (focus (rfl)); (try simp only [Act.put, List.setIfInBounds_toArray, List.set_cons_zero, List.set_cons_succ])) | (refine planT_take (v := ?_) rfl ?_ (fun w hSw => ?_) ?_; rotate_left; (focus (rfl)); (focus (unfold BS at hSw; (go_simp <;> with_reducible rfl))); (try simp only [Act.put, List.setIfInBounds_toArray, List.set_cons_zero, List.set_cons_succ])))
              refine planT_done ?_
              go_wp2_with fail
              go_meet
              exact ⟨rfl, _, _, _, rfl, rfl, Lib.hid ⟨hI9, ⟨HBB.out.2.1, hg7⟩, (chg_setRow W7 W6.heap.size _).heap (hl7.2.1 _ _ (keep_heap (keep_heap HXX.out hb6) ((Below.refl W6.heap.size W6).alloc (Nat.le_refl _) _))) (fun e => by have e : X = W6.heap.size := e; omega), hX9⟩⟩
          · skip
            have hb5a := (Below.refl WD.heap.size WD).alloc (Nat.le_refl _) (.cells wzC 58)
            have hS5a := hS5.keep hb5a
            have hz5 := heap_new WD (.cells wzC 58)
            have hI5a := HI5.out.keep hb5a
            have hsz5 : (WD.alloc (.cells wzC 58)).heap.size = WD.heap.size + 1 := by simp
            have hwr5 := HWR5.out.keep hb5a
            refine planT_run rfl ?_ (fun K hK => ?_)
            focus (rfl)
            go_simp
            refine hK.out _ _ (hS5a) ?_
            clear hK K
            (try simp only [Act.put, List.setIfInBounds_toArray, List.set_cons_zero, List.set_cons_succ])
            refine planT_run rfl ?_ (fun K hK => ?_)
            focus (rfl)
            go_simp
            refine (words_any _ ml mlo mlc hwr5 (by omega)).mono ?_
            rintro e W6 ⟨hb6, ao6, cap6, rfl, hown6⟩
            have hS6 := hS5a.keep hb6
            refine hK.out _ _ hS6 ?_
            clear hK K 
            (try simp only [Act.put, List.setIfInBounds_toArray, List.set_cons_zero, List.set_cons_succ])
            have hI6 := hI5a.keep hb6
            have hz6 := keep_heap hz5 hb6
            have hw6 := hb6.size
            refine planT_run rfl ?_ (fun K hK => ?_)
            focus (rfl)
            go_simp
            refine (HRMK.out v1 C1 W6 _ ao6 cap6 hI6 (by rw [List.length_map]; exact hown6)).mono ?_
            rintro e W7 ⟨v7, C7, rfl, hI7, hg7, hl7⟩
            have hS7 : BS b (off + i * 2) mk (.slice mlo ml.length mlc) W7 := ⟨keep_cell HD.out.1 hI7.hb, keep_cell HD.out.2 hI7.hb⟩
            refine hK.out _ _ hS7 ?_
            clear hK K 
            (try simp only [Act.put, List.setIfInBounds_toArray, List.set_cons_zero, List.set_cons_succ])
            have hz7 := hl7.2.1 _ _ hz6
            iterate 3 (first | (refine planT_skip rfl ?_ ?_; (focus (rfl)); (try simp only [Act.put, List.setIfInBounds_toArray, List.set_cons_zero, List.set_cons_succ])) | (refine planT_take (v := ?_) rfl ?_ (fun w hSw => ?_) ?_; rotate_left; (focus (rfl)); (focus (unfold BS at hSw; (go_simp <;> with_reducible rfl))); (try simp only [Act.put, List.setIfInBounds_toArray, List.set_cons_zero, List.set_cons_succ])))
            have hI9 := hI7.box hz7 (by omega) (fun d hd j hj => by have := HR5.out d hd j hj; omega) (rows_ne HR5'.out (Nat.le_refl _) hl7 (by omega)) (resW C' mk (ml.map Wd.w))
            have hX9 := setRow_heap W7 WD.heap.size _ (resW C' mk (ml.map Wd.w)) _ _ hz7
            have hS9 : BS b (off + i * 2) mk (.slice mlo ml.length mlc) (W7.setRow WD.heap.size (resW C' mk (ml.map Wd.w))) := ⟨keep_cell HD.out.1 hI9.hb, keep_cell HD.out.2 hI9.hb⟩
            refine planT_run rfl ?_ (fun K hK => ?_)
            focus (rfl)
            refine wp_store_row 58 (.tmp 10) (.tmp 51) rfl WD.heap.size (resW C' mk (ml.map Wd.w)) rfl rfl 58 wzC hz7 (infoWD _ (resW_size _ _ _)) (by rw [resW_size]; rfl) (resW_one _ _ _) ?_
            refine hK.out _ _ (hS9) ?_
            clear hK K
            (try simp only [Act.put, List.setIfInBounds_toArray, List.set_cons_zero, List.set_cons_succ])
            iterate 1 (first | (refine planT_skip rfl ?_ ?_; (focus (rfl)); (try simp only [Act.put, List.setIfInBounds_toArray, List.set_cons_zero, List.set_cons_succ])) | (refine planT_take (v := ?_) rfl ?_ (fun w hSw => ?_) ?_; rotate_left; (focus (rfl)); (focus (unfold BS at hSw; (go_simp <;> with_reducible rfl))); (try simp only [Act.put, List.setIfInBounds_toArray, List.set_cons_zero, List.set_cons_succ])))
            refine planT_done ?_
            go_wp2_with fail
            go_meet
            exact ⟨rfl, _, _, _, rfl, rfl, Lib.hid ⟨hI9, ⟨HBB.out.2.1, hg7⟩, (chg_setRow W7 WD.heap.size _).heap (hl7.2.1 _ _ (keep_heap (keep_heap HXX.out hb5a) hb6)) (fun e => by have e : X = WD.heap.size := e; omega), hX9⟩⟩
        case rest =>
          obtain ⟨rfl, Y, v2, C2, rfl, rfl, HBC⟩ := hcut
          have hsim := HI.out.2.sim
          rw [hsim.make]
          have hX := HBC.out.2.2.1
          have hY := HBC.out.2.2.2
          rw [hsim.res] at hY
          have HN : Hid (BI w p q v1 v2 C1 C2 wc ∧ BP f w (i + 1) C1 C2) := Lib.hid ⟨HBC.out.1, HI.out.2.next HBC.out.2.1.1 HBC.out.2.1.2 HWO.out⟩
          have hne : (makeN C mk (ml.map Wd.w) != makeN C mk (ml.map Wd.w)) = false := by simp
          have hrs : resW C mk (ml.map Wd.w) = wcC C.length ∨ resW C mk (ml.map Wd.w) = wzC := by unfold resW; split <;> simp
          clear HBC HBB HMK HRMK HI hsim
          generalize makeN C mk (ml.map Wd.w) = e0 at *
          have HSA := Lib.hid (sameword_cell wc C.length)
          have HSB := Lib.hid (sameword_zero wc)
          simp only [wcC] at HSA
          rcases hrs with hrs | hrs
          · rw [hrs] at hX hY
            have HXX := Lib.hid hX
            obtain ⟨x0, x0f⟩ := cells_at hX 0 _ rfl
            obtain ⟨x1, x1f⟩ := cells_at hX 1 _ rfl
            obtain ⟨x2, x2f⟩ := cells_at hX 2 _ rfl
            obtain ⟨x3, x3f⟩ := cells_at hX 3 _ rfl
            obtain ⟨x4, x4f⟩ := cells_at hX 4 _ rfl
            obtain ⟨x5, x5f⟩ := cells_at hX 5 _ rfl
            obtain ⟨x6, x6f⟩ := cells_at hX 6 _ rfl
            obtain ⟨y0, y0f⟩ := cells_at hY 0 _ rfl
            obtain ⟨y1, y1f⟩ := cells_at hY 1 _ rfl
            obtain ⟨y2, y2f⟩ := cells_at hY 2 _ rfl
            obtain ⟨y3, y3f⟩ := cells_at hY 3 _ rfl
            obtain ⟨y4, y4f⟩ := cells_at hY 4 _ rfl
            obtain ⟨y5, y5f⟩ := cells_at hY 5 _ rfl
            obtain ⟨y6, y6f⟩ := cells_at hY 6 _ rfl
            clear hX hY x0f x1f x2f x3f x4f x5f x6f y0f y1f y2f y3f y4f y5f y6f hrs
            go_wp2_with fail
            refine HSA.out.mono ?_
            rintro e w9 ⟨rfl, hb9⟩
            have HFIN : Hid (BI w p q v1 v2 C1 C2 w9 ∧ BP f w (i + 1) C1 C2) := Lib.hid ⟨HN.out.1.keep hb9, HN.out.2⟩
            clear hb9 x0 x1 x2 x3 x4 x5 x6 y0 y1 y2 y3 y4 y5 y6
            go_wp2_with fail
            go_roundw
            case rel => exact ⟨i + 1, v1, v2, C1, C2, by omega, by go_num, HFIN⟩
            case measure => simp [intOf]; omega
          · rw [hrs] at hX hY
            obtain ⟨x0, x0f⟩ := cells_at hX 0 _ rfl
            obtain ⟨x1, x1f⟩ := cells_at hX 1 _ rfl
            obtain ⟨x2, x2f⟩ := cells_at hX 2 _ rfl
            obtain ⟨x3, x3f⟩ := cells_at hX 3 _ rfl
            obtain ⟨x4, x4f⟩ := cells_at hX 4 _ rfl
            obtain ⟨x5, x5f⟩ := cells_at hX 5 _ rfl
            obtain ⟨x6, x6f⟩ := cells_at hX 6 _ rfl
            obtain ⟨y0, y0f⟩ := cells_at hY 0 _ rfl
            obtain ⟨y1, y1f⟩ := cells_at hY 1 _ rfl
            obtain ⟨y2, y2f⟩ := cells_at hY 2 _ rfl
            obtain ⟨y3, y3f⟩ := cells_at hY 3 _ rfl
            obtain ⟨y4, y4f⟩ := cells_at hY 4 _ rfl
            obtain ⟨y5, y5f⟩ := cells_at hY 5 _ rfl
            obtain ⟨y6, y6f⟩ := cells_at hY 6 _ rfl
            clear hX hY x0f x1f x2f x3f x4f x5f x6f y0f y1f y2f y3f y4f y5f y6f hrs
            go_wp2_with fail
            refine HSB.out.mono ?_
            rintro e w9 ⟨rfl, hb9⟩
            have HFIN : Hid (BI w p q v1 v2 C1 C2 w9 ∧ BP f w (i + 1) C1 C2) := Lib.hid ⟨HN.out.1.keep hb9, HN.out.2⟩
            clear hb9 x0 x1 x2 x3 x4 x5 x6 y0 y1 y2 y3 y4 y5 y6
            go_wp2_with fail
            go_roundw
            case rel => exact ⟨i + 1, v1, v2, C1, C2, by omega, by go_num, HFIN⟩
            case measure => simp [intOf]; omega
    · obtain rfl : i = M.length := by omega
      go_wp2_with fail
      go_ret3
      exact ⟨p, q, v, v', C, C', rfl, HI.out.1, HI.out.2⟩
end Go.Proofs.YtfbohajojaaiaaaDoor
