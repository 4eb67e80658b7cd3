/- the law's both. Conditions: the table of letters reads as laid; what comes reads. -/
/- the law CollectMore, walked. Conditions: the table of letters reads as laid; what comes reads. -/
import Derived.Test.YtfbohajojaaiaaaDoorHz
import Derived.Test.YtfbohajojaaiaaaDoorHl
import Derived.Test.YtfbohajojaaiaaaDoorKu
import Derived.Deep.CutRange
import Derived.Test.YtfbohajojaaiaaaDoorHr
import Derived.Test.YtfbohajojaaiaaaDoorHu
import Derived.Test.YtfbohajojaaiaaaDoorLt
namespace Go.Proofs.YtfbohajojaaiaaaDoor
open Go.ChangeShapes Go.WideShapes Go.ChangeAt Go.RowKit
set_option linter.unusedVariables false
set_option maxRecDepth 100000
theorem wok_w {f : Nat} {w : World} {x : Wd} (h : WOk f w x) : WOk f w x.w := by
  unfold Wd.w
  split
  · exact ⟨h.1, ⟨by simp, by simp, Nat.zero_le _, Nat.zero_le _⟩, none, 0, rfl, by simp, by omega, fun i t h => by simp at h⟩
  · exact ⟨by simp, h.2.1, h.2.2⟩
theorem pure_w (x : Wd) : Pure x.w := by
  unfold Wd.w Pure
  cases x.c <;> simp
/-- what is plain of both heaps -/
structure BP (f : Nat) (w : World) (i : Nat) (C C' : List HC) : Prop where
  sim : Sim C C'
  made : Made C
  len : C.length ≤ i
  ok : ∀ c ∈ C, ∀ x ∈ c.l, WOk f w x ∧ Pure x
theorem BP.next {f : Nat} {w : World} {i : Nat} {C C' C1 C1' : List HC} {k : Int} {L : List Wd} (h : BP f w i C C') (g : Grow C k L C1) (g' : Grow C' k L C1') (hL : ∀ x ∈ L, WOk f w x ∧ Pure x) : BP f w (i + 1) C1 C1' := by
  refine ⟨h.sim.grow g g', ?_, ?_, ?_⟩ <;> unfold Grow at g <;> split at g
  · rename_i h0
    obtain ⟨lo, lc, rfl⟩ := g
    exact h.made.snoc h0
  · subst g
    exact h.made
  · obtain ⟨lo, lc, rfl⟩ := g
    have := h.len
    simp
    omega
  · subst g
    have := h.len
    omega
  · obtain ⟨lo, lc, rfl⟩ := g
    intro c hc
    rw [List.mem_append] at hc
    rcases hc with hc | hc
    · exact h.ok c hc
    · obtain rfl := List.mem_singleton.1 hc
      exact hL
  · subst g
    exact h.ok
/-- what a round reads -/
def BS (b o : Nat) (k : Int) (v : Value) (W : World) : Prop := W.cell? ⟨b, o, none⟩ = some (.int .i8 k) ∧ W.cell? ⟨b, o + 1, none⟩ = some v
theorem BS.keep {b o : Nat} {k : Int} {v : Value} {W W' : World} (h : BS b o k v W) (hb : Below W.heap.size W W') : BS b o k v W' := ⟨keep_cell h.1 hb, keep_cell h.2 hb⟩
/-- behind the first of the round's two -/
def B1 (w : World) (p q : Nat) (v1 v' : Value) (C C1 C' : List HC) (k : Int) (L : List Wd) (X : Nat) (W : World) : Prop :=
  BI w p q v1 v' C1 C' W ∧ Grow C k L C1 ∧ W.heap[X]? = some (Obj.cells (resW C k L) 58 (0, 0))
/-- behind both -/
def B2 (w : World) (p q : Nat) (v1 v1' : Value) (C C' C1 C1' : List HC) (k : Int) (L : List Wd) (X Y : Nat) (W : World) : Prop :=
  BI w p q v1 v1' C1 C1' W ∧ (Grow C k L C1 ∧ Grow C' k L C1') ∧ W.heap[X]? = some (Obj.cells (resW C k L) 58 (0, 0)) ∧ W.heap[Y]? = some (Obj.cells (resW C' k L) 58 (0, 0))
theorem rows_ne {C C1 : List HC} {Wm W' : World} {N X : Nat} (h : ∀ d ∈ C, ∀ j, (Value.slice d.lo d.l.length d.lc).ownBlock = some j → j < N) (hN : N ≤ X) (hl : Left C C1 Wm W') (hX : X < Wm.heap.size) : ∀ d ∈ C1, ∀ j, (Value.slice d.lo d.l.length d.lc).ownBlock = some j → j ≠ X := by
  intro d hd j hj e
  rcases hl.2.2 d hd with h1 | h1
  · have := h d h1 j hj
    omega
  · have := h1 j hj
    omega
theorem crow_lt {W : World} {B : Nat} {v : Value} {C : List HC} (h : CRow W B v C) : ∀ d ∈ C, ∀ j, (Value.slice d.lo d.l.length d.lc).ownBlock = some j → j < W.heap.size := fun d hd => own_lt (h.2 d hd) (Nat.le_refl _)
def BothP (f : Nat) (w : World) (M : List Mk) (e : Ending) (w' : World) : Prop :=
  ∃ p q v v' C C', e = .returned (.tuple #[.pointer (some ⟨p, 0, none⟩), .pointer (some ⟨q, 0, none⟩), .bool true]) ∧ BI w p q v v' C C' w' ∧ BP f w M.length C C'
set_option maxHeartbeats 8000000 in
theorem both_any (w : World) (f : Nat) (M : List Mk) (mo : Option Addr) (mc : Nat) (hL : Cells w 0 letL) (hM : MRow f w mo M) (h1 : M.length ≤ 400) (h3 : ∀ m ∈ M, m.l.length ≤ 400) :
    Calls Tryd.prog 13 #[.slice mo M.length mc] w (BothP f w M) := by
  have HM := Lib.hid hM
  have HL := Lib.hid hL
  have H3 := Lib.hid h3
  clear hM hL h3
  go_enter Tryd.func13, Tryd.ntmps13
  go_wp2_with fail
  refine (new_any _).mono ?_
  rintro e w1 ⟨rfl, hp1, hb1⟩
  have HP1 := Lib.hid hp1
  have HB1 := Lib.hid hb1
  clear hp1 hb1
  go_wp2_with fail
  refine (rnew_any _).mono ?_
  rintro e w2 ⟨rfl, hp2, hb2⟩
  have hsz := HB1.out.size
  have hI : BI w w.heap.size w1.heap.size (.slice none 0 0) (.slice none 0 0) [] [] w2 := ⟨HB1.out.trans (hb2.mono HB1.out.size), HP1.out.keep hb2, hp2, fun j hj => (by cases hj), Nat.le_refl _, hsz⟩
  have HI0 := Lib.hid hI
  clear hp2 hb2 hI HP1 HB1
  generalize w.heap.size = p at *
  generalize w1.heap.size = q at *
  go_wp2_with fail
  go_loopw [18] (fun iv wr => ∃ (i : Nat) (v v' : Value) (C C' : List HC), i ≤ M.length ∧ iv = .int .i64 i ∧ Hid (BI w p q v v' C C' wr ∧ BP f w i C C'))
    (fun iv _ => M.length - (intOf iv).toNat)
  case atStart => exact ⟨0, _, _, [], [], by omega, rfl, Lib.hid ⟨HI0.out, rfl, Made.nil, by simp, by simp⟩⟩
  case round =>
    clear HI0
    obtain ⟨i, v, v', C, C', hi', rfl, HI⟩ := hrel
    by_cases hlt : i < M.length
    · obtain ⟨m, hm⟩ : ∃ m, M[i]? = some m := ⟨M[i], by simp [hlt]⟩
      have hml := H3.out m (List.mem_of_getElem? hm)
      obtain ⟨b, off, rfl, hbl, d0, d1, hwr, hwo⟩ := HM.out i m hm
      have HD : Hid (BS b (off + i * 2) m.k (.slice m.lo m.l.length m.lc) w) := Lib.hid ⟨d0, d1⟩
      have HWR := Lib.hid hwr
      have HWO : Hid (∀ x ∈ m.l.map Wd.w, WOk f w x ∧ Pure x) := Lib.hid (fun x hx => by
        obtain ⟨y, hy, rfl⟩ := List.mem_map.1 hx
        exact ⟨wok_w (hwo y hy), pure_w y⟩)
      clear hwr hwo hm d0 d1
      obtain ⟨mk, mlo, mlc, ml⟩ := m
      dsimp only at hml HD HWR HWO
      have hlm : (ml.map Wd.w).length = ml.length := by simp
      have HMK : Hid (∀ (W : World) (B : Nat) (ao : Option Addr) (cap : Nat), BI w p q v v' C C' W → W.ownsRow B 58 7 (.slice ao ml.length cap) (ml.map Wd.w).length (wcs (ml.map Wd.w)) →
          Calls Tryd.prog 25 #[.pointer (some ⟨p, 0, none⟩), .int .i8 mk, .slice ao ml.length cap] W fun e W' => ∃ v1 C1, e = .returned (.tuple #[.agg (resW C mk (ml.map Wd.w)), .int .i64 (makeN C mk (ml.map Wd.w))]) ∧ BI w p q v1 v' C1 C' W' ∧ Grow C mk (ml.map Wd.w) C1 ∧ Left C C1 W W') := Lib.hid (fun W B ao cap hI hown => by
        have h := BI.make f mk (ml.map Wd.w) ao cap B hI HL.out (by rw [hlm] at hown ⊢; exact hown) (fun x hx => (HWO.out x hx).1) (by omega)
        rw [hlm] at h
        exact h)
      have HRMK : Hid (∀ (v1 : Value) (C1 : List HC) (W : World) (B : Nat) (ao : Option Addr) (cap : Nat), BI w p q v1 v' C1 C' W → W.ownsRow B 58 7 (.slice ao ml.length cap) (ml.map Wd.w).length (wcs (ml.map Wd.w)) →
          Calls Tryd.prog 36 #[.pointer (some ⟨q, 0, none⟩), .int .i8 mk, .slice ao ml.length cap] W fun e W' => ∃ v2 C2, e = .returned (.tuple #[.agg (resW C' mk (ml.map Wd.w)), .int .i64 (makeN C' mk (ml.map Wd.w))]) ∧ BI w p q v1 v2 C1 C2 W' ∧ Grow C' mk (ml.map Wd.w) C2 ∧ Left C' C2 W W') := Lib.hid (fun v1 C1 W B ao cap hI hown => by
        have h := BI.rmake f mk (ml.map Wd.w) ao cap B hI (by rw [hlm] at hown ⊢; exact hown) (fun x hx => (HWO.out x hx).1) (fun x hx => (HWO.out x hx).2) (by omega)
        rw [hlm] at h
        exact h)
      go_wp2_with fail
      go_cut [8, 9, 18] from 18 to 62 (fun xv ev cv wx => cv = .int .i64 i ∧ ∃ (X : Nat) (v1 : Value) (C1 : List HC), xv = .pointer (some ⟨X, 0, none⟩) ∧ ev = .int .i64 (makeN C mk (ml.map Wd.w)) ∧ Hid (B1 w p q v1 v' C C1 C' mk (ml.map Wd.w) X wx))
      case first =>
        have HI5 := Lib.hid (HI.out.1.keep (Below.refl wr.heap.size wr).drew)
        have hS5 : BS b (off + i * 2) mk (.slice mlo ml.length mlc) wr.drew := ⟨keep_cell HD.out.1 (HI5.out.hb), keep_cell HD.out.2 (HI5.out.hb)⟩
        have HWR5 := Lib.hid (HWR.out.keep HI5.out.hb)
        have HR5 := Lib.hid (crow_lt HI5.out.hp.2.2.1)
        have HR5' := Lib.hid (crow_lt HI5.out.hr.2.2.1)
        have hw5 := HI5.out.hb.size
        refine region_planT (BS b (off + i * 2) mk (.slice mlo ml.length mlc)) (.take 0 (.take 1 (.take 2 (.take 3 (.take 4 (.take 5 (.take 6 (.take 7 (.take 8 (.take 9 (.take 10 (.fork 11 (.fork 12 (.take 13 (.take 14 (.take 15 (.run 16 (.run 17 (.take 18 .done)))))) 16 (.run 12 (.take 13 (.take 14 (.take 15 (.run 17 (.take 18 .done))))))) 16 (.run 11 (.run 12 (.take 13 (.take 14 (.take 15 (.run 17 (.take 18 .done))))))))))))))))))) (by kernel_rfl) (by kernel_rfl) (by kernel_rfl) hS5 ?_
        generalize wr.drew = WD at *
        iterate 11 (first | (refine planT_skip rfl ?_ ?_; (focus (rfl)); (try simp only [Act.put, List.setIfInBounds_toArray, List.set_cons_zero, List.set_cons_succ])) | (refine planT_take (v := ?_) rfl ?_ (fun w hSw => ?_) ?_; rotate_left; (focus (rfl)); (focus (unfold BS at hSw; (go_simp <;> with_reducible rfl))); (try simp only [Act.put, List.setIfInBounds_toArray, List.set_cons_zero, List.set_cons_succ])))
        refine planT_fork ?_ ?_
        · skip
          refine planT_run rfl ?_ (fun K hK => ?_)
          focus (rfl)
          go_simp
          refine (words_any WD ml mlo mlc HWR5.out (by omega)).mono ?_
          rintro e W6 ⟨hb6, ao6, cap6, rfl, hown6⟩
          have hS6 := hS5.keep hb6
          refine hK.out _ _ hS6 ?_
          clear hK K 
          (try simp only [Act.put, List.setIfInBounds_toArray, List.set_cons_zero, List.set_cons_succ])
          have hI6 := HI5.out.keep hb6
          have hw6 := hb6.size
          refine planT_fork ?_ ?_
          · skip
            refine planT_run rfl ?_ (fun K hK => ?_)
            focus (rfl)
            go_simp
            refine (HMK.out W6 _ ao6 cap6 hI6 (by rw [List.length_map]; exact hown6)).mono ?_
            rintro e W7 ⟨v7, C7, rfl, hI7, hg7, hl7⟩
            have hS7 : BS b (off + i * 2) mk (.slice mlo ml.length mlc) W7 := ⟨keep_cell HD.out.1 hI7.hb, keep_cell HD.out.2 hI7.hb⟩
            refine hK.out _ _ hS7 ?_
            clear hK K 
            (try simp only [Act.put, List.setIfInBounds_toArray, List.set_cons_zero, List.set_cons_succ])
            iterate 3 (first | (refine planT_skip rfl ?_ ?_; (focus (rfl)); (try simp only [Act.put, List.setIfInBounds_toArray, List.set_cons_zero, List.set_cons_succ])) | (refine planT_take (v := ?_) rfl ?_ (fun w hSw => ?_) ?_; rotate_left; (focus (rfl)); (focus (unfold BS at hSw; (go_simp <;> with_reducible rfl))); (try simp only [Act.put, List.setIfInBounds_toArray, List.set_cons_zero, List.set_cons_succ])))
            have hb8 := (Below.refl W7.heap.size W7).alloc (Nat.le_refl _) (.cells wzC 58)
            have hS8 := hS7.keep hb8
            refine planT_run rfl ?_ (fun K hK => ?_)
            focus (rfl)
            go_simp
            refine hK.out _ _ (hS8) ?_
            clear hK K
            (try simp only [Act.put, List.setIfInBounds_toArray, List.set_cons_zero, List.set_cons_succ])
            have hb9 := (Below.refl W7.heap.size W7).alloc (Nat.le_refl _) (.cells (resW C mk (ml.map Wd.w)) 58)
            have hI9 := hI7.keep hb9
            have hX9 := heap_new W7 (.cells (resW C mk (ml.map Wd.w)) 58)
            have hS9 := hS7.keep hb9
            refine planT_run rfl ?_ (fun K hK => ?_)
            focus (rfl)
            refine wp_store_row 58 (.tmp 8) (.tmp 35) rfl W7.heap.size (resW C mk (ml.map Wd.w)) rfl rfl 58 wzC (heap_new W7 _) (infoWD _ (resW_size _ _ _)) (by rw [resW_size]; rfl) (resW_one _ _ _) ?_
            rw [setRow_alloc]
            refine hK.out _ _ (hS9) ?_
            clear hK K
            (try simp only [Act.put, List.setIfInBounds_toArray, List.set_cons_zero, List.set_cons_succ])
            iterate 1 (first | (refine planT_skip rfl ?_ ?_; (focus (rfl)); (try simp only [Act.put, List.setIfInBounds_toArray, List.set_cons_zero, List.set_cons_succ])) | (refine planT_take (v := ?_) rfl ?_ (fun w hSw => ?_) ?_; rotate_left; (focus (rfl)); (focus (unfold BS at hSw; (go_simp <;> with_reducible rfl))); (try simp only [Act.put, List.setIfInBounds_toArray, List.set_cons_zero, List.set_cons_succ])))
            refine planT_done ?_
            go_wp2_with fail
            go_meet
            exact ⟨rfl, _, _, _, rfl, rfl, Lib.hid ⟨hI9, hg7, hX9⟩⟩
          · skip
            have hb6a := (Below.refl W6.heap.size W6).alloc (Nat.le_refl _) (.cells wzC 58)
            have hS6a := hS6.keep hb6a
            have hz6 := heap_new W6 (.cells wzC 58)
            have hI6a := hI6.keep hb6a
            have hsz6 : (W6.alloc (.cells wzC 58)).heap.size = W6.heap.size + 1 := by simp
            refine planT_run rfl ?_ (fun K hK => ?_)
            focus (rfl)
            go_simp
            refine hK.out _ _ (hS6a) ?_
            clear hK K
            (try simp only [Act.put, List.setIfInBounds_toArray, List.set_cons_zero, List.set_cons_succ])
            refine planT_run rfl ?_ (fun K hK => ?_)
            focus (rfl)
            go_simp
            refine (HMK.out _ _ ao6 cap6 hI6a (by rw [List.length_map]; exact hown6.alloc _)).mono ?_
            rintro e W7 ⟨v7, C7, rfl, hI7, hg7, hl7⟩
            have hS7 : BS b (off + i * 2) mk (.slice mlo ml.length mlc) W7 := ⟨keep_cell HD.out.1 hI7.hb, keep_cell HD.out.2 hI7.hb⟩
            refine hK.out _ _ hS7 ?_
            clear hK K 
            (try simp only [Act.put, List.setIfInBounds_toArray, List.set_cons_zero, List.set_cons_succ])
            have hz7 := hl7.2.1 _ _ hz6
            iterate 3 (first | (refine planT_skip rfl ?_ ?_; (focus (rfl)); (try simp only [Act.put, List.setIfInBounds_toArray, List.set_cons_zero, List.set_cons_succ])) | (refine planT_take (v := ?_) rfl ?_ (fun w hSw => ?_) ?_; rotate_left; (focus (rfl)); (focus (unfold BS at hSw; (go_simp <;> with_reducible rfl))); (try simp only [Act.put, List.setIfInBounds_toArray, List.set_cons_zero, List.set_cons_succ])))
            have hI9 := hI7.box hz7 (by omega) (rows_ne HR5.out hw6 hl7 (by omega)) (fun d hd j hj => by have := HR5'.out d hd j hj; omega) (resW C mk (ml.map Wd.w))
            have hX9 := setRow_heap W7 W6.heap.size _ (resW C mk (ml.map Wd.w)) _ _ hz7
            have hS9 : BS b (off + i * 2) mk (.slice mlo ml.length mlc) (W7.setRow W6.heap.size (resW C mk (ml.map Wd.w))) := ⟨keep_cell HD.out.1 hI9.hb, keep_cell HD.out.2 hI9.hb⟩
            refine planT_run rfl ?_ (fun K hK => ?_)
            focus (rfl)
            refine wp_store_row 58 (.tmp 8) (.tmp 35) rfl W6.heap.size (resW C mk (ml.map Wd.w)) rfl rfl 58 wzC hz7 (infoWD _ (resW_size _ _ _)) (by rw [resW_size]; rfl) (resW_one _ _ _) ?_
            refine hK.out _ _ (hS9) ?_
            clear hK K
            (try simp only [Act.put, List.setIfInBounds_toArray, List.set_cons_zero, List.set_cons_succ])
            iterate 1 (first | (refine planT_skip rfl ?_ ?_; (focus (rfl)); (try simp only [Act.put, List.setIfInBounds_toArray, List.set_cons_zero, List.set_cons_succ])) | (refine planT_take (v := ?_) rfl ?_ (fun w hSw => ?_) ?_; rotate_left; (focus (rfl)); (focus (unfold BS at hSw; (go_simp <;> with_reducible rfl))); (try simp only [Act.put, List.setIfInBounds_toArray, List.set_cons_zero, List.set_cons_succ])))
            refine planT_done ?_
            go_wp2_with fail
            go_meet
            exact ⟨rfl, _, _, _, rfl, rfl, Lib.hid ⟨hI9, hg7, hX9⟩⟩
        · skip
          have hb5a := (Below.refl WD.heap.size WD).alloc (Nat.le_refl _) (.cells wzC 58)
          have hS5a := hS5.keep hb5a
          have hz5 := heap_new WD (.cells wzC 58)
          have hI5a := HI5.out.keep hb5a
          have hsz5 : (WD.alloc (.cells wzC 58)).heap.size = WD.heap.size + 1 := by simp
          have hwr5 := HWR5.out.keep hb5a
          refine planT_run rfl ?_ (fun K hK => ?_)
          focus (rfl)
          go_simp
          refine hK.out _ _ (hS5a) ?_
          clear hK K
          (try simp only [Act.put, List.setIfInBounds_toArray, List.set_cons_zero, List.set_cons_succ])
          refine planT_run rfl ?_ (fun K hK => ?_)
          focus (rfl)
          go_simp
          refine (words_any _ ml mlo mlc hwr5 (by omega)).mono ?_
          rintro e W6 ⟨hb6, ao6, cap6, rfl, hown6⟩
          have hS6 := hS5a.keep hb6
          refine hK.out _ _ hS6 ?_
          clear hK K 
          (try simp only [Act.put, List.setIfInBounds_toArray, List.set_cons_zero, List.set_cons_succ])
          have hI6 := hI5a.keep hb6
          have hz6 := keep_heap hz5 hb6
          have hw6 := hb6.size
          refine planT_run rfl ?_ (fun K hK => ?_)
          focus (rfl)
          go_simp
          refine (HMK.out W6 _ ao6 cap6 hI6 (by rw [List.length_map]; exact hown6)).mono ?_
          rintro e W7 ⟨v7, C7, rfl, hI7, hg7, hl7⟩
          have hS7 : BS b (off + i * 2) mk (.slice mlo ml.length mlc) W7 := ⟨keep_cell HD.out.1 hI7.hb, keep_cell HD.out.2 hI7.hb⟩
          refine hK.out _ _ hS7 ?_
          clear hK K 
          (try simp only [Act.put, List.setIfInBounds_toArray, List.set_cons_zero, List.set_cons_succ])
          have hz7 := hl7.2.1 _ _ hz6
          iterate 3 (first | (refine planT_skip rfl ?_ ?_; (focus (rfl)); (try simp only [Act.put, List.setIfInBounds_toArray, List.set_cons_zero, List.set_cons_succ])) | (refine planT_take (v := ?_) rfl ?_ (fun w hSw => ?_) ?_; rotate_left; (focus (rfl)); (focus (unfold BS at hSw; (go_simp <;> with_reducible rfl))); (try simp only [Act.put, List.setIfInBounds_toArray, List.set_cons_zero, List.set_cons_succ])))
          have hI9 := hI7.box hz7 (by omega) (rows_ne HR5.out (Nat.le_refl _) hl7 (by omega)) (fun d hd j hj => by have := HR5'.out d hd j hj; omega) (resW C mk (ml.map Wd.w))
          have hX9 := setRow_heap W7 WD.heap.size _ (resW C mk (ml.map Wd.w)) _ _ hz7
          have hS9 : BS b (off + i * 2) mk (.slice mlo ml.length mlc) (W7.setRow WD.heap.size (resW C mk (ml.map Wd.w))) := ⟨keep_cell HD.out.1 hI9.hb, keep_cell HD.out.2 hI9.hb⟩
          refine planT_run rfl ?_ (fun K hK => ?_)
          focus (rfl)
          refine wp_store_row 58 (.tmp 8) (.tmp 35) rfl WD.heap.size (resW C mk (ml.map Wd.w)) rfl rfl 58 wzC hz7 (infoWD _ (resW_size _ _ _)) (by rw [resW_size]; rfl) (resW_one _ _ _) ?_
          refine hK.out _ _ (hS9) ?_
          clear hK K
          (try simp only [Act.put, List.setIfInBounds_toArray, List.set_cons_zero, List.set_cons_succ])
          iterate 1 (first | (refine planT_skip rfl ?_ ?_; (focus (rfl)); (try simp only [Act.put, List.setIfInBounds_toArray, List.set_cons_zero, List.set_cons_succ])) | (refine planT_take (v := ?_) rfl ?_ (fun w hSw => ?_) ?_; rotate_left; (focus (rfl)); (focus (unfold BS at hSw; (go_simp <;> with_reducible rfl))); (try simp only [Act.put, List.setIfInBounds_toArray, List.set_cons_zero, List.set_cons_succ])))
          refine planT_done ?_
          go_wp2_with fail
          go_meet
          exact ⟨rfl, _, _, _, rfl, rfl, Lib.hid ⟨hI9, hg7, hX9⟩⟩
      case rest =>
        obtain ⟨rfl, X, v1, C1, rfl, rfl, HBB⟩ := hcut
        go_wp2_with fail
        go_cut [10, 11, 18] from 18 to 62 (fun xv ev cv wx => cv = .int .i64 i ∧ ∃ (Y : Nat) (v2 : Value) (C2 : List HC), xv = .pointer (some ⟨Y, 0, none⟩) ∧ ev = .int .i64 (makeN C' mk (ml.map Wd.w)) ∧ Hid (B2 w p q v1 v2 C C' C1 C2 mk (ml.map Wd.w) X Y wx))
        case first =>
          have HI5 := Lib.hid (HBB.out.1.keep (Below.refl wc.heap.size wc).drew)
          have HXX := Lib.hid (keep_heap HBB.out.2.2 (Below.refl wc.heap.size wc).drew)
          have hXl := heap_lt HXX.out
          have hS5 : BS b (off + i * 2) mk (.slice mlo ml.length mlc) wc.drew := ⟨keep_cell HD.out.1 (HI5.out.hb), keep_cell HD.out.2 (HI5.out.hb)⟩
          have HWR5 := Lib.hid (HWR.out.keep HI5.out.hb)
          have HR5 := Lib.hid (crow_lt HI5.out.hp.2.2.1)
          have HR5' := Lib.hid (crow_lt HI5.out.hr.2.2.1)
          have hw5 := HI5.out.hb.size
          refine region_planT (BS b (off + i * 2) mk (.slice mlo ml.length mlc)) (.take 0 (.take 1 (.take 2 (.take 3 (.take 4 (.take 5 (.take 6 (.take 7 (.take 8 (.take 9 (.take 10 (.fork 11 (.fork 12 (.take 13 (.take 14 (.take 15 (.run 16 (.run 17 (.take 18 .done)))))) 16 (.run 12 (.take 13 (.take 14 (.take 15 (.run 17 (.take 18 .done))))))) 16 (.run 11 (.run 12 (.take 13 (.take 14 (.take 15 (.run 17 (.take 18 .done))))))))))))))))))) (by kernel_rfl) (by kernel_rfl) (by kernel_rfl) hS5 ?_
          generalize wc.drew = WD at *
          iterate 11 (first | (refine planT_skip rfl ?_ ?_; (focus (rfl)); (try simp only [Act.put, List.setIfInBounds_toArray, List.set_cons_zero, List.set_cons_succ])) | (refine planT_take (v := ?_) rfl ?_ (fun w hSw => ?_) ?_; rotate_left; (focus (rfl)); (focus (unfold BS at hSw; (go_simp <;> with_reducible rfl))); (try simp only [Act.put, List.setIfInBounds_toArray, List.set_cons_zero, List.set_cons_succ])))
          refine planT_fork ?_ ?_
          · skip
            refine planT_run rfl ?_ (fun K hK => ?_)
            focus (rfl)
            go_simp
            refine (words_any WD ml mlo mlc HWR5.out (by omega)).mono ?_
            rintro e W6 ⟨hb6, ao6, cap6, rfl, hown6⟩
            have hS6 := hS5.keep hb6
            refine hK.out _ _ hS6 ?_
            clear hK K 
            (try simp only [Act.put, List.setIfInBounds_toArray, List.set_cons_zero, List.set_cons_succ])
            have hI6 := HI5.out.keep hb6
            have hw6 := hb6.size
            refine planT_fork ?_ ?_
            · skip
              refine planT_run rfl ?_ (fun K hK => ?_)
              focus (rfl)
              go_simp
              refine (HRMK.out v1 C1 W6 _ ao6 cap6 hI6 (by rw [List.length_map]; exact hown6)).mono ?_
              rintro e W7 ⟨v7, C7, rfl, hI7, hg7, hl7⟩
              have hS7 : BS b (off + i * 2) mk (.slice mlo ml.length mlc) W7 := ⟨keep_cell HD.out.1 hI7.hb, keep_cell HD.out.2 hI7.hb⟩
              refine hK.out _ _ hS7 ?_
              clear hK K 
              (try simp only [Act.put, List.setIfInBounds_toArray, List.set_cons_zero, List.set_cons_succ])
              iterate 3 (first | (refine planT_skip rfl ?_ ?_; (focus (rfl)); (try simp only [Act.put, List.setIfInBounds_toArray, List.set_cons_zero, List.set_cons_succ])) | (refine planT_take (v := ?_) rfl ?_ (fun w hSw => ?_) ?_; rotate_left; (focus (rfl)); (focus (unfold BS at hSw; (go_simp <;> with_reducible rfl))); (try simp only [Act.put, List.setIfInBounds_toArray, List.set_cons_zero, List.set_cons_succ])))
              have hb8 := (Below.refl W7.heap.size W7).alloc (Nat.le_refl _) (.cells wzC 58)
              have hS8 := hS7.keep hb8
              refine planT_run rfl ?_ (fun K hK => ?_)
              focus (rfl)
              go_simp
              refine hK.out _ _ (hS8) ?_
              clear hK K
              (try simp only [Act.put, List.setIfInBounds_toArray, List.set_cons_zero, List.set_cons_succ])
              have hb9 := (Below.refl W7.heap.size W7).alloc (Nat.le_refl _) (.cells (resW C' mk (ml.map Wd.w)) 58)
              have hI9 := hI7.keep hb9
              have hX9 := heap_new W7 (.cells (resW C' mk (ml.map Wd.w)) 58)
              have hS9 := hS7.keep hb9
              refine planT_run rfl ?_ (fun K hK => ?_)
              focus (rfl)
              refine wp_store_row 58 (.tmp 10) (.tmp 51) rfl W7.heap.size (resW C' mk (ml.map Wd.w)) rfl rfl 58 wzC (heap_new W7 _) (infoWD _ (resW_size _ _ _)) (by rw [resW_size]; rfl) (resW_one _ _ _) ?_
              rw [setRow_alloc]
              refine hK.out _ _ (hS9) ?_
              clear hK K
              (try simp only [Act.put, List.setIfInBounds_toArray, List.set_cons_zero, List.set_cons_succ])
              iterate 1 (first | (refine planT_skip rfl ?_ ?_; (focus (rfl)); (try simp only [Act.put, List.setIfInBounds_toArray, List.set_cons_zero, List.set_cons_succ])) | (refine planT_take (v := ?_) rfl ?_ (fun w hSw => ?_) ?_; rotate_left; (focus (rfl)); (focus (unfold BS at hSw; (go_simp <;> with_reducible rfl))); (try simp only [Act.put, List.setIfInBounds_toArray, List.set_cons_zero, List.set_cons_succ])))
              refine planT_done ?_
              go_wp2_with fail
              go_meet
              exact ⟨rfl, _, _, _, rfl, rfl, Lib.hid ⟨hI9, ⟨HBB.out.2.1, hg7⟩, keep_heap (hl7.2.1 _ _ (keep_heap HXX.out hb6)) hb9, hX9⟩⟩
            · skip
              have hb6a := (Below.refl W6.heap.size W6).alloc (Nat.le_refl _) (.cells wzC 58)
              have hS6a := hS6.keep hb6a
              have hz6 := heap_new W6 (.cells wzC 58)
              have hI6a := hI6.keep hb6a
              have hsz6 : (W6.alloc (.cells wzC 58)).heap.size = W6.heap.size + 1 := by simp
              refine planT_run rfl ?_ (fun K hK => ?_)
              focus (rfl)
              go_simp
              refine hK.out _ _ (hS6a) ?_
              clear hK K
              (try simp only [Act.put, List.setIfInBounds_toArray, List.set_cons_zero, List.set_cons_succ])
              refine planT_run rfl ?_ (fun K hK => ?_)
              focus (rfl)
              go_simp
              refine (HRMK.out v1 C1 _ _ ao6 cap6 hI6a (by rw [List.length_map]; exact hown6.alloc _)).mono ?_
              rintro e W7 ⟨v7, C7, rfl, hI7, hg7, hl7⟩
              have hS7 : BS b (off + i * 2) mk (.slice mlo ml.length mlc) W7 := ⟨keep_cell HD.out.1 hI7.hb, keep_cell HD.out.2 hI7.hb⟩
              refine hK.out _ _ hS7 ?_
              clear hK K 
              (try simp only [Act.put, List.setIfInBounds_toArray, List.set_cons_zero, List.set_cons_succ])
              have hz7 := hl7.2.1 _ _ hz6
              iterate 3 (first | (refine planT_skip rfl ?_ ?_; (focus (rfl)); (try simp only [Act.put, List.setIfInBounds_toArray, List.set_cons_zero, List.set_cons_succ])) | (refine planT_take (v := ?_) rfl ?_ (fun w hSw => ?_) ?_; rotate_left; (focus (rfl)); (focus (unfold BS at hSw; (go_simp <;> with_reducible rfl))); (try simp only [Act.put, List.setIfInBounds_toArray, List.set_cons_zero, List.set_cons_succ])))
              have hI9 := hI7.box hz7 (by omega) (fun d hd j hj => by have := HR5.out d hd j hj; omega) (rows_ne HR5'.out hw6 hl7 (by omega)) (resW C' mk (ml.map Wd.w))
              have hX9 := setRow_heap W7 W6.heap.size _ (resW C' mk (ml.map Wd.w)) _ _ hz7
              have hS9 : BS b (off + i * 2) mk (.slice mlo ml.length mlc) (W7.setRow W6.heap.size (resW C' mk (ml.map Wd.w))) := ⟨keep_cell HD.out.1 hI9.hb, keep_cell HD.out.2 hI9.hb⟩
              refine planT_run rfl ?_ (fun K hK => ?_)
              focus (rfl)
              refine wp_store_row 58 (.tmp 10) (.tmp 51) rfl W6.heap.size (resW C' mk (ml.map Wd.w)) rfl rfl 58 wzC hz7 (infoWD _ (resW_size _ _ _)) (by rw [resW_size]; rfl) (resW_one _ _ _) ?_
              refine hK.out _ _ (hS9) ?_
              clear hK K
              (try simp only [Act.put, List.setIfInBounds_toArray, List.set_cons_zero, List.set_cons_succ])
              iterate 1 (first | (refine planT_skip rfl ?_ ?_; (focus (rfl)); (try simp only [Act.put, List.setIfInBounds_toArray, List.set_cons_zero, List.set_cons_succ])) | (refine planT_take (v := ?_) rfl ?_ (fun w hSw => ?_) ?_; rotate_left; (focus (rfl)); (focus (unfold BS at hSw; (go_simp <;> with_reducible rfl))); (try simp only [Act.put, List.setIfInBounds_toArray, List.set_cons_zero, List.set_cons_succ])))
              refine planT_done ?_
              go_wp2_with fail
              go_meet
              exact ⟨rfl, _, _, _, rfl, rfl, Lib.hid ⟨hI9, ⟨HBB.out.2.1, hg7⟩, (chg_setRow W7 W6.heap.size _).heap (hl7.2.1 _ _ (keep_heap (keep_heap HXX.out hb6) ((Below.refl W6.heap.size W6).alloc (Nat.le_refl _) _))) (fun e => by have e : X = W6.heap.size := e; omega), hX9⟩⟩
          · skip
            have hb5a := (Below.refl WD.heap.size WD).alloc (Nat.le_refl _) (.cells wzC 58)
            have hS5a := hS5.keep hb5a
            have hz5 := heap_new WD (.cells wzC 58)
            have hI5a := HI5.out.keep hb5a
            have hsz5 : (WD.alloc (.cells wzC 58)).heap.size = WD.heap.size + 1 := by simp
            have hwr5 := HWR5.out.keep hb5a
            refine planT_run rfl ?_ (fun K hK => ?_)
            focus (rfl)
            go_simp
            refine hK.out _ _ (hS5a) ?_
            clear hK K
            (try simp only [Act.put, List.setIfInBounds_toArray, List.set_cons_zero, List.set_cons_succ])
            refine planT_run rfl ?_ (fun K hK => ?_)
            focus (rfl)
            go_simp
            refine (words_any _ ml mlo mlc hwr5 (by omega)).mono ?_
            rintro e W6 ⟨hb6, ao6, cap6, rfl, hown6⟩
            have hS6 := hS5a.keep hb6
            refine hK.out _ _ hS6 ?_
            clear hK K 
            (try simp only [Act.put, List.setIfInBounds_toArray, List.set_cons_zero, List.set_cons_succ])
            have hI6 := hI5a.keep hb6
            have hz6 := keep_heap hz5 hb6
            have hw6 := hb6.size
            refine planT_run rfl ?_ (fun K hK => ?_)
            focus (rfl)
            go_simp
            refine (HRMK.out v1 C1 W6 _ ao6 cap6 hI6 (by rw [List.length_map]; exact hown6)).mono ?_
            rintro e W7 ⟨v7, C7, rfl, hI7, hg7, hl7⟩
            have hS7 : BS b (off + i * 2) mk (.slice mlo ml.length mlc) W7 := ⟨keep_cell HD.out.1 hI7.hb, keep_cell HD.out.2 hI7.hb⟩
            refine hK.out _ _ hS7 ?_
            clear hK K 
            (try simp only [Act.put, List.setIfInBounds_toArray, List.set_cons_zero, List.set_cons_succ])
            have hz7 := hl7.2.1 _ _ hz6
            iterate 3 (first | (refine planT_skip rfl ?_ ?_; (focus (rfl)); (try simp only [Act.put, List.setIfInBounds_toArray, List.set_cons_zero, List.set_cons_succ])) | (refine planT_take (v := ?_) rfl ?_ (fun w hSw => ?_) ?_; rotate_left; (focus (rfl)); (focus (unfold BS at hSw; (go_simp <;> with_reducible rfl))); (try simp only [Act.put, List.setIfInBounds_toArray, List.set_cons_zero, List.set_cons_succ])))
            have hI9 := hI7.box hz7 (by omega) (fun d hd j hj => by have := HR5.out d hd j hj; omega) (rows_ne HR5'.out (Nat.le_refl _) hl7 (by omega)) (resW C' mk (ml.map Wd.w))
            have hX9 := setRow_heap W7 WD.heap.size _ (resW C' mk (ml.map Wd.w)) _ _ hz7
            have hS9 : BS b (off + i * 2) mk (.slice mlo ml.length mlc) (W7.setRow WD.heap.size (resW C' mk (ml.map Wd.w))) := ⟨keep_cell HD.out.1 hI9.hb, keep_cell HD.out.2 hI9.hb⟩
            refine planT_run rfl ?_ (fun K hK => ?_)
            focus (rfl)
            refine wp_store_row 58 (.tmp 10) (.tmp 51) rfl WD.heap.size (resW C' mk (ml.map Wd.w)) rfl rfl 58 wzC hz7 (infoWD _ (resW_size _ _ _)) (by rw [resW_size]; rfl) (resW_one _ _ _) ?_
            refine hK.out _ _ (hS9) ?_
            clear hK K
            (try simp only [Act.put, List.setIfInBounds_toArray, List.set_cons_zero, List.set_cons_succ])
            iterate 1 (first | (refine planT_skip rfl ?_ ?_; (focus (rfl)); (try simp only [Act.put, List.setIfInBounds_toArray, List.set_cons_zero, List.set_cons_succ])) | (refine planT_take (v := ?_) rfl ?_ (fun w hSw => ?_) ?_; rotate_left; (focus (rfl)); (focus (unfold BS at hSw; (go_simp <;> with_reducible rfl))); (try simp only [Act.put, List.setIfInBounds_toArray, List.set_cons_zero, List.set_cons_succ])))
            refine planT_done ?_
            go_wp2_with fail
            go_meet
            exact ⟨rfl, _, _, _, rfl, rfl, Lib.hid ⟨hI9, ⟨HBB.out.2.1, hg7⟩, (chg_setRow W7 WD.heap.size _).heap (hl7.2.1 _ _ (keep_heap (keep_heap HXX.out hb5a) hb6)) (fun e => by have e : X = WD.heap.size := e; omega), hX9⟩⟩
        case rest =>
          obtain ⟨rfl, Y, v2, C2, rfl, rfl, HBC⟩ := hcut
          have hsim := HI.out.2.sim
          rw [hsim.make]
          have hX := HBC.out.2.2.1
          have hY := HBC.out.2.2.2
          rw [hsim.res] at hY
          have HN : Hid (BI w p q v1 v2 C1 C2 wc ∧ BP f w (i + 1) C1 C2) := Lib.hid ⟨HBC.out.1, HI.out.2.next HBC.out.2.1.1 HBC.out.2.1.2 HWO.out⟩
          have hne : (makeN C mk (ml.map Wd.w) != makeN C mk (ml.map Wd.w)) = false := by simp
          have hrs : resW C mk (ml.map Wd.w) = wcC C.length ∨ resW C mk (ml.map Wd.w) = wzC := by unfold resW; split <;> simp
          clear HBC HBB HMK HRMK HI hsim
          generalize makeN C mk (ml.map Wd.w) = e0 at *
          have HSA := Lib.hid (sameword_cell wc C.length)
          have HSB := Lib.hid (sameword_zero wc)
          simp only [wcC] at HSA
          rcases hrs with hrs | hrs
          · rw [hrs] at hX hY
            have HXX := Lib.hid hX
            obtain ⟨x0, x0f⟩ := cells_at hX 0 _ rfl
            obtain ⟨x1, x1f⟩ := cells_at hX 1 _ rfl
            obtain ⟨x2, x2f⟩ := cells_at hX 2 _ rfl
            obtain ⟨x3, x3f⟩ := cells_at hX 3 _ rfl
            obtain ⟨x4, x4f⟩ := cells_at hX 4 _ rfl
            obtain ⟨x5, x5f⟩ := cells_at hX 5 _ rfl
            obtain ⟨x6, x6f⟩ := cells_at hX 6 _ rfl
            obtain ⟨y0, y0f⟩ := cells_at hY 0 _ rfl
            obtain ⟨y1, y1f⟩ := cells_at hY 1 _ rfl
            obtain ⟨y2, y2f⟩ := cells_at hY 2 _ rfl
            obtain ⟨y3, y3f⟩ := cells_at hY 3 _ rfl
            obtain ⟨y4, y4f⟩ := cells_at hY 4 _ rfl
            obtain ⟨y5, y5f⟩ := cells_at hY 5 _ rfl
            obtain ⟨y6, y6f⟩ := cells_at hY 6 _ rfl
            clear hX hY x0f x1f x2f x3f x4f x5f x6f y0f y1f y2f y3f y4f y5f y6f hrs
            go_wp2_with fail
            refine HSA.out.mono ?_
            rintro e w9 ⟨rfl, hb9⟩
            have HFIN : Hid (BI w p q v1 v2 C1 C2 w9 ∧ BP f w (i + 1) C1 C2) := Lib.hid ⟨HN.out.1.keep hb9, HN.out.2⟩
            clear hb9 x0 x1 x2 x3 x4 x5 x6 y0 y1 y2 y3 y4 y5 y6
            go_wp2_with fail
            go_roundw
            case rel => exact ⟨i + 1, v1, v2, C1, C2, by omega, by go_num, HFIN⟩
            case measure => simp [intOf]; omega
          · rw [hrs] at hX hY
            obtain ⟨x0, x0f⟩ := cells_at hX 0 _ rfl
            obtain ⟨x1, x1f⟩ := cells_at hX 1 _ rfl
            obtain ⟨x2, x2f⟩ := cells_at hX 2 _ rfl
            obtain ⟨x3, x3f⟩ := cells_at hX 3 _ rfl
            obtain ⟨x4, x4f⟩ := cells_at hX 4 _ rfl
            obtain ⟨x5, x5f⟩ := cells_at hX 5 _ rfl
            obtain ⟨x6, x6f⟩ := cells_at hX 6 _ rfl
            obtain ⟨y0, y0f⟩ := cells_at hY 0 _ rfl
            obtain ⟨y1, y1f⟩ := cells_at hY 1 _ rfl
            obtain ⟨y2, y2f⟩ := cells_at hY 2 _ rfl
            obtain ⟨y3, y3f⟩ := cells_at hY 3 _ rfl
            obtain ⟨y4, y4f⟩ := cells_at hY 4 _ rfl
            obtain ⟨y5, y5f⟩ := cells_at hY 5 _ rfl
            obtain ⟨y6, y6f⟩ := cells_at hY 6 _ rfl
            clear hX hY x0f x1f x2f x3f x4f x5f x6f y0f y1f y2f y3f y4f y5f y6f hrs
            go_wp2_with fail
            refine HSB.out.mono ?_
            rintro e w9 ⟨rfl, hb9⟩
            have HFIN : Hid (BI w p q v1 v2 C1 C2 w9 ∧ BP f w (i + 1) C1 C2) := Lib.hid ⟨HN.out.1.keep hb9, HN.out.2⟩
            clear hb9 x0 x1 x2 x3 x4 x5 x6 y0 y1 y2 y3 y4 y5 y6
            go_wp2_with fail
            go_roundw
            case rel => exact ⟨i + 1, v1, v2, C1, C2, by omega, by go_num, HFIN⟩
            case measure => simp [intOf]; omega
    · obtain rfl : i = M.length := by omega
      go_wp2_with fail
      go_ret3
      exact ⟨p, q, v, v', C, C', rfl, HI.out.1, HI.out.2⟩
end Go.Proofs.YtfbohajojaaiaaaDoor
namespace Go.Proofs.YtfbohajojaaiaaaDoor
open Go.ChangeShapes Go.WideShapes Go.ChangeAt Go.RowKit
set_option linter.unusedVariables false
set_option maxRecDepth 100000
theorem infoPA2 : ∃ i z, Tryd.prog.info? 49 = some i ∧ i.zero = some z ∧ i.size = 7 ∧ i.bytes = 88 ∧ z.cells.size = 7 := by
  have h : (Tryd.prog.info? 49).map (fun i => (i.zero.map (fun z => z.cells.size), i.size, i.bytes)) = some (some 7, 7, 88) := by kernel_rfl
  cases hi : Tryd.prog.info? 49 with
  | none => rw [hi] at h; cases h
  | some i =>
    rw [hi] at h
    simp only [Option.map_some, Option.some.injEq, Prod.mk.injEq] at h
    obtain ⟨h1, h2, h3⟩ := h
    cases hz : i.zero with
    | none => rw [hz] at h1; cases h1
    | some z =>
      rw [hz] at h1
      exact ⟨i, z, rfl, hz, h2, h3, by simpa using h1⟩
theorem infoPA (cs : Array Value) (h : cs.size = 7) : (Tryd.prog.info? 49).map (·.size) = some cs.size := by
  rw [h]
  kernel_rfl
theorem own_prow {w : World} {base : Nat} {e : TypeId} {v : Value} {L : List Wd} (h : w.ownsRow base e 7 v L.length (wcs L)) : ∃ ao cap, v = .slice ao L.length cap ∧ WRow w ao L ∧ (ao = none → L = [] ∧ cap = 0) := by
  obtain ⟨hl, ⟨rfl, e0⟩ | ⟨g, cap, cur, rfl, hg, hh, h3, h4, r⟩⟩ := id h
  · have e0 := List.eq_nil_of_length_eq_zero e0
    subst e0
    exact ⟨none, 0, rfl, fun i x hi => by simp at hi, fun _ => ⟨rfl, rfl⟩⟩
  · refine ⟨_, cap, rfl, fun i x hi => ⟨g, 0, rfl, heap_lt hh, fun j u hj => ?_⟩, fun e => by cases e⟩
    have hlt := (List.getElem?_eq_some_iff.1 hi).1
    have hj7 : j < 7 := by have := (List.getElem?_eq_some_iff.1 hj).1; simpa [Wd.cells] using this
    rw [Nat.zero_add, h.cellAt (i * 7 + j) (by omega), wcs_at L i j x hi hj7]
    exact hj
theorem rch_mono {C : List HC} {L L2 : List Wd} {x : Int} (h : Rch C L x) : Rch C (L ++ L2) x := by
  induction h with
  | root h => exact .root (by rw [namedW, List.filter_append, List.map_append, List.mem_append]; exact .inl h)
  | step _ hy ih => exact .step ih hy
theorem outL_len (n : Nat) (s : List Int) : (outL n s).length ≤ n := by
  unfold outL
  refine Nat.le_trans (List.length_filter_le _ _) ?_
  simp
theorem WOk.more {f g : Nat} {w : World} {x : Wd} (h : WOk f w x) (hg : f ≤ g) : WOk g w x := ⟨h.1, h.2.1, h.2.2.le hg⟩
theorem MRow.more {f g : Nat} {w : World} {ao : Option Addr} {M : List Mk} (h : MRow f w ao M) (hg : f ≤ g) : MRow g w ao M := by
  intro i m hi
  obtain ⟨b, off, e, h1, h2, h3, h4, h5⟩ := h i m hi
  exact ⟨b, off, e, h1, h2, h3, h4, fun x hx => (h5 x hx).more hg⟩
theorem sum_ge : ∀ (M : List Mk) (m : Mk), m ∈ M → m.l.length ≤ sumL M M.length := by
  intro M m hm
  rw [sumL, List.take_of_length_le (Nat.le_refl _)]
  induction M with
  | nil => cases hm
  | cons a M ih =>
    rw [List.map_cons, List.sum_cons]
    rcases List.mem_cons.1 hm with rfl | hm
    · omega
    · have := ih hm
      omega
theorem fair_facts {M : List Mk} {R : List Wd} (h : Fair M R) : M.length ≤ 400 ∧ R.length ≤ 400 ∧ ∀ m ∈ M, m.l.length ≤ 400 := by
  have h1 := h.1
  rw [wide] at h1
  exact ⟨by omega, by omega, fun m hm => by have := sum_ge M m hm; omega⟩
set_option maxHeartbeats 8000000 in
theorem more_law (w : World) (f : Nat) (M : List Mk) (R1 R2 : List Wd) (mo ro so : Option Addr) (mc rc sc : Nat) (hL : Cells w 0 letL) (hM : MRow f w mo M) (hR1 : WRow w ro R1) (hO1 : ∀ x ∈ R1, WOk f w x) (hN1 : ro = none → R1 = [] ∧ rc = 0) (hR2 : WRow w so R2) (hO2 : ∀ x ∈ R2, WOk f w x) (hN2 : so = none → R2 = [] ∧ sc = 0)
    (h1 : M.length ≤ 140737488355328) (h2 : R1.length ≤ 140737488355328) (h3 : R2.length ≤ 140737488355328) (h4 : ∀ m ∈ M, m.l.length ≤ 140737488355328) :
    Calls Tryd.prog 4 #[.slice mo M.length mc, .slice ro R1.length rc, .slice so R2.length sc] w (IsPost w true) := by
  have HG1 := Lib.hid (greatr_any w f M R1 mo ro mc rc hM hR1 hO1 h1 h2 h4)
  have HG2 : Hid (∀ w1, Below w.heap.size w w1 → Calls Tryd.prog 7 #[.slice mo M.length mc, .slice so R2.length sc] w1 (GreatP w1 M R2)) := Lib.hid (fun w1 hb => greatr_any w1 f M R2 mo so mc sc (hM.keep hb) (hR2.keep hb) (fun x hx => (hO2 x hx).keep hb) h1 h3 h4)
  have HL := Lib.hid hL
  have HM := Lib.hid hM
  have HR1 := Lib.hid hR1
  have HR2 := Lib.hid hR2
  have HO1 := Lib.hid hO1
  have HO2 := Lib.hid hO2
  have HN1 := Lib.hid hN1
  have HN2 := Lib.hid hN2
  clear hL hM hR1 hR2 hO1 hO2 h4 hN1 hN2
  go_enter Tryd.func4, Tryd.ntmps4
  go_wp2_with fail
  refine HG1.out.mono ?_
  rintro e w1 ⟨b1, rfl, hb1, hf1⟩
  have HB1 := Lib.hid hb1
  have HF1 := Lib.hid hf1
  clear hb1 hf1 HG1
  cases b1
  case true =>
    go_wp2_with fail
    refine (wakes_any w1 (keep_letters HL.out HB1.out)).mono ?_
    rintro e w2 ⟨rfl, hb2⟩
    have HB2 := Lib.hid (HB1.out.trans (hb2.mono HB1.out.size))
    clear hb2
    go_wp2_with fail
    go_ret
    exact ⟨rfl, HB2.out⟩
  case false =>
    go_wp2_with fail
    refine (HG2.out w1 HB1.out).mono ?_
    rintro e w2 ⟨b2, rfl, hb2, hf2⟩
    have HB2 := Lib.hid (HB1.out.trans (hb2.mono HB1.out.size))
    have HF2 := Lib.hid hf2
    clear hb2 hf2 HG2 HB1
    cases b2
    case true =>
      go_wp2_with fail
      refine (wakes_any w2 (keep_letters HL.out HB2.out)).mono ?_
      rintro e w3 ⟨rfl, hb3⟩
      have HB3 := Lib.hid (HB2.out.trans (hb3.mono HB2.out.size))
      clear hb3
      go_wp2_with fail
      go_ret
      exact ⟨rfl, HB3.out⟩
    case false =>
      obtain ⟨hm4, hr4, hml4⟩ := fair_facts (HF1.out (by trivial))
      obtain ⟨-, hs4, -⟩ := fair_facts (HF2.out (by trivial))
      have HML := Lib.hid hml4
      clear hml4 HF1 HF2
      go_wp2_with fail
      refine (both_any w2 f M mo mc (keep_letters HL.out HB2.out) (HM.out.keep HB2.out) hm4 HML.out).mono ?_
      rintro e w3 ⟨p, q, v, v', C, C', rfl, hBI, hBP⟩
      have HB3 := Lib.hid (HB2.out.trans (hBI.hb.mono HB2.out.size))
      have HP := Lib.hid hBI.hp
      have hCl : C.length ≤ 400 := by have := hBP.len; omega
      clear hBI hBP HB2 HML HM
      go_wp2_with fail
      refine (words_any w3 R1 ro rc (HR1.out.keep HB3.out) (by omega)).mono ?_
      rintro e w4 ⟨hb4, ao4, cap4, rfl, hown4⟩
      have HB4 := Lib.hid (HB3.out.trans (hb4.mono HB3.out.size))
      have HP4 := Lib.hid (HP.out.keep hb4)
      have hlm1 : (R1.map Wd.w).length = R1.length := by simp
      have hown4' := hown4
      rw [← hlm1] at hown4'
      obtain ⟨ao4', cap4', e4, hrow4, hno4⟩ := own_prow hown4'
      injection e4 with e41 e42 e43
      subst e41 e43
      have hrc := reached_any w4 f p p v C ao4 cap4 (R1.map Wd.w) HP4.out (keep_letters HL.out HB4.out) hrow4 (fun x hx => by
        obtain ⟨y, hy, rfl⟩ := List.mem_map.1 hx
        exact (wok_w (HO1.out y hy)).keep HB4.out) (by rw [hlm1]; omega)
      rw [hlm1] at hrc
      have HRC := Lib.hid hrc
      clear hrc hrow4 hno4 hown4 hown4' hb4 e42 HB3 HP
      go_wp2_with fail
      refine HRC.out.mono ?_
      rintro e w5 ⟨hb5, hr5⟩
      have HB5 := Lib.hid (HB4.out.trans (hb5.mono HB4.out.size))
      have HP5 := Lib.hid (HP4.out.keep hb5)
      have hkey : ∃ va ea, e = .returned (.tuple #[va, .int .i64 ea]) ∧ Hid ((ea = 2 ∧ ((R1.map Wd.w).any fun x => !mayW C.length x) = true) ∨ (ea = 0 ∧ ((R1.map Wd.w).any fun x => !mayW C.length x) = false ∧ ∃ s, (∀ x, x ∈ s ↔ Rch C (R1.map Wd.w) x) ∧ w5.ownsRow w4.heap.size 3 1 va (outL C.length s).length (intsV (outL C.length s)))) := by
        rcases hr5 with ⟨h, rfl⟩ | ⟨h, s, va, hs, rfl, ho⟩
        · exact ⟨_, _, rfl, Lib.hid (.inl ⟨rfl, h⟩)⟩
        · exact ⟨_, _, rfl, Lib.hid (.inr ⟨rfl, h, s, hs, ho⟩)⟩
      obtain ⟨va, ea, rfl, HA⟩ := hkey
      clear hr5 hb5 HRC HP4 HB4
      obtain ⟨i0, z0, q1, q2, q3, q4, q5⟩ := infoPA2
      go_wp2_with (at_builtin; refine stop_here ?_)
      refine Lib.hid ?_
      have hba := (Below.refl w5.heap.size w5).alloc (Nat.le_refl _) (.cells #[] 49)
      have hown0 := World.ownsRow_made (e := 49) (size := 7) (base := w5.heap.size) w5 #[] 0 (Nat.le_refl _) (by decide) rfl
      refine wpList_plain rfl fun K hK => op_append_any (.tmp 47) (.tmp 48) 22 rfl w5.heap.size 49 i0 z0 7 88 Tryd.underlying22 q1 q2 q3 q4 q5 (by decide) (.slice (some ⟨w5.heap.size, 0, none⟩) 0 0) 0 [] rfl hown0 ro R1.length rc (wcs R1) rfl (wcs_len R1) (fun e => by obtain ⟨e1, e2⟩ := HN1.out e; exact ⟨by rw [e1]; rfl, e2⟩) ((HR1.out.keep HB5.out).keep hba).news wcs_one (by unfold maxLen; omega) (by omega) (by simp) (fun v6 w6 hown6 hg6 hwh6 => hK _ _ ?_)
      clear hK K
      obtain ⟨ao6, cap6, rfl⟩ := own_slice hown6
      rw [List.nil_append, Nat.zero_add] at hown6
      simp only [Nat.zero_add]
      have hb6 : Below w5.heap.size w5 w6 := hba.trans ((chg_grown hg6).below hba.size (fun k h => by
        have h : some k = some w5.heap.size := h
        injection h with h
        omega))
      have HB6 := Lib.hid (HB5.out.trans (hb6.mono HB5.out.size))
      have HQ6 := Lib.hid hb6
      have hs6 := hb6.size
      have HW6 := Lib.hid hown6
      clear hg6 hwh6 hown0 hba hb6 hown6
      go_wp2_with (at_builtin; refine stop_here ?_)
      refine Lib.hid ?_
      refine wpList_plain rfl fun K hK => op_append_any (.tmp 49) (.tmp 50) 22 rfl w5.heap.size 49 i0 z0 7 88 Tryd.underlying22 q1 q2 q3 q4 q5 (by decide) (.slice ao6 R1.length cap6) R1.length (wcs R1) rfl HW6.out so R2.length sc (wcs R2) rfl (wcs_len R2) (fun e => by obtain ⟨e1, e2⟩ := HN2.out e; exact ⟨by rw [e1]; rfl, e2⟩) (HR2.out.keep HB6.out).news wcs_one (by unfold maxLen; omega) (by omega) hs6 (fun v7 w7 hown7 hg7 hwh7 => hK _ _ ?_)
      clear hK K
      obtain ⟨ao7, cap7, rfl⟩ := own_slice hown7
      have hb7 : Below w5.heap.size w5 w7 := HQ6.out.trans ((chg_grown hg7).below hs6 (fun k h => own_base HW6.out k h.symm))
      have HB7 := Lib.hid (HB5.out.trans (hb7.mono HB5.out.size))
      have HQ7 := Lib.hid hb7
      have hla : (R1 ++ R2).length = R1.length + R2.length := by simp
      have hwa : wcs (R1 ++ R2) = wcs R1 ++ wcs R2 := by simp [wcs]
      rw [← hwa, ← hla] at hown7
      obtain ⟨ao7', cap7', e7, hrow7, -⟩ := own_prow hown7
      injection e7 with e71 e72 e73
      subst e71 e73
      have hwc := words_any w7 (R1 ++ R2) ao7 cap7 hrow7 (by omega)
      rw [hla] at hwc
      have HWC := Lib.hid hwc
      clear hg7 hwh7 hown7 hrow7 hb7 hwc e72 HW6 HB6 HQ6 hs6
      go_wp2_with fail
      refine HWC.out.mono ?_
      rintro e w8 ⟨hb8, ao8, cap8, rfl, hown8⟩
      have HB8 := Lib.hid (HB7.out.trans (hb8.mono HB7.out.size))
      have HQ8 := Lib.hid (HQ7.out.trans (hb8.mono HQ7.out.size))
      have HP8 := Lib.hid (HP5.out.keep HQ8.out)
      have hlm : ((R1 ++ R2).map Wd.w).length = (R1 ++ R2).length := by simp
      rw [← hlm] at hown8
      obtain ⟨ao8', cap8', e8, hrow8, -⟩ := own_prow hown8
      injection e8 with e81 e82 e83
      subst e81 e83
      have hrc := reached_any w8 f p p v C ao8 cap8 ((R1 ++ R2).map Wd.w) HP8.out (keep_letters HL.out HB8.out) hrow8 (fun x hx => by
        obtain ⟨y, hy, rfl⟩ := List.mem_map.1 hx
        rw [List.mem_append] at hy
        exact (wok_w (hy.elim (HO1.out y) (HO2.out y))).keep HB8.out) (by rw [hlm]; omega)
      rw [hlm] at hrc
      have HRC := Lib.hid hrc
      clear hrc hrow8 hown8 hb8 e82 HB7 HQ7 HWC
      rw [hla] at *
      go_wp2_with fail
      refine HRC.out.mono ?_
      rintro e w9 ⟨hb9, hr9⟩
      have HB9 := Lib.hid (HB8.out.trans (hb9.mono HB8.out.size))
      have HP9 := Lib.hid (HP8.out.keep hb9)
      have HQ9 := Lib.hid (HQ8.out.trans (hb9.mono HQ8.out.size))
      have hkey : ∃ vb eb, e = .returned (.tuple #[vb, .int .i64 eb]) ∧ Hid ((eb = 2 ∧ (((R1 ++ R2).map Wd.w).any fun x => !mayW C.length x) = true) ∨ (eb = 0 ∧ (((R1 ++ R2).map Wd.w).any fun x => !mayW C.length x) = false ∧ ∃ s, (∀ x, x ∈ s ↔ Rch C ((R1 ++ R2).map Wd.w) x) ∧ w9.ownsRow w8.heap.size 3 1 vb (outL C.length s).length (intsV (outL C.length s)))) := by
        rcases hr9 with ⟨h, rfl⟩ | ⟨h, s, vb, hs, rfl, ho⟩
        · exact ⟨_, _, rfl, Lib.hid (.inl ⟨rfl, h⟩)⟩
        · exact ⟨_, _, rfl, Lib.hid (.inr ⟨rfl, h, s, hs, ho⟩)⟩
      obtain ⟨vb, eb, rfl, HBB⟩ := hkey
      clear hr9 hb9 HRC HP8 HB8 HQ8
      rcases HBB.out with ⟨rfl, hbadb⟩ | ⟨rfl, hgoodb, sb, hsb, hownb⟩
      · have hea : ea = 2 ∨ ea = 0 := by
          rcases HA.out with ⟨h, -⟩ | ⟨h, -⟩
          · exact .inl h
          · exact .inr h
        clear HBB HA hbadb
        rcases hea with rfl | rfl
        all_goals
          go_wp2_with fail
          refine (wakes_any w9 (keep_letters HL.out HB9.out)).mono ?_
          rintro e w10 ⟨rfl, hb10⟩
          have HB10 := Lib.hid (HB9.out.trans (hb10.mono HB9.out.size))
          clear hb10
          go_wp2_with fail
          go_ret
          exact ⟨rfl, HB10.out⟩
      · rcases HA.out with ⟨-, hbada⟩ | ⟨rfl, hgooda, sa, hsa, howna⟩
        · rw [List.map_append, List.any_append, hbada, Bool.true_or] at hgoodb
          cases hgoodb
        · have hsub : ∀ x ∈ outL C.length sa, x ∈ outL C.length sb := fun x hx => by
            rw [mem_outL] at hx ⊢
            refine ⟨hx.1, (hsb x).2 ?_⟩
            rw [List.map_append]
            exact rch_mono ((hsa x).1 hx.2)
          have hroot : ∀ y ∈ R2, y.c = true → y.a ∈ outL C.length sb := fun y hy hc => by
            have hyw : y.w ∈ (R1 ++ R2).map Wd.w := List.mem_map_of_mem (List.mem_append_right _ hy)
            have hwc : y.w.c = true ∧ y.w.a = y.a := by unfold Wd.w; rw [if_pos hc]; exact ⟨rfl, rfl⟩
            have hm : mayW C.length y.w = true := by
              rw [List.any_eq_false] at hgoodb
              have := hgoodb _ hyw
              simpa using this
            rw [mem_outL]
            refine ⟨?_, (hsb _).2 (.root (mem_named.2 ⟨_, hyw, hwc.1, hwc.2⟩))⟩
            simp only [mayW, hwc.1, if_true, Bool.and_eq_true, decide_eq_true_eq, hwc.2] at hm
            omega
          have hsrt := outL_srt C.length sb
          have hlt : ∀ x ∈ outL C.length sb, 0 ≤ x ∧ x < C.length := fun x hx => (mem_outL.1 hx).1
          obtain ⟨Ao, ac, rfl⟩ := own_slice howna
          obtain ⟨Bo, bc, rfl⟩ := own_slice hownb
          have hAl := Nat.le_trans (outL_len C.length sa) hCl
          have hBl := Nat.le_trans (outL_len C.length sb) hCl
          generalize outL C.length sa = As at *
          generalize outL C.length sb = Bs at *
          have HSUB := Lib.hid hsub
          have HROOT := Lib.hid hroot
          have HSRT := Lib.hid hsrt
          have HLT := Lib.hid hlt
          have HOA := Lib.hid (own_keep howna HQ9.out)
          have HOB := Lib.hid hownb
          have hmm := @run_makeMap Tryd.prog
          clear hsub hroot hsrt hlt howna hownb HA HBB hgooda hgoodb hsa hsb
          go_wp2_with fail
          have hmp := World.ownsMap_made w9 Tryd.prog 3 (plainElem (H := Unit) Tryd.prog 4)
          have hbm := (Below.refl w9.heap.size w9).alloc (Nat.le_refl _) (.map #[] 0)
          have HM0 : Hid (Below w9.heap.size w9 (w9.alloc (.map #[] 0)) ∧ (w9.alloc (.map #[] 0)).ownsMap Tryd.prog 3 (plainElem (H := Unit) Tryd.prog 4) w9.heap.size 0 (setM (Bs.take 0))) := Lib.hid ⟨hbm, hmp⟩
          clear hmp hbm hmm
          go_loopw [70] (fun iv wr => ∃ (i : Nat), i ≤ Bs.length ∧ iv = .int .i64 i ∧ Hid (Below w9.heap.size w9 wr ∧ wr.ownsMap Tryd.prog 3 (plainElem (H := Unit) Tryd.prog 4) w9.heap.size i (setM (Bs.take i))))
            (fun iv _ => Bs.length - (intOf iv).toNat)
          case atStart => exact ⟨0, by omega, rfl, HM0⟩
          case round =>
            clear HM0
            obtain ⟨i, hi', rfl, HI⟩ := hrel
            by_cases hlti : i < Bs.length
            · obtain ⟨n, hn⟩ : ∃ n, Bs[i]? = some n := ⟨Bs[i], by simp [hlti]⟩
              obtain ⟨n1, n2⟩ := HLT.out n (List.mem_of_getElem? hn)
              obtain ⟨g, cap', eg, hg1, hgs, hgc, hgm, hcell⟩ := own_facts (own_keep HOB.out HI.out.1) (by omega)
              injection eg with eg1 eg2 eg3
              subst eg1 eg3
              have c0 := hcell i (.int .i64 n) (by simp [intsV, hn])
              have HLEN := Lib.hid (len_any wr p p v C (HP9.out.keep HI.out.1))
              have d2 : decide (n < 0) = false := by simp; omega
              have d3 : decide ((C.length : Int) ≤ n) = false := by simp; omega
              have HTK : Hid (Bs.take (i + 1) = Bs.take i ++ [n]) := Lib.hid (by rw [List.take_add_one, hn]; rfl)
              have HWF : Hid (∀ (W2 : World), W2.ownsMap Tryd.prog 3 (plainElem (H := Unit) Tryd.prog 4) w9.heap.size (i + 1) (setM (Bs.take i ++ [n])) → wr.grownBy W2 (some w9.heap.size) → Hid (Below w9.heap.size w9 W2 ∧ W2.ownsMap Tryd.prog 3 (plainElem (H := Unit) Tryd.prog 4) w9.heap.size (i + 1) (setM (Bs.take (i + 1))))) := Lib.hid (fun W2 h1 h2 => Lib.hid ⟨HI.out.1.trans ((chg_grown h2).below HI.out.1.size (fun k h => by
                have := Option.some.inj h
                omega)), by rw [HTK.out]; exact h1⟩)
              rcases Nat.eq_zero_or_pos i with h0 | h0
              · have dI : decide (0 < (i : Int)) = false := by simp <;> omega
                have dN : decide (0 < i) = false := by simp <;> omega
                clear hcell hn h0
                go_wp2_with fail
                refine HLEN.out.mono ?_
                rintro e w' ⟨rfl, rfl⟩
                go_wp2_with (at_mapUpdate; refine stop_here ?_)
                refine Lib.hid ?_
                refine wpList_mapUpdate_own _ rfl (.tmp 96) (.tmp 97) (.const (.bool true)) 42 rfl 3 4 kI Tryd.underlying42 _ w9.heap.size _ _ rfl HI.out.2 (by unfold maxLen; omega) (.int .i64 n) (.bool true) (ikey n) rfl rfl (Go.Maps.keyOf_int_mk Tryd.underlying3 (WalkArith.wf_i64 ⟨by omega, by omega⟩)) (.lit (.bool true)) [] (plainElem_bool Tryd.underlying4 _) ?_
                intro W2 hown2 hg2
                rw [← setM_snoc] at hown2
                have HFIN := HWF.out W2 hown2 hg2
                clear hown2 hg2 HWF HLEN
                go_wp2_with fail
                go_roundw
                case rel => exact ⟨_, by omega, by go_num, HFIN⟩
                case measure => simp [intOf]; omega
              · obtain ⟨j, rfl⟩ : ∃ j, i = j + 1 := ⟨i - 1, by omega⟩
                obtain ⟨m, hm⟩ : ∃ m, Bs[j]? = some m := ⟨Bs[j], by simp⟩
                have cj := hcell j (.int .i64 m) (by simp [intsV, hm])
                have hmn : m < n := by
                  have h := List.pairwise_iff_getElem.1 HSRT.out j (j + 1) (by omega) hlti (by omega)
                  rw [List.getElem?_eq_getElem (by omega)] at hm hn
                  injection hm with hm
                  injection hn with hn
                  rw [hm, hn] at h
                  exact h
                have dI : decide (0 < (((j + 1 : Nat) : Int))) = true := by simp <;> omega
                have d1 : decide (n ≤ m) = false := by simp; omega
                have hw1 : IntKind.i64.wrap (((j + 1 : Nat) : Int) - 1) = j := by rw [IntWalk.i64_in _ (by omega)]; omega
                have hw2 : IntKind.i64.wrap ((j : Int) + 1 - 1) = j := by rw [IntWalk.i64_in _ (by omega)]; omega
                have dN : decide (0 < j + 1) = true := by simp
                clear hcell hn hm h0
                go_wp2_with fail
                refine HLEN.out.mono ?_
                rintro e w' ⟨rfl, rfl⟩
                go_wp2_with (at_mapUpdate; refine stop_here ?_)
                refine Lib.hid ?_
                refine wpList_mapUpdate_own _ rfl (.tmp 96) (.tmp 97) (.const (.bool true)) 42 rfl 3 4 kI Tryd.underlying42 _ w9.heap.size _ _ rfl HI.out.2 (by unfold maxLen; omega) (.int .i64 n) (.bool true) (ikey n) rfl rfl (Go.Maps.keyOf_int_mk Tryd.underlying3 (WalkArith.wf_i64 ⟨by omega, by omega⟩)) (.lit (.bool true)) [] (plainElem_bool Tryd.underlying4 _) ?_
                intro W2 hown2 hg2
                rw [← setM_snoc] at hown2
                have HFIN := HWF.out W2 hown2 hg2
                clear hown2 hg2 HWF HLEN
                go_wp2_with fail
                go_roundw
                case rel => exact ⟨_, by omega, by go_num, HFIN⟩
                case measure => simp [intOf]; omega
            · obtain rfl : i = Bs.length := by omega
              rw [List.take_length] at HI
              have HMAP := Lib.hid HI.out.2
              have HBL := Lib.hid HI.out.1
              clear HI HOB
              generalize wr = wL at *
              go_wp2_with fail
              go_loopw [101] (fun iv wr => ∃ (k : Nat), k ≤ As.length ∧ iv = .int .i64 k ∧ wr = wL) (fun iv _ => As.length - (intOf iv).toNat)
              case atStart => exact ⟨0, by omega, rfl, rfl⟩
              case round =>
                obtain ⟨k, hk', rfl, rfl⟩ := hrel
                by_cases hltk : k < As.length
                · obtain ⟨n, hn⟩ : ∃ n, As[k]? = some n := ⟨As[k], by simp [hltk]⟩
                  obtain ⟨g, cap', eg, hg1, hgs, hgc, hgm, hcell⟩ := own_facts (own_keep HOA.out HBL.out) (by omega)
                  injection eg with eg1 eg2 eg3
                  subst eg1 eg3
                  have c0 := hcell k (.int .i64 n) (by simp [intsV, hn])
                  have hin := HSUB.out n (List.mem_of_getElem? hn)
                  obtain ⟨n1, n2⟩ := HLT.out n hin
                  have hlook := look_set HMAP.out n (by omega) (by omega)
                  rw [decide_eq_true hin] at hlook
                  clear hcell hn hin
                  go_wp2_with fail
                  go_roundw
                  case rel => exact ⟨k + 1, by omega, by go_num, by trivial⟩
                  case measure => simp [intOf]; omega
                · obtain rfl : k = As.length := by omega
                  go_wp2_with fail
                  generalize wr = wL at *
                  go_loopw [112] (fun iv wr => ∃ (k : Nat), k ≤ R2.length ∧ iv = .int .i64 k ∧ Hid (Below wL.heap.size wL wr)) (fun iv _ => R2.length - (intOf iv).toNat)
                  case atStart => exact ⟨0, by omega, rfl, Lib.hid (Below.refl _ _)⟩
                  case round =>
                    obtain ⟨k, hk', rfl, HJ⟩ := hrel
                    by_cases hltk : k < R2.length
                    · obtain ⟨x, hx⟩ : ∃ x, R2[k]? = some x := ⟨R2[k], by simp [hltk]⟩
                      have hxm := List.mem_of_getElem? hx
                      obtain ⟨hx1, hx2⟩ := (HO2.out x hxm).1
                      have hxr := HROOT.out x hxm
                      have HXR := Lib.hid hxr
                      obtain ⟨b', off, rfl, hbs, hcx⟩ := HR2.out.keep ((HB9.out.trans (HBL.out.mono HB9.out.size)).trans (HJ.out.mono (HB9.out.trans (HBL.out.mono HB9.out.size)).size)) k x hx
                      have c0 := hcx 0 _ rfl
                      have c1 := hcx 1 _ rfl
                      have c2 := hcx 2 _ rfl
                      have c3 := hcx 3 _ rfl
                      have c4 := hcx 4 _ rfl
                      have c5 := hcx 5 _ rfl
                      have c6 := hcx 6 _ rfl
                      simp only [Nat.add_zero] at c0
                      clear hcx hx hxm hxr
                      obtain ⟨xc, xa, xk, xn, xs, xu, xao, xcap, xl⟩ := x
                      dsimp only at c0 c1 c2 c3 c4 c5 c6 hx1 hx2 HXR
                      have hbx := (Below.refl wr.heap.size wr).alloc (Nat.le_refl _) (.cells #[.bool xc, .int .i64 xa, .int .i8 xk, .int .i64 xn, .string xs, .string xu, .slice xao xl.length xcap] 49)
                      have HJX := Lib.hid (HJ.out.trans (hbx.mono HJ.out.size))
                      clear hbx
                      go_wp2_with (with_reducible refine stop_op (o := ⟨_, .store 49 (.tmp 20) (.tmp 115), _, _, _, _⟩) ?_)
                      refine Lib.hid ?_
                      refine wpList_store_new (o := ⟨none, _, _, _, _, _⟩) rfl 49 (.tmp 20) (.tmp 115) rfl #[.bool xc, .int .i64 xa, .int .i8 xk, .int .i64 xn, .string xs, .string xu, .slice xao xl.length xcap] rfl rfl (infoPA _ rfl) rfl (by simp [Value.oneCell']) ?_
                      have hnx := heap_new wr (.cells #[.bool xc, .int .i64 xa, .int .i8 xk, .int .i64 xn, .string xs, .string xu, .slice xao xl.length xcap] 49)
                      generalize wr.alloc (.cells #[.bool xc, .int .i64 xa, .int .i8 xk, .int .i64 xn, .string xs, .string xu, .slice xao xl.length xcap] 49) = wx at *
                      have e0 : wx.cell? ⟨wr.heap.size, 0, none⟩ = some (.bool xc) := (cells_at hnx 0 _ rfl).1
                      have e1 : wx.cell? ⟨wr.heap.size, 1, none⟩ = some (.int .i64 xa) := (cells_at hnx 1 _ rfl).1
                      have hxl := heap_lt hnx
                      clear hnx c0 c1 c2 c3 c4 c5 c6
                      cases xc
                      · go_wp2_with fail
                        go_roundw
                        case rel => exact ⟨k + 1, by omega, by go_num, HJX⟩
                        case measure => simp [intOf]; omega
                      · have hin := HXR.out rfl
                        have hlook := look_set (map_chg HMAP.out (chg_of_below HJX.out (fun _ => False)) (fun h => h)) xa hx1 hx2
                        rw [decide_eq_true hin] at hlook
                        clear hin
                        go_wp2_with fail
                        go_roundw
                        case rel => exact ⟨k + 1, by omega, by go_num, HJX⟩
                        case measure => simp [intOf]; omega
                    · have HBF := Lib.hid ((HB9.out.trans (HBL.out.mono HB9.out.size)).trans (HJ.out.mono (HB9.out.trans (HBL.out.mono HB9.out.size)).size))
                      go_wp2_with fail
                      refine (wakes_any wr (keep_letters HL.out HBF.out)).mono ?_
                      rintro e w10 ⟨rfl, hb10⟩
                      have HB10 := Lib.hid (HBF.out.trans (hb10.mono HBF.out.size))
                      clear hb10
                      go_wp2_with fail
                      go_ret
                      exact ⟨rfl, HB10.out⟩
theorem more_row {H : Type} {enc : TypeId × Value → H} (W : World) {base : Nat} {v0 v1 v2 : Value} {d0 d1 d2 : DataW H} {p0 p1 p2 : List MemPlace} (hv0 : Value.okWide Tryd.prog W .any base 38 v0) (h0 : DataW.Trod enc Tryd.prog W 0 (fun _ => true) true 38 v0 d0 p0) (hz0 : Sz Tryd.prog 38 d0)
    (hv1 : Value.okWide Tryd.prog W .any base 22 v1) (h1 : DataW.Trod enc Tryd.prog W 0 (fun _ => true) true 22 v1 d1 p1) (hz1 : Sz Tryd.prog 22 d1)
    (hv2 : Value.okWide Tryd.prog W .any base 22 v2) (h2 : DataW.Trod enc Tryd.prog W 0 (fun _ => true) true 22 v2 d2 p2) (hz2 : Sz Tryd.prog 22 d2)
    (hL : laidMetH Tryd.prog [("pleach/atoms.letters", letD)] W) : Calls Tryd.prog 4 #[v0, v1, v2] W (IsPost W true) := by
  obtain ⟨_, _, _, rfl⟩ := okWide_slice Tryd.underlying38 hv0
  obtain ⟨_, _, _, rfl⟩ := okWide_slice Tryd.underlying22 hv1
  obtain ⟨_, _, _, rfl⟩ := okWide_slice Tryd.underlying22 hv2
  obtain ⟨f0, hf0⟩ := h0
  obtain ⟨f1, hf1⟩ := h1
  obtain ⟨f2, hf2⟩ := h2
  obtain ⟨mo, mc, M, e0, -, -, a1, a2, a3, -⟩ := makes_of_trod hf0 hz0
  obtain ⟨ro, rc, R1, e1, -, -, b1, b2, b3, b4⟩ := parts_of_trod hf1
  obtain ⟨so, sc, R2, e2, -, -, c1, c2, c3, c4⟩ := parts_of_trod hf2
  rw [e0, e1, e2]
  exact more_law W (f0 + f1 + f2) M R1 R2 mo ro so mc rc sc (letters_of W hL) (a1.more (by omega)) b1 (fun x hx => (b2 x hx).more (by omega)) b4 c1 (fun x hx => (c2 x hx).more (by omega)) c4 a2 (b3 hz1) (c3 hz2) a3
end Go.Proofs.YtfbohajojaaiaaaDoor
