/- atoms: the law's goes, over a table that holds just these. Conditions: the table stands. -/
import Derived.Test.YtaldnommgjnnkaaDoorAg
namespace Go.Proofs.YtaldnommgjnnkaaDoor
open Go.ChangeShapes Go.WideShapes Go.ChangeAt Go.RowKit Go.Shelf
set_option linter.unusedVariables false
attribute [local go_sem] Oper.semAt_some
theorem func_nil (w : World) (v : Value) : (binOp .eql 58 (.func (.func 28) #[] #[v]) .nilFunc).run Tryd.prog w = .ok (.bool false) w := by kernel_rfl
theorem box_new (w : World) (v : Value) (t : TypeId) : (w.alloc (.cells #[v] t)).heap[w.heap.size]? = some (.cells #[v] t (0, 0)) := (MapKept.heap_alloc w _).1
/-- what goes keeps: its four boxes -/
def GoB (w0 : World) (sv : Value) (leave : Int) (n : Nat) (W : World) : Prop :=
  W.cell? ⟨w0.heap.size, 0, none⟩ = some sv ∧ W.cell? ⟨w0.heap.size + 1, 0, none⟩ = some (.int .i64 leave) ∧ (W.cell? ⟨w0.heap.size + 1 + 1, 0, none⟩ = some (.bool false) ∧ W.frozen? ⟨w0.heap.size + 1 + 1, 0, none⟩ = false) ∧
    (W.cell? ⟨w0.heap.size + 1 + 1 + 1 + 1, 0, none⟩ = some (.int .i64 n) ∧ W.frozen? ⟨w0.heap.size + 1 + 1 + 1 + 1, 0, none⟩ = false)
theorem GoB.five (w : World) (sv pv : Value) (leave : Int) (t0 t1 t2 t3 t4 : TypeId) :
    GoB w sv leave 0 (((((w.alloc (.cells #[sv] t0)).alloc (.cells #[.int .i64 leave] t1)).alloc (.cells #[.bool false] t2)).alloc (.cells #[pv] t3)).alloc (.cells #[.int .i64 0] t4)) ∧
    (((((w.alloc (.cells #[sv] t0)).alloc (.cells #[.int .i64 leave] t1)).alloc (.cells #[.bool false] t2)).alloc (.cells #[pv] t3)).alloc (.cells #[.int .i64 0] t4)).cell? ⟨w.heap.size + 1 + 1 + 1, 0, none⟩ = some pv ∧
    Below w.heap.size w (((((w.alloc (.cells #[sv] t0)).alloc (.cells #[.int .i64 leave] t1)).alloc (.cells #[.bool false] t2)).alloc (.cells #[pv] t3)).alloc (.cells #[.int .i64 0] t4)) := by
  refine ⟨⟨by simp [go_sem], by simp [go_sem], ⟨by simp [go_sem], by simp [go_sem]⟩, by simp [go_sem], by simp [go_sem]⟩, by simp [go_sem], ?_⟩
  exact (((((Below.refl _ w).alloc (Nat.le_refl _) _).alloc (by simp) _).alloc (by simp; omega) _).alloc (by simp; omega) _).alloc (by simp; omega) _
theorem GoB.own (w : World) (sv : Value) (leave : Int) {β : Type} (n : β → Nat) : Own (fun (s : β) W => GoB w sv leave (n s) W) := fun s A B row h hg hr =>
  ⟨cell_kept h.1 hg hr, cell_kept h.2.1 hg hr, ⟨cell_kept h.2.2.1.1 hg hr, (frozen_kept h.2.2.1.1 hg hr).trans h.2.2.1.2⟩, cell_kept h.2.2.2.1 hg hr, (frozen_kept h.2.2.2.1 hg hr).trans h.2.2.2.2⟩
theorem GoB.inc {w W : World} {sv : Value} {leave : Int} {n : Nat} (h : GoB w sv leave n W) : GoB w sv leave (n + 1) (W.setCell ⟨w.heap.size + 1 + 1 + 1 + 1, 0, none⟩ (.int .i64 ((n : Int) + 1))) := by
  obtain ⟨g1, g2, ⟨g3, g4⟩, g5, g6⟩ := h
  have hc := chg_set (w := W) (p := ⟨w.heap.size + 1 + 1 + 1 + 1, 0, none⟩) (.int .i64 ((n : Int) + 1))
  refine ⟨hc.cell g1 (by simp; try omega), hc.cell g2 (by simp; try omega), ⟨hc.cell g3 (by simp; try omega), by rw [World.frozen?_setCell]; exact g4⟩, ?_, by rw [World.frozen?_setCell]; exact g6⟩
  have := World.cell?_setCell_same' W ⟨w.heap.size + 1 + 1 + 1 + 1, 0, none⟩ (.int .i64 ((n : Int) + 1)) (by rw [g5]; rfl)
  rw [this]
  congr 2
def GoX (w0 : World) (sv : Value) (leave : Int) (L : List ByteArray) (c : Code) (pre : List AP) (W : World) : Prop :=
  (c = .ret ∧ ¬ pre <+: allP L ∧ W.cell? ⟨w0.heap.size + 1 + 1, 0, none⟩ = some (.bool false)) ∨ (c = .exit 0 ∧ (pre.length : Int) = leave ∧ GoB w0 sv leave pre.length W)
theorem GoX.own (w : World) (sv : Value) (leave : Int) (L : List ByteArray) (c : Code) : Own (GoX w sv leave L c) := fun s A B row h hg hr =>
  h.imp (fun h => ⟨h.1, h.2.1, cell_kept h.2.2 hg hr⟩) (fun h => ⟨h.1, h.2.1, GoB.own w sv leave (fun (p : List AP) => p.length) s A B row h.2.2 hg hr⟩)
theorem pre_next {L : List ByteArray} {pre : List AP} {x : AP} (hp : pre = (allP L).take pre.length) (h : pre ++ [x] <+: allP L) : L[pre.length]? = some x.2 ∧ x.1 = pre.length := by
  obtain ⟨r, hr⟩ := h
  have h1 : (allP L)[pre.length]? = some x := by rw [← hr]; simp
  unfold allP at h1
  rw [List.getElem?_zip_eq_some] at h1
  obtain ⟨h2, h3⟩ := h1
  have hlt := (List.getElem?_eq_some_iff.1 h3).1
  rw [List.getElem?_range hlt] at h2
  exact ⟨h3, (Option.some.inj h2).symm⟩
theorem pre_step {L : List ByteArray} {pre : List AP} {s : ByteArray} (hp : pre = (allP L).take pre.length) (hs : L[pre.length]? = some s) : pre ++ [(pre.length, s)] = (allP L).take (pre ++ [(pre.length, s)]).length := by
  have : (pre ++ [(pre.length, s)]).length = pre.length + 1 := by simp
  rw [this, allP_take hs, ← hp]
set_option maxRecDepth 100000 in
set_option maxHeartbeats 4000000 in
theorem goes_same (p mb most base : Nat) (rv : Value) (L : List ByteArray) (w : World) (ht : Tab w base p mb rv most L) (hlow : TabLow w.heap.size p mb rv) (ao : Option Addr) (cap : Nat) (hs : SlV w (.slice ao L.length cap) (L.map Value.string)) (leave : Int) :
    Calls Tryd.prog 18 #[.pointer (some ⟨p, 0, none⟩), .slice ao L.length cap, .int .i64 leave] w (IsPost w true) := by
  have hL : L.length ≤ 65536 := by have := ht.2.2.2.1; have := ht.2.2.2.2.1; omega
  have hfn := @func_nil
  refine (callsIn_wide (n := 9)).1 ?_
  refine callsIn_of_wp_marks Tryd.func18 rfl trivial ?_ rfl
  simp only [Tryd.ntmps18, List.size_toArray, List.length_cons, List.length_nil, Nat.reduceAdd, Nat.reduceSub, Array.replicate_succ, Array.replicate_zero, List.push_toArray, List.append_toArray, List.nil_append, List.cons_append]
  gi_wp2
  refine ⟨trivial, ?_⟩
  refine (callsIn_wide.2 (all_in _ _)).mono ?_
  rintro e w' ⟨rfl, rfl⟩
  gi_wp2
  obtain ⟨hg0, hbp, hB0⟩ := GoB.five w (.slice ao L.length cap) (.pointer (some ⟨p, 0, none⟩)) leave 25 3 4 26 3
  have hsz : (((((w.alloc (.cells #[.slice ao L.length cap] 25)).alloc (.cells #[.int .i64 leave] 3)).alloc (.cells #[.bool false] 4)).alloc (.cells #[.pointer (some ⟨p, 0, none⟩)] 26)).alloc (.cells #[.int .i64 0] 3)).heap.size = w.heap.size + 5 := by simp
  generalize hWX : (((((w.alloc (.cells #[.slice ao L.length cap] 25)).alloc (.cells #[.int .i64 leave] 3)).alloc (.cells #[.bool false] 4)).alloc (.cells #[.pointer (some ⟨p, 0, none⟩)] 26)).alloc (.cells #[.int .i64 0] 3)) = W0 at *
  clear hWX
  refine wpIn_rangeFunc_ownF rfl (by omega) (gf := 28) (lb := #[.pointer (some ⟨w.heap.size + 1 + 1 + 1, 0, none⟩)]) rfl trivial (enters_of Tryd.func28 (by kernel_rfl) rfl)
    (all_stops (w.heap.size + 1 + 1 + 1) (w.heap.size + 1 + 1 + 1 + 1) p mb most base rv L W0 (by omega) (fun k hk => by have := hlow k hk; omega) (by omega) hbp (ht.keep hB0)) belowK_t (belowK_b (by omega)) (Below.refl _ _) (fun _ => rfl)
    (fun pre W => (GoB w (.slice ao L.length cap) leave pre.length W ∧ pre = (allP L).take pre.length) ∧ Below w.heap.size w W)
    (fun c pre W => GoX w (.slice ao L.length cap) leave L c pre W ∧ Below w.heap.size w W)
    (OwnFrom.and (Own.from (fun s A B row h hg hr => ⟨GoB.own w (.slice ao L.length cap) leave (fun (p : List AP) => p.length) s A B row h.1 hg hr, h.2⟩) _) (ownFrom_below (Nat.le_refl _) (by omega)))
    (fun c => OwnFrom.and (Own.from (GoX.own w (.slice ao L.length cap) leave L c) _) (ownFrom_below (Nat.le_refl _) (by omega)))
    ⟨⟨hg0, rfl⟩, hB0⟩ (fun x => { tmps := #[.pointer (some ⟨p, 0, none⟩), .slice ao L.length cap, .int .i64 leave, undef, .pointer (some ⟨w.heap.size, 0, none⟩), .pointer (some ⟨w.heap.size + 1, 0, none⟩), .pointer (some ⟨w.heap.size + 1 + 1, 0, none⟩), .func (.func 28) #[] #[.pointer (some ⟨w.heap.size + 1 + 1 + 1, 0, none⟩)], .pointer (some ⟨w.heap.size + 1 + 1 + 1 + 1, 0, none⟩), .int .i64 x.1, .string x.2, .pointer (some ⟨p, 0, none⟩), .func (.func 28) #[] #[.pointer (some ⟨w.heap.size + 1 + 1 + 1, 0, none⟩)], .func (.func 28) #[] #[.pointer (some ⟨w.heap.size + 1 + 1 + 1, 0, none⟩)], .bool false, .func (.func 28) #[] #[.pointer (some ⟨w.heap.size + 1 + 1 + 1, 0, none⟩)], .int .i64 x.1, .string x.2, undef, undef, undef, undef, undef, undef, undef, undef, undef, undef, undef, undef, undef, undef, undef, undef, undef, undef, undef, undef, undef, undef, undef, undef, undef, undef, undef, undef, undef, undef, undef], defers := [] }) ?assign ?body ?done ?stop
  case assign =>
    rintro l ⟨x1, x2⟩ W K hK
    dsimp only [encA] at hK ⊢
    gi_wp2
    exact hK
  case body =>
    rintro l pre ⟨x1, x2⟩ W ⟨⟨⟨g1, g2, ⟨g3, g4⟩, g5, g6⟩, hp⟩, hB⟩ hlen
    obtain ⟨s, hsL⟩ : ∃ s, L[pre.length]? = some s := ⟨L[pre.length], by simp [hlen]⟩
    obtain ⟨b, off, rfl, hbw, hc⟩ := hs.at (i := pre.length) (u := .string s) (by simp [hsL])
    have hcW := keep_cell hc hB
    have hn8 : w.heap.size + 1 + 1 + 1 + 1 < W.heap.size := World.block_lt_of_cell? W _ g5
    have hn6 : w.heap.size + 1 + 1 < W.heap.size := World.block_lt_of_cell? W _ g3
    have d1 : decide ((L.length : Int) ≤ (pre.length : Int)) = false := by simp; omega
    have HP := Lib.hid hp
    have HSL := Lib.hid hsL
    have hnp : ∀ h : ¬ (x1 = pre.length ∧ x2 = s), ¬ pre ++ [(x1, x2)] <+: allP L := fun h hx => by
      have := pre_next hp hx
      rw [hsL] at this
      exact h ⟨this.2, (Option.some.inj this.1).symm⟩
    have HNP := Lib.hid hnp
    clear hp hsL hc hnp
    by_cases h1 : x1 = pre.length
    · by_cases h2 : x2 = s
      · subst h2
        have hq1 : ((x1 : Int) != (pre.length : Int)) = false := by simp [h1]
        have hstep := pre_step HP.out HSL.out
        rw [← h1] at hstep
        have HST := Lib.hid hstep
        have hq1' : ((pre.length : Int) != (pre.length : Int)) = false := by simp
        have hg' : GoB w (.slice (some ⟨b, off, none⟩) L.length cap) leave (pre ++ [(x1, x2)]).length (W.setCell ⟨w.heap.size + 1 + 1 + 1 + 1, 0, none⟩ (.int .i64 ((pre.length : Int) + 1))) := by
          have := GoB.inc (w := w) (sv := .slice (some ⟨b, off, none⟩) L.length cap) (leave := leave) (n := pre.length) (W := W) ⟨g1, g2, ⟨g3, g4⟩, g5, g6⟩
          simpa using this
        have HG := Lib.hid hg'
        have hln : ((pre ++ [(x1, x2)]).length : Int) = (pre.length : Int) + 1 := by simp
        have HLN := Lib.hid hln
        clear hg' hstep h1 hln
        by_cases h3 : (pre.length : Int) + 1 = leave
        · have hq3 : ((pre.length : Int) + 1 == leave) = true := by simp [h3]
          have H3 := Lib.hid h3
          clear h3
          gi_wp2
          exact ⟨KeepsOthers.setCell _ _ _, .inr ⟨rfl, HLN.out.trans H3.out, HG.out⟩, hB.setCell (p := ⟨w.heap.size + 1 + 1 + 1 + 1, 0, none⟩) (by simp; omega) _⟩
        · have hq3 : ((pre.length : Int) + 1 == leave) = false := by simp [h3]
          clear h3
          gi_wp2
          exact ⟨KeepsOthers.setCell _ _ _, (Below.refl _ W).setCell (p := ⟨w.heap.size + 1 + 1 + 1 + 1, 0, none⟩) (Nat.le_refl _) _, ⟨HG.out, HST.out⟩, hB.setCell (p := ⟨w.heap.size + 1 + 1 + 1 + 1, 0, none⟩) (by simp; omega) _⟩
      · have hq1 : ((x1 : Int) != (pre.length : Int)) = false := by simp [h1]
        have hq1' : ((pre.length : Int) != (pre.length : Int)) = false := by simp
        have hq2 := str_ne h2
        have HN := Lib.hid (HNP.out (fun h => h2 h.2))
        clear h1 h2
        gi_wp2
        exact ⟨KeepsOthers.setCell _ _ _, .inl ⟨rfl, HN.out, World.cell?_setCell_same' _ _ _ (by rw [g3]; rfl)⟩, hB.setCell (p := ⟨w.heap.size + 1 + 1, 0, none⟩) (by simp; omega) _⟩
    · have hq1 : ((x1 : Int) != (pre.length : Int)) = true := by simp; omega
      have HN := Lib.hid (HNP.out (fun h => h1 h.1))
      clear h1
      gi_wp2
      exact ⟨KeepsOthers.setCell _ _ _, .inl ⟨rfl, HN.out, World.cell?_setCell_same' _ _ _ (by rw [g3]; rfl)⟩, hB.setCell (p := ⟨w.heap.size + 1 + 1, 0, none⟩) (by simp; omega) _⟩
  case done =>
    rintro D ys W hD rfl ⟨⟨hg, _⟩, hB⟩ hK
    rw [allP_length] at hg
    obtain ⟨g1, g2, ⟨g3, g4⟩, g5, g6⟩ := hg
    have hn6 : w.heap.size + 1 + 1 < W.heap.size := World.block_lt_of_cell? W _ g3
    gi_wp2
    have hK' := (KeepsOthers.setCell W ⟨w.heap.size + 1 + 1, 0, none⟩ (.bool true)).same D _ hK rfl
    refine ⟨by simp, .inl ⟨_, _, rfl, run_takeDeferred hK', ?_⟩⟩
    have hc5 := cell_kept (World.cell?_setCell_same' W ⟨w.heap.size + 1 + 1, 0, none⟩ (.bool true) (by rw [g3]; rfl)) (grownBy_putObj' _ D (.deferred none)) (fun r e => by cases e; exact ⟨_, hK', rfl⟩)
    refine ⟨.bool true, ?_, rfl, (hB.setCell (p := ⟨w.heap.size + 1 + 1, 0, none⟩) (by simp; omega) _).trans (belowK_b (w := w) (Nat.le_refl _) _ D _ _ (by omega) hK' rfl rfl)⟩
    simp [results, Tryd.f18, go_sem, hc5]
  case stop =>
    rintro D c pre W hD hpre ⟨hx, hB⟩ hK
    rcases hx with ⟨rfl, hn, _⟩ | ⟨rfl, hle, hg⟩
    · exact absurd hpre hn
    · obtain ⟨g1, g2, ⟨g3, g4⟩, g5, g6⟩ := hg
      have hn6 : w.heap.size + 1 + 1 < W.heap.size := World.block_lt_of_cell? W _ g3
      subst hle
      by_cases h : pre.length = L.length
      · have hq : ((pre.length : Int) == (L.length : Int)) = true := by simp [h]
        clear h
        have hn6 : w.heap.size + 1 + 1 < W.heap.size := World.block_lt_of_cell? W _ g3
        gi_wp2
        have hK' := (KeepsOthers.setCell W ⟨w.heap.size + 1 + 1, 0, none⟩ (.bool true)).same D _ hK rfl
        refine ⟨by simp, .inl ⟨_, _, rfl, run_takeDeferred hK', ?_⟩⟩
        have hc5 := cell_kept (World.cell?_setCell_same' W ⟨w.heap.size + 1 + 1, 0, none⟩ (.bool true) (by rw [g3]; rfl)) (grownBy_putObj' _ D (.deferred none)) (fun r e => by cases e; exact ⟨_, hK', rfl⟩)
        refine ⟨.bool true, ?_, rfl, (hB.setCell (p := ⟨w.heap.size + 1 + 1, 0, none⟩) (by simp; omega) _).trans (belowK_b (w := w) (Nat.le_refl _) _ D _ _ (by omega) hK' rfl rfl)⟩
        simp [results, Tryd.f18, go_sem, hc5]
      · have hq : ((pre.length : Int) == (L.length : Int)) = false := by simp; omega
        clear h
        have hn6 : w.heap.size + 1 + 1 < W.heap.size := World.block_lt_of_cell? W _ g3
        gi_wp2
        have hK' := (KeepsOthers.setCell W ⟨w.heap.size + 1 + 1, 0, none⟩ (.bool true)).same D _ hK rfl
        refine ⟨by simp, .inl ⟨_, _, rfl, run_takeDeferred hK', ?_⟩⟩
        have hc5 := cell_kept (World.cell?_setCell_same' W ⟨w.heap.size + 1 + 1, 0, none⟩ (.bool true) (by rw [g3]; rfl)) (grownBy_putObj' _ D (.deferred none)) (fun r e => by cases e; exact ⟨_, hK', rfl⟩)
        refine ⟨.bool true, ?_, rfl, (hB.setCell (p := ⟨w.heap.size + 1 + 1, 0, none⟩) (by simp; omega) _).trans (belowK_b (w := w) (Nat.le_refl _) _ D _ _ (by omega) hK' rfl rfl)⟩
        simp [results, Tryd.f18, go_sem, hc5]
end Go.Proofs.YtaldnommgjnnkaaDoor
