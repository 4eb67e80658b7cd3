/- atoms: Put of a new atom; New, Text, Len. Conditions: the table of letters reads as laid; lengths fit. -/
import Derived.Test.YtaldnommgjnnkaaDoorAb
namespace Go.Proofs.YtaldnommgjnnkaaDoor
open Go.ChangeShapes Go.WideShapes Go.ChangeAt Go.RowKit
open Go.Maps (Keyed string_keyed)
set_option linter.unusedVariables false
theorem infoS : (Tryd.prog.info? 9).map (fun i => (i.zero, i.size, i.bytes)) = some (some (.string ⟨#[]⟩), 1, 16) := by kernel_rfl
theorem may_size {s : ByteArray} (h : mayS s = true) : s.size ≤ 32 ∧ 0 < s.size := by
  unfold mayS at h
  rw [Bool.and_eq_true] at h
  have hp := fitsB_pos h.1
  rw [fitsB_eq] at h
  simp at h
  omega
def NewPut (w : World) (base p mb most : Nat) (rv : Value) (L : List ByteArray) (s : ByteArray) (x : Ending) (w' : World) : Prop :=
  ∃ rv', x = .returned (.tuple #[.int .i64 (L.length : Int), .int .i64 0]) ∧ Tab w' base p mb rv' most (L ++ [s]) ∧ Chg (foot p mb rv) w w' ∧ (rv'.ownBlock = rv.ownBlock ∨ ∃ k, rv'.ownBlock = some k ∧ w.heap.size ≤ k)
theorem Tab.added {w : World} {base p mb most : Nat} {rv rv' v0 : Value} {L : List ByteArray} {s : ByteArray} {W : World} (h : Tab w base p mb rv most L) (hm : mayS s = true) (hn : s ∉ L) (hl : L.length ≠ most)
    (h7 : W.heap[p]? = some (.cells #[.int .i64 most, .map (some mb), v0] 56 (0, 0)))
    (h8 : W.ownsMap Tryd.prog 9 (plainElem Tryd.prog 3) mb (L.length + 1) ((numsD L).put (skey s) (.lit (.int .i64 (L.length : Int))))) (h9 : W.ownsRow base 9 1 rv' (L.length + 1) (L.map Value.string ++ [Value.string s])) :
    Tab (W.setCell ⟨p, 2, none⟩ rv') base p mb rv' most (L ++ [s]) := by
  obtain ⟨h0, h1, h2, h3, h4, h5, h6, _, _, _⟩ := h
  have hpm : mb ≠ p := by
    rintro rfl
    obtain ⟨es, cl, hm⟩ := map_obj h8
    rw [h7] at hm; cases hm
  have hpr : ∀ k, rv'.ownBlock = some k → k ≠ p := by
    rintro k hk rfl
    obtain ⟨cur, hc⟩ := own_type h9 _ hk
    rw [h7] at hc
    injection hc with hc
    injection hc with _ hc
    cases hc
  have hg := chg_set (w := W) (p := ⟨p, 2, none⟩) rv'
  refine ⟨h0, h1, h2, h3, by simp; omega, ?_, ?_, ?_, ?_, ?_⟩
  · rw [List.nodup_append]
    refine ⟨h5, by simp, ?_⟩
    intro a ha b hb e
    simp at hb
    subst hb
    subst e
    exact hn ha
  · intro t ht
    rcases List.mem_append.1 ht with ht | ht
    · exact h6 t ht
    · simp at ht; subst ht; exact hm
  · exact set_at h7 rv'
  · rw [numsD_snoc]
    have := map_chg h8 hg hpm
    simpa using this
  · have := own_chg h9 hg hpr
    simpa using this
set_option maxHeartbeats 2000000 in
theorem put_new (s : ByteArray) (hs : s.size ≤ 9223372036854775807) {base p mb most : Nat} {rv : Value} {L : List ByteArray} (w : World) (hw : Cells w 0 letL) (hm : mayS s = true) (ht : Tab w base p mb rv most L) (hL : s ∉ L) (hl : L.length ≠ most) :
    Calls Tryd.prog 15 #[.pointer (some ⟨p, 0, none⟩), .string s] w (NewPut w base p mb most rv L s) := by
  obtain ⟨i0, hi, hz0, hz1, hz2⟩ := info_parts infoS
  have HM := may7 s hs w hw
  rw [hm] at HM
  have HM := Lib.hid HM
  have Hm := Lib.hid hm
  have Hl := Lib.hid hl
  have hq : ((L.length : Int) == (most : Int)) = false := by simp; omega
  clear hw hm hl
  go_enter Tryd.func15, Tryd.ntmps15
  go_wp2_with fail
  refine HM.out.mono ?_
  rintro e w1 ⟨rfl, hb1⟩
  have ht1 := ht.keep hb1
  obtain ⟨v, hrun⟩ := look_no ht1 hs hL
  have hbs : base ≤ w.heap.size := by have := ht.2.1; have := ht.cells.2.2.2.2.1; omega
  have hap := ht1.apart
  obtain ⟨c0, c1, c2, c3, c4, ao, c, hrv, c5⟩ := ht1.cells
  have HR := Lib.hid hrv
  have HL := Lib.hid hL
  have HT := Lib.hid ht
  have HA := Lib.hid hap
  have c2' : w1.cell? ⟨p, 2, none⟩ = some (.slice ao L.length c) := by rw [← HR.out]; exact c2
  clear hrv c2 c3 ht HM hL hap
  go_wp2_with fail
  go_quiet (fail)
  clear hrun hq
  generalize hN : w1.drewN _ = W1
  have hbN : Below w.heap.size w W1 := by rw [← hN]; exact below_drewN hb1 _
  have htN : Tab W1 base p mb rv most L := by
    rw [← hN]
    exact ht1.keep (below_drewN (Below.refl _ _) _)
  clear hN ht1 hb1 c0 c1 c2' c4
  obtain ⟨c0, c1, c2, c3, c4, _⟩ := htN.cells
  have hown := htN.2.2.2.2.2.2.2.2.1
  have hrow := htN.2.2.2.2.2.2.2.2.2
  have hblk := htN.2.2.2.2.2.2.2.1
  rw [HR.out] at c2
  have HN := Lib.hid htN
  have hw63 : (Lit.int .i64 (L.length : Int)).wf = true := WalkArith.wf_i64 (by omega)
  clear htN c3
  go_wp2_with (at_mapUpdate; refine stop_here ?_)
  refine Lib.hid ?_
  refine wpList_mapUpdate_own _ rfl (.tmp 44) (.tmp 45) (.tmp 46) 54 rfl 9 3 kS Tryd.underlying54 _ mb L.length _ rfl hown (by unfold maxLen; omega) (.string s) (.int .i64 L.length) (skey s) rfl rfl (keyS hs) _ [] (plainElem_int Tryd.underlying3 hw63) ?_
  intro W2 hown2 hg2
  have hc2 := chg_grown hg2
  have k2 : W2.heap[p]? = some (.cells #[.int .i64 most, .map (some mb), rv] 56 (0, 0)) := hc2.heap hblk (by intro e; exact HA.out.1 (Option.some.inj e))
  have r2 := own_chg hrow hc2 (by intro k hk e; exact HA.out.2.2 (hk.trans e))
  have d2 := (cells_at k2 2 _ rfl).1
  rw [HR.out] at d2
  have HC2 := Lib.hid hc2
  clear c0 c1 c2 hown hrow hblk hg2 hc2
  go_wp2_with (at_builtin; refine stop_here ?_)
  refine Lib.hid ?_
  have r3 := r2.alloc (.cells #[.string s] 9)
  rw [HR.out] at r3
  refine wpList_append_own2 rfl (.tmp 51) (.tmp 53) 25 rfl base 9 i0 (.string ⟨#[]⟩) 1 16 Tryd.underlying25 hi hz0 hz1 hz2 rfl (by decide) _ _ _ rfl r3 ⟨W2.heap.size, 0, none⟩ 1 1 [.string s] rfl rfl (one_new _ _ _) (by simp [Value.oneCell']) (by unfold maxLen; omega) (by omega) ?_ ?_
  · have := HC2.out.size
    have := hbN.size
    simp
    omega
  · intro rv' W3 hown3 hg3 hwh
    rw [← HR.out] at hg3 hwh
    obtain ⟨ao3, cc3, rfl⟩ := own_slice hown3
    have hc3 := chg_grown hg3
    have hs2 : p < W2.heap.size := heap_lt k2
    have k3 : W3.heap[p]? = some (.cells #[.int .i64 most, .map (some mb), rv] 56 (0, 0)) :=
      hc3.heap (keep_heap k2 ((Below.refl _ _).alloc (Nat.le_refl _) _)) (fun e => HA.out.2.1 e.symm)
    have m3 : W3.ownsMap Tryd.prog 9 (plainElem Tryd.prog 3) mb (L.length + 1) ((numsD L).put (skey s) (.lit (.int .i64 (L.length : Int)))) :=
      map_chg (hown2.alloc _) hc3 (fun e => HA.out.2.2 e.symm)
    have hadd := HT.out.added Hm.out HL.out Hl.out k3 m3 hown3
    have f3 := cells_at k3 2 _ rfl
    obtain ⟨f3, g3⟩ := f3
    have hp3 := heap_lt k3
    have hfin : Chg (foot p mb rv) w (W3.setCell ⟨p, 2, none⟩ (.slice ao3 (L.length + 1) cc3)) := by
      refine (chg_of_below hbN _).trans ?_
      refine (HC2.out.mono ?_).trans ?_
      · intro k _ e; exact .inr (.inl (Option.some.inj e))
      refine (chg_alloc _ W2 (.cells #[.string s] 9)).trans ?_
      refine (hc3.mono ?_).trans ?_
      · intro k _ e; exact .inr (.inr e.symm)
      exact (chg_set _).mono fun k _ e => .inl e
    have hwf : (Value.slice ao3 (L.length + 1) cc3).ownBlock = rv.ownBlock ∨ ∃ k, (Value.slice ao3 (L.length + 1) cc3).ownBlock = some k ∧ w.heap.size ≤ k := by
      refine hwh.imp id fun h => ⟨_, h, ?_⟩
      have := HC2.out.size
      have := hbN.size
      simp
      omega
    have HF := Lib.hid (⟨hadd, hfin, hwf⟩ : _ ∧ _ ∧ _)
    clear hown3 hg3 hwh hc3 k3 m3 hadd hfin hwf r3 r2 k2 hown2 d2
    go_wp2_with fail
    go_ret2
    exact ⟨_, rfl, HF.out⟩
end Go.Proofs.YtaldnommgjnnkaaDoor
