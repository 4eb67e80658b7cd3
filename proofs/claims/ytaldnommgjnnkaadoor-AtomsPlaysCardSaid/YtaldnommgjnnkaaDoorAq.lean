/- The law AtomsPlays, walked. Conditions: the table of letters reads as laid; lengths fit. -/
import Derived.Test.YtaldnommgjnnkaaDoorAi
import Derived.Test.YtaldnommgjnnkaaDoorAp
namespace Go.Proofs.YtaldnommgjnnkaaDoor
open Go.ChangeShapes Go.WideShapes Go.ChangeAt Go.RowKit
set_option linter.unusedVariables false
abbrev Ac := Int × ByteArray × Int
/-- a slice's value that reads as a row of acts -/
def Acts (w : World) (v : Value) (l : List Ac) : Prop :=
  ∃ ao cap, v = .slice ao l.length cap ∧ l.length ≤ cap ∧ cap ≤ 9223372036854775807 ∧ ∀ i x, l[i]? = some x → x.2.1.size ≤ 9223372036854775807 ∧
    ∃ b off, ao = some ⟨b, off, none⟩ ∧ w.cell? ⟨b, off + i * 3, none⟩ = some (.int .i64 x.1) ∧ w.cell? ⟨b, off + i * 3 + 1, none⟩ = some (.string x.2.1) ∧ w.cell? ⟨b, off + i * 3 + 2, none⟩ = some (.int .i64 x.2.2)
/-- what the loop knows -/
def PlayI (w0 : World) (p mb p2 most : Nat) (L : List ByteArray) (rv rv2 : Value) (W : World) : Prop :=
  Tab W w0.heap.size p mb rv most L ∧ RTab W w0.heap.size p2 rv2 most L ∧ (∀ k, foot p mb rv k → ¬ rfoot p2 rv2 k) ∧ Below w0.heap.size w0 W
theorem PlayI.keep {w0 : World} {p mb p2 most : Nat} {L : List ByteArray} {rv rv2 : Value} {W W' : World} (h : PlayI w0 p mb p2 most L rv rv2 W) (hb : Below W.heap.size W W') : PlayI w0 p mb p2 most L rv rv2 W' :=
  ⟨h.1.keep hb, h.2.1.keep hb, h.2.2.1, h.2.2.2.trans (hb.mono h.2.2.2.size)⟩
/-- behind a Put -/
theorem PlayI.put {w0 : World} {p mb p2 most : Nat} {L L' : List ByteArray} {rv rv' rv2 : Value} {W W' : World} (h : PlayI w0 p mb p2 most L rv rv2 W) (ht : Tab W' w0.heap.size p mb rv' most L') (hc : Chg (foot p mb rv) W W')
    (hr : rv'.ownBlock = rv.ownBlock ∨ ∃ k, rv'.ownBlock = some k ∧ W.heap.size ≤ k) : RTab W' w0.heap.size p2 rv2 most L ∧ (∀ k, foot p mb rv' k → ¬ rfoot p2 rv2 k) ∧ Below w0.heap.size w0 W' := by
  obtain ⟨h1, h2, h3, h4⟩ := h
  refine ⟨h2.chg hc fun k hk hf => h3 k hf hk, fun k hf hk => ?_, h4.trans (tab_below h1 h4.size hc)⟩
  rcases hf with e | e | e
  · exact h3 k (.inl e) hk
  · exact h3 k (.inr (.inl e)) hk
  · rcases hr with hr | ⟨j, hj, hn⟩
    · exact h3 k (.inr (.inr (hr ▸ e))) hk
    · rw [hj] at e
      have := Option.some.inj e
      have := h2.low k hk
      omega
theorem PlayI.rput {w0 : World} {p mb p2 most : Nat} {L L' : List ByteArray} {rv rv2 rv2' : Value} {W W' : World} (ht : Tab W w0.heap.size p mb rv most L') (h2 : RTab W w0.heap.size p2 rv2 most L) (h3 : ∀ k, foot p mb rv k → ¬ rfoot p2 rv2 k) (h4 : Below w0.heap.size w0 W)
    (ht2 : RTab W' w0.heap.size p2 rv2' most L') (hc : Chg (rfoot p2 rv2) W W') (hr : rv2'.ownBlock = rv2.ownBlock ∨ ∃ k, rv2'.ownBlock = some k ∧ W.heap.size ≤ k) : PlayI w0 p mb p2 most L' rv rv2' W' := by
  refine ⟨ht.chg hc fun k hk hf => h3 k hk hf, ht2, fun k hf hk => ?_, h4.trans (hc.below h4.size h2.base)⟩
  rcases hk with e | e
  · exact h3 k hf (.inl e)
  · rcases hr with hr | ⟨j, hj, hn⟩
    · exact h3 k hf (.inr (hr ▸ e))
    · rw [hj] at e
      have := Option.some.inj e
      have := ht.low k hf
      omega
def PlayS (p2 base p mb most : Nat) (rv v2 : Value) (L : List ByteArray) (w : World) : Prop :=
  w.cell? ⟨p2, 1, none⟩ = some v2 ∧ Tab w base p mb rv most L
set_option maxRecDepth 100000 in
set_option maxHeartbeats 8000000 in
theorem plays_in (w : World) (hw : Cells w 0 letL) (ao : Option Addr) (cap : Nat) (l : List Ac) (hl : l.length ≤ 200) (hsl : Acts w (.slice ao l.length cap) l) (most : Nat) (hm1 : 1 ≤ most) (hm2 : most ≤ 65536) (leave : Int) :
    Calls Tryd.prog 6 #[.int .i64 most, .slice ao l.length cap, .int .i64 leave] w (IsPost w true) := by
  have h0 : 0 < w.heap.size := by have := World.block_lt_of_cell? w _ (hw 0 _ rfl).1; omega
  have k0 : ∀ W, Below w.heap.size w W → Cells W 0 letL := fun W hb => keepCells hw hb
  have HK := Lib.hid k0
  have hd : decide ((200 : Int) < (l.length : Int)) = false := by simp; omega
  clear hw k0
  go_enter Tryd.func6, Tryd.ntmps6
  go_wp2_with fail
  refine (new_ok most hm1 hm2 w h0).mono ?_
  rintro e w1 ⟨p, mb, rfl, ht1, hb1⟩
  go_wp2_with fail
  refine (rnew_ok most hm1 hm2 w1).mono ?_
  rintro e w2 ⟨p2, rfl, hr2, hb2⟩
  have hI0 : PlayI w p mb p2 most [] (.slice none 0 0) (.slice none 0 0) w2 := by
    refine ⟨ht1.keep hb2, ⟨by have := hb1.size; have := hr2.1; omega, hr2.2.1, hr2.2.2.1, hr2.2.2.2.1, World.ownsRow_nil _ _ _ _⟩, fun k hf hk => ?_, hb1.trans (hb2.mono hb1.size)⟩
    have h1 := ht1.low k hf
    rcases hk with rfl | hk
    · have := hr2.1
      omega
    · cases hk
  have HI0 := Lib.hid hI0
  clear hI0 ht1 hr2 hb1 hb2
  go_wp2_with fail
  clear hd
  go_loopw [11] (fun iv wr => ∃ (k : Nat) (L : List ByteArray) (rv rv2 : Value), k ≤ l.length ∧ iv = .int .i64 k ∧ PlayI w p mb p2 most L rv rv2 wr)
    (fun iv _ => l.length - (intOf iv).toNat)
  case atStart => exact ⟨0, [], _, _, by omega, rfl, HI0.out⟩
  case round =>
    obtain ⟨k, L, rv, rv2, hk, rfl, hI⟩ := hrel
    by_cases hlt : k < l.length
    · obtain ⟨⟨d, s, n⟩, hx⟩ : ∃ x, l[k]? = some x := ⟨l[k], by simp [hlt]⟩
      obtain ⟨ao', cap', hv, _, _, hat⟩ := hsl
      injection hv with e1 _ e3
      subst e1
      subst e3
      obtain ⟨hss, b, off, rfl, g0, g1, g2⟩ := hat k _ hx
      dsimp only at hss g0 g1 g2
      have HG := Lib.hid (⟨g0, g1, g2⟩ : _ ∧ _ ∧ _)
      obtain ⟨hT, hR, hdj, hB⟩ := id hI
      have q0 := keep_cell g0 hB
      have q1 := keep_cell g1 hB
      have q2 := keep_cell g2 hB
      clear hat hx g0 g1 g2
      by_cases hd0 : d = 0
      · subst hd0
        go_wp2_with fail
        refine (put_any s hss wr (HK.out _ hB) hT).mono ?_
        rintro e w3 ⟨rv', rfl, hT3, hc3, hr3⟩
        obtain ⟨hR3, hdj3, hB3⟩ := PlayI.put hI hT3 hc3 hr3
        have q1 := keep_cell HG.out.2.1 hB3
        clear hI hT hR hdj hB q0 q1 q2 hc3 hr3
        have q1 := keep_cell HG.out.2.1 hB3
        generalize hn : putN most L s = n1 at *
        generalize hm : putE most L s = n2 at *
        have HN := Lib.hid hn
        have HM := Lib.hid hm
        clear hn hm
        go_wp2_with fail
        refine (rput_any s hss w3 hR3).mono ?_
        rintro e w4 ⟨rv2', he, hR4, hc4, hr4⟩
        rw [HN.out, HM.out] at he
        subst he
        have hI := PlayI.rput hT3 hR3 hdj3 hB3 hR4 hc4 hr4
        obtain ⟨L', hL'⟩ : ∃ L', L' = putL most L s := ⟨_, rfl⟩
        rw [← hL'] at hI
        clear hL' hT3 hR3 hdj3 hB3 hR4 hc4 hr4 q1
        obtain ⟨c0, c2, c3, c4, ao2, cc2, hrv2, c5⟩ := hI.2.1.cells
        rw [hrv2] at c2
        have hOS : PlayS p2 w.heap.size p mb most rv' (.slice ao2 L'.length cc2) L' w4 := ⟨c2, hI.1⟩
        have HI := Lib.hid hI
        have hq : (((L'.length : Nat) : Int) != (L'.length : Int)) = false := by simp
        clear c0 c2 c3 c4 hrv2 hI
        go_wp2_with fail
        have hD : PlayS p2 w.heap.size p mb most rv' (.slice ao2 L'.length cc2) L' (w4).drew := ⟨hOS.1, hOS.2.keep (Below.refl _ _).drew⟩
        refine region_plan (PlayS p2 w.heap.size p mb most rv' (.slice ao2 L'.length cc2) L') [(0, 0), (1, 0), (2, 0), (3, 0), (5, 0), (6, 0), (7, 0), (8, 0), (9, 0), (4, 1), (10, 0), (11, 0)] (by kernel_rfl) (by kernel_rfl) (by kernel_rfl) hD ?_
        have hIW := HI.out.keep (Below.refl _ (w4)).drew
        generalize (w4).drew = W0 at hD hIW ⊢
        clear hOS
        have HIW := Lib.hid hIW
        clear hIW
        iterate 9 (first | (refine plan_skip rfl ?_ ?_; (focus (rfl)); (try simp only [Act.put, List.setIfInBounds_toArray, List.set_cons_zero, List.set_cons_succ])) | (refine plan_take (v := ?_) rfl ?_ (fun w hSw => ?_) ?_; rotate_left; (focus (rfl)); (focus (unfold PlayS at hSw; (go_simp <;> with_reducible rfl))); (try simp only [Act.put, List.setIfInBounds_toArray, List.set_cons_zero, List.set_cons_succ])))
        refine plan_run rfl ?_ (fun K hK => ?_)
        focus (rfl)
        go_simp
        refine (len_any _ hD.2).mono ?_
        rintro e W1 ⟨rfl, rfl⟩
        have hS1 := hD
        refine hK.out _ _ hS1 ?_
        clear hK K 
        (try simp only [Act.put, List.setIfInBounds_toArray, List.set_cons_zero, List.set_cons_succ])
        iterate 2 (first | (refine plan_skip rfl ?_ ?_; (focus (rfl)); (try simp only [Act.put, List.setIfInBounds_toArray, List.set_cons_zero, List.set_cons_succ])) | (refine plan_take (v := ?_) rfl ?_ (fun w hSw => ?_) ?_; rotate_left; (focus (rfl)); (focus (unfold PlayS at hSw; (go_simp <;> with_reducible rfl))); (try simp only [Act.put, List.setIfInBounds_toArray, List.set_cons_zero, List.set_cons_succ])))
        refine plan_done ?_
        go_wp2_with fail
        go_roundw
        case rel => exact ⟨k + 1, L', rv', rv2', by omega, by go_num, HIW.out⟩
        case measure => simp [intOf]; omega
      · by_cases hd1 : d = 1
        · subst hd1
          have hne : ((1 : Int) == 0) = false := rfl
          go_wp2_with fail
          refine (of_any p mb most _ rv L wr hT hT.low s).mono ?_
          rintro e w3 ⟨rfl, hb3⟩
          have hI3 := hI.keep hb3
          have q1 := keep_cell q1 hb3
          have hR3 := hI3.2.1
          clear hI hT hR hdj hB q0 q2 hb3
          generalize hn : ofN L s = n1 at *
          generalize hm : ofB L s = n2 at *
          have HN := Lib.hid hn
          have HM := Lib.hid hm
          clear hn hm
          go_wp2_with fail
          refine (rof_any w3 hR3 s).mono ?_
          rintro e w4 ⟨he, rfl⟩
          rw [HN.out, HM.out] at he
          subst he
          have hI := hI3
          obtain ⟨L', hL'⟩ : ∃ L', L' = L := ⟨_, rfl⟩
          obtain ⟨rv', hrv'⟩ : ∃ L', L' = rv := ⟨_, rfl⟩
          obtain ⟨rv2', hrv2'⟩ : ∃ L', L' = rv2 := ⟨_, rfl⟩
          rw [← hL', ← hrv', ← hrv2'] at hI
          clear hL' hrv' hrv2' hR3 hI3 q1
          obtain ⟨c0, c2, c3, c4, ao2, cc2, hrv2, c5⟩ := hI.2.1.cells
          rw [hrv2] at c2
          have hOS : PlayS p2 w.heap.size p mb most rv' (.slice ao2 L'.length cc2) L' w3 := ⟨c2, hI.1⟩
          have HI := Lib.hid hI
          have hq : (((L'.length : Nat) : Int) != (L'.length : Int)) = false := by simp
          clear c0 c2 c3 c4 hrv2 hI
          go_wp2_with fail
          have hD : PlayS p2 w.heap.size p mb most rv' (.slice ao2 L'.length cc2) L' (w3).drew := ⟨hOS.1, hOS.2.keep (Below.refl _ _).drew⟩
          refine region_plan (PlayS p2 w.heap.size p mb most rv' (.slice ao2 L'.length cc2) L') [(0, 0), (1, 0), (2, 0), (3, 0), (5, 0), (6, 0), (7, 0), (8, 0), (9, 0), (4, 1), (10, 0), (11, 0)] (by kernel_rfl) (by kernel_rfl) (by kernel_rfl) hD ?_
          have hIW := HI.out.keep (Below.refl _ (w3)).drew
          generalize (w3).drew = W0 at hD hIW ⊢
          clear hOS
          have HIW := Lib.hid hIW
          clear hIW
          iterate 9 (first | (refine plan_skip rfl ?_ ?_; (focus (rfl)); (try simp only [Act.put, List.setIfInBounds_toArray, List.set_cons_zero, List.set_cons_succ])) | (refine plan_take (v := ?_) rfl ?_ (fun w hSw => ?_) ?_; rotate_left; (focus (rfl)); (focus (unfold PlayS at hSw; (go_simp <;> with_reducible rfl))); (try simp only [Act.put, List.setIfInBounds_toArray, List.set_cons_zero, List.set_cons_succ])))
          refine plan_run rfl ?_ (fun K hK => ?_)
          focus (rfl)
          go_simp
          refine (len_any _ hD.2).mono ?_
          rintro e W1 ⟨rfl, rfl⟩
          have hS1 := hD
          refine hK.out _ _ hS1 ?_
          clear hK K 
          (try simp only [Act.put, List.setIfInBounds_toArray, List.set_cons_zero, List.set_cons_succ])
          iterate 2 (first | (refine plan_skip rfl ?_ ?_; (focus (rfl)); (try simp only [Act.put, List.setIfInBounds_toArray, List.set_cons_zero, List.set_cons_succ])) | (refine plan_take (v := ?_) rfl ?_ (fun w hSw => ?_) ?_; rotate_left; (focus (rfl)); (focus (unfold PlayS at hSw; (go_simp <;> with_reducible rfl))); (try simp only [Act.put, List.setIfInBounds_toArray, List.set_cons_zero, List.set_cons_succ])))
          refine plan_done ?_
          go_wp2_with fail
          go_roundw
          case rel => exact ⟨k + 1, L', rv', rv2', by omega, by go_num, HIW.out⟩
          case measure => simp [intOf]; omega
        · have hne0 : (d == 0) = false := by simp [hd0]
          have hne1 : (d == 1) = false := by simp [hd1]
          clear hd0 hd1
          by_cases hin : 0 ≤ n ∧ n < L.length
          · obtain ⟨m, rfl⟩ : ∃ m : Nat, n = (m : Int) := ⟨n.toNat, by omega⟩
            obtain ⟨t, htm⟩ : ∃ t, L[m]? = some t := ⟨L[m]'(by omega), by simp⟩
            have HTM := Lib.hid htm
            clear htm hin
            go_wp2_with fail
            refine (text_ok wr hT m t HTM.out).mono ?_
            rintro e w3 ⟨rfl, rfl⟩
            go_wp2_with fail
            refine (rtext_ok wr hR m t HTM.out).mono ?_
            rintro e w4 ⟨rfl, rfl⟩
            obtain ⟨L', hL'⟩ : ∃ L', L' = L := ⟨_, rfl⟩
            obtain ⟨rv', hrv'⟩ : ∃ L', L' = rv := ⟨_, rfl⟩
            obtain ⟨rv2', hrv2'⟩ : ∃ L', L' = rv2 := ⟨_, rfl⟩
            rw [← hL', ← hrv', ← hrv2'] at hI
            clear hL' hrv' hrv2' hT hR hdj hB q0 q1 q2
            obtain ⟨c0, c2, c3, c4, ao2, cc2, hrv2, c5⟩ := hI.2.1.cells
            rw [hrv2] at c2
            have hOS : PlayS p2 w.heap.size p mb most rv' (.slice ao2 L'.length cc2) L' wr := ⟨c2, hI.1⟩
            have HI := Lib.hid hI
            have hq : (((L'.length : Nat) : Int) != (L'.length : Int)) = false := by simp
            clear c0 c2 c3 c4 hrv2 hI
            go_wp2_with fail
            have hD : PlayS p2 w.heap.size p mb most rv' (.slice ao2 L'.length cc2) L' (wr).drew := ⟨hOS.1, hOS.2.keep (Below.refl _ _).drew⟩
            refine region_plan (PlayS p2 w.heap.size p mb most rv' (.slice ao2 L'.length cc2) L') [(0, 0), (1, 0), (2, 0), (3, 0), (5, 0), (6, 0), (7, 0), (8, 0), (9, 0), (4, 1), (10, 0), (11, 0)] (by kernel_rfl) (by kernel_rfl) (by kernel_rfl) hD ?_
            have hIW := HI.out.keep (Below.refl _ (wr)).drew
            generalize (wr).drew = W0 at hD hIW ⊢
            clear hOS
            have HIW := Lib.hid hIW
            clear hIW
            iterate 9 (first | (refine plan_skip rfl ?_ ?_; (focus (rfl)); (try simp only [Act.put, List.setIfInBounds_toArray, List.set_cons_zero, List.set_cons_succ])) | (refine plan_take (v := ?_) rfl ?_ (fun w hSw => ?_) ?_; rotate_left; (focus (rfl)); (focus (unfold PlayS at hSw; (go_simp <;> with_reducible rfl))); (try simp only [Act.put, List.setIfInBounds_toArray, List.set_cons_zero, List.set_cons_succ])))
            refine plan_run rfl ?_ (fun K hK => ?_)
            focus (rfl)
            go_simp
            refine (len_any _ hD.2).mono ?_
            rintro e W1 ⟨rfl, rfl⟩
            have hS1 := hD
            refine hK.out _ _ hS1 ?_
            clear hK K 
            (try simp only [Act.put, List.setIfInBounds_toArray, List.set_cons_zero, List.set_cons_succ])
            iterate 2 (first | (refine plan_skip rfl ?_ ?_; (focus (rfl)); (try simp only [Act.put, List.setIfInBounds_toArray, List.set_cons_zero, List.set_cons_succ])) | (refine plan_take (v := ?_) rfl ?_ (fun w hSw => ?_) ?_; rotate_left; (focus (rfl)); (focus (unfold PlayS at hSw; (go_simp <;> with_reducible rfl))); (try simp only [Act.put, List.setIfInBounds_toArray, List.set_cons_zero, List.set_cons_succ])))
            refine plan_done ?_
            go_wp2_with fail
            go_roundw
            case rel => exact ⟨k + 1, L', rv', rv2', by omega, by go_num, HIW.out⟩
            case measure => simp [intOf]; omega
          · have hout : n < 0 ∨ (L.length : Int) ≤ n := by omega
            have HO := Lib.hid hout
            clear hout hin
            go_wp2_with fail
            refine (text_no wr hT n HO.out).mono ?_
            rintro e w3 ⟨rfl, rfl⟩
            go_wp2_with fail
            refine (rtext_no wr hR n HO.out).mono ?_
            rintro e w4 ⟨rfl, rfl⟩
            obtain ⟨L', hL'⟩ : ∃ L', L' = L := ⟨_, rfl⟩
            obtain ⟨rv', hrv'⟩ : ∃ L', L' = rv := ⟨_, rfl⟩
            obtain ⟨rv2', hrv2'⟩ : ∃ L', L' = rv2 := ⟨_, rfl⟩
            rw [← hL', ← hrv', ← hrv2'] at hI
            clear hL' hrv' hrv2' hT hR hdj hB q0 q1 q2
            obtain ⟨c0, c2, c3, c4, ao2, cc2, hrv2, c5⟩ := hI.2.1.cells
            rw [hrv2] at c2
            have hOS : PlayS p2 w.heap.size p mb most rv' (.slice ao2 L'.length cc2) L' wr := ⟨c2, hI.1⟩
            have HI := Lib.hid hI
            have hq : (((L'.length : Nat) : Int) != (L'.length : Int)) = false := by simp
            clear c0 c2 c3 c4 hrv2 hI
            go_wp2_with fail
            have hD : PlayS p2 w.heap.size p mb most rv' (.slice ao2 L'.length cc2) L' (wr).drew := ⟨hOS.1, hOS.2.keep (Below.refl _ _).drew⟩
            refine region_plan (PlayS p2 w.heap.size p mb most rv' (.slice ao2 L'.length cc2) L') [(0, 0), (1, 0), (2, 0), (3, 0), (5, 0), (6, 0), (7, 0), (8, 0), (9, 0), (4, 1), (10, 0), (11, 0)] (by kernel_rfl) (by kernel_rfl) (by kernel_rfl) hD ?_
            have hIW := HI.out.keep (Below.refl _ (wr)).drew
            generalize (wr).drew = W0 at hD hIW ⊢
            clear hOS
            have HIW := Lib.hid hIW
            clear hIW
            iterate 9 (first | (refine plan_skip rfl ?_ ?_; (focus (rfl)); (try simp only [Act.put, List.setIfInBounds_toArray, List.set_cons_zero, List.set_cons_succ])) | (refine plan_take (v := ?_) rfl ?_ (fun w hSw => ?_) ?_; rotate_left; (focus (rfl)); (focus (unfold PlayS at hSw; (go_simp <;> with_reducible rfl))); (try simp only [Act.put, List.setIfInBounds_toArray, List.set_cons_zero, List.set_cons_succ])))
            refine plan_run rfl ?_ (fun K hK => ?_)
            focus (rfl)
            go_simp
            refine (len_any _ hD.2).mono ?_
            rintro e W1 ⟨rfl, rfl⟩
            have hS1 := hD
            refine hK.out _ _ hS1 ?_
            clear hK K 
            (try simp only [Act.put, List.setIfInBounds_toArray, List.set_cons_zero, List.set_cons_succ])
            iterate 2 (first | (refine plan_skip rfl ?_ ?_; (focus (rfl)); (try simp only [Act.put, List.setIfInBounds_toArray, List.set_cons_zero, List.set_cons_succ])) | (refine plan_take (v := ?_) rfl ?_ (fun w hSw => ?_) ?_; rotate_left; (focus (rfl)); (focus (unfold PlayS at hSw; (go_simp <;> with_reducible rfl))); (try simp only [Act.put, List.setIfInBounds_toArray, List.set_cons_zero, List.set_cons_succ])))
            refine plan_done ?_
            go_wp2_with fail
            go_roundw
            case rel => exact ⟨k + 1, L', rv', rv2', by omega, by go_num, HIW.out⟩
            case measure => simp [intOf]; omega
    · obtain ⟨hT, hR, hdj, hB⟩ := hI
      obtain ⟨c0, c2, c3, c4, ao2, cc2, rfl, c5⟩ := hR.cells
      have hsl2 := rtab_row hR
      clear c0 c3 c4
      go_wp2_with fail
      refine (goes_same p mb most w.heap.size rv L wr hT hT.low ao2 cc2 hsl2 leave).mono ?_
      rintro e w2 ⟨rfl, hb2⟩
      have hB2 := hB.trans (hb2.mono hB.size)
      go_wp2_with fail
      refine (wakes_any w2 (HK.out _ hB2)).mono ?_
      rintro e w3 ⟨rfl, hb3⟩
      go_wp2_with fail
      go_ret
      exact ⟨rfl, hB2.trans (hb3.mono hB2.size)⟩
set_option maxRecDepth 100000 in
theorem plays_bad (w : World) (hw : Cells w 0 letL) (ao : Option Addr) (len cap : Nat) (hl : len ≤ 200) (most : Int) (hm : most < 1 ∨ 65536 < most) (leave : Int) :
    Calls Tryd.prog 6 #[.int .i64 most, .slice ao len cap, .int .i64 leave] w (IsPost w true) := by
  have hd : decide ((200 : Int) < (len : Int)) = false := by simp; omega
  go_enter Tryd.func6, Tryd.ntmps6
  go_wp2_with fail
  refine (new_bad most hm w).mono ?_
  rintro e w1 ⟨rfl, rfl⟩
  go_wp2_with fail
  refine (rnew_bad most hm w).mono ?_
  rintro e w2 ⟨rfl, rfl⟩
  go_wp2_with fail
  go_loop [11] (fun iv => iv = .int .i64 0) (fun _ => 1)
  case atStart => rfl
  case round =>
    subst hrel
    rcases Nat.eq_zero_or_pos len with h | h
    · go_wp2_with fail
      refine (wakes_any w hw).mono ?_
      rintro e w1 ⟨rfl, hb1⟩
      go_wp2_with fail
      go_ret
      exact ⟨rfl, hb1⟩
    · go_wp2_with fail
      refine (wakes_any w hw).mono ?_
      rintro e w1 ⟨rfl, hb1⟩
      go_wp2_with fail
      go_ret
      exact ⟨rfl, hb1⟩
set_option maxRecDepth 100000 in
theorem plays_great (w : World) (hw : Cells w 0 letL) (ao : Option Addr) (len cap : Nat) (hl : 200 < len) (most : Int) (leave : Int) :
    Calls Tryd.prog 6 #[.int .i64 most, .slice ao len cap, .int .i64 leave] w (IsPost w true) := by
  have hd : decide ((200 : Int) < (len : Int)) = true := by simp; omega
  go_enter Tryd.func6, Tryd.ntmps6
  go_wp2_with fail
  refine (wakes_any w hw).mono ?_
  rintro e w1 ⟨rfl, hb1⟩
  go_wp2_with fail
  go_ret
  exact ⟨rfl, hb1⟩
end Go.Proofs.YtaldnommgjnnkaaDoor
