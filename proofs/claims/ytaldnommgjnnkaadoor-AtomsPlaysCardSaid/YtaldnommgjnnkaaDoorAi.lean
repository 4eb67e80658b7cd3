/- The law AtomsOrder, walked. Conditions: the table of letters reads as laid; lengths fit. -/
import Derived.Test.YtaldnommgjnnkaaDoorAm
import Derived.Test.YtaldnommgjnnkaaDoorAh
namespace Go.Proofs.YtaldnommgjnnkaaDoor
open Go.ChangeShapes Go.WideShapes Go.ChangeAt Go.RowKit
set_option linter.unusedVariables false
theorem Tab.low {w : World} {base p mb most : Nat} {rv : Value} {L : List ByteArray} (h : Tab w base p mb rv most L) : TabLow w.heap.size p mb rv := by
  obtain ⟨h0, h1, h2, h3, h4, h5, h6, h7, h8, h9⟩ := h
  rintro k (rfl | rfl | hk)
  · exact heap_lt h7
  · exact h8.lt
  · exact own_lt h9 (Nat.le_refl _) k hk
def OrdS (b off k : Nat) (s : ByteArray) (g j base p mb most : Nat) (rv : Value) (L : List ByteArray) (w : World) : Prop :=
  w.cell? ⟨b, off + k, none⟩ = some (.string s) ∧ w.cell? ⟨g, j, none⟩ = some (.string s) ∧ Tab w base p mb rv most L
/-- what the loop knows -/
def OrdI (w0 : World) (p mb k : Nat) (L : List ByteArray) (rv rowv : Value) (W : World) : Prop :=
  W.ownsRow w0.heap.size 9 1 rowv L.length (L.map Value.string) ∧ (∀ q, rowv.ownBlock = some q → ¬ foot p mb rv q) ∧ Tab W w0.heap.size p mb rv 65536 L ∧ L.length ≤ k ∧ Below w0.heap.size w0 W
theorem foot_next {p mb q : Nat} {rv rv' : Value} {n : Nat} (h : ¬ foot p mb rv q) (hq : q < n) (hr : rv'.ownBlock = rv.ownBlock ∨ ∃ k, rv'.ownBlock = some k ∧ n ≤ k) : ¬ foot p mb rv' q := by
  rintro (e | e | e)
  · exact h (.inl e)
  · exact h (.inr (.inl e))
  · rcases hr with hr | ⟨k, hk, hn⟩
    · exact h (.inr (.inr (hr ▸ e)))
    · rw [hk] at e
      have := Option.some.inj e
      omega
set_option maxRecDepth 100000 in
set_option maxHeartbeats 4000000 in
theorem order_any (w : World) (hw : Cells w 0 letL) (ao : Option Addr) (cap : Nat) (l : List ByteArray) (hl : l.length ≤ 100) (hsl : SlV w (.slice ao l.length cap) (l.map Value.string)) (hsz : ∀ s ∈ l, s.size ≤ 9223372036854775807) :
    Calls Tryd.prog 5 #[.slice ao l.length cap] w (IsPost w true) := by
  obtain ⟨i0, hi, hz0, hz1, hz2⟩ := info_parts infoS
  have h0 : 0 < w.heap.size := World.block_lt_of_cell? w _ (hw 0 _ rfl).1
  have k0 : ∀ W, Below w.heap.size w W → Cells W 0 letL := fun W hb => keepCells hw hb
  have HK := Lib.hid k0
  have HS := Lib.hid hsz
  have hd : decide ((100 : Int) < (l.length : Int)) = false := by simp; omega
  clear hw k0 hsz
  go_enter Tryd.func5, Tryd.ntmps5
  go_wp2_with fail
  refine (new_ok 65536 (by decide) (by decide) w h0).mono ?_
  rintro e w1 ⟨p, mb, rfl, ht1, hb1⟩
  go_wp2_with fail
  clear hd
  go_loopw [5, 6] (fun nv iv wr => ∃ (k : Nat) (L : List ByteArray) (rv : Value) (ao' : Option Addr) (c : Nat), k ≤ l.length ∧ iv = .int .i64 k ∧ nv = .slice ao' L.length c ∧ OrdI w p mb k L rv (.slice ao' L.length c) wr)
    (fun _ iv _ => l.length - (intOf iv).toNat)
  case atStart => exact ⟨0, [], _, none, 0, by omega, rfl, rfl, World.ownsRow_nil _ _ _ _, (fun q hq => by cases hq), ht1, by simp, hb1⟩
  case round =>
    obtain ⟨k, L, rv, ao', c, hk, rfl, rfl, hI⟩ := hrel
    by_cases hlt : k < l.length
    · obtain ⟨s, hs⟩ : ∃ s, l[k]? = some s := ⟨l[k], by simp [hlt]⟩
      obtain ⟨b, off, rfl, hbw, hcw⟩ := hsl.at (i := k) (u := .string s) (by simp [hs])
      have hss := HS.out s (List.mem_of_getElem? hs)
      obtain ⟨hown, hap, ht, hLk, hB⟩ := hI
      have hcr := keep_cell hcw hB
      have HC := Lib.hid hcw
      clear hs hcw
      by_cases hm : mayS s = true
      · have HM := Lib.hid hm
        by_cases hsL : s ∈ L
        · clear hm
          go_wp2_with fail
          refine (put_found s hss wr (HK.out _ hB) HM.out ht hsL).mono ?_
          rintro e w2 ⟨rfl, hb2⟩
          have hI : OrdI w p mb (k + 1) L rv (.slice ao' L.length c) w2 := ⟨own_keep hown hb2, hap, ht.keep hb2, by omega, hB.trans (hb2.mono hB.size)⟩
          have hc2 := keep_cell hcr hb2
          have hne : ((ix L s : Int) == (L.length : Int)) = false := by have := ix_lt hsL; simp; omega
          have hLk : L.length ≤ k + 1 := by omega
          have hpos : 0 < L.length := by have := ix_lt hsL; omega
          obtain ⟨L', hL'⟩ : ∃ L', L' = L := ⟨_, rfl⟩
          obtain ⟨rvn, hrvn⟩ : ∃ r, r = rv := ⟨_, rfl⟩
          obtain ⟨c3, hc3⟩ : ∃ r, r = c := ⟨_, rfl⟩
          rw [← hL', ← hrvn, ← hc3] at hI
          rw [← hL'] at hsL hLk hpos hne
          rw [← hL', ← hc3]
          clear hL' hrvn hc3 hown hap ht hB hb2 hcr
          obtain ⟨g, cg, hv, hg1, hg2, hg3, hg4, hcells⟩ := own_facts hI.1 (by omega)
          injection hv with ev1 ev2 ev3
          subst ev1
          subst ev3
          clear ev2
          have hsj := ix_get hsL
          have hcj := hcells (ix L' s) (.string s) (by simp [hsj])
          have hix := ix_lt hsL
          have d1 : decide ((ix L' s : Int) < 0) = false := by simp
          have d2 : decide ((L'.length : Int) ≤ (ix L' s : Int)) = false := by simp; omega
          have d2' : decide (L'.length ≤ ix L' s) = false := by simp; omega
          have hq : (((L'.length : Nat) : Int) != (L'.length : Int)) = false := by simp
          have HI := Lib.hid hI
          have hOS : OrdS b off k s g (ix L' s) w.heap.size p mb 65536 rvn L' w2 := ⟨hc2, hcj, hI.2.2.1⟩
          have HLK := Lib.hid hLk
          clear hcells hcj hsj hI hLk
          go_wp2_with fail
          have hD : OrdS b off k s g (ix L' s) w.heap.size p mb 65536 rvn L' (w2).drew := ⟨hOS.1, hOS.2.1, hOS.2.2.keep (Below.refl _ _).drew⟩
          refine region_plan (OrdS b off k s g (ix L' s) w.heap.size p mb 65536 rvn L') [(0, 0), (1, 0), (2, 0), (3, 0), (4, 0), (5, 0), (6, 0), (7, 0), (8, 0), (9, 0), (10, 0), (11, 0), (12, 0), (13, 0), (14, 0), (15, 0), (16, 0), (17, 0), (18, 0), (19, 0), (20, 0), (22, 0), (23, 0), (21, 1), (24, 0), (25, 0)] (by kernel_rfl) (by kernel_rfl) (by kernel_rfl) hD ?_
          have hdb : Below (w2).heap.size (w2) (w2).drew := (Below.refl _ _).drew
          have hIW : OrdI w p mb (k + 1) L' rvn (.slice (some ⟨g, 0, none⟩) L'.length c3) (w2).drew := ⟨own_keep HI.out.1 hdb, HI.out.2.1, HI.out.2.2.1.keep hdb, HLK.out, HI.out.2.2.2.2.trans (hdb.mono HI.out.2.2.2.2.size)⟩
          generalize (w2).drew = W0 at hD hIW ⊢
          clear hdb hOS
          have HIW := Lib.hid hIW
          clear hIW
          iterate 23 (first | (refine plan_skip rfl ?_ ?_; (focus (rfl)); (try simp only [Act.put, List.setIfInBounds_toArray, List.set_cons_zero, List.set_cons_succ])) | (refine plan_take (v := ?_) rfl ?_ (fun w hSw => ?_) ?_; rotate_left; (focus (rfl)); (focus (unfold OrdS at hSw; (go_simp <;> with_reducible rfl))); (try simp only [Act.put, List.setIfInBounds_toArray, List.set_cons_zero, List.set_cons_succ])))
          refine plan_run rfl ?_ (fun K hK => ?_)
          focus (rfl)
          go_simp
          refine (len_any _ hD.2.2).mono ?_
          rintro e W1 ⟨rfl, rfl⟩
          have hS1 := hD
          refine hK.out _ _ hS1 ?_
          clear hK K 
          (try simp only [Act.put, List.setIfInBounds_toArray, List.set_cons_zero, List.set_cons_succ])
          iterate 2 (first | (refine plan_skip rfl ?_ ?_; (focus (rfl)); (try simp only [Act.put, List.setIfInBounds_toArray, List.set_cons_zero, List.set_cons_succ])) | (refine plan_take (v := ?_) rfl ?_ (fun w hSw => ?_) ?_; rotate_left; (focus (rfl)); (focus (unfold OrdS at hSw; (go_simp <;> with_reducible rfl))); (try simp only [Act.put, List.setIfInBounds_toArray, List.set_cons_zero, List.set_cons_succ])))
          refine plan_done ?_
          go_wp2_with fail
          go_roundw
          case rel => exact ⟨k + 1, L', rvn, _, _, by omega, by go_num, rfl, HIW.out⟩
          case measure => simp [intOf]; omega
        · have hne : L.length ≠ 65536 := by omega
          have hne2 : ((L.length : Int) == (L.length : Int)) = true := by simp
          have HSL := Lib.hid hsL
          clear hm hsL
          go_wp2_with fail
          refine (put_new s hss wr (HK.out _ hB) HM.out ht HSL.out hne).mono ?_
          rintro e w2 ⟨rvn, rfl, ht2, hcg2, hwh2⟩
          have hB2 := hB.trans (tab_below ht hB.size hcg2)
          have hown2 := own_chg hown hcg2 hap
          have hap2 : ∀ q, (Value.slice ao' L.length c).ownBlock = some q → ¬ foot p mb rvn q := fun q hq => foot_next (hap q hq) (own_lt hown (Nat.le_refl _) q hq) hwh2
          have hlow2 := ht2.low
          have hcr2 := keep_cell HC.out hB2
          clear hcr hown ht hap hcg2 hwh2 hne hB
          go_wp2_with (at_builtin; refine stop_here ?_)
          refine Lib.hid ?_
          refine wpList_append_own2 rfl (.tmp 44) (.tmp 49) 25 rfl w.heap.size 9 i0 (.string ⟨#[]⟩) 1 16 Tryd.underlying25 hi hz0 hz1 hz2 rfl (by decide) (.slice ao' L.length c) L.length (L.map Value.string) rfl (hown2.alloc _) ⟨w2.heap.size, 0, none⟩ 1 1 [.string s] rfl rfl (one_new _ _ _) (by simp [Value.oneCell']) (by unfold maxLen; omega) (by omega) ?_ ?_
          · have := hB2.size
            simp
            omega
          · intro nv' w3 hown3 hg3 hwh
            obtain ⟨ao3, c3, rfl⟩ := own_slice hown3
            have hc3 := chg_grown hg3
            have ht3 := (ht2.keep ((Below.refl _ _).alloc (Nat.le_refl _) (.cells #[.string s] 9))).chg hc3 (fun q hq e => hap2 q e.symm hq)
            have hB3 := (hB2.alloc hB2.size (.cells #[.string s] 9)).grown hg3 (by have := hB2.size; simp; omega) (own_base hown2)
            obtain ⟨L', hL'⟩ : ∃ L', L' = L ++ [s] := ⟨_, rfl⟩
            have hlen' : L.length + 1 = L'.length := by rw [hL']; simp
            have hown3' : w3.ownsRow w.heap.size 9 1 (.slice ao3 L'.length c3) L'.length (L'.map Value.string) := by
              rw [← hlen', hL', List.map_append]; exact hown3
            have hap3 : ∀ q, (Value.slice ao3 L'.length c3).ownBlock = some q → ¬ foot p mb rvn q := by
              intro q hq
              rw [← hlen'] at hq
              rcases hwh with hwh | hwh
              · exact hap2 q (hwh.symm.trans hq)
              · have hq' : q = w2.heap.size + 1 := by
                  have := (hwh.symm.trans hq)
                  simpa using (Option.some.inj this).symm
                intro hf
                have := hlow2 q hf
                omega
            have hI : OrdI w p mb (k + 1) L' rvn (.slice ao3 L'.length c3) w3 := ⟨hown3', hap3, by rw [hL']; exact ht3, by omega, hB3⟩
            have hsL : s ∈ L' := by rw [hL']; simp
            have hpos : 0 < L'.length := by omega
            have hLk : L'.length ≤ k + 1 := by omega
            have hcc := keep_cell HC.out hB3
            have hixn : ix L' s = L.length := by
              rw [hL']
              unfold ix
              rw [List.idxOf_append, if_neg HSL.out]
              simp
            have HIX := Lib.hid hixn
            have HL' := Lib.hid hL'
            rw [hlen', ← hixn]
            clear hcr2 hown3 hg3 hwh hc3 ht3 hB3 hown3' hap3 hown2 hap2 ht2 hB2 hlow2 hne2 hixn hL' hlen'
            obtain ⟨g, cg, hv, hg1, hg2, hg3, hg4, hcells⟩ := own_facts hI.1 (by omega)
            injection hv with ev1 ev2 ev3
            subst ev1
            subst ev3
            clear ev2
            have hsj := ix_get hsL
            have hcj := hcells (ix L' s) (.string s) (by simp [hsj])
            have hix := ix_lt hsL
            have d1 : decide ((ix L' s : Int) < 0) = false := by simp
            have d2 : decide ((L'.length : Int) ≤ (ix L' s : Int)) = false := by simp; omega
            have d2' : decide (L'.length ≤ ix L' s) = false := by simp; omega
            have hq : (((L'.length : Nat) : Int) != (L'.length : Int)) = false := by simp
            have HI := Lib.hid hI
            have hOS : OrdS b off k s g (ix L' s) w.heap.size p mb 65536 rvn L' w3 := ⟨hcc, hcj, hI.2.2.1⟩
            have HLK := Lib.hid hLk
            clear hcells hcj hsj hI hLk
            go_wp2_with fail
            have hD : OrdS b off k s g (ix L' s) w.heap.size p mb 65536 rvn L' (w3).drew := ⟨hOS.1, hOS.2.1, hOS.2.2.keep (Below.refl _ _).drew⟩
            refine region_plan (OrdS b off k s g (ix L' s) w.heap.size p mb 65536 rvn L') [(0, 0), (1, 0), (2, 0), (3, 0), (4, 0), (5, 0), (6, 0), (7, 0), (8, 0), (9, 0), (10, 0), (11, 0), (12, 0), (13, 0), (14, 0), (15, 0), (16, 0), (17, 0), (18, 0), (19, 0), (20, 0), (22, 0), (23, 0), (21, 1), (24, 0), (25, 0)] (by kernel_rfl) (by kernel_rfl) (by kernel_rfl) hD ?_
            have hdb : Below (w3).heap.size (w3) (w3).drew := (Below.refl _ _).drew
            have hIW : OrdI w p mb (k + 1) L' rvn (.slice (some ⟨g, 0, none⟩) L'.length c3) (w3).drew := ⟨own_keep HI.out.1 hdb, HI.out.2.1, HI.out.2.2.1.keep hdb, HLK.out, HI.out.2.2.2.2.trans (hdb.mono HI.out.2.2.2.2.size)⟩
            generalize (w3).drew = W0 at hD hIW ⊢
            clear hdb hOS
            have HIW := Lib.hid hIW
            clear hIW
            iterate 23 (first | (refine plan_skip rfl ?_ ?_; (focus (rfl)); (try simp only [Act.put, List.setIfInBounds_toArray, List.set_cons_zero, List.set_cons_succ])) | (refine plan_take (v := ?_) rfl ?_ (fun w hSw => ?_) ?_; rotate_left; (focus (rfl)); (focus (unfold OrdS at hSw; (go_simp <;> with_reducible rfl))); (try simp only [Act.put, List.setIfInBounds_toArray, List.set_cons_zero, List.set_cons_succ])))
            refine plan_run rfl ?_ (fun K hK => ?_)
            focus (rfl)
            go_simp
            refine (len_any _ hD.2.2).mono ?_
            rintro e W1 ⟨rfl, rfl⟩
            have hS1 := hD
            refine hK.out _ _ hS1 ?_
            clear hK K 
            (try simp only [Act.put, List.setIfInBounds_toArray, List.set_cons_zero, List.set_cons_succ])
            iterate 2 (first | (refine plan_skip rfl ?_ ?_; (focus (rfl)); (try simp only [Act.put, List.setIfInBounds_toArray, List.set_cons_zero, List.set_cons_succ])) | (refine plan_take (v := ?_) rfl ?_ (fun w hSw => ?_) ?_; rotate_left; (focus (rfl)); (focus (unfold OrdS at hSw; (go_simp <;> with_reducible rfl))); (try simp only [Act.put, List.setIfInBounds_toArray, List.set_cons_zero, List.set_cons_succ])))
            refine plan_done ?_
            go_wp2_with fail
            go_roundw
            case rel => exact ⟨k + 1, L', rvn, _, _, by omega, by go_num, rfl, HIW.out⟩
            case measure => simp [intOf]; omega
      · have hm' : mayS s = false := by simpa using hm
        clear hm
        go_wp2_with fail
        refine (put_no s hss p wr (HK.out _ hB) hm').mono ?_
        rintro e w2 ⟨rfl, hb2⟩
        have hI2 : OrdI w p mb (k + 1) L rv (.slice ao' L.length c) w2 := ⟨own_keep hown hb2, hap, ht.keep hb2, by omega, hB.trans (hb2.mono hB.size)⟩
        have HI := Lib.hid hI2
        clear hI2 hown hap ht hB hb2 hcr hm'
        go_wp2_with fail
        go_roundw
        case rel => exact ⟨k + 1, L, rv, ao', c, by omega, by go_num, rfl, HI.out⟩
        case measure => simp [intOf]; omega
    · obtain ⟨hown, hap, ht, hLk, hB⟩ := hI
      go_wp2_with fail
      refine (goes_same p mb 65536 w.heap.size rv L wr ht ht.low ao' c (SlV_own hown (by simp)) 0).mono ?_
      rintro e w2 ⟨rfl, hb2⟩
      have hB2 := hB.trans (hb2.mono hB.size)
      go_wp2_with fail
      refine (wakes_any w2 (HK.out _ hB2)).mono ?_
      rintro e w3 ⟨rfl, hb3⟩
      go_wp2_with fail
      go_ret
      exact ⟨rfl, hB2.trans (hb3.mono hB2.size)⟩
end Go.Proofs.YtaldnommgjnnkaaDoor
