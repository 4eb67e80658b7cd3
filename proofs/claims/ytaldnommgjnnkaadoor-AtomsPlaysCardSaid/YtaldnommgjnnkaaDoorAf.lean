/- The law AtomsBack, walked. Conditions: the table of letters reads as laid; lengths fit. -/
import Derived.Test.YtaldnommgjnnkaaDoorAl
namespace Go.Proofs.YtaldnommgjnnkaaDoor
open Go.ChangeShapes Go.WideShapes Go.ChangeAt Go.RowKit
set_option linter.unusedVariables false
theorem infoI : (Tryd.prog.info? 3).map (fun i => (i.zero, i.size, i.bytes)) = some (some (.int .i64 0), 1, 8) := by kernel_rfl
def numI (L : List ByteArray) (s : ByteArray) : Int := if mayS s = true then (ix L s : Int) else 0
theorem putL_mem {L : List ByteArray} {s t : ByteArray} {most : Nat} (h : t ∈ L) : t ∈ putL most L s ∧ ix (putL most L s) t = ix L t := by
  unfold putL
  split
  · split
    · exact ⟨h, rfl⟩
    · split
      · exact ⟨h, rfl⟩
      · refine ⟨List.mem_append.2 (.inl h), ?_⟩
        unfold ix
        rw [List.idxOf_append, if_pos h]
  · exact ⟨h, rfl⟩
theorem putL_len (most : Nat) (L : List ByteArray) (s : ByteArray) : (putL most L s).length ≤ L.length + 1 := by
  unfold putL
  split <;> (try split) <;> (try split) <;> simp
theorem putL_self {L : List ByteArray} {s : ByteArray} {most : Nat} (hm : mayS s = true) (hl : L.length ≠ most) : s ∈ putL most L s ∧ putN most L s = (ix (putL most L s) s : Int) ∧ putE most L s = 0 := by
  unfold putL putN putE
  by_cases h : s ∈ L
  · simp [hm, h]
  · refine ⟨by simp [hm, h, hl], ?_, by simp [hm, h, hl]⟩
    simp only [hm, if_true, h, if_false, hl]
    unfold ix
    rw [List.idxOf_append, if_neg h]
    simp
theorem put_bad {L : List ByteArray} {s : ByteArray} {most : Nat} (hm : mayS s = false) : putL most L s = L ∧ putN most L s = 0 ∧ putE most L s = 2 := by simp [putL, putN, putE, hm]
theorem put_old {L : List ByteArray} {s : ByteArray} {most : Nat} (hm : mayS s = true) (h : s ∈ L) : putL most L s = L ∧ putN most L s = (ix L s : Int) ∧ putE most L s = 0 := by simp [putL, putN, putE, hm, h]
/-- what the first loop knows behind k rounds -/
def Numbered (l : List ByteArray) (k : Nat) (L : List ByteArray) : Prop := L.length ≤ k ∧ ∀ s ∈ l.take k, mayS s = true → s ∈ L
def ints (l : List Int) : List Value := l.map (Value.int .i64)
theorem numbered_next {l L : List ByteArray} {k : Nat} {s : ByteArray} (h : Numbered l k L) (hs : l[k]? = some s) (hk : k < 65536) :
    Numbered l (k + 1) (putL 65536 L s) ∧ ints ((l.take (k + 1)).map (numI (putL 65536 L s))) = ints ((l.take k).map (numI L)) ++ [.int .i64 (putN 65536 L s)] := by
  obtain ⟨h1, h2⟩ := h
  have hne : L.length ≠ 65536 := by omega
  have ht : l.take (k + 1) = l.take k ++ [s] := by rw [List.take_add_one, hs]; rfl
  refine ⟨⟨by have := putL_len 65536 L s; omega, ?_⟩, ?_⟩
  · intro t hm hmay
    rw [ht] at hm
    rcases List.mem_append.1 hm with hm | hm
    · exact (putL_mem (h2 t hm hmay)).1
    · simp at hm
      subst hm
      exact (putL_self hmay hne).1
  · rw [ht, List.map_append, ints, ints, List.map_append]
    congr 1
    · congr 1
      refine List.map_congr_left fun t hm => ?_
      unfold numI
      split
      · rename_i hmay
        rw [(putL_mem (h2 t hm hmay)).2]
      · rfl
    · simp only [List.map_cons, List.map_nil, List.cons.injEq, and_true]
      congr 1
      unfold numI
      split
      · rename_i hmay
        rw [(putL_self hmay hne).2.1]
      · rename_i hmay
        rw [(put_bad (by simpa using hmay)).2.1]
theorem row_apart {w : World} {base b2 p mb most n : Nat} {rv nv : Value} {L : List ByteArray} {xs : List Value} (h : Tab w base p mb rv most L) (ho : w.ownsRow b2 3 1 nv n xs) : ∀ k, nv.ownBlock = some k → ¬ foot p mb rv k := by
  intro k hk
  obtain ⟨cur, hc⟩ := own_type ho k hk
  obtain ⟨h0, h1, h2, h3, h4, h5, h6, h7, h8, h9⟩ := h
  rintro (rfl | rfl | e)
  · rw [h7] at hc
    injection hc with hc
    injection hc with _ hc
    cases hc
  · obtain ⟨es, cl, hm⟩ := map_obj h8
    rw [hm] at hc; cases hc
  · obtain ⟨cur', hc'⟩ := own_type h9 _ e
    rw [hc] at hc'
    injection hc' with hc'
    injection hc' with _ hc'
    cases hc'
def BackS (w0 : World) (b off g j k : Nat) (a c : ByteArray) (x y : Int) (w : World) : Prop :=
  Cells w 0 letL ∧ Below w0.heap.size w0 w ∧ w.cell? ⟨b, off + j, none⟩ = some (.string a) ∧ w.cell? ⟨b, off + k, none⟩ = some (.string c) ∧ w.cell? ⟨g, j, none⟩ = some (.int .i64 x) ∧ w.cell? ⟨g, k, none⟩ = some (.int .i64 y)
theorem ix_inj {L : List ByteArray} {s t : ByteArray} (h1 : s ∈ L) (h2 : t ∈ L) (h : ix L s = ix L t) : s = t := by
  have a := ix_get h1
  have b := ix_get h2
  rw [h] at a
  exact Option.some.inj (a.symm.trans b)
theorem BackS.keep {w0 w w' : World} {b off g j k : Nat} {a c : ByteArray} {x y : Int} (h : BackS w0 b off g j k a c x y w) (hb : Below w.heap.size w w') : BackS w0 b off g j k a c x y w' :=
  ⟨keepCells h.1 hb, keep_below h.2.1 h.2.1.size hb, keep_cell h.2.2.1 hb, keep_cell h.2.2.2.1 hb, keep_cell h.2.2.2.2.1 hb, keep_cell h.2.2.2.2.2 hb⟩
theorem BackS.drew {w0 w : World} {b off g j k : Nat} {a c : ByteArray} {x y : Int} (h : BackS w0 b off g j k a c x y w) : BackS w0 b off g j k a c x y w.drew := h.keep (Below.refl _ _).drew
set_option maxHeartbeats 4000000 in
set_option maxRecDepth 100000 in
theorem back_any (w : World) (hw : Cells w 0 letL) (ao : Option Addr) (cap : Nat) (l : List ByteArray) (hl : l.length ≤ 100) (hsl : SlV w (.slice ao l.length cap) (l.map Value.string)) (hsz : ∀ s ∈ l, s.size ≤ 9223372036854775807) :
    Calls Tryd.prog 4 #[.slice ao l.length cap] w (IsPost w true) := by
  obtain ⟨i0, hi, hz0, hz1, hz2⟩ := info_parts infoI
  have h0 : 0 < w.heap.size := World.block_lt_of_cell? w _ (hw 0 _ rfl).1
  have k0 : ∀ W, Below w.heap.size w W → Cells W 0 letL := fun W hb => keepCells hw hb
  have HK := Lib.hid k0
  have HS := Lib.hid hsz
  have hd : decide ((100 : Int) < (l.length : Int)) = false := by simp; omega
  clear hw k0 hsz
  go_enter Tryd.func4, Tryd.ntmps4
  go_wp2_with fail
  refine (new_ok 65536 (by decide) (by decide) w h0).mono ?_
  rintro e w1 ⟨p, mb, rfl, ht1, hb1⟩
  go_wp2_with fail
  clear hd
  go_loopw [5, 6] (fun nv iv wr => ∃ (k : Nat) (L : List ByteArray) (rv : Value) (ao' : Option Addr) (c : Nat), k ≤ l.length ∧ iv = .int .i64 k ∧ nv = .slice ao' k c ∧
      wr.ownsRow w.heap.size 3 1 (.slice ao' k c) k (ints ((l.take k).map (numI L))) ∧ Tab wr w.heap.size p mb rv 65536 L ∧ Hid (Numbered l k L) ∧ Below w.heap.size w wr)
    (fun _ iv _ => l.length - (intOf iv).toNat)
  case atStart => exact ⟨0, [], _, none, 0, by omega, rfl, rfl, World.ownsRow_nil _ _ _ _, ht1, ⟨by simp, by simp⟩, hb1⟩
  case round =>
    obtain ⟨k, L, rv, ao', c, hk, rfl, rfl, hown, ht, HN, hB⟩ := hrel
    by_cases hlt : k < l.length
    · obtain ⟨s, hs⟩ : ∃ s, l[k]? = some s := ⟨l[k], by simp [hlt]⟩
      obtain ⟨b, off, rfl, hbw, hcw⟩ := hsl.at (i := k) (u := .string s) (by simp [hs])
      have hss := HS.out s (List.mem_of_getElem? hs)
      have hcr := keep_cell hcw hB
      obtain ⟨hnn, hii⟩ := numbered_next HN.out hs (by omega)
      have HNN := Lib.hid hnn
      have HII := Lib.hid hii
      have HSS := Lib.hid hs
      have hne : L.length ≠ 65536 := by have := HN.out.1; omega
      have hcase : (mayS s = true ∧ putE 65536 L s = 0) ∨ (mayS s = false ∧ putE 65536 L s = 2) := by
        cases hm : mayS s
        · exact .inr ⟨rfl, (put_bad hm).2.2⟩
        · exact .inl ⟨rfl, (putL_self hm hne).2.2⟩
      have HC := Lib.hid hcw
      clear hnn hii hs hcw hne
      rcases hcase with ⟨hm, hE⟩ | ⟨hm, hE⟩
      all_goals
        have HM := Lib.hid hm
        have HE := Lib.hid hE
        clear hm hE
        go_wp2_with fail
        refine (put_any s hss wr (HK.out _ hB) ht).mono ?_
        rintro e w2 ⟨rv2, he, ht2, hc2, hr2⟩
        rw [HE.out] at he
        subst he
        have hB2 := hB.trans (tab_below ht hB.size hc2)
        have hown2 := own_chg hown hc2 (row_apart ht hown)
        clear hcr
        generalize hn : putN 65536 L s = n at *
        have HP := Lib.hid hn
        clear hn hown
        go_wp2_with (at_builtin; refine stop_here ?_)
        refine Lib.hid ?_
        refine wpList_append_own2 rfl (.tmp 44) (.tmp 46) 30 rfl w.heap.size 3 i0 (.int .i64 0) 1 8 Tryd.underlying30 hi hz0 hz1 hz2 rfl (by decide) _ _ _ rfl (hown2.alloc _) ⟨w2.heap.size, 0, none⟩ 1 1 [.int .i64 n] rfl rfl (one_new _ _ _) (by simp [Value.oneCell']) (by unfold maxLen; omega) (by omega) ?_ ?_
        · have := hB2.size
          simp
          omega
        · intro nv' w3 hown3 hg3 hwh
          obtain ⟨ao3, c3, rfl⟩ := own_slice hown3
          have hc3 := chg_grown hg3
          have ht3 := (ht2.keep ((Below.refl _ _).alloc (Nat.le_refl _) (.cells #[.int .i64 n] 3))).chg hc3 (fun q hq e => row_apart ht2 hown2 q e.symm hq)
          have hB3 := (hB2.alloc hB2.size (.cells #[.int .i64 n] 3)).grown hg3 (by have := hB2.size; simp; omega) (own_base hown2)
          rw [← HII.out] at hown3
          have hcr3 := keep_cell HC.out hB3
          clear hg3 hwh hc3 hown2 ht2 hB2 hr2 hc2 ht
          go_wp2_with fail
          refine (may7 s hss w3 (HK.out _ hB3)).mono ?_
          rw [HM.out]
          rintro e w4 ⟨rfl, hb4⟩
          have ht4 := ht3.keep hb4
          have hown4 := own_keep hown3 hb4
          have hB4 := hB3.trans (hb4.mono hB3.size)
          clear hcr3 ht3 hown3 hB3 hb4
          go_wp2_with fail
          go_roundw
          case rel => exact ⟨k + 1, _, _, _, _, by omega, by go_num, rfl, hown4, ht4, HNN.out, hB4⟩
          case measure => simp [intOf]; omega
    · have hkl : k = l.length := by omega
      subst hkl
      have hmem : ∀ s ∈ l, mayS s = true → s ∈ L := fun s hs hm => HN.out.2 s (by rw [List.take_length]; exact hs) hm
      have HMEM := Lib.hid hmem
      rw [List.take_length] at hown
      clear hlt hk HN hmem
      go_wp2_with fail
      go_loopw [9] (fun iv QX => ∃ (k : Nat) (rv : Value), k ≤ l.length ∧ iv = .int .i64 k ∧ Tab QX w.heap.size p mb rv 65536 L ∧ QX.ownsRow w.heap.size 3 1 (.slice ao' l.length c) l.length (ints (l.map (numI L))) ∧ Below w.heap.size w QX)
        (fun iv _ => l.length - (intOf iv).toNat)
      case atStart => exact ⟨0, rv, by omega, rfl, ht, hown, hB⟩
      case round =>
        clear hown ht hB
        obtain ⟨k, rv, hk, rfl, ht, hown, hB⟩ := hrel
        by_cases hlt : k < l.length
        · obtain ⟨s, hs⟩ : ∃ s, l[k]? = some s := ⟨l[k], by simp [hlt]⟩
          obtain ⟨b, off, rfl, hbw, hcw⟩ := hsl.at (i := k) (u := .string s) (by simp [hs])
          obtain ⟨g, cg, hv, hg1, hg2, hg3, hg4, hcells⟩ := own_facts hown (by omega)
          injection hv with e1 e2 e3
          subst e1
          subst e3
          clear e2
          have hsl2 : ∀ j t, l[j]? = some t → w.cell? ⟨b, off + j, none⟩ = some (.string t) := by
            intro j t hj
            obtain ⟨b', off', e1, _, hc⟩ := hsl.at (i := j) (u := .string t) (by simp [hj])
            injection e1 with e1
            injection e1 with e1 e2
            subst e1
            subst e2
            exact hc
          have hnum : ∀ W : World, w.heap.size ≤ W.heap.size → W.ownsRow w.heap.size 3 1 (.slice (some ⟨g, 0, none⟩) l.length c) l.length (ints (l.map (numI L))) → ∀ j t, l[j]? = some t → W.cell? ⟨g, j, none⟩ = some (.int .i64 (numI L t)) := by
            intro W _ ho j t hj
            obtain ⟨g', cg', hv', _, _, _, _, hc'⟩ := own_facts ho (by omega)
            injection hv' with e1 e2 e3
            injection e1 with e1
            injection e1 with e1
            subst e1
            exact hc' j _ (by simp [ints, hj])
          have HSL := Lib.hid hsl2
          have HNUM := Lib.hid hnum
          have hss := HS.out s (List.mem_of_getElem? hs)
          have hcr := keep_cell hcw hB
          have HSS := Lib.hid hs
          have hsm := List.mem_of_getElem? hs
          clear hcells hcw hs hsl2 hnum
          cases hm : mayS s
          · have HM := Lib.hid hm
            clear hm
            go_wp2_with fail
            refine (may7 s hss wr (HK.out _ hB)).mono ?_
            rw [HM.out]
            rintro e w2 ⟨rfl, hb2⟩
            have ht2 := ht.keep hb2
            have hown2 := own_keep hown hb2
            have hB2 := hB.trans (hb2.mono hB.size)
            clear hcr ht hown hB hb2
            go_wp2_with fail
            go_roundw
            case rel => exact ⟨k + 1, rv, by omega, by go_num, ht2, hown2, hB2⟩
            case measure => simp [intOf]; omega
          · have HM := Lib.hid hm
            have hsL := HMEM.out s hsm hm
            have hnI : numI L s = (ix L s : Int) := by simp [numI, hm]
            clear hm
            go_wp2_with fail
            refine (may7 s hss wr (HK.out _ hB)).mono ?_
            rw [HM.out]
            rintro e w2 ⟨rfl, hb2⟩
            have ht2 := ht.keep hb2
            have hown2 := own_keep hown hb2
            have hB2 := hB.trans (hb2.mono hB.size)
            have hcr2 := keep_cell hcr hb2
            clear hcr ht hown hB hb2
            go_wp2_with fail
            refine (put_found s hss w2 (HK.out _ hB2) HM.out ht2 hsL).mono ?_
            rintro e w3 ⟨rfl, hb3⟩
            have ht3 := ht2.keep hb3
            have hown3 := own_keep hown2 hb3
            have hB3 := hB2.trans (hb3.mono hB2.size)
            have hcr3 := keep_cell hcr2 hb3
            have hnr3 := HNUM.out w3 hB3.size hown3 k s HSS.out
            rw [hnI] at hnr3
            have HNI := Lib.hid hnI
            clear hcr2 ht2 hown2 hB2 hb3 hnI
            go_wp2_with fail
            refine (text_ok w3 ht3 (ix L s) s (ix_get hsL)).mono ?_
            rintro e w4 ⟨rfl, rfl⟩
            have hixb : ix L s < 65536 := by have := ix_lt hsL; have := ht3.2.2.2.2.1; have := ht3.2.2.2.1; omega
            go_wp2_with fail
            go_loopw [14] (fun jv QY => ∃ j : Nat, j ≤ k ∧ jv = .int .i64 j ∧ Below w3.heap.size w3 QY) (fun jv _ => k - (intOf jv).toNat)
            case atStart => exact ⟨0, by omega, rfl, Below.refl _ _⟩
            case round =>
              obtain ⟨j, hj, rfl, hbx⟩ := hrel
              by_cases hjk : j < k
              · obtain ⟨t, htj⟩ : ∃ t, l[j]? = some t := ⟨l[j]'(by omega), by simp⟩
                have hjl : j < l.length := by omega
                have hBy := hB3.trans (hbx.mono hB3.size)
                have hBS : BackS w3 b off g j k t s (numI L t) (ix L s : Int) wr :=
                  ⟨HK.out _ hBy, hbx, keep_cell (HSL.out j t htj) hBy, keep_cell (HSL.out k s HSS.out) hBy, keep_cell (HNUM.out w3 hB3.size hown3 j t htj) hbx, keep_cell hnr3 hbx⟩
                have htm := List.mem_of_getElem? htj
                have htt := HS.out t htm
                have hHC : ∀ W, Cells W 0 letL → Calls Tryd.prog 7 #[.string t] W (IsPost W (mayS t)) := fun W hW => may7 t htt W hW
                clear htj hnr3 hcr3
                cases hm : mayS t
                · rw [hm] at hHC
                  have HC1 := Lib.hid hHC
                  clear hHC hm
                  generalize numI L t = x at hBS
                  go_wp2_with fail
                  have hD := hBS.drew
                  refine region_plan (BackS w3 b off g j k t s (x) (ix L s : Int)) [(0, 0), (1, 0), (2, 0), (3, 0), (4, 1), (5, 0), (6, 0), (7, 0), (8, 0), (9, 0), (10, 0), (11, 0), (12, 0), (13, 0), (14, 0), (15, 0), (16, 0), (17, 0), (18, 0), (19, 0), (20, 0), (21, 0), (22, 0), (23, 0), (24, 0), (25, 0)] (by kernel_rfl) (by kernel_rfl) (by kernel_rfl) hD ?_
                  generalize wr.drew = W0 at hD ⊢
                  iterate 4 (first | (refine plan_skip rfl ?_ ?_; (focus (rfl)); (try simp only [Act.put, List.setIfInBounds_toArray, List.set_cons_zero, List.set_cons_succ])) | (refine plan_take (v := ?_) rfl ?_ (fun w hSw => ?_) ?_; rotate_left; (focus (rfl)); (focus (unfold BackS at hSw; (go_simp <;> with_reducible rfl))); (try simp only [Act.put, List.setIfInBounds_toArray, List.set_cons_zero, List.set_cons_succ])))
                  refine plan_run rfl ?_ (fun K hK => ?_)
                  focus (rfl)
                  go_simp
                  refine (HC1.out _ hD.1).mono ?_
                  rintro e W1 ⟨rfl, hb1⟩
                  have hS1 := hD.keep hb1
                  refine hK.out _ _ hS1 ?_
                  clear hK K hb1
                  (try simp only [Act.put, List.setIfInBounds_toArray, List.set_cons_zero, List.set_cons_succ])
                  iterate 21 (first | (refine plan_skip rfl ?_ ?_; (focus (rfl)); (try simp only [Act.put, List.setIfInBounds_toArray, List.set_cons_zero, List.set_cons_succ])) | (refine plan_take (v := ?_) rfl ?_ (fun w hSw => ?_) ?_; rotate_left; (focus (rfl)); (focus (unfold BackS at hSw; (go_simp <;> with_reducible rfl))); (try simp only [Act.put, List.setIfInBounds_toArray, List.set_cons_zero, List.set_cons_succ])))
                  refine plan_done ?_
                  go_wp2_with fail
                  go_roundw
                  case rel => exact ⟨j + 1, by omega, by go_num, hS1.2.1⟩
                  case measure => simp [intOf]; omega
                · have htL := HMEM.out t htm hm
                  have hnt : numI L t = (ix L t : Int) := by simp [numI, hm]
                  rw [hm] at hHC
                  rw [hnt] at hBS
                  have HC1 := Lib.hid hHC
                  clear hHC hm hnt
                  by_cases hts : t = s
                  · have HTS := Lib.hid hts
                    clear hts
                    obtain rfl := HTS.out
                    go_wp2_with fail
                    have hD := hBS.drew
                    refine region_plan (BackS w3 b off g j k t t (ix L t : Int) (ix L t : Int)) [(0, 0), (1, 0), (2, 0), (3, 0), (4, 1), (5, 0), (6, 0), (7, 0), (8, 0), (9, 0), (10, 0), (11, 0), (12, 0), (13, 0), (14, 0), (15, 0), (16, 0), (17, 0), (18, 0), (19, 0), (20, 0), (21, 0), (22, 0), (23, 0), (24, 0), (25, 0)] (by kernel_rfl) (by kernel_rfl) (by kernel_rfl) hD ?_
                    generalize wr.drew = W0 at hD ⊢
                    iterate 4 (first | (refine plan_skip rfl ?_ ?_; (focus (rfl)); (try simp only [Act.put, List.setIfInBounds_toArray, List.set_cons_zero, List.set_cons_succ])) | (refine plan_take (v := ?_) rfl ?_ (fun w hSw => ?_) ?_; rotate_left; (focus (rfl)); (focus (unfold BackS at hSw; (go_simp <;> with_reducible rfl))); (try simp only [Act.put, List.setIfInBounds_toArray, List.set_cons_zero, List.set_cons_succ])))
                    refine plan_run rfl ?_ (fun K hK => ?_)
                    focus (rfl)
                    go_simp
                    refine (HC1.out _ hD.1).mono ?_
                    rintro e W1 ⟨rfl, hb1⟩
                    have hS1 := hD.keep hb1
                    refine hK.out _ _ hS1 ?_
                    clear hK K hb1
                    (try simp only [Act.put, List.setIfInBounds_toArray, List.set_cons_zero, List.set_cons_succ])
                    iterate 21 (first | (refine plan_skip rfl ?_ ?_; (focus (rfl)); (try simp only [Act.put, List.setIfInBounds_toArray, List.set_cons_zero, List.set_cons_succ])) | (refine plan_take (v := ?_) rfl ?_ (fun w hSw => ?_) ?_; rotate_left; (focus (rfl)); (focus (unfold BackS at hSw; (go_simp <;> with_reducible rfl))); (try simp only [Act.put, List.setIfInBounds_toArray, List.set_cons_zero, List.set_cons_succ])))
                    refine plan_done ?_
                    go_wp2_with fail
                    go_roundw
                    case rel => exact ⟨j + 1, by omega, by go_num, hS1.2.1⟩
                    case measure => simp [intOf]; omega
                  · have q1 : ((ix L t : Int) == (ix L s : Int)) = false := by
                      simp
                      intro e
                      exact hts (ix_inj htL hsL (by omega))
                    have q2 := str_ne hts
                    clear hts
                    go_wp2_with fail
                    have hD := hBS.drew
                    refine region_plan (BackS w3 b off g j k t s (ix L t : Int) (ix L s : Int)) [(0, 0), (1, 0), (2, 0), (3, 0), (4, 1), (5, 0), (6, 0), (7, 0), (8, 0), (9, 0), (10, 0), (11, 0), (12, 0), (13, 0), (14, 0), (15, 0), (16, 0), (17, 0), (18, 0), (19, 0), (20, 0), (21, 0), (22, 0), (23, 0), (24, 0), (25, 0)] (by kernel_rfl) (by kernel_rfl) (by kernel_rfl) hD ?_
                    generalize wr.drew = W0 at hD ⊢
                    iterate 4 (first | (refine plan_skip rfl ?_ ?_; (focus (rfl)); (try simp only [Act.put, List.setIfInBounds_toArray, List.set_cons_zero, List.set_cons_succ])) | (refine plan_take (v := ?_) rfl ?_ (fun w hSw => ?_) ?_; rotate_left; (focus (rfl)); (focus (unfold BackS at hSw; (go_simp <;> with_reducible rfl))); (try simp only [Act.put, List.setIfInBounds_toArray, List.set_cons_zero, List.set_cons_succ])))
                    refine plan_run rfl ?_ (fun K hK => ?_)
                    focus (rfl)
                    go_simp
                    refine (HC1.out _ hD.1).mono ?_
                    rintro e W1 ⟨rfl, hb1⟩
                    have hS1 := hD.keep hb1
                    refine hK.out _ _ hS1 ?_
                    clear hK K hb1
                    (try simp only [Act.put, List.setIfInBounds_toArray, List.set_cons_zero, List.set_cons_succ])
                    iterate 21 (first | (refine plan_skip rfl ?_ ?_; (focus (rfl)); (try simp only [Act.put, List.setIfInBounds_toArray, List.set_cons_zero, List.set_cons_succ])) | (refine plan_take (v := ?_) rfl ?_ (fun w hSw => ?_) ?_; rotate_left; (focus (rfl)); (focus (unfold BackS at hSw; (go_simp <;> with_reducible rfl))); (try simp only [Act.put, List.setIfInBounds_toArray, List.set_cons_zero, List.set_cons_succ])))
                    refine plan_done ?_
                    go_wp2_with fail
                    go_roundw
                    case rel => exact ⟨j + 1, by omega, by go_num, hS1.2.1⟩
                    case measure => simp [intOf]; omega
              · have hjk2 : j = k := by omega
                subst hjk2
                have ht4 := ht3.keep hbx
                have hown4 := own_keep hown3 hbx
                have hB4 := hB3.trans (hbx.mono hB3.size)
                go_wp2_with fail
                go_roundw
                case rel => exact ⟨j + 1, rv, by omega, by go_num, ht4, hown4, hB4⟩
                case measure => simp [intOf]; omega
        · go_wp2_with fail
          refine (wakes_any wr (HK.out _ hB)).mono ?_
          rintro e w2 ⟨rfl, hb2⟩
          go_wp2_with fail
          go_ret
          exact ⟨rfl, hB.trans (hb2.mono hB.size)⟩
theorem back_great (w : World) (hw : Cells w 0 letL) (ao : Option Addr) (n cap : Nat) (hl : 100 < n) : Calls Tryd.prog 4 #[.slice ao n cap] w (IsPost w true) := by
  have hd : decide ((100 : Int) < (n : Int)) = true := by simp; omega
  have HW := Lib.hid hw
  clear hw
  go_enter Tryd.func4, Tryd.ntmps4
  go_wp2_with fail
  refine (wakes_any w HW.out).mono ?_
  rintro e w2 ⟨rfl, hb2⟩
  go_wp2_with fail
  go_ret
  exact ⟨rfl, hb2⟩
end Go.Proofs.YtaldnommgjnnkaaDoor
