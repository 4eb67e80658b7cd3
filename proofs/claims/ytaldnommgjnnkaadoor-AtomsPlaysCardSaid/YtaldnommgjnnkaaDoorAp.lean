/- atoms: the reference's table: New, Of, Put, Text. Conditions: lengths fit. -/
import Derived.Test.YtaldnommgjnnkaaDoorAj
import Derived.Test.YtaldnommgjnnkaaDoorAf
namespace Go.Proofs.YtaldnommgjnnkaaDoor
open Go.ChangeShapes Go.WideShapes Go.ChangeAt Go.RowKit
set_option linter.unusedVariables false
/-- the reference's table of atoms -/
def RTab (w : World) (base p : Nat) (rv : Value) (most : Nat) (L : List ByteArray) : Prop :=
  base ≤ p ∧ most ≤ 65536 ∧ L.length ≤ most ∧ w.heap[p]? = some (.cells #[.int .i64 most, rv] 47 (0, 0)) ∧ w.ownsRow base 9 1 rv L.length (L.map Value.string)
def rfoot (p : Nat) (rv : Value) (k : Nat) : Prop := k = p ∨ rv.ownBlock = some k
theorem RTab.chg {S : Nat → Prop} {w w' : World} {base p most : Nat} {rv : Value} {L : List ByteArray} (h : RTab w base p rv most L) (hc : Chg S w w') (hs : ∀ k, rfoot p rv k → ¬ S k) : RTab w' base p rv most L := by
  obtain ⟨h1, h2, h3, h7, h9⟩ := h
  exact ⟨h1, h2, h3, hc.heap h7 (hs p (.inl rfl)), own_chg h9 hc fun k hk => hs k (.inr hk)⟩
theorem RTab.keep {w w' : World} {base p most : Nat} {rv : Value} {L : List ByteArray} (h : RTab w base p rv most L) (hb : Below w.heap.size w w') : RTab w' base p rv most L :=
  h.chg (chg_of_below hb fun _ => False) fun _ _ hf => hf
theorem RTab.low {w : World} {base p most : Nat} {rv : Value} {L : List ByteArray} (h : RTab w base p rv most L) : ∀ k, rfoot p rv k → k < w.heap.size := by
  obtain ⟨h1, h2, h3, h7, h9⟩ := h
  rintro k (rfl | hk)
  · exact heap_lt h7
  · exact own_lt h9 (Nat.le_refl _) k hk
theorem RTab.base {w : World} {base p most : Nat} {rv : Value} {L : List ByteArray} (h : RTab w base p rv most L) : ∀ k, rfoot p rv k → base ≤ k := by
  obtain ⟨h1, h2, h3, h7, h9⟩ := h
  rintro k (rfl | hk)
  · exact h1
  · exact own_base h9 k hk
theorem RTab.cells {w : World} {base p most : Nat} {rv : Value} {L : List ByteArray} (h : RTab w base p rv most L) :
    w.cell? ⟨p, 0, none⟩ = some (.int .i64 most) ∧ w.cell? ⟨p, 1, none⟩ = some rv ∧ w.frozen? ⟨p, 1, none⟩ = false ∧ p < w.heap.size ∧ ∃ ao c, rv = .slice ao L.length c ∧ L.length ≤ 65536 := by
  obtain ⟨h1, h2, h3, h7, h9⟩ := h
  refine ⟨(cells_at h7 0 _ rfl).1, (cells_at h7 1 _ rfl).1, (cells_at h7 1 _ rfl).2, heap_lt h7, ?_⟩
  obtain ⟨_, ⟨rfl, e⟩ | ⟨g, cap, cur, rfl, _⟩⟩ := h9
  · exact ⟨_, _, by rw [e], by omega⟩
  · exact ⟨_, _, rfl, by omega⟩
theorem RTab.apart {w : World} {base p most : Nat} {rv : Value} {L : List ByteArray} (h : RTab w base p rv most L) : rv.ownBlock ≠ some p := by
  obtain ⟨h1, h2, h3, h7, h9⟩ := h
  intro e
  obtain ⟨cur, hc⟩ := own_type h9 _ e
  rw [h7] at hc
  injection hc with hc
  injection hc with _ hc
  cases hc
theorem rtab_row {w : World} {base p most : Nat} {rv : Value} {L : List ByteArray} (h : RTab w base p rv most L) : SlV w rv (L.map Value.string) := SlV_own h.2.2.2.2 (by simp)
def RNewPost (w : World) (most : Nat) (x : Ending) (w' : World) : Prop :=
  ∃ p, x = .returned (.tuple #[.pointer (some ⟨p, 0, none⟩), .int .i64 0]) ∧ RTab w' w.heap.size p (.slice none 0 0) most [] ∧ Below w.heap.size w w'
theorem rnew_ok (most : Nat) (h1 : 1 ≤ most) (h2 : most ≤ 65536) (w : World) : Calls Tryd.prog 19 #[.int .i64 most] w (RNewPost w most) := by
  have d1 : decide ((most : Int) < 1) = false := by simp; omega
  have d2 : decide ((65536 : Int) < most) = false := by simp; omega
  go_enter Tryd.func19, Tryd.ntmps19
  go_wp2_with fail
  go_ret2
  refine ⟨w.heap.size, rfl, ⟨Nat.le_refl _, h2, by simp, ?_, World.ownsRow_nil _ _ _ _⟩, (Below.refl w.heap.size w).alloc (Nat.le_refl _) _⟩
  exact (MapKept.heap_alloc w (.cells #[.int .i64 most, .slice none 0 0] 47)).1
theorem rnew_bad (most : Int) (h : most < 1 ∨ 65536 < most) (w : World) : Calls Tryd.prog 19 #[.int .i64 most] w (AnyNew w) := by
  by_cases h1 : most < 1
  · have d1 : decide (most < 1) = true := by simpa using h1
    go_enter Tryd.func19, Tryd.ntmps19
    go_wp2_with fail
    go_ret2
    exact ⟨rfl, rfl⟩
  · have d1 : decide (most < 1) = false := by simpa using h1
    have d2 : decide ((65536 : Int) < most) = true := by simp; omega
    go_enter Tryd.func19, Tryd.ntmps19
    go_wp2_with fail
    go_ret2
    exact ⟨rfl, rfl⟩
theorem rtext_ok {base p most : Nat} {rv : Value} {L : List ByteArray} (w : World) (ht : RTab w base p rv most L) (k : Nat) (s : ByteArray) (hk : L[k]? = some s) :
    Calls Tryd.prog 23 #[.pointer (some ⟨p, 0, none⟩), .int .i64 k] w (TextPost w s 0) := by
  have hr := rtab_row ht
  obtain ⟨c0, c2, c3, c4, ao, c, hrv, c5⟩ := ht.cells
  have hlt : k < L.length := (List.getElem?_eq_some_iff.1 hk).1
  subst hrv
  obtain ⟨b, off, rfl, hbs, hcell⟩ := hr.at (i := k) (u := .string s) (by simp [hk])
  have d1 : decide ((k : Int) < 0) = false := by simp
  have d2 : decide (L.length ≤ k) = false := by simp; omega
  clear c0 c3 ht hr hk
  go_enter Tryd.func23, Tryd.ntmps23
  go_wp2_with fail
  go_ret2
  exact ⟨rfl, rfl⟩
theorem rtext_no {base p most : Nat} {rv : Value} {L : List ByteArray} (w : World) (ht : RTab w base p rv most L) (n : Int) (hn : n < 0 ∨ (L.length : Int) ≤ n) :
    Calls Tryd.prog 23 #[.pointer (some ⟨p, 0, none⟩), .int .i64 n] w (TextPost w ⟨#[]⟩ 4) := by
  obtain ⟨c0, c2, c3, c4, ao, c, hrv, c5⟩ := ht.cells
  subst hrv
  clear c0 c3 ht
  by_cases h1 : n < 0
  · have d1 : decide (n < 0) = true := by simpa using h1
    go_enter Tryd.func23, Tryd.ntmps23
    go_wp2_with fail
    go_ret2
    exact ⟨rfl, rfl⟩
  · have d1 : decide (n < 0) = false := by simpa using h1
    have d2 : decide ((L.length : Int) ≤ n) = true := by simp; omega
    go_enter Tryd.func23, Tryd.ntmps23
    go_wp2_with fail
    go_ret2
    exact ⟨rfl, rfl⟩
def TwoS (w : World) (n : Int) (b : Bool) (x : Ending) (w' : World) : Prop := x = .returned (.tuple #[.int .i64 n, .bool b]) ∧ w = w'
theorem ix_first {L : List ByteArray} {s : ByteArray} {k : Nat} (h : L[k]? = some s) (hn : s ∉ L.take k) : s ∈ L ∧ ix L s = k := by
  have hm : s ∈ L := List.mem_of_getElem? h
  refine ⟨hm, ?_⟩
  have e : L = L.take k ++ L.drop k := (List.take_append_drop k L).symm
  have hlt := (List.getElem?_eq_some_iff.1 h).1
  unfold ix
  rw [e, List.idxOf_append, if_neg hn]
  have : L.drop k = s :: L.drop (k + 1) := by
    rw [List.drop_eq_getElem_cons hlt]
    congr 1
    exact (List.getElem?_eq_some_iff.1 h).2
  rw [this, List.idxOf_cons_self, List.length_take]
  omega
set_option maxHeartbeats 1000000 in
theorem rof_any {base p most : Nat} {rv : Value} {L : List ByteArray} (w : World) (ht : RTab w base p rv most L) (s : ByteArray) :
    Calls Tryd.prog 22 #[.pointer (some ⟨p, 0, none⟩), .string s] w (TwoS w (ofN L s) (ofB L s)) := by
  have hr := rtab_row ht
  obtain ⟨c0, c2, c3, c4, ao, c, hrv, c5⟩ := ht.cells
  subst hrv
  have HR := Lib.hid hr
  clear c0 c3 ht hr
  go_enter Tryd.func22, Tryd.ntmps22
  go_wp2_with fail
  go_loop [6] (fun iv => ∃ k : Nat, k ≤ L.length ∧ iv = .int .i64 k ∧ Hid (s ∉ L.take k)) (fun iv => L.length - (intOf iv).toNat)
  case atStart => exact ⟨0, by omega, rfl, Lib.hid (by simp)⟩
  case round =>
    obtain ⟨k, hk, rfl, HN⟩ := hrel
    by_cases hlt : k < L.length
    · obtain ⟨t, htk⟩ : ∃ t, L[k]? = some t := ⟨L[k], by simp [hlt]⟩
      obtain ⟨b, off, rfl, hbs, hcell⟩ := HR.out.at (i := k) (u := .string t) (by simp [htk])
      by_cases h : t = s
      · subst h
        have hix := ix_first htk HN.out
        have HIX := Lib.hid hix
        clear hix htk
        go_wp2_with fail
        go_ret2
        exact ⟨by simp [ofN, ofB, HIX.out], rfl⟩
      · have hq := str_ne h
        have HN2 : Hid (s ∉ L.take (k + 1)) := Lib.hid (by
          rw [List.take_add_one, htk]
          simp
          exact ⟨HN.out, fun e => h e.symm⟩)
        clear h htk
        go_wp2_with fail
        go_round
        case rel => exact ⟨k + 1, by omega, by go_num, HN2⟩
        case measure => simp [intOf]; omega
    · have HN2 : Hid (s ∉ L) := Lib.hid (by
        have := HN.out
        rwa [List.take_of_length_le (by omega)] at this)
      go_wp2_with fail
      go_ret2
      exact ⟨by simp [ofN, ofB, HN2.out], rfl⟩
def RPutPost (w : World) (base p most : Nat) (rv : Value) (L : List ByteArray) (s : ByteArray) (x : Ending) (w' : World) : Prop :=
  ∃ rv', x = .returned (.tuple #[.int .i64 (putN most L s), .int .i64 (putE most L s)]) ∧ RTab w' base p rv' most (putL most L s) ∧ Chg (rfoot p rv) w w' ∧ (rv'.ownBlock = rv.ownBlock ∨ ∃ k, rv'.ownBlock = some k ∧ w.heap.size ≤ k)
set_option maxHeartbeats 2000000 in
theorem rput_any (s : ByteArray) (hs : s.size ≤ 9223372036854775807) {base p most : Nat} {rv : Value} {L : List ByteArray} (w : World) (ht : RTab w base p rv most L) :
    Calls Tryd.prog 20 #[.pointer (some ⟨p, 0, none⟩), .string s] w (RPutPost w base p most rv L s) := by
  obtain ⟨i0, hi, hz0, hz1, hz2⟩ := info_parts infoS
  have same : ∀ e w', Below w.heap.size w w' → putL most L s = L → e = .returned (.tuple #[.int .i64 (putN most L s), .int .i64 (putE most L s)]) → RPutPost w base p most rv L s e w' := by
    intro e w' hb hl he
    refine ⟨rv, he, ?_, chg_of_below hb _, .inl rfl⟩
    rw [hl]
    exact ht.keep hb
  have SAME := Lib.hid same
  clear same
  by_cases hm : mayS s = true
  · have HM := refmay8 s hs w
    rw [hm] at HM
    have HM := Lib.hid HM
    by_cases hL : s ∈ L
    · have e1 : putL most L s = L := by simp [putL, hm, hL]
      have e2 : putN most L s = ofN L s := by simp [putN, hm, hL, ofN]
      have e3 : putE most L s = 0 := by simp [putE, hm, hL]
      have e4 : ofB L s = true := by simp [ofB, hL]
      have HE := Lib.hid (⟨e1, e2, e3, e4⟩ : _ ∧ _ ∧ _ ∧ _)
      clear hm e1 e2 e3 e4 hL
      go_enter Tryd.func20, Tryd.ntmps20
      go_wp2_with fail
      refine HM.out.mono ?_
      rintro e w1 ⟨rfl, hb1⟩
      go_wp2_with fail
      refine (rof_any w1 (ht.keep hb1) s).mono ?_
      rintro e w2 ⟨he, rfl⟩
      rw [HE.out.2.2.2] at he
      subst he
      go_wp2_with fail
      go_ret2
      exact SAME.out _ _ hb1 HE.out.1 (by rw [HE.out.2.1, HE.out.2.2.1]; rfl)
    · have e4 : ofB L s = false := by simp [ofB, hL]
      have e5 : ofN L s = 0 := by simp [ofN, hL]
      by_cases hl : L.length = most
      · have e1 : putL most L s = L := by simp [putL, hm, hL, hl]
        have e2 : putN most L s = 0 := by simp [putN, hm, hL, hl]
        have e3 : putE most L s = 20 := by simp [putE, hm, hL, hl]
        have HE := Lib.hid (⟨e1, e2, e3, e4, e5⟩ : _ ∧ _ ∧ _ ∧ _ ∧ _)
        have d1 : decide (most ≤ L.length) = true := by simp; omega
        clear hm e1 e2 e3 e4 e5 hL hl
        go_enter Tryd.func20, Tryd.ntmps20
        go_wp2_with fail
        refine HM.out.mono ?_
        rintro e w1 ⟨rfl, hb1⟩
        go_wp2_with fail
        refine (rof_any w1 (ht.keep hb1) s).mono ?_
        rintro e w2 ⟨he, rfl⟩
        rw [HE.out.2.2.2.1, HE.out.2.2.2.2] at he
        subst he
        obtain ⟨c0, c2, c3, c4, ao, c, rfl, c5⟩ := (ht.keep hb1).cells
        clear c3
        go_wp2_with fail
        go_quiet (fail)
        go_wp2_with fail
        go_ret2
        exact SAME.out _ _ (below_drewN hb1 _) HE.out.1 (by rw [HE.out.2.1, HE.out.2.2.1]; rfl)
      · have hlt : L.length < most := by have := ht.2.2.1; omega
        have hmost := ht.2.1
        have e1 : putL most L s = L ++ [s] := by simp [putL, hm, hL, hl]
        have e2 : putN most L s = (L.length : Int) := by simp [putN, hm, hL, hl]
        have e3 : putE most L s = 0 := by simp [putE, hm, hL, hl]
        have HE := Lib.hid (⟨e1, e2, e3, e4, e5⟩ : _ ∧ _ ∧ _ ∧ _ ∧ _)
        have d1 : decide (most ≤ L.length) = false := by simp; omega
        clear hm e1 e2 e3 e4 e5 hL hl
        go_enter Tryd.func20, Tryd.ntmps20
        go_wp2_with fail
        refine HM.out.mono ?_
        rintro e w1 ⟨rfl, hb1⟩
        go_wp2_with fail
        refine (rof_any w1 (ht.keep hb1) s).mono ?_
        rintro e w2 ⟨he, rfl⟩
        rw [HE.out.2.2.2.1, HE.out.2.2.2.2] at he
        subst he
        have ht1 := ht.keep hb1
        obtain ⟨c0, c2, c3, c4, ao, c, hrv, c5⟩ := ht1.cells
        have HR := Lib.hid hrv
        have HT := Lib.hid ht
        rw [hrv] at c2
        clear hrv ht c3
        go_wp2_with fail
        go_quiet (fail)
        clear d1
        generalize hN : w1.drewN _ = W1
        have hbN : Below w.heap.size w W1 := by rw [← hN]; exact below_drewN hb1 _
        have htN : RTab W1 base p rv most L := by
          rw [← hN]
          exact ht1.keep (below_drewN (Below.refl _ _) _)
        clear hN ht1 hb1 c0 c2 c4
        obtain ⟨c0, c2, c3, c4, _⟩ := htN.cells
        have hrow := htN.2.2.2.2
        have hblk := htN.2.2.2.1
        have hap := htN.apart
        have HN := Lib.hid htN
        have HAP := Lib.hid hap
        rw [HR.out] at c2 hrow
        clear htN hap c3
        go_wp2_with (at_builtin; refine stop_here ?_)
        refine Lib.hid ?_
        refine wpList_append_own2 rfl (.tmp 33) (.tmp 35) 25 rfl base 9 i0 (.string ⟨#[]⟩) 1 16 Tryd.underlying25 hi hz0 hz1 hz2 rfl (by decide) _ _ _ rfl (hrow.alloc _) ⟨W1.heap.size, 0, none⟩ 1 1 [.string s] rfl rfl (one_new _ _ _) (by simp [Value.oneCell']) (by unfold maxLen; omega) (by omega) ?_ ?_
        · have := HT.out.1
          have := HN.out.2.2.2.1
          have := heap_lt this
          simp
          omega
        · intro rv' W3 hown3 hg3 hwh
          rw [← HR.out] at hg3 hwh
          obtain ⟨ao3, cc3, rfl⟩ := own_slice hown3
          have hc3 := chg_grown hg3
          have k3 : W3.heap[p]? = some (.cells #[.int .i64 most, rv] 47 (0, 0)) := hc3.heap (keep_heap hblk ((Below.refl _ _).alloc (Nat.le_refl _) _)) (fun e => HAP.out e.symm)
          obtain ⟨f3, g3⟩ := cells_at k3 1 _ rfl
          have hp3 := heap_lt k3
          have hpr : ∀ k, (Value.slice ao3 (L.length + 1) cc3).ownBlock = some k → k ≠ p := by
            rintro k hk rfl
            obtain ⟨cur, hc⟩ := own_type hown3 _ hk
            rw [k3] at hc
            injection hc with hc
            injection hc with _ hc
            cases hc
          have hg := chg_set (w := W3) (p := ⟨p, 1, none⟩) (.slice ao3 (L.length + 1) cc3)
          have hadd : RTab (W3.setCell ⟨p, 1, none⟩ (.slice ao3 (L.length + 1) cc3)) base p (.slice ao3 (L.length + 1) cc3) most (L ++ [s]) := by
            refine ⟨HT.out.1, HT.out.2.1, by simp; omega, set_at k3 _, ?_⟩
            have := own_chg hown3 hg hpr
            simpa using this
          have hfin : Chg (rfoot p rv) w (W3.setCell ⟨p, 1, none⟩ (.slice ao3 (L.length + 1) cc3)) := by
            refine (chg_of_below hbN _).trans ?_
            refine (chg_alloc _ W1 (.cells #[.string s] 9)).trans ?_
            refine (hc3.mono ?_).trans ?_
            · intro k _ e; exact .inr e.symm
            exact hg.mono fun k _ e => .inl e
          have hwf : (Value.slice ao3 (L.length + 1) cc3).ownBlock = rv.ownBlock ∨ ∃ k, (Value.slice ao3 (L.length + 1) cc3).ownBlock = some k ∧ w.heap.size ≤ k := by
            refine hwh.imp id fun h => ⟨_, h, ?_⟩
            have := hbN.size
            simp
            omega
          have f4 := World.cell?_setCell_same' W3 ⟨p, 1, none⟩ (.slice ao3 (L.length + 1) cc3) (by rw [f3]; rfl)
          have HF := Lib.hid (⟨hadd, hfin, hwf⟩ : _ ∧ _ ∧ _)
          clear hown3 hg3 hwh hc3 k3 hadd hfin hwf hrow hblk c0 c2 c4 hbN hg hpr
          go_wp2_with fail
          go_ret2
          exact ⟨_, by rw [HE.out.2.1, HE.out.2.2.1]; rfl, by rw [HE.out.1]; exact HF.out.1, HF.out.2⟩
  · have hm' : mayS s = false := by simpa using hm
    have HM := refmay8 s hs w
    rw [hm'] at HM
    have HM := Lib.hid HM
    have HE := Lib.hid (put_bad (L := L) (most := most) hm')
    clear hm hm'
    go_enter Tryd.func20, Tryd.ntmps20
    go_wp2_with fail
    refine HM.out.mono ?_
    rintro e w1 ⟨rfl, hb1⟩
    go_wp2_with fail
    go_ret2
    exact SAME.out _ _ hb1 HE.out.1 (by rw [HE.out.2.1, HE.out.2.2]; rfl)
end Go.Proofs.YtaldnommgjnnkaaDoor
