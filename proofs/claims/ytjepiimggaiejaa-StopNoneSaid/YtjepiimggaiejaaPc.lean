/- stop: New, walked. Conditions: at most 40 records. -/
import Derived.Test.YtjepiimggaiejaaPb
namespace Go.Proofs.Ytjepiimggaiejaa
open Go.ChangeShapes Go.WideShapes Go.ChangeAt Go.RowKit
set_option linter.unusedVariables false
abbrev nS : Value := .slice none 0 0
abbrev zI : Value := .int .i64 0
abbrev z8 : Value := .int .i8 0
abbrev zS : Value := .string ⟨#[]⟩
/-- a frame's cells; a frame -/
def frC (kd ph n : Int) (v : Value) : Array Value :=
  #[.int .i8 kd, zI, zI, nS, nS, nS, nS, zI, .int .i8 ph, zI, zI, zI, .int .i64 n, z8, zI, zS, zS, nS, z8, zI, zS, zS, nS, z8, zI, zS, zS, nS, v, z8, zI, zI, nS, nS, nS]
def frV (kd ph n : Int) (v : Value) : Value := .agg (frC kd ph n v)
theorem infoFR (kd ph n : Int) (v : Value) : (Try.prog.info? 38).map (·.size) = some (frC kd ph n v).size := by
  have : (Try.prog.info? 38).map (·.size) = some 35 := by kernel_rfl
  exact this
theorem ret_fr {fn : Func} {R : Ending → World → Prop} {tmps : Array Value} {w : World} {g p q : Nat} {kd ph n : Int} {v u : Value} (hg : w.heap[g]? = some (.cells (frC kd ph n v) 38 (0, 0))) (hfn : fn.results = #[.cell p 38, .tmp q])
    (hp : tmps.getD p undef = .pointer (some ⟨g, 0, none⟩)) (hq : tmps.getD q undef = u) (hpost : R (.returned (.tuple #[frV kd ph n v, u])) w) : bodyPost Try.prog fn R .ret { tmps := tmps, defers := [] } w := by
  refine bodyPost_ret (v := .tuple #[frV kd ph n v, u]) ?_ rfl hpost
  have hl := run_loadVar_row (P := Try.prog) w g 38 38 (frC kd ph n v) (0, 0) _ hg Try.underlying38 rfl (infoFR kd ph n v)
  unfold results
  rw [hfn]
  simp only [Array.getD_eq_getD_getElem?] at hp hq
  simp [asAddr, hp, hq, hl]
  rfl
theorem frC_one (kd ph n : Int) {v : Value} (hv : v.oneCell' = true) : ((frC kd ph n v).all fun x => x.oneCell') = true := by
  unfold frC
  rw [List.all_toArray]
  cases v <;> simp_all [Value.oneCell']
def pidsL (R : List Rc) : List Int := R.map Rc.p
def NewI (w : World) (R : List Rc) (k : Nat) (W : World) : Prop :=
  Below w.heap.size w W ∧ W.heap[w.heap.size]? = some (.cells (frC 0 0 0 nS) 38 (0, 0)) ∧ W.ownsMap Try.prog 3 (plainElem Try.prog 4) (w.heap.size + 1) k (seens ((pidsL R).take k)) ∧ ∀ j, j < k → ¬ badAt (pidsL R) j
def NewP (w : World) (R : List Rc) (e : Ending) (w' : World) : Prop :=
  Below w.heap.size w w' ∧ ((okPs (pidsL R) ∧ R.length ≤ 24 ∧ ∃ v, e = .returned (.tuple #[frV 3 0 0 v, .int .i64 0]) ∧ w'.ownsRow w.heap.size 47 13 v R.length (rcs R)) ∨
    (¬ (okPs (pidsL R) ∧ R.length ≤ 24) ∧ e = .returned (.tuple #[frV 0 0 0 nS, .int .i64 2])))
theorem plainElem_bool_inv {H : Type} {P : Program} {e : TypeId} (he : P.underlying e = some .bool) {v : Value} {z : DataW H × List MemPlace} (h : plainElem P e v = some z) : ∃ x, v = .bool x ∧ z = (.lit (.bool x), []) := by
  unfold plainElem at h
  rw [he] at h
  cases v <;> simp at h
  exact ⟨_, rfl, h.symm⟩
theorem look_seen {w : World} {b n : Nat} {l : List Int} (h : w.ownsMap Try.prog 3 (plainElem Try.prog 4) b n (seens l)) (p : Int) (h1 : -9223372036854775808 ≤ p) (h2 : p ≤ 9223372036854775807) :
    (Instr.lookup 59 (.map (some b)) (.int .i64 p) false).run Try.prog w = .ok (.bool (decide (0 < p ∧ p ∈ l))) w := by
  obtain ⟨v, ps, hr, hv⟩ := h.lookup kI Try.underlying59 (zB w) (plainElem_bool Try.underlying4 false) (Go.Maps.keyOf_int_mk Try.underlying3 (WalkArith.wf_i64 ⟨h1, h2⟩))
  have := seens_at l p
  unfold ikey at this
  rw [this] at hv
  obtain ⟨x, rfl, hx⟩ := plainElem_bool_inv Try.underlying4 hv
  injection hx with hx _
  injection hx with hx
  injection hx with hx
  rw [hx]
  exact hr
set_option maxRecDepth 100000 in
set_option maxHeartbeats 4000000 in
theorem new_any (w : World) (ao : Option Addr) (cap : Nat) (R : List Rc) (hR : R.length ≤ 40) (hok : ∀ r ∈ R, r.ok) (hr : RRow w ao R) (hn : ao = none → R = []) : Calls Try.prog 7 #[.slice ao R.length cap] w (NewP w R) := by
  have hmm := @run_makeMap Try.prog
  have HR := Lib.hid hr
  have HK := Lib.hid hok
  clear hr hok
  go_enter Try.func7, Try.ntmps7
  go_wp2_with fail
  have hI0 : NewI w R 0 ((w.alloc (.cells (frC 0 0 0 nS) 38)).alloc (.map #[] 0)) := by
    have h1 := World.ownsMap_made (w.alloc (.cells (frC 0 0 0 nS) 38)) Try.prog 3 (plainElem (H := Unit) Try.prog 4)
    rw [World.size_alloc] at h1
    exact ⟨((Below.refl _ w).alloc (Nat.le_refl _) _).alloc (by simp) _, heap_old (heap_new w _) _, by rw [List.take_zero]; exact h1, fun j hj => by omega⟩
  unfold frC at hI0
  generalize ((w.alloc _).alloc (.map #[] 0)) = W0 at *
  clear hmm
  go_loopw [10] (fun kv wr => ∃ k : Nat, k ≤ R.length ∧ kv = .int .i64 k ∧ NewI w R k wr) (fun kv _ => R.length - (intOf kv).toNat)
  case atStart => exact ⟨0, by omega, rfl, hI0⟩
  case round =>
    clear hI0
    obtain ⟨k, hk, rfl, hI⟩ := hrel
    by_cases hlt : k < R.length
    · obtain ⟨r, hrk⟩ : ∃ r, R[k]? = some r := ⟨R[k], by simp [hlt]⟩
      obtain ⟨b, off, rfl, hbs, hat⟩ := HR.out.keep hI.1 k r hrk
      obtain ⟨hp1, hp2⟩ := HK.out r (List.mem_of_getElem? hrk)
      obtain ⟨c0, c1, c2, c3, c4, c5, c6, c7, c8, c9, c10, c11, c12⟩ := hat.all
      have hpk : (pidsL R)[k]? = some r.p := by simp [pidsL, hrk]
      obtain ⟨k0, n, s, t, l, ln, lc, kd, rs, sh, m, f, g, gn, gc, u, un, uc, p⟩ := r
      dsimp only at c0 c1 c2 c3 c4 c5 c6 c7 c8 c9 c10 c11 c12 hp1 hp2 hpk
      have hmap := hI.2.2.1.alloc (.cells #[.int .i8 k0, .int .i64 n, .string s, .string t, .slice l ln lc, .int .i8 kd, .int .i8 rs, .int .i64 sh, .string m, .string f, .slice g gn gc, .slice u un uc, .int .i64 p] 47)
      have hlook := look_seen hmap p hp1 hp2
      have HI := Lib.hid hI
      have HPK := Lib.hid hpk
      have hsz := hI.1.size
      have hf := keep_heap hI.2.1 ((Below.refl _ wr).alloc (Nat.le_refl _) (.cells #[.int .i8 k0, .int .i64 n, .string s, .string t, .slice l ln lc, .int .i8 kd, .int .i8 rs, .int .i64 sh, .string m, .string f, .slice g gn gc, .slice u un uc, .int .i64 p] 47))
      have hlt2 := heap_lt hI.2.1
      clear hI hpk hat hrk
      by_cases hneg : p < 0
      · have d0 : decide (p < 0) = true := by simpa using hneg
        have HNEG := Lib.hid hneg
        clear hlook hmap
        have HF := Lib.hid hf
        clear hf
        go_wp2_with (with_reducible refine stop_op (o := ⟨none, .store 38 (.tmp 2) (.tmp 23), _, _, _, _⟩) ?_)
        refine Lib.hid ?_
        refine wpList_store_row (o := ⟨none, _, _, _, _, _⟩) rfl 38 (.tmp 2) (.tmp 23) rfl w.heap.size (frC 0 0 0 nS) rfl rfl 38 (frC 0 0 0 nS) HF.out (infoFR _ _ _ _) rfl (frC_one _ _ _ rfl) ?_
        rw [setRow_self _ _ _ _ _ HF.out]
        go_wp2_with fail
        refine ret_fr HF.out rfl rfl rfl ⟨HI.out.1.alloc hsz _, .inr ⟨fun h => h.1 k ⟨p, HPK.out, ?_⟩, rfl⟩⟩
        first | exact .inl HNEG.out | exact .inr HNEG.out
      · have d0 : decide (p < 0) = false := by simpa using hneg
        by_cases hs : 0 < p ∧ p ∈ (pidsL R).take k
        · rw [decide_eq_true hs] at hlook
          have HNEG := Lib.hid hs
          have HF := Lib.hid hf
          clear hmap hs hf
          go_wp2_with (with_reducible refine stop_op (o := ⟨none, .store 38 (.tmp 2) (.tmp 23), _, _, _, _⟩) ?_)
          refine Lib.hid ?_
          refine wpList_store_row (o := ⟨none, _, _, _, _, _⟩) rfl 38 (.tmp 2) (.tmp 23) rfl w.heap.size (frC 0 0 0 nS) rfl rfl 38 (frC 0 0 0 nS) HF.out (infoFR _ _ _ _) rfl (frC_one _ _ _ rfl) ?_
          rw [setRow_self _ _ _ _ _ HF.out]
          go_wp2_with fail
          refine ret_fr HF.out rfl rfl rfl ⟨HI.out.1.alloc hsz _, .inr ⟨fun h => h.1 k ⟨p, HPK.out, ?_⟩, rfl⟩⟩
          first | exact .inl HNEG.out | exact .inr HNEG.out
        · rw [decide_eq_false hs] at hlook
          have HS := Lib.hid hs
          have HM := Lib.hid hmap
          clear hs hmap hf
          go_wp2_with (at_mapUpdate; refine stop_here ?_)
          refine Lib.hid ?_
          refine wpList_mapUpdate_own _ rfl (.tmp 24) (.tmp 26) (.tmp 29) 59 rfl 3 4 kI Try.underlying59 _ (w.heap.size + 1) k _ rfl HM.out (by unfold maxLen; omega) (.int .i64 p) (.bool (decide (0 < p))) (ikey p) rfl rfl (Go.Maps.keyOf_int_mk Try.underlying3 (WalkArith.wf_i64 ⟨hp1, hp2⟩)) (.lit (.bool (decide (0 < p)))) [] (plainElem_bool Try.underlying4 _) ?_
          intro W hown hg
          have HN : Hid (NewI w R (k + 1) W) := Lib.hid (by
            have hc := chg_grown hg
            obtain ⟨i1, i2, i3, i4⟩ := HI.out
            have hb := i1.alloc i1.size (.cells #[.int .i8 k0, .int .i64 n, .string s, .string t, .slice l ln lc, .int .i8 kd, .int .i8 rs, .int .i64 sh, .string m, .string f, .slice g gn gc, .slice u un uc, .int .i64 p] 47)
            refine ⟨hb.trans (hc.below hb.size (fun q h => by injection h with h; omega)), hc.heap (keep_heap i2 ((Below.refl _ wr).alloc (Nat.le_refl _) _)) (fun h => by injection h with h; omega), ?_, ?_⟩
            · have e1 : (pidsL R).take (k + 1) = (pidsL R).take k ++ [p] := by rw [List.take_add_one, HPK.out]; rfl
              rw [e1]
              unfold seens at hown ⊢
              rw [seenD_snoc]
              exact hown
            · intro j hj
              rcases Nat.lt_or_ge j k with h | h
              · exact i4 j h
              · obtain rfl : j = k := by omega
                rintro ⟨q, hq, hb⟩
                rw [HPK.out] at hq
                obtain rfl := Option.some.inj hq
                rcases hb with hb | hb
                · omega
                · exact HS.out hb)
          clear hown hg HM
          go_wp2_with fail
          go_roundw
          case rel => exact ⟨k + 1, by omega, by go_num, HN.out⟩
          case measure => simp [intOf]; omega
    · have hkR : k = R.length := by omega
      subst hkR
      have HI := Lib.hid hI
      have hsz := hI.1.size
      have HF := Lib.hid hI.2.1
      have HOK : Hid (okPs (pidsL R)) := Lib.hid (fun j hb => by
        have hj : j < R.length := by
          obtain ⟨p, h, _⟩ := hb
          have := (List.getElem?_eq_some_iff.1 h).1
          simpa [pidsL] using this
        exact HI.out.2.2.2 j hj hb)
      clear hI
      by_cases h24 : 24 < R.length
      · go_wp2_with (with_reducible refine stop_op (o := ⟨none, .store 38 (.tmp 2) (.tmp 34), _, _, _, _⟩) ?_)
        refine Lib.hid ?_
        refine wpList_store_row (o := ⟨none, _, _, _, _, _⟩) rfl 38 (.tmp 2) (.tmp 34) rfl w.heap.size (frC 0 0 0 nS) rfl rfl 38 (frC 0 0 0 nS) HF.out (infoFR _ _ _ _) rfl (frC_one _ _ _ rfl) ?_
        rw [setRow_self _ _ _ _ _ HF.out]
        go_wp2_with fail
        exact ret_fr HF.out rfl rfl rfl ⟨HI.out.1, .inr ⟨fun h => by omega, rfl⟩⟩
      · have HC := Lib.hid (clone_any wr ao cap R hR (HR.out.keep HI.out.1) hn)
        go_wp2_with fail
        refine HC.out.mono ?_
        rintro e w2 ⟨v, rfl, hb2, hown⟩
        obtain ⟨vo, vc, rfl⟩ := own_slice hown
        have HF2 := Lib.hid (keep_heap HF.out hb2)
        have HB2 := Lib.hid (HI.out.1.trans (hb2.mono hsz))
        have HW := Lib.hid hown
        clear hb2 hown
        go_wp2_with (with_reducible refine stop_op (o := ⟨none, .store 38 (.tmp 2) (.tmp 38), _, _, _, _⟩) ?_)
        refine Lib.hid ?_
        refine wpList_store_row (o := ⟨none, _, _, _, _, _⟩) rfl 38 (.tmp 2) (.tmp 38) rfl w.heap.size (frC 3 0 0 (.slice vo R.length vc)) rfl rfl 38 (frC 0 0 0 nS) HF2.out (infoFR _ _ _ _) rfl (frC_one _ _ _ rfl) ?_
        have HF3 := Lib.hid (setRow_heap _ _ _ (frC 3 0 0 (.slice vo R.length vc)) _ _ HF2.out)
        have HP : Hid (NewP w R (.returned (.tuple #[frV 3 0 0 (.slice vo R.length vc), .int .i64 0])) (w2.setRow w.heap.size (frC 3 0 0 (.slice vo R.length vc)))) := Lib.hid
          ⟨bel_setRow HB2.out HB2.out.size (Nat.le_refl _) _, .inl ⟨HOK.out, by omega, _, rfl, own_lower (own_chg HW.out (chg_setRow _ _ _) (fun k hk e => by
            have := own_base HW.out k hk
            have := HI.out.1.size
            have h2 := heap_lt HF.out
            omega)) hsz⟩⟩
        generalize (w2.setRow w.heap.size (frC 3 0 0 (.slice vo R.length vc))) = W3 at *
        go_wp2_with fail
        exact ret_fr HF3.out rfl rfl rfl HP.out
end Go.Proofs.Ytjepiimggaiejaa
