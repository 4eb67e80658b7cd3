/- stop: the law StopNone, walked, at any arguments that can be read. No further condition. -/
import Derived.Test.YtjepiimggaiejaaPi
import Derived.Test.YtjepiimggaiejaaMi
namespace Go.Proofs.Ytjepiimggaiejaa
open Go.ChangeShapes Go.WideShapes Go.ChangeAt Go.RowKit
set_option linter.unusedVariables false
section
variable {P : Program}
theorem wpList_wanted {w : World} {ops : Array Oper} {rest : List Oper} {o : Oper} {a : Act} {Q : Exit → Act → World → Prop} (hw : Region.wanted o (yielded ops a.tmps) = true) (h : ∀ K : Act → World → Prop, (∀ a w, wpList P ops Q rest a w → K a w) → o.wp P a w K Q) : wpList P ops Q (o :: rest) a w :=
  wpList_step fun K hK => by rw [if_pos hw]; exact h K hK
theorem wpList_append_any {w : World} {ops : Array Oper} {rest : List Oper} {o : Oper} {a : Act} {Q : Exit → Act → World → Prop} (hgd : o.guard = none) (s x : Operand) (t : TypeId)
    (ho : o.op = .call { callee := .builtin .append, args := #[s, x], argTypes := #[t, t] })
    (base : Nat) (e : TypeId) (i : TypeInfo) (z : Value) (size bytes : Nat) (ht : P.underlying t = some (.slice e)) (hi : P.info? e = some i) (hz : i.zero = some z)
    (hsize : i.size = size) (hby : i.bytes = bytes) (hzs : z.cells.size = size) (hsz : 0 < size)
    (v : Value) (n : Nat) (xs : List Value) (hs : a.eval s = v) (hown : w.ownsRow base e size v n xs)
    (ao : Option Addr) (m c : Nat) (news : List Value) (hx : a.eval x = .slice ao m c) (hl : news.length = m * size) (hno : ao = none → m = 0 ∧ c = 0) (hnews : ∀ ad, ao = some ad → ∀ (j : Nat) (u : Value), news[j]? = some u → w.cell? (ad.add j) = some u) (h1 : ∀ u ∈ news, u.oneCell' = true)
    (h63 : n + m ≤ maxLen) (hbytes : (n + m) * bytes ≤ 140737488355328) (hbase : base ≤ w.heap.size)
    (h : ∀ v' w', w'.ownsRow base e size v' (n + m) (xs ++ news) → w.grownBy w' v.ownBlock → wpList P ops Q rest (a.put o.dst v') w') : wpList P ops Q (o :: rest) a w := by
  cases ao with
  | none =>
    obtain ⟨rfl, rfl⟩ := hno rfl
    obtain rfl : news = [] := List.eq_nil_of_length_eq_zero (by omega)
    exact wpList_append_own_none hgd s x t ho base e i size ht hi v n xs hs hown hx (h v w (by simpa using hown) (World.grownBy.refl w _))
  | some ad => exact wpList_append_own2 hgd s x t ho base e i z size bytes ht hi hz hsize hby hzs hsz v n xs hs hown ad m c news hx hl (hnews ad rfl) h1 h63 hbytes hbase (fun v' w' a b _ => h v' w' a b)
end
def Rc.off (r : Rc) : Rc := { r with p := 0 }
def offs (k : Nat) (R : List Rc) : List Rc := (R.take k).map Rc.off ++ R.drop k
theorem offs_len (k : Nat) (R : List Rc) : (offs k R).length = R.length := by simp [offs]; omega
theorem offs_at {k : Nat} {R : List Rc} {r : Rc} (h : R[k]? = some r) : (offs k R)[k]? = some r := by
  have hlt := (List.getElem?_eq_some_iff.1 h).1
  rw [offs, List.getElem?_append_right (by simp; omega)]
  simp [h, Nat.min_eq_left (Nat.le_of_lt hlt)]
theorem offs_succ {k : Nat} {R : List Rc} {r : Rc} (h : R[k]? = some r) : offs (k + 1) R = (offs k R).set k r.off := by
  have hlt := (List.getElem?_eq_some_iff.1 h).1
  have hg : R[k] = r := (List.getElem?_eq_some_iff.1 h).2
  unfold offs
  rw [List.set_append_right _ _ (by simp; omega)]
  rw [List.take_succ_eq_append_getElem hlt, List.map_append, List.append_assoc]
  congr 1
  rw [List.drop_eq_getElem_cons hlt]
  simp [hg, Nat.min_eq_left (Nat.le_of_lt hlt)]
theorem rcs_set : ∀ (R : List Rc) (k : Nat) (r : Rc), R[k]? = some r → (rcs R).set (k * 13 + 12) (.int .i64 0) = rcs (R.set k r.off)
  | [], _, _, h => by simp at h
  | x :: R, 0, r, h => by
    simp at h
    subst h
    simp [rcs, Rc.cells, Rc.off]
  | x :: R, k + 1, r, h => by
    have := rcs_set R k r (by simpa using h)
    simp only [rcs, List.set_cons_succ, List.flatMap_cons] at this ⊢
    rw [List.set_append_right _ _ (by simp [Rc.cells]; omega), ← this]
    congr 2
    simp [Rc.cells]
    omega
theorem offs_all (R : List Rc) : offs R.length R = R.map Rc.off := by simp [offs]
theorem off_pids (R : List Rc) : pidsL (R.map Rc.off) = R.map fun _ => 0 := by simp [pidsL, Rc.off]
theorem off_ok (R : List Rc) : okPs (pidsL (R.map Rc.off)) := by
  intro j ⟨p, h1, h2⟩
  rw [off_pids] at h1
  simp at h1
  obtain ⟨_, _, rfl⟩ := h1
  simp at h2
theorem off_dn (R : List Rc) : ∀ k, dn (pidsL (R.map Rc.off)) k = []
  | 0 => rfl
  | k + 1 => by
    rw [dn, if_neg, off_dn R k]
    rw [off_pids, List.getD_eq_getElem?_getD, List.getElem?_map]
    cases R[k]? <;> simp
theorem infoIN : (Try.prog.info? 50).map (·.size) = some 11 := by kernel_rfl
set_option maxRecDepth 100000 in
set_option maxHeartbeats 4000000 in
theorem none_law (w : World) (ao : Option Addr) (cap f : Nat) (R : List Rc) (v : Value) (now self cl hv : Int) (M : List It) (so : Bool) (got : Tm) (hR : R.length ≤ 9223372036854775807) (hr : RRow w ao R) (hn : ao = none → R = [] ∧ cap = 0) (hI : InV f w v now self M cl so got hv) :
    Calls Try.prog 4 #[.slice ao R.length cap, v] w (IsPost w true) := by
  obtain ⟨i0, z, hi, hz0, hz1, hz2, hz3⟩ := infoRC2
  have hI0 := hI
  obtain ⟨⟨mo, mc, lv, rfl, hml, -, -⟩, -, -⟩ := hI
  have hb0 := (Below.refl w.heap.size w).alloc (Nat.le_refl _) (.cells #[.int .i64 now, .int .i64 self, .slice mo M.length mc, .int .i8 cl, .bool so, .int .i8 got.k, .int .i64 got.n, .string got.s, .string got.u, lv, .int .i64 hv] 50)
  have HB0 := Lib.hid hb0
  have HG := Lib.hid (lgreat_any (w.alloc (.cells #[.int .i64 now, .int .i64 self, .slice mo M.length mc, .int .i8 cl, .bool so, .int .i8 got.k, .int .i64 got.n, .string got.s, .string got.u, lv, .int .i64 hv] 50)) ao R.length cap hR)
  have HGI := Lib.hid (greatin_any f _ _ _ _ _ _ _ _ _ (hI0.keep hb0))
  have HN := Lib.hid hn
  have HR := Lib.hid hr
  clear hn hr hI0 hb0
  by_cases h40 : 40 < R.length
  · rw [decide_eq_true h40] at HG
    clear h40
    go_enter Try.func4, Try.ntmps4
    go_wp2_with fail
    refine HG.out.mono ?_
    rintro e w' ⟨rfl, rfl⟩
    go_wp2_with fail
    refine (wakes_any _).mono ?_
    rintro e w' ⟨rfl, hb⟩
    have HB := Lib.hid hb
    clear hb
    go_wp2_with fail
    go_ret
    exact ⟨rfl, HB0.out.trans (HB.out.mono HB0.out.size)⟩
  · rw [decide_eq_false h40] at HG
    by_cases h24 : 24 < R.length
    · have d24 : decide (24 < (R.length : Int)) = true := by simp; omega
      clear h24 h40
      go_enter Try.func4, Try.ntmps4
      go_wp2_with fail
      refine HG.out.mono ?_
      rintro e w' ⟨rfl, rfl⟩
      go_wp2_with fail
      refine (wakes_any _).mono ?_
      rintro e w' ⟨rfl, hb⟩
      have HB := Lib.hid hb
      clear hb
      go_wp2_with fail
      go_ret
      exact ⟨rfl, HB0.out.trans (HB.out.mono HB0.out.size)⟩
    · have d24 : decide (24 < (R.length : Int)) = false := by simp; omega
      cases hgi : greatIn M got
      · rw [hgi] at HGI
        clear hgi
        go_enter Try.func4, Try.ntmps4
        go_wp2_with fail
        refine HG.out.mono ?_
        rintro e w' ⟨rfl, rfl⟩
        go_wp2_with fail
        refine HGI.out.mono ?_
        rintro e w1 ⟨rfl, hb1⟩
        have HB1 := Lib.hid hb1
        clear hb1
        go_wp2_with (at_builtin; refine stop_here ?_)
        refine Lib.hid ?_
        have hra := (HR.out.keep HB0.out).keep HB1.out
        have hnews : ∀ ad, ao = some ad → ∀ (j : Nat) (u : Value), (rcs R)[j]? = some u → (w1.alloc (.cells #[] 47)).cell? (ad.add j) = some u := by
          intro ad had j u hj
          obtain ⟨r, h1, h2⟩ := rcs_split hj
          obtain ⟨b, off, e, hb, hc⟩ := hra _ r h1
          have h3 := hc _ _ h2
          rw [had] at e
          injection e with e
          subst e
          rw [Addr.add_lit]
          have e2 : off + j / 13 * 13 + j % 13 = off + j := by omega
          rw [e2] at h3
          exact keep_cell h3 ((Below.refl _ _).alloc (Nat.le_refl _) _)
        have hone : ∀ u ∈ rcs R, u.oneCell' = true := by
          intro u hu
          obtain ⟨j, hj⟩ := List.getElem?_of_mem hu
          obtain ⟨r, h1, h2⟩ := rcs_split hj
          exact r.one u (List.mem_of_getElem? h2)
        have hF1 := keep_heap (heap_new w (.cells #[.int .i64 now, .int .i64 self, .slice mo M.length mc, .int .i8 cl, .bool so, .int .i8 got.k, .int .i64 got.n, .string got.s, .string got.u, lv, .int .i64 hv] 50)) HB1.out
        have HF1 := Lib.hid hF1
        have HBA := Lib.hid (HB0.out.trans (HB1.out.mono HB0.out.size))
        have hs1 := heap_lt hF1
        clear hF1 hra
        refine wpList_append_any rfl (.tmp 23) (.tmp 24) 22 rfl w1.heap.size 47 i0 z 13 176 Try.underlying22 hi hz0 hz1 hz2 hz3 (by decide) _ 0 [] rfl (World.ownsRow_lit w1 #[] 0 (Nat.le_refl _) (by unfold maxLen; omega) rfl) ao R.length cap (rcs R) rfl (rcs_len R) (fun e => by obtain ⟨e1, e2⟩ := HN.out e; exact ⟨by rw [e1]; rfl, e2⟩) hnews hone (by unfold maxLen; omega) (by omega) (by simp) ?_
        intro v' W hown hg
        obtain ⟨ro, rc, rfl⟩ := own_slice hown
        rw [List.nil_append, Nat.zero_add] at hown
        have hca : Chg (fun k => w1.heap.size ≤ k) w1 W := (chg_alloc _ w1 (.cells #[] 47)).trans ((chg_grown hg).mono (fun k _ hk => by injection hk with hk; have e : k = w1.heap.size := hk; omega))
        have HBW := Lib.hid (hca.below (Nat.le_refl _) (fun k h => h))
        have HO := Lib.hid hown
        simp only [Nat.zero_add]
        clear hown hg hca hnews hone HN HGI
        go_wp2_with fail
        go_loopw [28] (fun iv wr => ∃ i : Nat, i ≤ R.length ∧ iv = .int .i64 i ∧ Below w1.heap.size w1 wr ∧ Hid (wr.ownsRow w1.heap.size 47 13 (.slice ro R.length rc) R.length (rcs (offs i R))))
          (fun iv _ => R.length - (intOf iv).toNat)
        case atStart => exact ⟨0, by omega, rfl, HBW.out, Lib.hid (by simpa [offs] using HO.out)⟩
        case round =>
          clear HO HBW
          obtain ⟨i, hi', rfl, hbw, HO⟩ := hrel
          have HBW := Lib.hid hbw
          clear hbw
          by_cases hlt : i < R.length
          · obtain ⟨r, hr⟩ : ∃ r, R[i]? = some r := ⟨R[i], by simp [hlt]⟩
            obtain ⟨g, cap', e, -⟩ := own_cells HO.out (by omega)
            injection e with e1 e2 e3
            subst e1 e3
            have hcell : wr.cell? ⟨g, i * 13 + 12, none⟩ = some (.int .i64 r.p) := (HO.out.cellAt (i * 13 + 12) (by omega)).trans (rcs_at _ i 12 r (offs_at hr) (by omega))
            have hfz := HO.out.frozenAt (i * 13 + 12)
            have hst := HO.out.stored (i * 13 + 12) (.int .i64 0)
            have hob := own_base HO.out g rfl
            rw [rcs_set _ i r (offs_at hr), ← offs_succ hr] at hst
            have HST := Lib.hid (And.intro hst.1 (HBW.out.trans ((chg_grown hst.2).below HBW.out.size (fun k hk => by injection hk with hk; omega))))
            clear hst hr
            go_wp2_with fail
            go_roundw
            case rel => exact ⟨i + 1, by omega, by go_num, HST.out.2, Lib.hid HST.out.1⟩
            case measure => simp [intOf]; omega
          · have hil : i = R.length := by omega
            subst hil
            rw [offs_all] at HO
            have hlen : (R.map Rc.off).length = R.length := by simp
            obtain ⟨ro', rc', e, hrr⟩ := row_of (R := R.map Rc.off) (by rw [hlen]; exact HO.out)
            rw [hlen] at e
            injection e with e1 e2 e3
            subst e1 e3
            have hnew := new_any wr ro rc (R.map Rc.off) (by omega) (by
              intro r hr
              obtain ⟨x, _, rfl⟩ := List.mem_map.1 hr
              exact ⟨by simp [Rc.off], by simp [Rc.off]⟩) hrr (fun e => by
              subst e
              have h0 := own_slice HO.out
              rcases Nat.eq_zero_or_pos R.length with h | h
              · exact List.eq_nil_of_length_eq_zero (by omega)
              · obtain ⟨g, cap', e, -⟩ := own_cells HO.out h
                cases e)
            rw [hlen] at hnew
            have HNW := Lib.hid hnew
            have HBR := Lib.hid (HBA.out.trans (HBW.out.mono HBA.out.size))
            have HFR := Lib.hid (keep_heap HF1.out HBW.out)
            clear hnew hrr HO HBW HBA HF1
            go_wp2_with fail
            refine HNW.out.mono ?_
            rintro e w2 ⟨hb2, (⟨-, -, v2, rfl, hown2⟩ | ⟨hbad, -⟩)⟩
            · obtain ⟨ao2, cap2, rfl, hr2⟩ := row_of hown2
              have hao2 : ∀ ad, ao2 = some ad → ad.block < w2.heap.size := by
                rintro ad rfl
                exact own_lt hown2 (Nat.le_refl _) _ rfl
              have HR2 := Lib.hid hr2
              have HA2 := Lib.hid hao2
              have HB2 := Lib.hid (HBR.out.trans (hb2.mono HBR.out.size))
              have HF2 := Lib.hid (keep_heap HFR.out hb2)
              clear hr2 hao2 hb2 hown2 HNW HBR HFR
              go_wp2_with (with_reducible refine stop_op (o := ⟨_, .store 38 (.tmp 7) (.tmp 39), _, _, _, _⟩) ?_)
              refine Lib.hid ?_
              refine wpList_store_new (o := ⟨none, _, _, _, _, _⟩) rfl 38 (.tmp 7) (.tmp 39) rfl (frC 3 0 0 (.slice ao2 R.length cap2)) rfl rfl (infoFR _ _ _ _) rfl (frC_one _ _ _ rfl) ?_
              have hb3 := (Below.refl _ w2).alloc (Nat.le_refl _) (.cells (frC 3 0 0 (.slice ao2 R.length cap2)) 38)
              have hX3 := heap_new w2 (.cells (frC 3 0 0 (.slice ao2 R.length cap2)) 38)
              generalize (w2.alloc (.cells (frC 3 0 0 (.slice ao2 R.length cap2)) 38)) = W3 at *
              have HX3 := Lib.hid hX3
              have HB3 := Lib.hid (HB2.out.trans (hb3.mono HB2.out.size))
              have HF3 := Lib.hid (keep_heap HF2.out hb3)
              have HR3 := Lib.hid (HR2.out.keep hb3)
              have hs3 := hb3.size
              clear hX3 hb3 HB2 HF2 HR2
              go_wp2_with (with_reducible refine stop_op (o := ⟨_, .load 38 (.tmp 7), _, _, _, _⟩) ?_)
              refine Lib.hid ?_
              refine wpList_load_row (o := ⟨_, _, _, _, _, _⟩) rfl 38 (.tmp 7) rfl w2.heap.size rfl 38 (frC 3 0 0 (.slice ao2 R.length cap2)) (0, 0) _ HX3.out Try.underlying38 rfl (infoFR _ _ _ _) ?_
              go_wp2_with (with_reducible refine stop_op (o := ⟨_, .load 50 (.tmp 3), _, _, _, _⟩) ?_)
              refine Lib.hid ?_
              refine wpList_load_row (o := ⟨_, _, _, _, _, _⟩) rfl 50 (.tmp 3) rfl w.heap.size rfl 50 #[.int .i64 now, .int .i64 self, .slice mo M.length mc, .int .i8 cl, .bool so, .int .i8 got.k, .int .i64 got.n, .string got.s, .string got.u, lv, .int .i64 hv] (0, 0) _ HF3.out Try.underlying50 rfl infoIN ?_
              go_wp2_with fail
              have hstep := step_any W3 ao2 cap2 (.int .i64 now) (.int .i64 self) (.slice mo M.length mc) (.int .i8 cl) (.bool so) (.int .i8 got.k) (.int .i64 got.n) (.string got.s) (.string got.u) lv (.int .i64 hv) (R.map Rc.off) (by omega) (by
                intro r hr
                obtain ⟨x, _, rfl⟩ := List.mem_map.1 hr
                exact ⟨by simp [Rc.off], by simp [Rc.off]⟩) HR3.out (fun ad e => by have := HA2.out ad e; omega)
              rw [hlen] at hstep
              refine hstep.mono ?_
              clear hstep
              rintro e W4 ⟨g, ph, n, rfl, hb4, ef, hef, hcase⟩
              obtain ⟨rfl, rfl, rfl⟩ : ph = 0 ∧ n = 0 ∧ ef = efC 11 0 1 ⟨#[111, 107]⟩ := by
                rcases hcase with ⟨h, h1, h2, h3⟩ | ⟨k, t, h, -⟩
                · exact ⟨h1, h2, h3⟩
                · rw [off_dn] at h; cases h
              have HX4 := Lib.hid (keep_heap HX3.out hb4)
              have HB4 := Lib.hid (HB3.out.trans (hb4.mono HB3.out.size))
              have HR4 := Lib.hid (HR3.out.keep hb4)
              have HE := Lib.hid hef
              clear hef hb4 hcase HX3 HB3 HR3 HF3
              go_wp2_with (with_reducible refine stop_op (o := ⟨_, .store 38 (.tmp 9) (.tmp 47), _, _, _, _⟩) ?_)
              refine Lib.hid ?_
              refine wpList_store_new (o := ⟨none, _, _, _, _, _⟩) rfl 38 (.tmp 9) (.tmp 47) rfl (frC 3 0 0 (.slice ao2 R.length cap2)) rfl rfl (infoFR _ _ _ _) rfl (frC_one _ _ _ rfl) ?_
              have hb5 := (Below.refl _ W4).alloc (Nat.le_refl _) (.cells (frC 3 0 0 (.slice ao2 R.length cap2)) 38)
              generalize (W4.alloc (.cells (frC 3 0 0 (.slice ao2 R.length cap2)) 38)) = W5 at *
              have HX5 := Lib.hid (keep_heap HX4.out hb5)
              have HB5 := Lib.hid (HB4.out.trans (hb5.mono HB4.out.size))
              have HR5 := Lib.hid (HR4.out.keep hb5)
              have he5 := keep_heap HE.out hb5
              have f0 : W5.cell? ⟨g, 0, none⟩ = some (.int .i8 11) := (cells_at he5 0 _ rfl).1
              have f3 : W5.cell? ⟨g, 3, none⟩ = some (.int .i8 1) := (cells_at he5 3 _ rfl).1
              have f4 : W5.cell? ⟨g, 4, none⟩ = some zI := (cells_at he5 4 _ rfl).1
              have f5 : W5.cell? ⟨g, 5, none⟩ = some (.string ⟨#[111, 107]⟩) := (cells_at he5 5 _ rfl).1
              have f6 : W5.cell? ⟨g, 6, none⟩ = some zS := (cells_at he5 6 _ rfl).1
              have f7 : W5.cell? ⟨g, 7, none⟩ = some nS := (cells_at he5 7 _ rfl).1
              have hok : TermV 0 W5 (.agg #[.int .i8 1, zI, .string ⟨#[111, 107]⟩, zS, nS]) (.mk 1 0 ⟨#[111, 107]⟩ ⟨#[]⟩ []) := ⟨⟨by decide, by decide, by decide, by decide⟩, nS, rfl, none, 0, rfl, Nat.le_refl _, by decide, by simp [Tm.l]⟩
              have hia := isatom_any 0 _ _ ⟨#[111, 107]⟩ W5 hok
              have ea : isAtomB (.mk 1 0 ⟨#[111, 107]⟩ ⟨#[]⟩ []) ⟨#[111, 107]⟩ = true := by simp [isAtomB, Tm.k, Tm.s]
              rw [ea] at hia
              have HIA := Lib.hid hia
              clear hb5 he5 hok hia ea HX4 HB4 HR4 HE
              go_wp2_with fail
              refine HIA.out.mono ?_
              rintro e W6 ⟨rfl, hb6⟩
              have HX6 := Lib.hid (keep_heap HX5.out hb6)
              have HB6 := Lib.hid (HB5.out.trans (hb6.mono HB5.out.size))
              have hleft := left_any W6 ao2 cap2 (R.map Rc.off) (by omega) (by
                intro r hr
                obtain ⟨x, _, rfl⟩ := List.mem_map.1 hr
                exact ⟨by simp [Rc.off], by simp [Rc.off]⟩) (HR5.out.keep hb6)
              rw [hlen] at hleft
              have HLF := Lib.hid hleft
              clear hleft hb6 HX5 HB5 HR5 HIA f0 f3 f4 f5 f6 f7
              go_wp2_with (with_reducible refine stop_op (o := ⟨_, .load 38 (.tmp 7), _, _, _, _⟩) ?_)
              refine Lib.hid ?_
              refine wpList_wanted rfl fun K hK => wp_load_row 38 (.tmp 7) rfl w2.heap.size rfl 38 (frC 3 0 0 (.slice ao2 R.length cap2)) (0, 0) _ HX6.out Try.underlying38 rfl (infoFR _ _ _ _) (hK _ _ ?_)
              clear hK K
              go_wp2_with fail
              refine HLF.out.mono ?_
              rintro e W7 ⟨v7, rfl, hb7, hown7⟩
              rw [off_dn] at hown7
              obtain ⟨lo, lc, rfl⟩ := own_slice hown7
              have HB7 := Lib.hid (HB6.out.trans (hb7.mono HB6.out.size))
              clear hb7 hown7 HLF
              go_wp2_with fail
              refine (wakes_any _).mono ?_
              rintro e w' ⟨rfl, hb⟩
              have HB8 := Lib.hid (HB7.out.trans (hb.mono HB7.out.size))
              clear hb
              go_wp2_with fail
              go_ret
              exact ⟨rfl, HB8.out⟩
            · exact absurd ⟨off_ok R, by omega⟩ hbad
      · rw [hgi] at HGI
        clear hgi
        go_enter Try.func4, Try.ntmps4
        go_wp2_with fail
        refine HG.out.mono ?_
        rintro e w' ⟨rfl, rfl⟩
        go_wp2_with fail
        refine HGI.out.mono ?_
        rintro e w1 ⟨rfl, hb1⟩
        have HB1 := Lib.hid hb1
        clear hb1
        go_wp2_with fail
        refine (wakes_any _).mono ?_
        rintro e w' ⟨rfl, hb⟩
        have HB := Lib.hid hb
        clear hb
        go_wp2_with fail
        go_ret
        exact ⟨rfl, (HB0.out.trans (HB1.out.mono HB0.out.size)).trans (HB.out.mono (Nat.le_trans HB0.out.size HB1.out.size))⟩
end Go.Proofs.Ytjepiimggaiejaa
