/- proc.Cut. Conditions: the process reads; its rows are not too long. -/
import Derived.Test.YtemgnljegbaobaaGreatDoorOj
namespace Go.Proofs.YtemgnljegbaobaaGreatDoor
open Go.ChangeShapes Go.WideShapes Go.ChangeAt Go.RowKit Go.Sort
set_option linter.unusedVariables false
set_option linter.unusedSimpArgs false
set_option maxRecDepth 100000
theorem cutf_eq (w : World) (b : Nat) (x k : Int) (h : w.cell? ⟨b, 0, none⟩ = some (.int .i64 k)) : Calls Tryz.prog 40 #[.int .i64 x, .pointer (some ⟨b, 0, none⟩)] w (fun e w' => e = .returned (.bool (x == k)) ∧ ∃ q, w' = w.drewN q) := by
  go_enter Tryz.func40, Tryz.ntmps40
  go_wp2_with fail
  go_ret
  exact ⟨rfl, 0, rfl⟩
theorem putRow_heap {enc : Int → Value} {w : World} {g q : Nat} {cur : Array Value} {e : TypeId} {fr : Nat × Nat} {d : Array Int} (h : w.heap[g]? = some (.cells cur e fr)) : (putRow enc (Go.Sort.ahead w q) g 0 d).heap[g]? = some (.cells (putCells enc 0 d cur) e fr) := by
  simp [putRow, mapBlock, Array.getElem?_modify, h, onCells]
theorem putRow_chg {enc : Int → Value} {w : World} {g q : Nat} {d : Array Int} : Chg (fun j => j = g) w (putRow enc (Go.Sort.ahead w q) g 0 d) := by
  refine ⟨rfl, rfl, rfl, by simp, fun k hk hs => ?_⟩
  have : ¬ g = k := fun e => hs e.symm
  simp [putRow, mapBlock, Array.getElem?_modify, this]
theorem putCells_take {l : List Int} {r : List Int} {cur : Array Value} (h : l.length + r.length ≤ cur.size) : (putCells (Value.int .i64) 0 (l ++ r).toArray cur).toList.take l.length = iv l := by
  apply List.ext_getElem?
  intro j
  rw [List.getElem?_take]
  split
  · rename_i hj
    have h1 : j < cur.size := by omega
    simp only [putCells, Array.getElem?_toList, Array.getElem?_mapIdx, Array.getElem?_eq_getElem h1, Option.map_some]
    rw [if_pos ⟨Nat.zero_le _, by simp; omega⟩]
    have h2 : ((l ++ r).toArray)[j - 0]! = l[j] := by
      rw [getElem!_pos _ _ (by simp; omega)]
      simp [hj]
    rw [h2, iv_at (List.getElem?_eq_getElem hj)]
  · rename_i hj
    rw [List.getElem?_eq_none (by rw [iv_len]; omega)]
theorem delnone_any (k : Int) (b : Nat) (w : World) : Calls Tryz.prog 39 #[.slice none 0 0, .func (.func 40) #[] #[.pointer (some ⟨b, 0, none⟩)]] w fun e w' => e = .returned (.slice none 0 0) ∧ Below w.heap.size w w' := by
  have HI := Lib.hid (indexI_any w (.slice none 0 0) [] 40 #[.pointer (some ⟨b, 0, none⟩)] (fun x => x == k) (enters_of Tryz.func40 (by kernel_rfl) rfl) (Rw.nil w 1) (by simp) (fun x hx => by cases hx))
  go_enter Tryz.func39, Tryz.ntmps39
  go_wp2_with fail
  refine HI.out.mono ?_
  rintro e w2 ⟨rfl, hb2⟩
  have HB := Lib.hid hb2
  clear hb2
  rw [show idxOf (fun x : Int => x == k) [] = -1 from rfl]
  go_wp2_with fail
  go_ret
  exact ⟨rfl, HB.out⟩
theorem deletei_any (w : World) (B : Nat) (v : Value) (ps : List Int) (k : Int) (b : Nat) (ho : w.ownsRow B 3 1 v ps.length (iv ps)) (hn : ps.length ≤ 1000) (h : w.cell? ⟨b, 0, none⟩ = some (.int .i64 k)) (hne : ∀ g, v.ownBlock = some g → g ≠ b) :
    Calls Tryz.prog 39 #[v, .func (.func 40) #[] #[.pointer (some ⟨b, 0, none⟩)]] w fun e w' => ∃ v', e = .returned v' ∧ w'.ownsRow B 3 1 v' (ps.filter fun x => !(x == k)).length (iv (ps.filter fun x => !(x == k))) ∧ v'.ownBlock = v.ownBlock ∧ Chg (fun j => v.ownBlock = some j) w w' := by
  obtain ⟨h1, ⟨rfl, h0⟩ | ⟨g, cap, cur, rfl, hg, hh, h3, h4, h5, h6⟩⟩ := ho
  · have hp : ps = [] := List.eq_nil_of_length_eq_zero (by omega)
    subst hp
    refine (delnone_any k b w).mono ?_
    rintro e w' ⟨rfl, hb⟩
    exact ⟨_, rfl, ⟨rfl, .inl ⟨rfl, rfl⟩⟩, rfl, chg_of_below hb _⟩
  · have hgb : g ≠ b := hne g rfl
    have hgl := heap_lt hh
    have hbl : b < w.heap.size := World.block_lt_of_cell? w _ h
    have hat : ∀ j, j < ps.length → cur[j]? = some (.int .i64 ps.toArray[j]!) := fun j hj => by
      have e1 : (iv ps)[j]? = some (.int .i64 ps[j]) := iv_at (List.getElem?_eq_getElem hj)
      rw [← h6, List.getElem?_take, if_pos (by omega)] at e1
      rw [getElem!_pos _ _ (by simpa using hj)]
      simpa using e1
    have hH : Holds (Value.int .i64) w g 0 ps.toArray := fun j hj => by
      rw [Nat.zero_add]
      exact cells_at hh j _ (hat j (by simpa using hj))
    refine (AnyE.slices_DeleteFunc Tryz.deleteInt (Value.int .i64) (fun _ => rfl) (fun x => x == k) 40 #[.pointer (some ⟨b, 0, none⟩)] (enters_of Tryz.func40 (by kernel_rfl) rfl) 0 (fun w => Tryz.zeroValue3 w) g 0 cap ps.toArray w ?_ ?_ hH (by simp; omega) (by simpa using h3)).mono ?_
    · intro W x hb
      exact cutf_eq W b x k (keep_cell h hb)
    · intro n os dk x hdk
      refine cutf_eq _ b x k ?_
      rw [show sortWorld (Value.int .i64) w g 0 n dk os = grow (putRow (Value.int .i64) (Go.Sort.ahead w n) g 0 dk) os from rfl, cell?_grow _ _ _ (by simpa using hbl), cell?_putRow_other _ _ _ _ _ _ (.inl (fun e => hgb e.symm))]
      exact h
    · rintro e w' ⟨rfl, q, rfl⟩
      have hfl : (ps.filter fun x => !(x == k)).length ≤ ps.length := List.length_filter_le _ _
      have hd : (ps.toArray.toList.filter fun x => !(x == k)) = ps.filter fun x => !(x == k) := by simp
      rw [hd]
      refine ⟨_, rfl, ⟨by rw [iv_len]; omega, .inr ⟨g, cap, _, rfl, hg, putRow_heap hh, by omega, h4, by simp [putCells, h5], ?_⟩⟩, rfl, ?_⟩
      · rw [Nat.mul_one]
        exact putCells_take (by simp; omega)
      · exact putRow_chg.mono fun j _ e => by rw [e]; rfl
/-- a process comes back without a link -/
def CutP (w : World) (p : Pv) (D : Pd) (k : Int) (e : Ending) (w' : World) : Prop :=
  ∃ q D', e = .returned (.agg q.cells) ∧ SamePv p q ∧ PrR w D w' q D' ∧ D'.nm = D.nm ∧ D'.xm = D.xm ∧ D'.lk = D.lk.filter (fun x => !(x == k)) ∧ D'.ws = D.ws
set_option maxHeartbeats 16000000 in
theorem cut_any (w : World) (p : Pv) (D : Pd) (k : Int) (h : PrX w p D.X) (hD : D.ok) : Calls Tryz.prog 11 #[.agg p.cells, .int .i64 k] w (CutP w p D k) := by
  obtain ⟨pid, par, sv, mv, name, trap, wait, lv, wv0⟩ := p
  have HP := Lib.hid h
  obtain ⟨h2, h3, h7, h8⟩ := h
  simp only [Pd.X] at h2 h3 h7 h8
  obtain ⟨so, sc, rfl, -, -⟩ := h2.row.slice
  obtain ⟨mo, mc, rfl, -, -⟩ := h3.slice
  obtain ⟨lo, lc, rfl, -, -⟩ := h7.slice
  obtain ⟨wo, wc, rfl, -, -⟩ := h8.slice
  clear h2 h3 h7 h8
  have hb1 := (((Below.refl w.heap.size w).alloc (Nat.le_refl _) (.cells #[.int .i64 pid, .int .i64 par, .slice so D.L.length sc, .slice mo D.nm mc, .string name, .bool trap, .bool wait, .slice lo D.lk.length lc, .slice wo D.ws.length wc] 27)).alloc (by simp) (.cells #[.int .i64 k] 3)).alloc (by simp; omega) (.cells zeroP 27)
  have n1 := heap_old (heap_old (heap_new w (.cells #[.int .i64 pid, .int .i64 par, .slice so D.L.length sc, .slice mo D.nm mc, .string name, .bool trap, .bool wait, .slice lo D.lk.length lc, .slice wo D.ws.length wc] 27)) (.cells #[.int .i64 k] 3)) (.cells zeroP 27)
  have n2 := heap_old (heap_new (w.alloc (.cells #[.int .i64 pid, .int .i64 par, .slice so D.L.length sc, .slice mo D.nm mc, .string name, .bool trap, .bool wait, .slice lo D.lk.length lc, .slice wo D.ws.length wc] 27)) (.cells #[.int .i64 k] 3)) (.cells zeroP 27)
  have n3 := heap_new ((w.alloc (.cells #[.int .i64 pid, .int .i64 par, .slice so D.L.length sc, .slice mo D.nm mc, .string name, .bool trap, .bool wait, .slice lo D.lk.length lc, .slice wo D.ws.length wc] 27)).alloc (.cells #[.int .i64 k] 3)) (.cells zeroP 27)
  have hs1 : (((w.alloc (.cells #[.int .i64 pid, .int .i64 par, .slice so D.L.length sc, .slice mo D.nm mc, .string name, .bool trap, .bool wait, .slice lo D.lk.length lc, .slice wo D.ws.length wc] 27)).alloc (.cells #[.int .i64 k] 3)).alloc (.cells zeroP 27)).heap.size = w.heap.size + 3 := by simp
  rw [World.size_alloc, World.size_alloc] at n3
  rw [World.size_alloc] at n2
  have HB1 := Lib.hid (And.intro hb1 (And.intro n1 (And.intro n2 (And.intro n3 hs1))))
  clear hb1 n1 n2 n3 hs1
  go_enter Tryz.func11, Tryz.ntmps11
  go_wp2_with (with_reducible refine stop_op (o := ⟨_, .load 27 (.tmp 2), _, _, _, _⟩) ?_)
  generalize ((w.alloc (.cells #[.int .i64 pid, .int .i64 par, .slice so D.L.length sc, .slice mo D.nm mc, .string name, .bool trap, .bool wait, .slice lo D.lk.length lc, .slice wo D.ws.length wc] 27)).alloc (.cells #[.int .i64 k] 3)).alloc (.cells zeroP 27) = w1 at *
  refine Lib.hid ?_
  refine wpList_load_row (o := ⟨_, _, _, _, _, _⟩) rfl 27 (.tmp 2) rfl w.heap.size rfl 27 #[.int .i64 pid, .int .i64 par, .slice so D.L.length sc, .slice mo D.nm mc, .string name, .bool trap, .bool wait, .slice lo D.lk.length lc, .slice wo D.ws.length wc] (0, 0) _ HB1.out.2.1 Tryz.underlying27 rfl (infoPT rfl) ?_
  go_wp2_with fail
  refine (copy_any _ ⟨pid, par, .slice so D.L.length sc, .slice mo D.nm mc, name, trap, wait, .slice lo D.lk.length lc, .slice wo D.ws.length wc⟩ D.X (HP.out.keep HB1.out.1) hD.px).mono ?_
  rintro e w4 hcp
  obtain ⟨q, L', rfl, hsm, hpr, B, hB1, hB2, om, ol, ow, hB3⟩ := hcp.pr (HP.out.keep HB1.out.1)
  obtain ⟨qpid, qpar, qsv, qmv, qname, qtrap, qwait, qlv, qwv⟩ := q
  have HC := Lib.hid hpr
  have HSM := Lib.hid hsm
  have HO := Lib.hid (And.intro hB1 (And.intro hB2 (And.intro om (And.intro ol (And.intro ow hB3)))))
  obtain ⟨qso, qsc, e1, -, -⟩ := hpr.pr.st.row.slice
  obtain ⟨qmo, qmc, e2, -, -⟩ := hpr.pr.ml.slice
  obtain ⟨qlo, qlc, e3, -, -⟩ := hpr.pr.lk.slice
  obtain ⟨qwo, qwc, e4, -, -⟩ := hpr.pr.wt.slice
  simp only [Pd.X] at e1 e2 e3 e4
  subst e1 e2 e3 e4
  have HB4 := Lib.hid (And.intro (keep_heap HB1.out.2.2.1 hpr.hb) (keep_heap HB1.out.2.2.2.1 hpr.hb))
  clear hcp hsm hpr hB1 hB2 om ol ow hB3
  go_wp2_with (with_reducible refine stop_op (o := ⟨_, .store 27 (.tmp 5) (.tmp 7), _, _, _, _⟩) ?_)
  refine Lib.hid ?_
  refine wpList_store_new (o := ⟨none, _, _, _, _, _⟩) rfl 27 (.tmp 5) (.tmp 7) rfl #[.int .i64 qpid, .int .i64 qpar, .slice qso L'.length qsc, .slice qmo D.nm qmc, .string qname, .bool qtrap, .bool qwait, .slice qlo D.lk.length qlc, .slice qwo D.ws.length qwc] rfl rfl (infoPT rfl) rfl (Pv.one HC.out.pr) ?_
  have hb5 := (Below.refl w4.heap.size w4).alloc (Nat.le_refl _) (.cells #[.int .i64 qpid, .int .i64 qpar, .slice qso L'.length qsc, .slice qmo D.nm qmc, .string qname, .bool qtrap, .bool qwait, .slice qlo D.lk.length qlc, .slice qwo D.ws.length qwc] 27)
  have hx5 := heap_new w4 (.cells #[.int .i64 qpid, .int .i64 qpar, .slice qso L'.length qsc, .slice qmo D.nm qmc, .string qname, .bool qtrap, .bool qwait, .slice qlo D.lk.length qlc, .slice qwo D.ws.length qwc] 27)
  have H5 := Lib.hid (And.intro hb5 (And.intro hx5 (And.intro (keep_heap HB4.out.1 hb5) (keep_heap HB4.out.2 hb5))))
  have HC5 := Lib.hid (HC.out.pr.keep hb5)
  have HO5 := Lib.hid (And.intro (own_keep HO.out.2.2.1 hb5) (And.intro (own_keep HO.out.2.2.2.1 hb5) (own_keep HO.out.2.2.2.2.1 hb5)))
  obtain ⟨c7, -⟩ := cells_at hx5 7 _ rfl
  clear hb5 hx5 HB4
  generalize w4.alloc (.cells #[.int .i64 qpid, .int .i64 qpar, .slice qso L'.length qsc, .slice qmo D.nm qmc, .string qname, .bool qtrap, .bool qwait, .slice qlo D.lk.length qlc, .slice qwo D.ws.length qwc] 27) = w5 at *
  go_wp2_with fail
  have hsz := HC.out.hb.size
  refine (deletei_any w5 B (.slice qlo D.lk.length qlc) D.lk k (w.heap.size + 1) HO5.out.2.1 hD.hl (cells_at H5.out.2.2.1 0 _ rfl).1 (fun g hg => by have h1 := own_base HO5.out.2.1 g hg; have h2 := HO.out.1; have h3 := HB1.out.2.2.2.2; omega)).mono ?_
  rintro e w6 ⟨v7, rfl, o7, ob7, hc6⟩
  obtain ⟨a7, k7, rfl⟩ := own_slice o7
  have hlb : ∀ g, (Value.slice qlo D.lk.length qlc).ownBlock = some g → B ≤ g ∧ g < w4.heap.size := fun g hg => ⟨own_base HO.out.2.2.2.1 g hg, own_lt HO.out.2.2.2.1 (Nat.le_refl _) g hg⟩
  have hpr6 : PrX w6 ⟨qpid, qpar, .slice qso L'.length qsc, .slice qmo D.nm qmc, qname, qtrap, qwait, .slice a7 (D.lk.filter fun x => !(x == k)).length k7, .slice qwo D.ws.length qwc⟩ (Pd.X ⟨L', D.nm, D.xm, D.lk.filter fun x => !(x == k), D.ws⟩) := by
    refine ⟨HC5.out.st.chg hc6 (fun g hg e => (HO.out.2.2.2.2.2 g (hlb g e).1).1 hg) (fun g e f hf => (HO.out.2.2.2.2.2 g (hlb g e).1).2 f hf), ?_, ?_, ?_⟩
    · exact HC5.out.ml.chg hc6 (fun g hg e => (own_apart HO5.out.1 HO5.out.2.1 (by decide) hg e).elim)
    · exact Rw_own o7 (iv_one _)
    · exact HC5.out.wt.chg hc6 (fun g hg e => (own_apart HO5.out.2.2 HO5.out.2.1 (by decide) hg e).elim)
  have hb6 : Below w1.heap.size w1 w6 := ((HC.out.hb.trans (H5.out.1.mono hsz))).trans (hc6.below (Nat.le_trans hsz H5.out.1.size) fun g hg => Nat.le_trans HO.out.1 (hlb g hg).1)
  have hx6 : w6.heap[w4.heap.size]? = some (.cells #[.int .i64 qpid, .int .i64 qpar, .slice qso L'.length qsc, .slice qmo D.nm qmc, .string qname, .bool qtrap, .bool qwait, .slice qlo D.lk.length qlc, .slice qwo D.ws.length qwc] 27 (0, 0)) := hc6.heap H5.out.2.1 (fun e => by have := (hlb _ e).2; omega)
  have hz6 : w6.heap[w.heap.size + 1 + 1]? = some (.cells zeroP 27 (0, 0)) := hc6.heap H5.out.2.2.2 (fun e => by have h1 := (hlb _ e).1; have h2 := HO.out.1; have h3 := HB1.out.2.2.2.2; omega)
  have hpn : PrN w4.heap.size ⟨qpid, qpar, .slice qso L'.length qsc, .slice qmo D.nm qmc, qname, qtrap, qwait, .slice a7 (D.lk.filter fun x => !(x == k)).length k7, .slice qwo D.ws.length qwc⟩ L' := by
    obtain ⟨n1, n2, n3, n4, n5⟩ := HC.out.pr.old (Nat.le_refl w4.heap.size)
    exact ⟨n1, n2, fun e => by have := (hlb _ (ob7.symm.trans e)).2; omega, n4, n5⟩
  have hap : ∀ j, j < w1.heap.size → (∀ f ∈ D.L, FrN j f.cs) → PrN j ⟨qpid, qpar, .slice qso L'.length qsc, .slice qmo D.nm qmc, qname, qtrap, qwait, .slice a7 (D.lk.filter fun x => !(x == k)).length k7, .slice qwo D.ws.length qwc⟩ L' := fun j hj hf => by
    obtain ⟨n1, n2, n3, n4, n5⟩ := HC.out.ap j hj hf
    exact ⟨n1, n2, fun e => by have h1 := (hlb _ (ob7.symm.trans e)).1; have h2 := HO.out.1; omega, n4, n5⟩
  have H6 := Lib.hid (And.intro hpr6 (And.intro hb6 (And.intro hx6 (And.intro hz6 (And.intro hpn hap)))))
  obtain ⟨z7, z7f⟩ := cells_at hx6 7 _ rfl
  have hlx := heap_lt hx6
  clear o7 ob7 hc6 hlb hpr6 hb6 hx6 hz6 hpn hap c7 H5 HC5 HO5
  go_wp2_with (with_reducible refine stop_op (o := ⟨_, .load 27 (.tmp 5), _, _, _, _⟩) ?_)
  have hc7 := chg_set (w := w6) (p := ⟨w4.heap.size, 7, none⟩) (.slice a7 (D.lk.filter fun x => !(x == k)).length k7)
  have hx7 : (w6.setCell ⟨w4.heap.size, 7, none⟩ (.slice a7 (D.lk.filter fun x => !(x == k)).length k7)).heap[w4.heap.size]? = some (.cells #[.int .i64 qpid, .int .i64 qpar, .slice qso L'.length qsc, .slice qmo D.nm qmc, .string qname, .bool qtrap, .bool qwait, .slice a7 (D.lk.filter fun x => !(x == k)).length k7, .slice qwo D.ws.length qwc] 27 (0, 0)) := set_at H6.out.2.2.1 _
  have hz7 := hc7.heap H6.out.2.2.2.1 (fun e => by have e : w.heap.size + 1 + 1 = w4.heap.size := e; have h3 := HB1.out.2.2.2.2; omega)
  have hR7 : PrR w1 D (w6.setCell ⟨w4.heap.size, 7, none⟩ (.slice a7 (D.lk.filter fun x => !(x == k)).length k7)) ⟨qpid, qpar, .slice qso L'.length qsc, .slice qmo D.nm qmc, qname, qtrap, qwait, .slice a7 (D.lk.filter fun x => !(x == k)).length k7, .slice qwo D.ws.length qwc⟩ ⟨L', D.nm, D.xm, D.lk.filter fun x => !(x == k), D.ws⟩ :=
    ⟨H6.out.2.1.trans (hc7.below H6.out.2.1.size (fun j e => by have e : j = w4.heap.size := e; omega)), HC.out.cp, H6.out.1.chg hc7 (fun j e => by have e : j = w4.heap.size := e; rw [e]; exact H6.out.2.2.2.2.1), H6.out.2.2.2.2.2⟩
  have H7 := Lib.hid (And.intro hR7 (And.intro hx7 hz7))
  clear hc7 hx7 hz7 hR7 H6 z7 z7f hlx
  generalize w6.setCell ⟨w4.heap.size, 7, none⟩ (.slice a7 (D.lk.filter fun x => !(x == k)).length k7) = w7 at *
  refine Lib.hid ?_
  refine wpList_load_row (o := ⟨_, _, _, _, _, _⟩) rfl 27 (.tmp 5) rfl w4.heap.size rfl 27 #[.int .i64 qpid, .int .i64 qpar, .slice qso L'.length qsc, .slice qmo D.nm qmc, .string qname, .bool qtrap, .bool qwait, .slice a7 (D.lk.filter fun x => !(x == k)).length k7, .slice qwo D.ws.length qwc] (0, 0) _ H7.out.2.1 Tryz.underlying27 rfl (infoPT rfl) ?_
  go_wp2_with (with_reducible refine stop_op (o := ⟨_, .store 27 (.tmp 4) (.tmp 13), _, _, _, _⟩) ?_)
  refine Lib.hid ?_
  refine wpList_store_row (o := ⟨none, _, _, _, _, _⟩) rfl 27 (.tmp 4) (.tmp 13) rfl (w.heap.size + 1 + 1) #[.int .i64 qpid, .int .i64 qpar, .slice qso L'.length qsc, .slice qmo D.nm qmc, .string qname, .bool qtrap, .bool qwait, .slice a7 (D.lk.filter fun x => !(x == k)).length k7, .slice qwo D.ws.length qwc] rfl rfl 27 zeroP H7.out.2.2 (infoPT rfl) rfl (by simp [Value.oneCell']) ?_
  have hR := H7.out.1.turn HP.out HB1.out.1 ((chg_setRow w7 (w.heap.size + 1 + 1) #[.int .i64 qpid, .int .i64 qpar, .slice qso L'.length qsc, .slice qmo D.nm qmc, .string qname, .bool qtrap, .bool qwait, .slice a7 (D.lk.filter fun x => !(x == k)).length k7, .slice qwo D.ws.length qwc]).mono (fun j _ e => by have e : j = w.heap.size + 1 + 1 := e; have := HB1.out.2.2.2.2; omega))
  have HF := Lib.hid (And.intro (setRow_heap w7 (w.heap.size + 1 + 1) zeroP #[.int .i64 qpid, .int .i64 qpar, .slice qso L'.length qsc, .slice qmo D.nm qmc, .string qname, .bool qtrap, .bool qwait, .slice a7 (D.lk.filter fun x => !(x == k)).length k7, .slice qwo D.ws.length qwc] 27 (0, 0) H7.out.2.2) hR)
  clear hR H7
  generalize w7.setRow (w.heap.size + 1 + 1) #[.int .i64 qpid, .int .i64 qpar, .slice qso L'.length qsc, .slice qmo D.nm qmc, .string qname, .bool qtrap, .bool qwait, .slice a7 (D.lk.filter fun x => !(x == k)).length k7, .slice qwo D.ws.length qwc] = wz at *
  go_wp2_with fail
  refine ret_cell HF.out.1 rfl Tryz.underlying27 rfl (infoPT rfl) rfl ?_
  exact ⟨⟨qpid, qpar, .slice qso L'.length qsc, .slice qmo D.nm qmc, qname, qtrap, qwait, .slice a7 (D.lk.filter fun x => !(x == k)).length k7, .slice qwo D.ws.length qwc⟩, _, rfl, HSM.out, HF.out.2, rfl, rfl, rfl, rfl⟩
end Go.Proofs.YtemgnljegbaobaaGreatDoor
