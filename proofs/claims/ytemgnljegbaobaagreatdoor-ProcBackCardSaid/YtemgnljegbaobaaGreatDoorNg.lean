/- slices.Insert of one thing into a row of the caller's own, at int and at api.Watch. Conditions: the row is owned, at most 1000 things; the thing lies in a block of its own. -/
import Derived.Test.YtemgnljegbaobaaGreatDoorNf
import Derived.Lib.AppendZerosOnto
import Derived.Lib.Overlaps
import Derived.Laws.CopyRow
import Derived.Laws.CopyOwn
import Derived.Laws.Externs
namespace Go.Proofs.YtemgnljegbaobaaGreatDoor
open Go.ChangeShapes Go.WideShapes Go.ChangeAt Go.RowKit
set_option linter.unusedVariables false
set_option linter.unusedSimpArgs false
set_option maxRecDepth 100000
section
variable {P : Program}
theorem run_copy_rowK (w : World) (dT sT ty elem : TypeId) (size : Nat) (g o dLen dCap : Nat) (a : Addr) (sLen sCap : Nat) (cur : Array Value) (t : TypeId) (cs : List Value) (m : Nat)
    (hu : P.underlying dT = some (.slice elem)) (hs : (P.info? elem).map (·.size) = some size)
    (hg : w.heap[g]? = some (.cells cur t (0, 0))) (hm : Nat.min sLen dLen = m) (hn : cs.length = m * size)
    (hsrc : ∀ (j : Nat) (v : Value), cs[j]? = some v → w.cell? (a.add j) = some v) (hfit : o + cs.length ≤ cur.size) (h1 : ∀ v ∈ cs, v.oneCell' = true) :
    (Builtin.copy_ #[dT, sT] ty #[.slice (some ⟨g, o, none⟩) dLen dCap, .slice (some a) sLen sCap]).run P w =
      .ok (goInt m) (w.setRow g (cur.toList.take o ++ cs ++ cur.toList.drop (o + cs.length)).toArray) := by
  subst hm
  have hl := run_loadCells_list (P := P) w a cs hsrc
  have hst := run_storeCells_at P g o t cs 0 cur w hg (by simpa using hfit) h1
  cases hq : P.info? elem with
  | none => simp [hq] at hs
  | some i =>
    have hi : i.size = size := by simpa [hq] using hs
    simp [Builtin.copy_, run_underlying hu, Builtin.lenOf, Builtin.firstCells, sizeOf, typeInfo, hq, hi, ← hn, hl, hst]
theorem op_copy_rowK {o : Oper} {a : Act} {w : World} {K : Act → World → Prop} {Q : Exit → Act → World → Prop} (d s : Operand) (dT sT : TypeId)
    (ho : o.op = .call { callee := .builtin .copy, args := #[d, s], argTypes := #[dT, sT] }) (elem : TypeId) (size : Nat) (g off dLen dCap : Nat) (ad : Addr) (sLen sCap : Nat) (cur : Array Value) (t : TypeId) (cs : List Value) (m : Nat)
    (hd : a.eval d = .slice (some ⟨g, off, none⟩) dLen dCap) (hs : a.eval s = .slice (some ad) sLen sCap)
    (hu : P.underlying dT = some (.slice elem)) (hsz : (P.info? elem).map (·.size) = some size)
    (hg : w.heap[g]? = some (.cells cur t (0, 0))) (hm : Nat.min sLen dLen = m) (hn : cs.length = m * size)
    (hsrc : ∀ (j : Nat) (v : Value), cs[j]? = some v → w.cell? (ad.add j) = some v) (hfit : off + cs.length ≤ cur.size) (h1 : ∀ v ∈ cs, v.oneCell' = true)
    (h : K (a.put o.dst (goInt m)) (w.setRow g (splice cur.toList off cs).toArray)) : o.wp P a w K Q := by
  have hrun := run_copy_rowK (P := P) w dT sT o.type elem size g off dLen dCap ad sLen sCap cur t cs m hu hsz hg hm hn hsrc hfit h1
  unfold splice at h
  rw [← List.append_assoc] at h
  unfold Oper.wp execOp
  simp only [ho, resolve, invoke, builtin, Sem.run_bind, Sem.run_pure, Result.andThen_ok, List.map_toArray, List.map_cons, List.map_nil, hd, hs, hrun]
  exact h
theorem op_append_zeros {o : Oper} {a : Act} {w : World} {K : Act → World → Prop} {Q : Exit → Act → World → Prop} (s x : Operand) (t tn : TypeId)
    (ho : o.op = .call { callee := .builtin .append, args := #[s, x], argTypes := #[t, tn] }) {v' : Value} {w' : World} (v u : Value) (hd : a.eval s = v) (hs : a.eval x = u)
    (hr : (Builtin.append_ #[t, tn] o.type #[v, u]).run P w = .ok v' w') (h : K (a.put o.dst v') w') : o.wp P a w K Q := by
  unfold Oper.wp execOp
  simp only [ho, resolve, invoke, builtin, Sem.run_bind, Sem.run_pure, Result.andThen_ok, List.map_toArray, List.map_cons, List.map_nil, hd, hs, hr]
  exact h
end
/-- 'append(s[:i], make(S, k)...)' where there is no room -/
theorem grow_zeros {P : Program} {w : World} (t tn ty e : TypeId) (i0 : TypeInfo) (z0 : Value) (size : Nat) (kq kn : IntKind) (ht : P.underlying t = some (.slice e)) (htn : P.underlying tn = some (.int kn)) (hi : P.info? e = some i0) (hz : i0.zero = some z0) (hsz : i0.size = size) (hby : i0.bytes ≤ 1000) (hzs : z0.cells.size = size) (hs0 : 0 < size)
    (g m c k : Nat) (xs : List Value) (hl : xs.length = m * size) (hx : ∀ (j : Nat) (u : Value), xs[j]? = some u → w.cell? ⟨g, j, none⟩ = some u) (h0 : 0 < k) (hg : c < m + k) (hm : m + k ≤ 100000) :
    ∃ cap Z W, (Builtin.append_ #[t, tn] ty #[.slice (some ⟨g, 0, none⟩) m c, .int kq k]).run P w = .ok (.slice (some ⟨w.heap.size, 0, none⟩) (m + k) cap) W ∧
      W.heap[w.heap.size]? = some (.cells (xs ++ Z).toArray e (0, 0)) ∧ Below w.heap.size w W ∧ m + k ≤ cap ∧ cap ≤ maxLen ∧ (xs ++ Z).length = cap * size := by
  subst hsz
  have hd := (Below.refl w.heap.size w).drew
  have hold : (Builtin.firstCells i0.size m (.slice (some ⟨g, 0, none⟩) m c)).run P w.drew = .ok xs.toArray w.drew := by
    have hl2 := run_loadCells_list (P := P) w.drew ⟨g, 0, none⟩ xs (fun j u hj => by rw [Addr.add_lit, Nat.zero_add]; exact keep_cell (hx j u hj) hd)
    rw [hl] at hl2
    simpa [Builtin.firstCells] using hl2
  have hr := Lib.run_append_grow_zeros (P := P) w t tn ty e i0 z0 kq kn ht htn hi hz (some ⟨g, 0, none⟩) m c xs hold k h0 hs0 hg (by omega) (Nat.le_trans (Nat.mul_le_mul (show k ≤ 100000 by omega) hby) (by decide)) (growslice_fits hg (le_bytes hm hby))
  have hge := grownCap_ge w (m + k) c e
  have hcm : grownCap w (m + k) c e ≤ maxLen := grownCap_le_maxLen w (m + k) c e (by unfold maxLen; omega)
  refine ⟨_, (Builtin.zeroCells z0.cells k).toList ++ (Builtin.zeroCells z0.cells (grownCap w (m + k) c e - (m + k))).toList, _, hr, ?_, hd.alloc (by simp) _, hge, hcm, ?_⟩
  · have := heap_new w.drew (.cells (xs.toArray ++ Builtin.zeroCells z0.cells k ++ Builtin.zeroCells z0.cells (grownCap w (m + k) c e - (m + k))) e)
    have hs : w.drew.heap.size = w.heap.size := rfl
    rw [hs] at this
    rw [this]
    congr 2
    apply Array.ext'
    simp
  · simp only [List.length_append, Array.length_toList, size_zeroCells, hzs, hl]
    rw [← Nat.add_mul, ← Nat.add_mul]
    congr 1
    omega
/-- a thing put in at a place -/
def ins (o : Nat) (news xs : List Value) : List Value := xs.take o ++ (news ++ xs.drop o)
theorem ins_len (o : Nat) (news xs : List Value) : (ins o news xs).length = xs.length + news.length := by
  simp [ins]
  omega
theorem splice_room {xs news L : List Value} {o s : Nat} (hL : L.take xs.length = xs) (ho : o ≤ xs.length) (hn : news.length = s) (hl : xs.length + s ≤ L.length) :
    (splice (splice L (o + s) (xs.drop o)) o news).take (xs.length + s) = ins o news xs := by
  obtain ⟨R, rfl⟩ : ∃ R, L = xs ++ R := ⟨L.drop xs.length, by conv => lhs; rw [← List.take_append_drop xs.length L, hL]⟩
  subst hn
  have e1 : (splice (xs ++ R) (o + news.length) (xs.drop o)).take o = xs.take o := by
    unfold splice
    rw [List.take_append_of_le_length (by simp; omega), List.take_take, Nat.min_eq_left (by omega), List.take_append_of_le_length ho]
  have e2 : ((splice (xs ++ R) (o + news.length) (xs.drop o)).drop (o + news.length)).take (xs.length - o) = xs.drop o := by
    unfold splice
    have : (List.take (o + news.length) (xs ++ R)).length = o + news.length := by rw [List.length_take]; simp at hl ⊢; omega
    rw [List.drop_append_of_le_length (by omega), List.drop_of_length_le (by omega), List.nil_append, List.take_append_of_le_length (by simp), List.take_of_length_le (by simp)]
  generalize splice (xs ++ R) (o + news.length) (xs.drop o) = M at *
  unfold splice ins
  rw [e1, ← List.append_assoc, ← List.append_assoc]
  rw [List.take_append, List.take_of_length_le (by simp; omega)]
  congr 1
  rw [← e2]
  congr 1
  simp
  omega
theorem splice_grow {xs news Z : List Value} {o s : Nat} (ho : o ≤ xs.length) (hn : news.length = s) (hl : xs.length + s ≤ o + Z.length) :
    (splice (splice (xs.take o ++ Z) o news) (o + s) (xs.drop o)).take (xs.length + s) = ins o news xs := by
  subst hn
  have ht : (xs.take o).length = o := by rw [List.length_take]; omega
  have e0 : List.take o (xs.take o ++ Z) = xs.take o := by rw [List.take_append_of_le_length (by omega), List.take_take, Nat.min_self]
  have e1 : (splice (xs.take o ++ Z) o news).take (o + news.length) = xs.take o ++ news := by
    unfold splice
    rw [e0, ← List.append_assoc, List.take_append_of_le_length (by simp [ht]), List.take_of_length_le (by simp [ht])]
  generalize splice (xs.take o ++ Z) o news = M at *
  unfold splice ins
  rw [e1, ← List.append_assoc, List.take_append_of_le_length (by simp; omega), List.take_of_length_le (by simp; omega), List.append_assoc]
def InsP (base e size : Nat) (v : Value) (n : Nat) (xs : List Value) (i : Nat) (news : List Value) (w : World) (x : Ending) (w' : World) : Prop :=
  ∃ v', x = .returned v' ∧ w'.ownsRow base e size v' (n + 1) (ins (i * size) news xs) ∧ Chg (fun k => v.ownBlock = some k) w w'
set_option maxHeartbeats 8000000 in
theorem insertI_any (w : World) (base : Nat) (v : Value) (n : Nat) (xs : List Value) (i vb : Nat) (news : List Value) (ho : w.ownsRow base 3 1 v n xs) (hx1 : ∀ u ∈ xs, u.oneCell' = true) (hn1 : ∀ u ∈ news, u.oneCell' = true)
    (hi : i ≤ n) (hn : n ≤ 1000) (hbase : base ≤ w.heap.size) (hv : w.heap[vb]? = some (.cells news.toArray 3 (0, 0))) (hl : news.length = 1) (hne : v.ownBlock ≠ some vb) :
    Calls Tryz.prog 66 #[v, .int .i64 i, .slice (some ⟨vb, 0, none⟩) 1 1] w (InsP base 3 1 v n xs i news w) := by
  obtain ⟨i0, z0, q1, q2, q3, q4, q5⟩ := info_of (P := Tryz.prog) (e := 3) 1 (by kernel_rfl)
  have hnews : ∀ j u, news[j]? = some u → w.cell? ((⟨vb, 0, none⟩ : Addr).add j) = some u := fun j u hj => by
    rw [Addr.add_lit, Nat.zero_add]
    exact (cells_at hv j u (by simpa using hj)).1
  have HO := Lib.hid ho
  have HV := Lib.hid hv
  have HN := Lib.hid hnews
  have H1 := Lib.hid (And.intro hx1 hn1)
  by_cases hin : i = n
  · subst hin
    obtain ⟨ao, c, rfl⟩ := own_slice ho
    clear ho hv hnews hx1 hn1
    go_enter Tryz.func66, Tryz.ntmps66
    by_cases hci : c = i
    · subst hci
      go_wp2_with (with_reducible refine stop_op (o := ⟨_, .call { callee := .builtin .append, args := #[.tmp 23, .tmp 24], argTypes := #[24, 24] }, _, _, _, _⟩) ?_)
      refine Lib.hid ?_
      refine wpList_append_own2 (o := ⟨_, _, _, _, _, _⟩) rfl (.tmp 23) (.tmp 24) 24 rfl base 3 i0 z0 1 i0.bytes Tryz.underlying24 q1 q2 q3 rfl q5 (by decide) _ c xs rfl HO.out ⟨vb, 0, none⟩ 1 1 news rfl (by omega) HN.out H1.out.2 (by unfold maxLen; omega) (le_bytes (by omega) q4) hbase ?_
      intro v' w1 hown hg hwh
      have HE := Lib.hid (And.intro hown (chg_grown hg))
      obtain ⟨uo, uc, rfl⟩ := own_slice hown
      clear hown hg hwh
      go_wp2_with fail
      go_ret
      obtain ⟨hown, hg⟩ := HE.out
      refine ⟨_, rfl, ?_, hg.mono fun k _ e => e.symm⟩
      have e : ins (c * 1) news xs = xs ++ news := by
        have := HO.out.1
        unfold ins
        rw [List.take_of_length_le (by omega), List.drop_of_length_le (by omega), List.append_nil]
      rw [e]
      exact hown
    · skip
      go_wp2_with (with_reducible refine stop_op (o := ⟨_, .call { callee := .builtin .append, args := #[.tmp 23, .tmp 24], argTypes := #[24, 24] }, _, _, _, _⟩) ?_)
      refine Lib.hid ?_
      refine wpList_append_own2 (o := ⟨_, _, _, _, _, _⟩) rfl (.tmp 23) (.tmp 24) 24 rfl base 3 i0 z0 1 i0.bytes Tryz.underlying24 q1 q2 q3 rfl q5 (by decide) _ i xs rfl HO.out ⟨vb, 0, none⟩ 1 1 news rfl (by omega) HN.out H1.out.2 (by unfold maxLen; omega) (le_bytes (by omega) q4) hbase ?_
      intro v' w1 hown hg hwh
      have HE := Lib.hid (And.intro hown (chg_grown hg))
      obtain ⟨uo, uc, rfl⟩ := own_slice hown
      clear hown hg hwh
      go_wp2_with fail
      go_ret
      obtain ⟨hown, hg⟩ := HE.out
      refine ⟨_, rfl, ?_, hg.mono fun k _ e => e.symm⟩
      have e : ins (i * 1) news xs = xs ++ news := by
        have := HO.out.1
        unfold ins
        rw [List.take_of_length_le (by omega), List.drop_of_length_le (by omega), List.append_nil]
      rw [e]
      exact hown
  · have hlt : i < n := by omega
    obtain ⟨hxl, ⟨rfl, rfl⟩ | ⟨g, c, cur, rfl, hg, hh, hnc, hcm, hcs, hpre⟩⟩ := id ho
    · omega
    have hgv : vb ≠ g := fun e => hne (by rw [e]; rfl)
    have hcm' : c ≤ 9223372036854775807 := by unfold maxLen at hcm; omega
    have HH := Lib.hid (And.intro hh (And.intro hcs hpre))
    have f1 : ¬ ((i : Int) = (n : Int)) := by omega
    by_cases hc : c = n
    · subst hc
      have f2 : (c : Int) < (c : Int) + 1 := by omega
      have f3 : IntKind.i64.wrap ((c : Int) + 1) = (c : Int) + 1 := by rw [IntKind.wrap_i64]; omega
      have f4 : IntKind.i64.wrap ((c : Int) + 1 - (i : Int)) = (c : Int) + 1 - (i : Int) := by rw [IntKind.wrap_i64]; omega
      have f5 : IntKind.i64.wrap ((i : Int) + 1) = (i : Int) + 1 := by rw [IntKind.wrap_i64]; omega
      have f6 : (0 : Int) ≤ (i : Int) + 1 := by omega
      have f7 : ((i : Int) + 1).toNat = i + 1 := by omega
      have f8 : ¬ c = i := by omega
      have f9 : (i : Int) + 1 ≤ (c : Int) + 1 := by omega
      have f10 : (i : Int) ≤ (c : Int) + 1 := by omega
      obtain ⟨cap, Z, W0, hr, hZ, hbZ, hz1, hz2, hz3⟩ := grow_zeros (P := Tryz.prog) (w := w) 24 3 24 3 i0 z0 1 .i64 .i64 Tryz.underlying24 Tryz.underlying3 q1 q2 q3 q4 q5 (by decide) g i c (c + 1 - i) (xs.take (i * 1)) (by rw [List.length_take, hxl]; exact Nat.min_eq_left (Nat.mul_le_mul_right _ hi)) (fun j u hj => by
        rw [List.getElem?_take] at hj
        split at hj
        · rw [← hpre, List.getElem?_take] at hj
          split at hj
          · exact (cells_at hh j u (by simpa using hj)).1
          · cases hj
        · cases hj) (by omega) (by omega) (by omega)
      have e1 : i + (c + 1 - i) = c + 1 := by omega
      rw [e1] at hr hz1
      have f11 : ¬ cap = i := by omega
      have f12 : ¬ cap = i + 1 := by omega
      have HZ := Lib.hid (And.intro hr (And.intro hZ (And.intro hbZ (And.intro hz1 (And.intro hz2 hz3)))))
      clear hh hcs hpre ho hv hnews hx1 hn1 hcm hr hZ hbZ hz1 hz2 hz3
      go_enter Tryz.func66, Tryz.ntmps66
      go_wp2_with (with_reducible refine stop_op (o := ⟨_, .call { callee := .builtin .append, args := #[.tmp 34, .tmp 39], argTypes := #[24, 3] }, _, _, _, _⟩) ?_)
      refine Lib.hid ?_
      refine wpList_plain rfl fun K hK => ?_
      refine op_append_zeros (o := ⟨_, _, _, _, _, _⟩) (.tmp 34) (.tmp 39) 24 3 rfl (.slice (some ⟨g, 0, none⟩) i c) (.int .i64 ((c + 1 - i : Nat) : Int)) rfl (congrArg (Value.int .i64) (show (c : Int) + 1 - (i : Int) = ((c + 1 - i : Nat) : Int) by omega)) HZ.out.1 ?_
      refine hK _ _ ?_
      have HW : Hid (W0.heap[vb]? = some (.cells news.toArray 3 (0, 0)) ∧ Below w.heap.size w W0 ∧ W0.heap[w.heap.size]? = some (.cells (xs.take (i * 1) ++ Z).toArray 3 (0, 0))) := Lib.hid ⟨keep_heap HV.out HZ.out.2.2.1, HZ.out.2.2.1, HZ.out.2.1⟩
      have hvw : vb ≠ w.heap.size := fun e => by have := heap_lt HV.out; omega
      have hcl : (xs.drop (i * 1)).length = (c - i) * 1 := by rw [List.length_drop, hxl, ← Nat.sub_mul]
      have HCL := Lib.hid hcl
      clear hcl
      go_wp2_with (with_reducible refine stop_op (o := ⟨_, .call { callee := .builtin .copy, args := #[.tmp 43, .tmp 44], argTypes := #[24, 24] }, _, _, _, _⟩) ?_)
      refine Lib.hid ?_
      refine wpList_plain rfl fun K hK => ?_
      refine op_copy_rowK (o := ⟨_, _, _, _, _, _⟩) (.tmp 43) (.tmp 44) 24 24 rfl 3 1 w.heap.size (i) _ _ ⟨vb, 0, none⟩ _ _ (xs.take (i * 1) ++ Z).toArray 3 news 1 rfl rfl Tryz.underlying24 (by rw [q1]; simp [q3]) HW.out.2.2 ?_ (by rw [hl]) (fun j u hj => ?_) ?_ H1.out.2 ?_
      · simp only [Nat.min_def]
        split <;> omega
      · rw [Addr.add_lit, Nat.zero_add]
        exact (cells_at HW.out.1 j u (by simpa using hj)).1
      · have h1 := HZ.out.2.2.2.2.2
        have h2 := HZ.out.2.2.2.1
        rw [List.size_toArray, h1, hl]
        omega
      have hx2 := setRow_heap W0 w.heap.size _ (splice (xs.take (i * 1) ++ Z) (i) news).toArray 3 (0, 0) HW.out.2.2
      have H3 : Hid (Below w.heap.size w (W0.setRow w.heap.size (splice (xs.take (i * 1) ++ Z) (i) news).toArray) ∧ (W0.setRow w.heap.size (splice (xs.take (i * 1) ++ Z) (i) news).toArray).heap[w.heap.size]? = some (.cells (splice (xs.take (i * 1) ++ Z) (i) news).toArray 3 (0, 0))) :=
        Lib.hid ⟨bel_setRow HW.out.2.1 HW.out.2.1.size (Nat.le_refl _) _, hx2⟩
      have hsp := length_splice (xs.take (i * 1) ++ Z) (i) news (by rw [HZ.out.2.2.2.2.2, hl]; have h2 := HZ.out.2.2.2.1; omega)
      rw [HZ.out.2.2.2.2.2] at hsp
      have HSP := Lib.hid hsp
      simp only [List.toList_toArray] at *
      generalize W0.setRow w.heap.size (splice (xs.take (i * 1) ++ Z) (i) news).toArray = W1 at *
      clear hx2 HW hsp
      refine hK _ _ ?_
      go_wp2_with fail
      have hd := (Below.refl W1.heap.size W1).drew
      have hS : Any0 W1.drew := trivial
      have H4 := Lib.hid (And.intro (H3.out.1.trans (hd.mono H3.out.1.size)) (keep_heap H3.out.2 hd))
      clear H3 hd
      refine region_plan (Any0) [(0, 0), (1, 0), (2, 0), (3, 0), (4, 0), (5, 0), (6, 0), (7, 0), (8, 1)] (by kernel_rfl) (by kernel_rfl) (by kernel_rfl) hS ?_
      generalize W1.drew = W2 at *
      iterate 8 (first | (refine plan_skip rfl ?_ ?_; (focus (rfl)); (try simp only [Act.put, List.setIfInBounds_toArray, List.set_cons_zero, List.set_cons_succ])) | (refine plan_take (v := ?_) rfl ?_ (fun w hSw => ?_) ?_; rotate_left; (focus (rfl)); (focus (unfold Any0 at hSw; (go_simp <;> with_reducible rfl))); (try simp only [Act.put, List.setIfInBounds_toArray, List.set_cons_zero, List.set_cons_succ])))
      refine plan_run rfl ?_ (fun K hK => ?_)
      focus (rfl)
      refine op_copy_rowK (.tmp 50) (.tmp 53) 24 24 rfl 3 1 w.heap.size ((i + 1)) _ _ ⟨g, i, none⟩ _ _ (splice (xs.take (i * 1) ++ Z) (i) news).toArray 3 (xs.drop (i * 1)) (c - i) rfl rfl Tryz.underlying24 (by rw [q1]; simp [q3]) H4.out.2 ?_ HCL.out ?_ ?_ (fun u hu => H1.out.1 u (List.mem_of_mem_drop hu)) ?_
      · simp only [Nat.min_def]
        split <;> omega
      · intro j u hj
        rw [List.getElem?_drop, ← HH.out.2.2, List.getElem?_take] at hj
        split at hj
        · rw [Addr.add_lit]
          have := keep_cell (cells_at HH.out.1 (i * 1 + j) u (by simpa using hj)).1 H4.out.1
          simpa using this
        · cases hj
      · rw [List.size_toArray, HSP.out, HCL.out]
        have h2 := HZ.out.2.2.2.1
        omega
      have hx5 := setRow_heap W2 w.heap.size _ (splice (splice (xs.take (i * 1) ++ Z) (i) news) ((i + 1)) (xs.drop (i * 1))).toArray 3 (0, 0) H4.out.2
      have H5 := Lib.hid (And.intro (bel_setRow H4.out.1 H4.out.1.size (Nat.le_refl _) (splice (splice (xs.take (i * 1) ++ Z) (i) news) ((i + 1)) (xs.drop (i * 1))).toArray) hx5)
      simp only [List.toList_toArray] at *
      refine hK.out _ _ (trivial) ?_
      clear hK K
      (try simp only [Act.put, List.setIfInBounds_toArray, List.set_cons_zero, List.set_cons_succ])
      generalize W2.setRow w.heap.size (splice (splice (xs.take (i * 1) ++ Z) (i) news) ((i + 1)) (xs.drop (i * 1))).toArray = W3 at *
      clear hx5 H4 hS
      refine plan_done ?_
      go_wp2_with fail
      go_ret
      refine ⟨_, rfl, ⟨?_, .inr ⟨w.heap.size, cap, _, rfl, hbase, H5.out.2, HZ.out.2.2.2.1, HZ.out.2.2.2.2.1, ?_, ?_⟩⟩, chg_of_below H5.out.1 _⟩
      · rw [ins_len, hxl, hl]
        omega
      · rw [List.size_toArray, length_splice _ _ _ (by rw [HSP.out, HCL.out]; have h2 := HZ.out.2.2.2.1; omega), HSP.out]
      · have hzl := HZ.out.2.2.2.2.2
        have h2 := HZ.out.2.2.2.1
        rw [List.length_append, List.length_take, hxl, Nat.min_eq_left (Nat.mul_le_mul_right _ hi)] at hzl
        have := splice_grow (xs := xs) (news := news) (Z := Z) (o := i * 1) (s := 1) (by rw [hxl]; omega) hl (by rw [hxl]; omega)
        rw [hxl] at this
        rw [List.toList_toArray, show (c + 1) * 1 = c * 1 + 1 by omega]
        simpa [Nat.add_mul] using this
    · have hroom : n + 1 ≤ c := by omega
      have f2 : ¬ ((c : Int) < (n : Int) + 1) := by omega
      have f3 : IntKind.i64.wrap ((i : Int) + 1) = (i : Int) + 1 := by rw [IntKind.wrap_i64]; omega
      have f4 : (0 : Int) ≤ (i : Int) + 1 := by omega
      have f5 : ((i : Int) + 1).toNat = i + 1 := by omega
      have f6 : (i : Int) + 1 ≤ (n : Int) + 1 := by omega
      have f7 : ¬ c = i + 1 := by omega
      have f8 : ¬ c = i := by omega
      have f9 : (i : Int) ≤ (n : Int) + 1 := by omega
      have hov : ∀ lb cb, (callFunc 84 #[.slice (some ⟨vb, 0, none⟩) 1 1, .slice (some ⟨g, (i + 1), none⟩) lb cb]).run Tryz.prog w = .ok (.value (.bool false)) w := fun lb cb => by
        rw [run_callFunc_extern Tryz.func84 (by kernel_rfl) (by kernel_rfl) (by kernel_rfl) (e := Extern.SlicesOverlaps.overlaps #[24, 24] #[4]) (by kernel_rfl),
          Lib.run_overlaps_apart w 24 4 3 Tryz.underlying24 1 Tryz.sizeOf3 ⟨vb, 0, none⟩ ⟨g, (i + 1), none⟩ 1 1 lb cb hgv 3 3 news.toArray.size cur.size (by simp [World.shape?, hv]) (by simp [World.shape?, hh]) (by omega) (by simp [World.frozen?, hv]) (by simp [World.frozen?, hv])]
        rfl
      clear hh hcs hpre ho hv hnews hx1 hn1 hcm
      go_enter Tryz.func66, Tryz.ntmps66
      go_wp2_with (simp only [hov])
      have hd := (Below.refl w.heap.size w).drew
      have hS : Any0 w.drew := trivial
      have H2 := Lib.hid (And.intro hd (And.intro (keep_heap HH.out.1 hd) (keep_heap HV.out hd)))
      refine region_plan (Any0) [(0, 0), (1, 0), (2, 0), (3, 0), (4, 0), (5, 0), (6, 0), (7, 0), (8, 1)] (by kernel_rfl) (by kernel_rfl) (by kernel_rfl) hS ?_
      generalize w.drew = W1 at *
      iterate 8 (first | (refine plan_skip rfl ?_ ?_; (focus (rfl)); (try simp only [Act.put, List.setIfInBounds_toArray, List.set_cons_zero, List.set_cons_succ])) | (refine plan_take (v := ?_) rfl ?_ (fun w hSw => ?_) ?_; rotate_left; (focus (rfl)); (focus (unfold Any0 at hSw; (go_simp <;> with_reducible rfl))); (try simp only [Act.put, List.setIfInBounds_toArray, List.set_cons_zero, List.set_cons_succ])))
      refine plan_run rfl ?_ (fun K hK => ?_)
      focus (rfl)
      refine op_copy_rowK (.tmp 73) (.tmp 76) 24 24 rfl 3 1 g ((i + 1)) _ _ ⟨g, i, none⟩ _ _ cur 3 (xs.drop (i * 1)) (n - i) rfl rfl Tryz.underlying24 (by rw [q1]; simp [q3]) H2.out.2.1 ?_ ?_ ?_ ?_ (fun u hu => H1.out.1 u (List.mem_of_mem_drop hu)) ?_
      · simp only [Nat.min_def]
        split <;> omega
      · rw [List.length_drop, hxl, ← Nat.sub_mul]
      · intro j u hj
        rw [List.getElem?_drop, ← HH.out.2.2, List.getElem?_take] at hj
        split at hj
        · rw [Addr.add_lit]
          have := (cells_at H2.out.2.1 (i * 1 + j) u (by simpa using hj)).1
          simpa using this
        · cases hj
      · rw [List.length_drop, hxl, HH.out.2.1]
        omega
      have hx2 := Lib.hid (setRow_heap W1 g cur (splice cur.toList ((i + 1)) (xs.drop (i * 1))).toArray 3 (0, 0) H2.out.2.1)
      have hc2 := chg_setRow W1 g (splice cur.toList ((i + 1)) (xs.drop (i * 1))).toArray
      have H3 := Lib.hid (And.intro ((chg_of_below H2.out.1 (fun k => k = g)).trans hc2) (And.intro hx2.out (hc2.heap H2.out.2.2 hgv)))
      refine hK.out _ _ (trivial) ?_
      clear hK K
      (try simp only [Act.put, List.setIfInBounds_toArray, List.set_cons_zero, List.set_cons_succ])
      generalize W1.setRow g (splice cur.toList ((i + 1)) (xs.drop (i * 1))).toArray = W2 at *
      clear H2 hx2 hc2 hS
      refine plan_done ?_
      go_wp2_with (with_reducible refine stop_op (o := ⟨_, .call { callee := .builtin .copy, args := #[.tmp 80, .tmp 81], argTypes := #[24, 24] }, _, _, _, _⟩) ?_)
      refine Lib.hid ?_
      refine wpList_plain rfl fun K hK => ?_
      refine op_copy_rowK (o := ⟨_, _, _, _, _, _⟩) (.tmp 80) (.tmp 81) 24 24 rfl 3 1 g (i) _ _ ⟨vb, 0, none⟩ _ _ (splice cur.toList ((i + 1)) (xs.drop (i * 1))).toArray 3 news 1 rfl rfl Tryz.underlying24 (by rw [q1]; simp [q3]) H3.out.2.1 ?_ (by rw [hl]) (fun j u hj => ?_) ?_ H1.out.2 ?_
      · simp only [Nat.min_def]
        split <;> omega
      · rw [Addr.add_lit, Nat.zero_add]
        exact (cells_at H3.out.2.2 j u (by simpa using hj)).1
      · have h1 : (xs.drop (i * 1)).length = (n - i) * 1 := by rw [List.length_drop, hxl, ← Nat.sub_mul]
        have h2 := length_splice cur.toList ((i + 1)) (xs.drop (i * 1)) (by rw [h1, Array.length_toList (xs := cur), HH.out.2.1]; omega)
        rw [List.size_toArray, h2, Array.length_toList (xs := cur), HH.out.2.1, hl]
        omega
      have h1 : (xs.drop (i * 1)).length = (n - i) * 1 := by rw [List.length_drop, hxl, ← Nat.sub_mul]
      have h2 := length_splice cur.toList ((i + 1)) (xs.drop (i * 1)) (by rw [h1, Array.length_toList (xs := cur), HH.out.2.1]; omega)
      have hx4 := setRow_heap W2 g _ (splice (splice cur.toList ((i + 1)) (xs.drop (i * 1))) (i) news).toArray 3 (0, 0) H3.out.2.1
      have hc4 := H3.out.1.trans (chg_setRow W2 g (splice (splice cur.toList ((i + 1)) (xs.drop (i * 1))) (i) news).toArray)
      have HF := Lib.hid (And.intro hx4 hc4)
      have HL := Lib.hid h2
      simp only [List.toList_toArray] at *
      generalize W2.setRow g (splice (splice cur.toList ((i + 1)) (xs.drop (i * 1))) (i) news).toArray = W3 at *
      clear hx4 hc4 H3 h1 h2
      refine hK _ _ ?_
      go_wp2_with fail
      go_ret
      have h1 : (xs.drop (i * 1)).length = (n - i) * 1 := by rw [List.length_drop, hxl, ← Nat.sub_mul]
      refine ⟨_, rfl, ⟨?_, .inr ⟨g, c, _, rfl, hg, HF.out.1, hroom, by unfold maxLen; omega, ?_, ?_⟩⟩, HF.out.2.mono fun k _ e => by rw [show k = g from e]; rfl⟩
      · rw [ins_len, hxl, hl]
        omega
      · rw [List.size_toArray, length_splice _ _ _ (by rw [HL.out, Array.length_toList (xs := cur), HH.out.2.1, hl]; omega), HL.out, Array.length_toList (xs := cur), HH.out.2.1]
      · have hp := HH.out.2.2
        rw [← hxl] at hp
        have := splice_room (news := news) (o := i * 1) (s := 1) hp (by omega) hl (by rw [Array.length_toList (xs := cur), HH.out.2.1, hxl]; omega)
        rw [hxl] at this
        rw [List.toList_toArray, show (n + 1) * 1 = n * 1 + 1 by omega]
        simpa [Nat.add_mul] using this
set_option maxHeartbeats 8000000 in
theorem insertW_any (w : World) (base : Nat) (v : Value) (n : Nat) (xs : List Value) (i vb : Nat) (news : List Value) (ho : w.ownsRow base 81 2 v n xs) (hx1 : ∀ u ∈ xs, u.oneCell' = true) (hn1 : ∀ u ∈ news, u.oneCell' = true)
    (hi : i ≤ n) (hn : n ≤ 1000) (hbase : base ≤ w.heap.size) (hv : w.heap[vb]? = some (.cells news.toArray 81 (0, 0))) (hl : news.length = 2) (hne : v.ownBlock ≠ some vb) :
    Calls Tryz.prog 71 #[v, .int .i64 i, .slice (some ⟨vb, 0, none⟩) 1 1] w (InsP base 81 2 v n xs i news w) := by
  obtain ⟨i0, z0, q1, q2, q3, q4, q5⟩ := info_of (P := Tryz.prog) (e := 81) 2 (by kernel_rfl)
  have hnews : ∀ j u, news[j]? = some u → w.cell? ((⟨vb, 0, none⟩ : Addr).add j) = some u := fun j u hj => by
    rw [Addr.add_lit, Nat.zero_add]
    exact (cells_at hv j u (by simpa using hj)).1
  have HO := Lib.hid ho
  have HV := Lib.hid hv
  have HN := Lib.hid hnews
  have H1 := Lib.hid (And.intro hx1 hn1)
  by_cases hin : i = n
  · subst hin
    obtain ⟨ao, c, rfl⟩ := own_slice ho
    clear ho hv hnews hx1 hn1
    go_enter Tryz.func71, Tryz.ntmps71
    by_cases hci : c = i
    · subst hci
      go_wp2_with (with_reducible refine stop_op (o := ⟨_, .call { callee := .builtin .append, args := #[.tmp 23, .tmp 24], argTypes := #[25, 25] }, _, _, _, _⟩) ?_)
      refine Lib.hid ?_
      refine wpList_append_own2 (o := ⟨_, _, _, _, _, _⟩) rfl (.tmp 23) (.tmp 24) 25 rfl base 81 i0 z0 2 i0.bytes Tryz.underlying25 q1 q2 q3 rfl q5 (by decide) _ c xs rfl HO.out ⟨vb, 0, none⟩ 1 1 news rfl (by omega) HN.out H1.out.2 (by unfold maxLen; omega) (le_bytes (by omega) q4) hbase ?_
      intro v' w1 hown hg hwh
      have HE := Lib.hid (And.intro hown (chg_grown hg))
      obtain ⟨uo, uc, rfl⟩ := own_slice hown
      clear hown hg hwh
      go_wp2_with fail
      go_ret
      obtain ⟨hown, hg⟩ := HE.out
      refine ⟨_, rfl, ?_, hg.mono fun k _ e => e.symm⟩
      have e : ins (c * 2) news xs = xs ++ news := by
        have := HO.out.1
        unfold ins
        rw [List.take_of_length_le (by omega), List.drop_of_length_le (by omega), List.append_nil]
      rw [e]
      exact hown
    · skip
      go_wp2_with (with_reducible refine stop_op (o := ⟨_, .call { callee := .builtin .append, args := #[.tmp 23, .tmp 24], argTypes := #[25, 25] }, _, _, _, _⟩) ?_)
      refine Lib.hid ?_
      refine wpList_append_own2 (o := ⟨_, _, _, _, _, _⟩) rfl (.tmp 23) (.tmp 24) 25 rfl base 81 i0 z0 2 i0.bytes Tryz.underlying25 q1 q2 q3 rfl q5 (by decide) _ i xs rfl HO.out ⟨vb, 0, none⟩ 1 1 news rfl (by omega) HN.out H1.out.2 (by unfold maxLen; omega) (le_bytes (by omega) q4) hbase ?_
      intro v' w1 hown hg hwh
      have HE := Lib.hid (And.intro hown (chg_grown hg))
      obtain ⟨uo, uc, rfl⟩ := own_slice hown
      clear hown hg hwh
      go_wp2_with fail
      go_ret
      obtain ⟨hown, hg⟩ := HE.out
      refine ⟨_, rfl, ?_, hg.mono fun k _ e => e.symm⟩
      have e : ins (i * 2) news xs = xs ++ news := by
        have := HO.out.1
        unfold ins
        rw [List.take_of_length_le (by omega), List.drop_of_length_le (by omega), List.append_nil]
      rw [e]
      exact hown
  · have hlt : i < n := by omega
    obtain ⟨hxl, ⟨rfl, rfl⟩ | ⟨g, c, cur, rfl, hg, hh, hnc, hcm, hcs, hpre⟩⟩ := id ho
    · omega
    have hgv : vb ≠ g := fun e => hne (by rw [e]; rfl)
    have hcm' : c ≤ 9223372036854775807 := by unfold maxLen at hcm; omega
    have HH := Lib.hid (And.intro hh (And.intro hcs hpre))
    have f1 : ¬ ((i : Int) = (n : Int)) := by omega
    by_cases hc : c = n
    · subst hc
      have f2 : (c : Int) < (c : Int) + 1 := by omega
      have f3 : IntKind.i64.wrap ((c : Int) + 1) = (c : Int) + 1 := by rw [IntKind.wrap_i64]; omega
      have f4 : IntKind.i64.wrap ((c : Int) + 1 - (i : Int)) = (c : Int) + 1 - (i : Int) := by rw [IntKind.wrap_i64]; omega
      have f5 : IntKind.i64.wrap ((i : Int) + 1) = (i : Int) + 1 := by rw [IntKind.wrap_i64]; omega
      have f6 : (0 : Int) ≤ (i : Int) + 1 := by omega
      have f7 : ((i : Int) + 1).toNat = i + 1 := by omega
      have f8 : ¬ c = i := by omega
      have f9 : (i : Int) + 1 ≤ (c : Int) + 1 := by omega
      have f10 : (i : Int) ≤ (c : Int) + 1 := by omega
      obtain ⟨cap, Z, W0, hr, hZ, hbZ, hz1, hz2, hz3⟩ := grow_zeros (P := Tryz.prog) (w := w) 25 3 25 81 i0 z0 2 .i64 .i64 Tryz.underlying25 Tryz.underlying3 q1 q2 q3 q4 q5 (by decide) g i c (c + 1 - i) (xs.take (i * 2)) (by rw [List.length_take, hxl]; exact Nat.min_eq_left (Nat.mul_le_mul_right _ hi)) (fun j u hj => by
        rw [List.getElem?_take] at hj
        split at hj
        · rw [← hpre, List.getElem?_take] at hj
          split at hj
          · exact (cells_at hh j u (by simpa using hj)).1
          · cases hj
        · cases hj) (by omega) (by omega) (by omega)
      have e1 : i + (c + 1 - i) = c + 1 := by omega
      rw [e1] at hr hz1
      have f11 : ¬ cap = i := by omega
      have f12 : ¬ cap = i + 1 := by omega
      have HZ := Lib.hid (And.intro hr (And.intro hZ (And.intro hbZ (And.intro hz1 (And.intro hz2 hz3)))))
      clear hh hcs hpre ho hv hnews hx1 hn1 hcm hr hZ hbZ hz1 hz2 hz3
      go_enter Tryz.func71, Tryz.ntmps71
      go_wp2_with (with_reducible refine stop_op (o := ⟨_, .call { callee := .builtin .append, args := #[.tmp 34, .tmp 39], argTypes := #[25, 3] }, _, _, _, _⟩) ?_)
      refine Lib.hid ?_
      refine wpList_plain rfl fun K hK => ?_
      refine op_append_zeros (o := ⟨_, _, _, _, _, _⟩) (.tmp 34) (.tmp 39) 25 3 rfl (.slice (some ⟨g, 0, none⟩) i c) (.int .i64 ((c + 1 - i : Nat) : Int)) rfl (congrArg (Value.int .i64) (show (c : Int) + 1 - (i : Int) = ((c + 1 - i : Nat) : Int) by omega)) HZ.out.1 ?_
      refine hK _ _ ?_
      have HW : Hid (W0.heap[vb]? = some (.cells news.toArray 81 (0, 0)) ∧ Below w.heap.size w W0 ∧ W0.heap[w.heap.size]? = some (.cells (xs.take (i * 2) ++ Z).toArray 81 (0, 0))) := Lib.hid ⟨keep_heap HV.out HZ.out.2.2.1, HZ.out.2.2.1, HZ.out.2.1⟩
      have hvw : vb ≠ w.heap.size := fun e => by have := heap_lt HV.out; omega
      have hcl : (xs.drop (i * 2)).length = (c - i) * 2 := by rw [List.length_drop, hxl, ← Nat.sub_mul]
      have HCL := Lib.hid hcl
      clear hcl
      go_wp2_with (with_reducible refine stop_op (o := ⟨_, .call { callee := .builtin .copy, args := #[.tmp 43, .tmp 44], argTypes := #[25, 25] }, _, _, _, _⟩) ?_)
      refine Lib.hid ?_
      refine wpList_plain rfl fun K hK => ?_
      refine op_copy_rowK (o := ⟨_, _, _, _, _, _⟩) (.tmp 43) (.tmp 44) 25 25 rfl 81 2 w.heap.size (i * 2) _ _ ⟨vb, 0, none⟩ _ _ (xs.take (i * 2) ++ Z).toArray 81 news 1 rfl rfl Tryz.underlying25 (by rw [q1]; simp [q3]) HW.out.2.2 ?_ (by rw [hl]) (fun j u hj => ?_) ?_ H1.out.2 ?_
      · simp only [Nat.min_def]
        split <;> omega
      · rw [Addr.add_lit, Nat.zero_add]
        exact (cells_at HW.out.1 j u (by simpa using hj)).1
      · have h1 := HZ.out.2.2.2.2.2
        have h2 := HZ.out.2.2.2.1
        rw [List.size_toArray, h1, hl]
        omega
      have hx2 := setRow_heap W0 w.heap.size _ (splice (xs.take (i * 2) ++ Z) (i * 2) news).toArray 81 (0, 0) HW.out.2.2
      have H3 : Hid (Below w.heap.size w (W0.setRow w.heap.size (splice (xs.take (i * 2) ++ Z) (i * 2) news).toArray) ∧ (W0.setRow w.heap.size (splice (xs.take (i * 2) ++ Z) (i * 2) news).toArray).heap[w.heap.size]? = some (.cells (splice (xs.take (i * 2) ++ Z) (i * 2) news).toArray 81 (0, 0))) :=
        Lib.hid ⟨bel_setRow HW.out.2.1 HW.out.2.1.size (Nat.le_refl _) _, hx2⟩
      have hsp := length_splice (xs.take (i * 2) ++ Z) (i * 2) news (by rw [HZ.out.2.2.2.2.2, hl]; have h2 := HZ.out.2.2.2.1; omega)
      rw [HZ.out.2.2.2.2.2] at hsp
      have HSP := Lib.hid hsp
      simp only [List.toList_toArray] at *
      generalize W0.setRow w.heap.size (splice (xs.take (i * 2) ++ Z) (i * 2) news).toArray = W1 at *
      clear hx2 HW hsp
      refine hK _ _ ?_
      go_wp2_with fail
      have hd := (Below.refl W1.heap.size W1).drew
      have hS : Any0 W1.drew := trivial
      have H4 := Lib.hid (And.intro (H3.out.1.trans (hd.mono H3.out.1.size)) (keep_heap H3.out.2 hd))
      clear H3 hd
      refine region_plan (Any0) [(0, 0), (1, 0), (2, 0), (3, 0), (4, 0), (5, 0), (6, 0), (7, 0), (8, 1)] (by kernel_rfl) (by kernel_rfl) (by kernel_rfl) hS ?_
      generalize W1.drew = W2 at *
      iterate 8 (first | (refine plan_skip rfl ?_ ?_; (focus (rfl)); (try simp only [Act.put, List.setIfInBounds_toArray, List.set_cons_zero, List.set_cons_succ])) | (refine plan_take (v := ?_) rfl ?_ (fun w hSw => ?_) ?_; rotate_left; (focus (rfl)); (focus (unfold Any0 at hSw; (go_simp <;> with_reducible rfl))); (try simp only [Act.put, List.setIfInBounds_toArray, List.set_cons_zero, List.set_cons_succ])))
      refine plan_run rfl ?_ (fun K hK => ?_)
      focus (rfl)
      refine op_copy_rowK (.tmp 50) (.tmp 53) 25 25 rfl 81 2 w.heap.size ((i + 1) * 2) _ _ ⟨g, i * 2, none⟩ _ _ (splice (xs.take (i * 2) ++ Z) (i * 2) news).toArray 81 (xs.drop (i * 2)) (c - i) rfl rfl Tryz.underlying25 (by rw [q1]; simp [q3]) H4.out.2 ?_ HCL.out ?_ ?_ (fun u hu => H1.out.1 u (List.mem_of_mem_drop hu)) ?_
      · simp only [Nat.min_def]
        split <;> omega
      · intro j u hj
        rw [List.getElem?_drop, ← HH.out.2.2, List.getElem?_take] at hj
        split at hj
        · rw [Addr.add_lit]
          have := keep_cell (cells_at HH.out.1 (i * 2 + j) u (by simpa using hj)).1 H4.out.1
          simpa using this
        · cases hj
      · rw [List.size_toArray, HSP.out, HCL.out]
        have h2 := HZ.out.2.2.2.1
        omega
      have hx5 := setRow_heap W2 w.heap.size _ (splice (splice (xs.take (i * 2) ++ Z) (i * 2) news) ((i + 1) * 2) (xs.drop (i * 2))).toArray 81 (0, 0) H4.out.2
      have H5 := Lib.hid (And.intro (bel_setRow H4.out.1 H4.out.1.size (Nat.le_refl _) (splice (splice (xs.take (i * 2) ++ Z) (i * 2) news) ((i + 1) * 2) (xs.drop (i * 2))).toArray) hx5)
      simp only [List.toList_toArray] at *
      refine hK.out _ _ (trivial) ?_
      clear hK K
      (try simp only [Act.put, List.setIfInBounds_toArray, List.set_cons_zero, List.set_cons_succ])
      generalize W2.setRow w.heap.size (splice (splice (xs.take (i * 2) ++ Z) (i * 2) news) ((i + 1) * 2) (xs.drop (i * 2))).toArray = W3 at *
      clear hx5 H4 hS
      refine plan_done ?_
      go_wp2_with fail
      go_ret
      refine ⟨_, rfl, ⟨?_, .inr ⟨w.heap.size, cap, _, rfl, hbase, H5.out.2, HZ.out.2.2.2.1, HZ.out.2.2.2.2.1, ?_, ?_⟩⟩, chg_of_below H5.out.1 _⟩
      · rw [ins_len, hxl, hl]
        omega
      · rw [List.size_toArray, length_splice _ _ _ (by rw [HSP.out, HCL.out]; have h2 := HZ.out.2.2.2.1; omega), HSP.out]
      · have hzl := HZ.out.2.2.2.2.2
        have h2 := HZ.out.2.2.2.1
        rw [List.length_append, List.length_take, hxl, Nat.min_eq_left (Nat.mul_le_mul_right _ hi)] at hzl
        have := splice_grow (xs := xs) (news := news) (Z := Z) (o := i * 2) (s := 2) (by rw [hxl]; omega) hl (by rw [hxl]; omega)
        rw [hxl] at this
        rw [List.toList_toArray, show (c + 1) * 2 = c * 2 + 2 by omega]
        simpa [Nat.add_mul] using this
    · have hroom : n + 1 ≤ c := by omega
      have f2 : ¬ ((c : Int) < (n : Int) + 1) := by omega
      have f3 : IntKind.i64.wrap ((i : Int) + 1) = (i : Int) + 1 := by rw [IntKind.wrap_i64]; omega
      have f4 : (0 : Int) ≤ (i : Int) + 1 := by omega
      have f5 : ((i : Int) + 1).toNat = i + 1 := by omega
      have f6 : (i : Int) + 1 ≤ (n : Int) + 1 := by omega
      have f7 : ¬ c = i + 1 := by omega
      have f8 : ¬ c = i := by omega
      have f9 : (i : Int) ≤ (n : Int) + 1 := by omega
      have hov : ∀ lb cb, (callFunc 87 #[.slice (some ⟨vb, 0, none⟩) 1 1, .slice (some ⟨g, (i + 1) * 2, none⟩) lb cb]).run Tryz.prog w = .ok (.value (.bool false)) w := fun lb cb => by
        rw [run_callFunc_extern Tryz.func87 (by kernel_rfl) (by kernel_rfl) (by kernel_rfl) (e := Extern.SlicesOverlaps.overlaps #[25, 25] #[4]) (by kernel_rfl),
          Lib.run_overlaps_apart w 25 4 81 Tryz.underlying25 2 Tryz.sizeOf81 ⟨vb, 0, none⟩ ⟨g, (i + 1) * 2, none⟩ 1 1 lb cb hgv 81 81 news.toArray.size cur.size (by simp [World.shape?, hv]) (by simp [World.shape?, hh]) (by omega) (by simp [World.frozen?, hv]) (by simp [World.frozen?, hv])]
        rfl
      clear hh hcs hpre ho hv hnews hx1 hn1 hcm
      go_enter Tryz.func71, Tryz.ntmps71
      go_wp2_with (simp only [hov])
      have hd := (Below.refl w.heap.size w).drew
      have hS : Any0 w.drew := trivial
      have H2 := Lib.hid (And.intro hd (And.intro (keep_heap HH.out.1 hd) (keep_heap HV.out hd)))
      refine region_plan (Any0) [(0, 0), (1, 0), (2, 0), (3, 0), (4, 0), (5, 0), (6, 0), (7, 0), (8, 1)] (by kernel_rfl) (by kernel_rfl) (by kernel_rfl) hS ?_
      generalize w.drew = W1 at *
      iterate 8 (first | (refine plan_skip rfl ?_ ?_; (focus (rfl)); (try simp only [Act.put, List.setIfInBounds_toArray, List.set_cons_zero, List.set_cons_succ])) | (refine plan_take (v := ?_) rfl ?_ (fun w hSw => ?_) ?_; rotate_left; (focus (rfl)); (focus (unfold Any0 at hSw; (go_simp <;> with_reducible rfl))); (try simp only [Act.put, List.setIfInBounds_toArray, List.set_cons_zero, List.set_cons_succ])))
      refine plan_run rfl ?_ (fun K hK => ?_)
      focus (rfl)
      refine op_copy_rowK (.tmp 73) (.tmp 76) 25 25 rfl 81 2 g ((i + 1) * 2) _ _ ⟨g, i * 2, none⟩ _ _ cur 81 (xs.drop (i * 2)) (n - i) rfl rfl Tryz.underlying25 (by rw [q1]; simp [q3]) H2.out.2.1 ?_ ?_ ?_ ?_ (fun u hu => H1.out.1 u (List.mem_of_mem_drop hu)) ?_
      · simp only [Nat.min_def]
        split <;> omega
      · rw [List.length_drop, hxl, ← Nat.sub_mul]
      · intro j u hj
        rw [List.getElem?_drop, ← HH.out.2.2, List.getElem?_take] at hj
        split at hj
        · rw [Addr.add_lit]
          have := (cells_at H2.out.2.1 (i * 2 + j) u (by simpa using hj)).1
          simpa using this
        · cases hj
      · rw [List.length_drop, hxl, HH.out.2.1]
        omega
      have hx2 := Lib.hid (setRow_heap W1 g cur (splice cur.toList ((i + 1) * 2) (xs.drop (i * 2))).toArray 81 (0, 0) H2.out.2.1)
      have hc2 := chg_setRow W1 g (splice cur.toList ((i + 1) * 2) (xs.drop (i * 2))).toArray
      have H3 := Lib.hid (And.intro ((chg_of_below H2.out.1 (fun k => k = g)).trans hc2) (And.intro hx2.out (hc2.heap H2.out.2.2 hgv)))
      refine hK.out _ _ (trivial) ?_
      clear hK K
      (try simp only [Act.put, List.setIfInBounds_toArray, List.set_cons_zero, List.set_cons_succ])
      generalize W1.setRow g (splice cur.toList ((i + 1) * 2) (xs.drop (i * 2))).toArray = W2 at *
      clear H2 hx2 hc2 hS
      refine plan_done ?_
      go_wp2_with (with_reducible refine stop_op (o := ⟨_, .call { callee := .builtin .copy, args := #[.tmp 80, .tmp 81], argTypes := #[25, 25] }, _, _, _, _⟩) ?_)
      refine Lib.hid ?_
      refine wpList_plain rfl fun K hK => ?_
      refine op_copy_rowK (o := ⟨_, _, _, _, _, _⟩) (.tmp 80) (.tmp 81) 25 25 rfl 81 2 g (i * 2) _ _ ⟨vb, 0, none⟩ _ _ (splice cur.toList ((i + 1) * 2) (xs.drop (i * 2))).toArray 81 news 1 rfl rfl Tryz.underlying25 (by rw [q1]; simp [q3]) H3.out.2.1 ?_ (by rw [hl]) (fun j u hj => ?_) ?_ H1.out.2 ?_
      · simp only [Nat.min_def]
        split <;> omega
      · rw [Addr.add_lit, Nat.zero_add]
        exact (cells_at H3.out.2.2 j u (by simpa using hj)).1
      · have h1 : (xs.drop (i * 2)).length = (n - i) * 2 := by rw [List.length_drop, hxl, ← Nat.sub_mul]
        have h2 := length_splice cur.toList ((i + 1) * 2) (xs.drop (i * 2)) (by rw [h1, Array.length_toList (xs := cur), HH.out.2.1]; omega)
        rw [List.size_toArray, h2, Array.length_toList (xs := cur), HH.out.2.1, hl]
        omega
      have h1 : (xs.drop (i * 2)).length = (n - i) * 2 := by rw [List.length_drop, hxl, ← Nat.sub_mul]
      have h2 := length_splice cur.toList ((i + 1) * 2) (xs.drop (i * 2)) (by rw [h1, Array.length_toList (xs := cur), HH.out.2.1]; omega)
      have hx4 := setRow_heap W2 g _ (splice (splice cur.toList ((i + 1) * 2) (xs.drop (i * 2))) (i * 2) news).toArray 81 (0, 0) H3.out.2.1
      have hc4 := H3.out.1.trans (chg_setRow W2 g (splice (splice cur.toList ((i + 1) * 2) (xs.drop (i * 2))) (i * 2) news).toArray)
      have HF := Lib.hid (And.intro hx4 hc4)
      have HL := Lib.hid h2
      simp only [List.toList_toArray] at *
      generalize W2.setRow g (splice (splice cur.toList ((i + 1) * 2) (xs.drop (i * 2))) (i * 2) news).toArray = W3 at *
      clear hx4 hc4 H3 h1 h2
      refine hK _ _ ?_
      go_wp2_with fail
      go_ret
      have h1 : (xs.drop (i * 2)).length = (n - i) * 2 := by rw [List.length_drop, hxl, ← Nat.sub_mul]
      refine ⟨_, rfl, ⟨?_, .inr ⟨g, c, _, rfl, hg, HF.out.1, hroom, by unfold maxLen; omega, ?_, ?_⟩⟩, HF.out.2.mono fun k _ e => by rw [show k = g from e]; rfl⟩
      · rw [ins_len, hxl, hl]
        omega
      · rw [List.size_toArray, length_splice _ _ _ (by rw [HL.out, Array.length_toList (xs := cur), HH.out.2.1, hl]; omega), HL.out, Array.length_toList (xs := cur), HH.out.2.1]
      · have hp := HH.out.2.2
        rw [← hxl] at hp
        have := splice_room (news := news) (o := i * 2) (s := 2) hp (by omega) hl (by rw [Array.length_toList (xs := cur), HH.out.2.1, hxl]; omega)
        rw [hxl] at this
        rw [List.toList_toArray, show (n + 1) * 2 = n * 2 + 2 by omega]
        simpa [Nat.add_mul] using this
end Go.Proofs.YtemgnljegbaobaaGreatDoor
