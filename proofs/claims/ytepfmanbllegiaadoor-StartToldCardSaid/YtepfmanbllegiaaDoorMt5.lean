/- append onto a row that is full; rows that a function owns, as terms. -/
/- effects; the unit that is under way; its effect. -/
/- start.atom, a record's pid as a term, start.tuple. Conditions: what is handed over reads; the letters stand. -/
/- gen.Reply, frame.Reason: some term outside of M. Conditions: what is handed over reads; the letters stand. -/
import Derived.Test.YtepfmanbllegiaaDoorMt1
import Derived.Test.YtepfmanbllegiaaDoorMt4
import Derived.Test.YtepfmanbllegiaaDoorMt2
namespace Go.Proofs.YtepfmanbllegiaaDoor
open Go.ChangeShapes Go.WideShapes Go.ChangeAt Go.RowKit
set_option linter.unusedVariables false
set_option maxRecDepth 100000
theorem wpList_append_full {P : Program} {ops : Array Oper} {rest : List Oper} {o : Oper} {a : Act} {w : World} {Q : Exit → Act → World → Prop} (hgd : o.guard = none) (s x : Operand) (t : TypeId)
    (ho : o.op = .call { callee := .builtin .append, args := #[s, x], argTypes := #[t, t] }) (e : TypeId) (i : TypeInfo) (z : Value) (size bytes : Nat) (ht : P.underlying t = some (.slice e)) (hi : P.info? e = some i) (hz : i.zero = some z)
    (hsize : i.size = size) (hby : i.bytes = bytes) (hzs : z.cells.size = size)
    (b : Addr) (n : Nat) (olds : List Value) (hs : a.eval s = .slice (some b) n n) (hlo : olds.length = n * size) (holds : ∀ j v, olds[j]? = some v → w.cell? (b.add j) = some v)
    (ad : Addr) (m c : Nat) (news : List Value) (hx : a.eval x = .slice (some ad) m c) (hl : news.length = m * size) (hnews : ∀ j v, news[j]? = some v → w.cell? (ad.add j) = some v)
    (hm : 0 < m) (h63 : n + m ≤ 1000000) (hb1 : bytes ≤ 1000)
    (h : ∀ v' w', w'.ownsRow w.heap.size e size v' (n + m) (olds ++ news) → Below w.heap.size w w' → wpList P ops Q rest (a.put o.dst v') w') : wpList P ops Q (o :: rest) a w := by
  refine wpList_plain hgd fun K hK => ?_
  subst hsize
  subst hby
  have hbytes : (n + m) * i.bytes ≤ 140737488355328 := Nat.le_trans (Nat.mul_le_mul h63 hb1) (by decide)
  have hr := run_append_grow (P := P) w t o.type e i z ht hi hz b n n olds hlo holds ad m c news hl hnews (by omega) (by omega) (growslice_fits (by omega) hbytes)
  have hge := grownCap_ge w (n + m) n e
  have hcm : grownCap w (n + m) n e ≤ maxLen := grownCap_le_maxLen w (n + m) n e (by simp only [maxLen]; omega)
  have hlen : (olds ++ news).length = (n + m) * i.size := by rw [List.length_append, hlo, hl, Nat.add_mul]
  have hown : (w.drew.alloc (.cells (olds.toArray ++ news.toArray ++ Builtin.zeroCells z.cells (grownCap w (n + m) n e - (n + m))) e)).ownsRow w.heap.size e i.size
      (.slice (some ⟨w.heap.size, 0, none⟩) (n + m) (grownCap w (n + m) n e)) (n + m) (olds ++ news) := by
    refine ⟨hlen, .inr ⟨w.heap.size, _, _, rfl, Nat.le_refl _, heap_alloc_new w.drew _, hge, hcm, ?_, ?_⟩⟩
    · simp only [Array.size_append, List.size_toArray, size_zeroCells, hzs, hlo, hl, ← Nat.add_mul]
      congr 1
      omega
    · simp only [Array.toList_append, List.append_assoc]
      rw [← List.append_assoc, ← hlen]
      exact List.take_left
  have hb : Below w.heap.size w (w.drew.alloc (.cells (olds.toArray ++ news.toArray ++ Builtin.zeroCells z.cells (grownCap w (n + m) n e - (n + m))) e)) := (Below.refl _ _).drew.alloc (Nat.le_refl _) _
  unfold Oper.wp execOp
  simp only [ho, resolve, invoke, builtin, Sem.run_bind, Sem.run_pure, Result.andThen_ok, List.map_toArray, List.map_cons, List.map_nil, hs, hx, hr]
  exact hK _ _ (h _ _ hown hb)
/-- an owned row of terms -/
theorem tes_own (M : Nat → Prop) (w : World) (base : Nat) (v : Value) (E : List TE) (n : Nat) (hn : n = E.length) (hown : w.ownsRow base 27 5 v n (tcs E)) (hM : ∀ k, M k → k < base) (hE : ∀ x ∈ E, TeOk M w x) : TesOk M w v E := by
  subst hn
  refine ⟨?_, hE⟩
  rcases hown.2 with ⟨rfl, e⟩ | ⟨g, c, cur, rfl, hb, hg, h1, h2, h3, h4⟩
  · have := List.length_eq_zero_iff.1 e
    subst this
    exact ⟨none, 0, rfl, Nat.le_refl _, by omega, .inl rfl⟩
  · refine ⟨some ⟨g, 0, none⟩, c, rfl, h1, by simp only [maxLen] at h2; omega, .inr ⟨g, 0, rfl, fun hm => by have := hM g hm; omega, fun j u hj => ?_⟩⟩
    rw [Nat.zero_add]
    refine (cells_at hg j u ?_).1
    have hj2 : j < (tcs E).length := (List.getElem?_eq_some_iff.1 hj).1
    rw [← h4, List.getElem?_take] at hj
    split at hj
    · rw [← Array.getElem?_toList]
      exact hj
    · cases hj
end Go.Proofs.YtepfmanbllegiaaDoor
namespace Go.Proofs.YtepfmanbllegiaaDoor
open Go.ChangeShapes Go.WideShapes Go.ChangeAt Go.RowKit
set_option linter.unusedVariables false
set_option linter.unusedSimpArgs false
set_option maxRecDepth 100000
def slZ : Sl := ⟨none, 0, 0⟩
/-- a frame of nothing -/
def faZ : Fa := ⟨0, 0, 0, 0, slZ, slZ, slZ, slZ⟩
def mmZ : Mm := ⟨0, 0, 0, 0, 0, numT 0 0, numT 0 0, numT 0 0, slZ, 0, 0, 0, slZ, slZ, slZ⟩
def chZ : Ch := ⟨numT 0 0, 0, 0, 0, ⟨#[]⟩, ⟨#[]⟩, none, 0, 0, none, 0, 0⟩
/-- an effect -/
structure Ef where
  kd : Int
  rc : Int
  T : TE
  C : Ch
  fa : Fa
  fm : Mm
def efL (x : Ef) : List Value := [.int .i8 x.kd, .int .i64 x.rc, .int .i64 0, .int .i8 x.T.k, .int .i64 x.T.n, .string x.T.s, .string x.T.u, .slice x.T.ao x.T.l.length x.T.cap, .int .i8 0, .int .i64 0, .string ⟨#[]⟩, .string ⟨#[]⟩, .slice none 0 0,
  .int .i8 x.C.id.k, .int .i64 x.C.id.n, .string x.C.id.s, .string x.C.id.u, .slice x.C.id.ao x.C.id.l.length x.C.id.cap, .int .i8 x.C.ki, .int .i8 x.C.re, .int .i64 x.C.sh, .string x.C.m, .string x.C.f, .slice x.C.ao x.C.an x.C.ac, .slice x.C.so x.C.sn x.C.sc, .int .i8 0] ++ flL x.fa x.fm
theorem efL_len (x : Ef) : (efL x).length = 61 := rfl
theorem efL_one (x : Ef) : ∀ v ∈ efL x, v.oneCell' = true := by
  intro v hv
  simp only [efL, flL, List.cons_append, List.nil_append, List.mem_cons, List.not_mem_nil, or_false] at hv
  rcases hv with rfl | rfl | rfl | rfl | rfl | rfl | rfl | rfl | rfl | rfl | rfl | rfl | rfl | rfl | rfl | rfl | rfl | rfl | rfl | rfl | rfl | rfl | rfl | rfl | rfl | rfl | rfl | rfl | rfl | rfl | rfl | rfl | rfl | rfl | rfl | rfl | rfl | rfl | rfl | rfl | rfl | rfl | rfl | rfl | rfl | rfl | rfl | rfl | rfl | rfl | rfl | rfl | rfl | rfl | rfl | rfl | rfl | rfl | rfl | rfl | rfl <;> rfl
def efs (E : List Ef) : List Value := E.flatMap efL
theorem efs_len (E : List Ef) : (efs E).length = E.length * 61 := by
  induction E with
  | nil => rfl
  | cons x E ih =>
    have e : efs (x :: E) = efL x ++ efs E := rfl
    rw [e, List.length_append, ih, efL_len, List.length_cons]
    omega
theorem infoEF {cs : Array Value} (h : cs.size = 61) : (Tryd.prog.info? 51).map (·.size) = some cs.size := by
  have : (Tryd.prog.info? 51).map (·.size) = some 61 := by kernel_rfl
  rw [this, h]
theorem infoEF2 : ∃ i z, Tryd.prog.info? 51 = some i ∧ i.zero = some z ∧ i.size = 61 ∧ i.bytes ≤ 1000 ∧ z.cells.size = 61 := by
  have hi : (Tryd.prog.info? 51).map (fun i => (i.zero.map (fun z => z.cells.size), i.size, decide (i.bytes ≤ 1000))) = some (some 61, 61, true) := by kernel_rfl
  cases h : Tryd.prog.info? 51 with
  | none => rw [h] at hi; cases hi
  | some i =>
    rw [h] at hi
    simp only [Option.map_some, Option.some.injEq, Prod.mk.injEq, decide_eq_true_eq] at hi
    obtain ⟨h1, h2, h3⟩ := hi
    cases hz : i.zero with
    | none => rw [hz] at h1; cases h1
    | some z => rw [hz] at h1; exact ⟨i, z, rfl, hz, h2, h3, by simpa using h1⟩
theorem exec_row {P : Program} {op : Oper} {a : Act} {w : World} (ty : TypeId) (x : Operand) (ho : op.op = .load ty x) (b : Nat) (hx : a.eval x = .pointer (some ⟨b, 0, none⟩)) (cs : Array Value) (t : TypeId) (fr : Nat × Nat) (d : TypeDesc)
    (hg : w.heap[b]? = some (.cells cs t fr)) (hu : P.underlying ty = some d) (hd : d.isRow = true) (hi : (P.info? ty).map (·.size) = some cs.size) : (execOp a.eval op).run P w = .ok (.value (.agg cs)) w := by
  have hr : w.rangeAt b 0 cs.toList := fun j v hj => by
    rw [Nat.zero_add]
    simpa [World.cell?, hg] using hj
  have := run_loadVar_mid (P := P) w b 0 ty cs.toList d hr hu hd (by simpa using hi)
  unfold execOp
  simp only [ho, hx, Instr.loadAt, Instr.sureAddr, Sem.run_bind, Sem.run_pure, Result.andThen_ok, this]
theorem foldz : ∀ (l : List Value) (k : Nat) (z : Array Value), k + l.length = z.size → (l.zipIdx k).foldl (fun (a : Array Value) x => a.setIfInBounds x.2 x.1) z = (z.toList.take k ++ l).toArray
  | [], k, z, h => by
    simp only [List.zipIdx_nil, List.foldl_nil, List.append_nil]
    rw [List.take_of_length_le (by simp at h ⊢; omega)]
  | v :: r, k, z, h => by
    rw [List.length_cons] at h
    rw [List.zipIdx_cons, List.foldl_cons, foldz r (k + 1) _ (by simp; omega)]
    have hl : k < z.toList.length := by simp; omega
    have e : (z.setIfInBounds k v).toList.take (k + 1) = z.toList.take k ++ [v] := by
      rw [Array.toList_setIfInBounds, List.take_set, List.take_add_one, List.getElem?_eq_getElem hl, Option.toList_some]
      have hlen : (List.take k z.toList).length = k := by rw [List.length_take]; omega
      rw [List.set_append, if_neg (by omega), hlen, Nat.sub_self]
      rfl
    rw [e, List.append_assoc]
    rfl
theorem foldza (z cs : Array Value) (h : z.size = cs.size) : Array.foldl (fun (a : Array Value) x => a.setIfInBounds x.snd x.fst) z (cs.zipIdx 0) 0 cs.size = cs := by
  obtain ⟨l⟩ := cs
  have h2 := foldz l 0 z (by simpa using h.symm)
  have h3 : (l.toArray.zipIdx 0).size = l.length := by simp
  simp only [List.size_toArray] at *
  rw [← h3, ← Array.foldl_toList]
  simpa using h2
def BoxS (b : Nat) (cs : Array Value) (t : TypeId) (W : World) : Prop := W.heap[b]? = some (.cells cs t (0, 0))
theorem run_build_eff (cs : Array Value) (hs : cs.size = 61) (w : World) : (Instr.buildSlice 47 1 #[(0, .agg cs)]).run Tryd.prog w = .ok (.slice (some ⟨w.heap.size, 0, none⟩) 1 1) (w.alloc (.cells cs 51)) := by
  unfold Instr.buildSlice
  go_simp
  have e := foldza (efL ⟨0, 0, numT 0 0, chZ, faZ, mmZ⟩).toArray cs (by rw [hs]; rfl)
  rw [hs] at e
  exact congrArg (fun c => w.alloc (.cells c 51)) e
theorem op_build_eff {o : Oper} {a : Act} {w : World} {K : Act → World → Prop} {Q : Exit → Act → World → Prop} (x : Operand) (ho : o.op = .buildSlice 47 1 #[(0, x)]) (cs : Array Value) (hx : a.eval x = .agg cs) (hs : cs.size = 61)
    (h : K (a.put o.dst (.slice (some ⟨w.heap.size, 0, none⟩) 1 1)) (w.alloc (.cells cs 51))) : o.wp Tryd.prog a w K Q := by
  unfold Oper.wp execOp
  simp only [ho, List.map_toArray, List.map_cons, List.map_nil, hx, run_build_eff cs hs w, Sem.run_bind, Result.andThen_ok, Sem.run_pure]
  exact h
/-- the unit that is under way: 38 cells, then its effects, then whether it is idle -/
structure UnOk (w : World) (ub : Nat) (cs : List Value) (ev : Value) (bi : Bool) (E : List Ef) : Prop where
  hU : w.heap[ub]? = some (.cells (cs ++ [ev, .bool bi]).toArray 66 (0, 0))
  hcs : cs.length = 38
  hown : w.ownsRow (ub + 1) 51 61 ev E.length (efs E)
theorem UnOk.keep {w w' : World} {ub : Nat} {cs : List Value} {ev : Value} {bi : Bool} {E : List Ef} (h : UnOk w ub cs ev bi E) (hb : Below w.heap.size w w') : UnOk w' ub cs ev bi E :=
  ⟨keep_heap h.hU hb, h.hcs, own_keep h.hown hb⟩
theorem UnOk.cell {w : World} {ub : Nat} {cs : List Value} {ev : Value} {bi : Bool} {E : List Ef} (h : UnOk w ub cs ev bi E) {i : Nat} {v : Value} (hv : cs[i]? = some v) : w.cell? ⟨ub, i, none⟩ = some v := by
  have hi : i < cs.length := (List.getElem?_eq_some_iff.1 hv).1
  refine (cells_at h.hU i v ?_).1
  rw [List.getElem?_toArray, List.getElem?_append_left hi]
  exact hv
theorem UnOk.ev {w : World} {ub : Nat} {cs : List Value} {ev : Value} {bi : Bool} {E : List Ef} (h : UnOk w ub cs ev bi E) : w.cell? ⟨ub, 38, none⟩ = some ev := by
  refine (cells_at h.hU 38 ev ?_).1
  rw [List.getElem?_toArray, List.getElem?_append_right (by rw [h.hcs]; omega), h.hcs]
  rfl
/-- the blocks of a unit -/
def UnB (ub : Nat) (ev : Value) (k : Nat) : Prop := k = ub ∨ ev.ownBlock = some k
def EfS (ub q : Nat) (ev : Value) (cs : Array Value) (W : World) : Prop := W.cell? ⟨ub, 38, none⟩ = some ev ∧ W.heap[q]? = some (.cells cs 51 (0, 0))
def EffP (w : World) (ub : Nat) (cs : List Value) (ev : Value) (bi : Bool) (E : List Ef) (x : Ef) (e : Ending) (w' : World) : Prop :=
  (∃ v, e = .returned v) ∧ ∃ ev', UnOk w' ub cs ev' bi (E ++ [x]) ∧ Chg (UnB ub ev) w w' ∧ (∀ k, k < w.heap.size → ev'.ownBlock = some k → ev.ownBlock = some k)
set_option maxHeartbeats 4000000 in
theorem effect_any (w : World) (ub : Nat) (cs : List Value) (ev : Value) (bi : Bool) (E : List Ef) (x : Ef) (h : UnOk w ub cs ev bi E) (hn : E.length ≤ 1000) : Calls Tryd.prog 30 #[.pointer (some ⟨ub, 0, none⟩), .agg (efL x).toArray] w (EffP w ub cs ev bi E x) := by
  have hlt := heap_lt h.hU
  have hb1 := (Below.refl w.heap.size w).alloc (Nat.le_refl _) (.cells (efL x).toArray 51)
  have n1 := heap_new w (.cells (efL x).toArray 51)
  have HH := Lib.hid (And.intro hb1 (And.intro n1 (And.intro (h.keep hb1) (And.intro hlt h))))
  clear hb1 n1 h
  obtain ⟨eo, ec, rfl⟩ := own_slice HH.out.2.2.1.hown
  go_enter Tryd.func30, Tryd.ntmps30
  go_wp2_with fail
  generalize w.alloc (.cells (efL x).toArray 51) = w1 at *
  have hdr : Below w1.heap.size w1 w1.drew := (Below.refl _ _).drew
  have hu := HH.out.2.2.1.keep hdr
  have hS : EfS ub w.heap.size (.slice eo E.length ec) (efL x).toArray w1.drew := ⟨hu.ev, keep_heap HH.out.2.1 hdr⟩
  have hB := HH.out.1.trans (hdr.mono HH.out.1.size)
  refine region_planZ 10 (EfS ub w.heap.size (.slice eo E.length ec) (efL x).toArray) [(0, 0), (1, 0), (2, 0), (3, 0), (4, 0), (5, 0), (6, 1), (7, 1), (8, 1), (9, 0), (10, 1)] (by kernel_rfl) (by kernel_rfl) (by kernel_rfl) hS ?_
  generalize w1.drew = WD at *
  clear hdr
  iterate 5 (first | (refine planZ_skip rfl ?_ ?_; (focus (rfl)); (try simp only [Act.put, List.setIfInBounds_toArray, List.set_cons_zero, List.set_cons_succ])) | (refine planZ_take (v := ?_) rfl ?_ (fun w hSw => ?_) ?_; rotate_left; (focus (rfl)); (focus (unfold EfS at hSw; (go_simp <;> with_reducible rfl))); (try simp only [Act.put, List.setIfInBounds_toArray, List.set_cons_zero, List.set_cons_succ])))
  refine planZ_take rfl ?_ (fun wS hSw => exec_row 51 (.tmp 3) rfl w.heap.size rfl (efL x).toArray 51 (0, 0) _ hSw.2 Tryd.underlying51 rfl (infoEF (by simp [efL_len]))) ?_
  focus (rfl)
  (try simp only [Act.put, List.setIfInBounds_toArray, List.set_cons_zero, List.set_cons_succ])
  obtain ⟨i0, z0, i1, i2, i3, i4, i5⟩ := infoEF2
  have hb2 := (Below.refl WD.heap.size WD).alloc (Nat.le_refl _) (.cells (efL x).toArray 51)
  have n2 := heap_new WD (.cells (efL x).toArray 51)
  have hu2 := hu.keep hb2
  have hB2 := hB.trans (hb2.mono hB.size)
  have hS2 : EfS ub w.heap.size (.slice eo E.length ec) (efL x).toArray (WD.alloc (.cells (efL x).toArray 51)) := ⟨keep_cell hS.1 hb2, keep_heap hS.2 hb2⟩
  refine planZ_run rfl ?_ (fun K hK => ?_)
  focus (rfl)
  refine op_build_eff (.tmp 9) rfl (efL x).toArray rfl (by simp [efL_len]) ?_
  refine hK.out _ _ (fun _ => hS2) ?_
  clear hK K
  (try simp only [Act.put, List.setIfInBounds_toArray, List.set_cons_zero, List.set_cons_succ])
  have hq2 : w.heap.size < (WD.alloc (.cells (efL x).toArray 51)).heap.size := heap_lt hS2.2
  clear hS hu hB hb2
  generalize WD.alloc (.cells (efL x).toArray 51) = W2 at *
  generalize WD.heap.size = g at *
  refine planZ_run rfl ?_ (fun K hK => ?_)
  focus (rfl)
  refine op_append_any (.tmp 8) (.tmp 10) 47 rfl (ub + 1) 51 i0 z0 61 _ Tryd.underlying47 i1 i2 i3 rfl i5 (by decide) (.slice eo E.length ec) E.length (efs E) rfl hu2.hown (some ⟨g, 0, none⟩) 1 1 (efL x) rfl rfl (fun e => by cases e) (fun ad e j u hj => by
    injection e with e
    subst e
    rw [Addr.add_lit, Nat.zero_add]
    exact (cells_at n2 j u (by rw [List.getElem?_toArray]; exact hj)).1) (efL_one x) (by unfold maxLen; omega) (Nat.le_trans (Nat.mul_le_mul (show E.length + 1 ≤ 1001 by omega) i4) (by decide)) (by have := HH.out.2.2.2.1; omega) ?_
  intro v3 W3 hown3 hg3 hwh3
  obtain ⟨uo, uc, rfl⟩ := own_slice hown3
  have hc3 := chg_grown hg3
  have hub3 : ∀ k, Value.ownBlock (.slice eo E.length ec) = some k → k ≠ ub := fun k hk e => by
    have := own_base hu2.hown k hk
    omega
  have hold : ∀ k, Value.ownBlock (.slice eo E.length ec) = some k → k < w.heap.size := own_lt HH.out.2.2.2.2.hown (Nat.le_refl _)
  have hU3 := hc3.heap hu2.hU (fun e => hub3 _ e.symm rfl)
  have hS3 : EfS ub w.heap.size (.slice eo E.length ec) (efL x).toArray W3 := ⟨hc3.cell hS2.1 (fun e => hub3 _ e.symm rfl), hc3.heap hS2.2 (fun e => Nat.lt_irrefl _ (hold _ e.symm))⟩
  refine hK.out _ _ (fun _ => hS3) ?_
  clear hK K
  (try simp only [Act.put, List.setIfInBounds_toArray, List.set_cons_zero, List.set_cons_succ])
  refine planZ_run rfl ?_ (fun K hK => ?_)
  focus (rfl)
  go_simp
  refine hK.out _ _ (fun _ => hS3) ?_
  clear hK K
  (try simp only [Act.put, List.setIfInBounds_toArray, List.set_cons_zero, List.set_cons_succ])
  iterate 1 (first | (refine planZ_skip rfl ?_ ?_; (focus (rfl)); (try simp only [Act.put, List.setIfInBounds_toArray, List.set_cons_zero, List.set_cons_succ])) | (refine planZ_take (v := ?_) rfl ?_ (fun w hSw => ?_) ?_; rotate_left; (focus (rfl)); (focus (unfold EfS at hSw; (go_simp <;> with_reducible rfl))); (try simp only [Act.put, List.setIfInBounds_toArray, List.set_cons_zero, List.set_cons_succ])))
  have c38 := hS3.1
  have hf38 := (cells_at hU3 38 (.slice eo E.length ec) (by rw [List.getElem?_toArray, List.getElem?_append_right (by rw [hu2.hcs]; omega), hu2.hcs]; rfl)).2
  refine planZ_run rfl ?_ (fun K hK => ?_)
  focus (rfl)
  go_simp
  refine hK.out _ _ (fun h => absurd rfl h) ?_
  clear hK K
  (try simp only [Act.put, List.setIfInBounds_toArray, List.set_cons_zero, List.set_cons_succ])
  refine planZ_done ?_
  have hc4 : Chg (fun k => k = ub) W3 (W3.setCell ⟨ub, 38, none⟩ (.slice uo (E.length + 1) uc)) := chg_set (p := ⟨ub, 38, none⟩) _
  have hnew : ∀ k, Value.ownBlock (.slice uo (E.length + 1) uc) = some k → k ≠ ub := fun k hk e => by
    have := own_base hown3 k hk
    omega
  have hfin : UnOk (W3.setCell ⟨ub, 38, none⟩ (.slice uo (E.length + 1) uc)) ub cs (.slice uo (E.length + 1) uc) bi (E ++ [x]) := by
    refine ⟨?_, hu2.hcs, ?_⟩
    · have := set_at (i := 38) hU3 (.slice uo (E.length + 1) uc)
      rw [this]
      congr 2
      apply Array.ext'
      rw [Array.toList_setIfInBounds]
      show (cs ++ [Value.slice eo E.length ec, .bool bi]).set 38 (.slice uo (E.length + 1) uc) = _
      rw [List.set_append_right _ _ (by rw [hu2.hcs]; omega), hu2.hcs]
      rfl
    · have e1 : (E ++ [x]).length = E.length + 1 := by simp
      have e2 : efs (E ++ [x]) = efs E ++ efL x := by simp [efs]
      rw [e1, e2]
      exact own_chg hown3 hc4 hnew
  have hchg : Chg (UnB ub (.slice eo E.length ec)) w (W3.setCell ⟨ub, 38, none⟩ (.slice uo (E.length + 1) uc)) := by
    have h1 : Chg (UnB ub (.slice eo E.length ec)) w W2 := chg_of_below hB2 _
    refine (h1.trans (hc3.mono fun k _ hk => .inr hk.symm)).trans (hc4.mono fun k _ hk => .inl hk)
  have hnb : ∀ k, k < w.heap.size → Value.ownBlock (.slice uo (E.length + 1) uc) = some k → Value.ownBlock (.slice eo E.length ec) = some k := fun k hk e => by
    rcases hwh3 with h | h
    · rw [← h]; exact e
    · rw [h] at e
      injection e with e
      omega
  have HF := Lib.hid (And.intro hfin (And.intro hchg hnb))
  clear hnb hfin hchg hc4 hnew hown3 hg3 hwh3 hc3 hub3 hold hU3 hS3 c38 hf38 hS2 hu2 hB2 n2
  go_wp2_with fail
  go_end0
  exact ⟨⟨_, rfl⟩, _, HF.out⟩
end Go.Proofs.YtepfmanbllegiaaDoor
namespace Go.Proofs.YtepfmanbllegiaaDoor
open Go.ChangeShapes Go.WideShapes Go.ChangeAt Go.RowKit
set_option linter.unusedVariables false
set_option linter.unusedSimpArgs false
set_option maxRecDepth 100000
theorem atom_x (w : World) (s : ByteArray) : Calls Tryd.prog 32 #[.string s] w fun e w' => e = .returned (.agg #[.int .i8 1, .int .i64 0, .string s, .string ⟨#[]⟩, .slice none 0 0]) ∧ Below w.heap.size w w' := by
  have hb1 := (Below.refl w.heap.size w).alloc (Nat.le_refl _) (.cells #[.int .i8 1, .int .i64 0, .string s, .string ⟨#[]⟩, .slice none 0 0] 27)
  have hx1 := heap_new w (.cells #[.int .i8 1, .int .i64 0, .string s, .string ⟨#[]⟩, .slice none 0 0] 27)
  have HB := Lib.hid (And.intro hb1 hx1)
  clear hb1 hx1
  go_enter Tryd.func32, Tryd.ntmps32
  go_wp2_with fail
  exact ret_cell HB.out.2 rfl Tryd.underlying27 rfl (infoTM' _ rfl) rfl ⟨rfl, HB.out.1⟩
def undS : ByteArray := ⟨#[117, 110, 100, 101, 102, 105, 110, 101, 100]⟩
/-- a record's pid as a term -/
def oneV (p : Int) : TE := if 0 < p then numT 4 p else atomT undS
def OneP (w : World) (p : Int) (e : Ending) (w' : World) : Prop := e = .returned (.agg (oneV p).cells.toArray) ∧ Below w.heap.size w w'
theorem one1_x (w : World) (r : Rc) : Calls Tryd.prog 47 #[.agg #[.int .i8 r.c.id.k, .int .i64 r.c.id.n, .string r.c.id.s, .string r.c.id.u, .slice r.c.id.ao r.c.id.l.length r.c.id.cap, .int .i8 r.c.ki, .int .i8 r.c.re, .int .i64 r.c.sh, .string r.c.m, .string r.c.f, .slice r.c.ao r.c.an r.c.ac, .slice r.c.so r.c.sn r.c.sc, .int .i64 r.pid]] w (OneP w r.pid) := by
  have hb1 := ((Below.refl w.heap.size w).alloc (Nat.le_refl _) (.cells #[.int .i8 r.c.id.k, .int .i64 r.c.id.n, .string r.c.id.s, .string r.c.id.u, .slice r.c.id.ao r.c.id.l.length r.c.id.cap, .int .i8 r.c.ki, .int .i8 r.c.re, .int .i64 r.c.sh, .string r.c.m, .string r.c.f, .slice r.c.ao r.c.an r.c.ac, .slice r.c.so r.c.sn r.c.sc, .int .i64 r.pid] 46)).alloc (by simp) (.cells zT 27)
  have x1 := heap_old (heap_new w (.cells #[.int .i8 r.c.id.k, .int .i64 r.c.id.n, .string r.c.id.s, .string r.c.id.u, .slice r.c.id.ao r.c.id.l.length r.c.id.cap, .int .i8 r.c.ki, .int .i8 r.c.re, .int .i64 r.c.sh, .string r.c.m, .string r.c.f, .slice r.c.ao r.c.an r.c.ac, .slice r.c.so r.c.sn r.c.sc, .int .i64 r.pid] 46)) (.cells zT 27)
  have x2 := heap_new (w.alloc (.cells #[.int .i8 r.c.id.k, .int .i64 r.c.id.n, .string r.c.id.s, .string r.c.id.u, .slice r.c.id.ao r.c.id.l.length r.c.id.cap, .int .i8 r.c.ki, .int .i8 r.c.re, .int .i64 r.c.sh, .string r.c.m, .string r.c.f, .slice r.c.ao r.c.an r.c.ac, .slice r.c.so r.c.sn r.c.sc, .int .i64 r.pid] 46)) (.cells zT 27)
  rw [World.size_alloc] at x2
  have c12 : ((w.alloc (.cells #[.int .i8 r.c.id.k, .int .i64 r.c.id.n, .string r.c.id.s, .string r.c.id.u, .slice r.c.id.ao r.c.id.l.length r.c.id.cap, .int .i8 r.c.ki, .int .i8 r.c.re, .int .i64 r.c.sh, .string r.c.m, .string r.c.f, .slice r.c.ao r.c.an r.c.ac, .slice r.c.so r.c.sn r.c.sc, .int .i64 r.pid] 46)).alloc (.cells zT 27)).cell? ⟨w.heap.size, 12, none⟩ = some (.int .i64 r.pid) := (cells_at x1 12 _ rfl).1
  have HB := Lib.hid (And.intro hb1 (And.intro x1 x2))
  clear hb1 x1 x2
  by_cases hp : 0 < r.pid
  · have hd : decide (0 < r.pid) = true := by simpa using hp
    have HE := Lib.hid (show oneV r.pid = numT 4 r.pid from if_pos hp)
    clear hp
    go_enter Tryd.func47, Tryd.ntmps47
    go_wp2_with (with_reducible refine stop_op (o := ⟨_, .store 27 (.tmp 2) (.tmp 8), _, _, _, _⟩) ?_)
    refine Lib.hid ?_
    refine wpList_store_row (o := ⟨none, _, _, _, _, _⟩) rfl 27 (.tmp 2) (.tmp 8) rfl (w.heap.size + 1) #[.int .i8 4, .int .i64 r.pid, .string ⟨#[]⟩, .string ⟨#[]⟩, .slice none 0 0] rfl rfl 27 zT (HB.out.2.2) (infoTM' _ rfl) rfl (by simp [Value.oneCell']) ?_
    generalize (w.alloc (.cells #[.int .i8 r.c.id.k, .int .i64 r.c.id.n, .string r.c.id.s, .string r.c.id.u, .slice r.c.id.ao r.c.id.l.length r.c.id.cap, .int .i8 r.c.ki, .int .i8 r.c.re, .int .i64 r.c.sh, .string r.c.m, .string r.c.f, .slice r.c.ao r.c.an r.c.ac, .slice r.c.so r.c.sn r.c.sc, .int .i64 r.pid] 46)).alloc (.cells zT 27) = W1 at *
    have HZ := Lib.hid (And.intro (setRow_heap W1 (w.heap.size + 1) zT #[.int .i8 4, .int .i64 r.pid, .string ⟨#[]⟩, .string ⟨#[]⟩, .slice none 0 0] 27 (0, 0) HB.out.2.2) (bel_setRow HB.out.1 HB.out.1.size (Nat.le_succ _) #[.int .i8 4, .int .i64 r.pid, .string ⟨#[]⟩, .string ⟨#[]⟩, .slice none 0 0]))
    generalize W1.setRow (w.heap.size + 1) #[.int .i8 4, .int .i64 r.pid, .string ⟨#[]⟩, .string ⟨#[]⟩, .slice none 0 0] = W4 at *
    go_wp2_with fail
    exact ret_cell HZ.out.1 rfl Tryd.underlying27 rfl (infoTM' _ rfl) rfl ⟨by rw [HE.out]; rfl, HZ.out.2⟩
  · have hd : decide (0 < r.pid) = false := by simpa using hp
    have HE := Lib.hid (show oneV r.pid = atomT undS from if_neg hp)
    clear hp
    go_enter Tryd.func47, Tryd.ntmps47
    go_wp2_with fail
    generalize (w.alloc (.cells #[.int .i8 r.c.id.k, .int .i64 r.c.id.n, .string r.c.id.s, .string r.c.id.u, .slice r.c.id.ao r.c.id.l.length r.c.id.cap, .int .i8 r.c.ki, .int .i8 r.c.re, .int .i64 r.c.sh, .string r.c.m, .string r.c.f, .slice r.c.ao r.c.an r.c.ac, .slice r.c.so r.c.sn r.c.sc, .int .i64 r.pid] 46)).alloc (.cells zT 27) = W1 at *
    refine (atom_x W1 _).mono ?_
    rintro e w2 ⟨rfl, hb2⟩
    have HB2 := Lib.hid (And.intro (HB.out.1.trans (hb2.mono HB.out.1.size)) (keep_heap HB.out.2.2 hb2))
    clear hb2 HB c12
    go_wp2_with (with_reducible refine stop_op (o := ⟨_, .store 27 (.tmp 2) (.tmp 9), _, _, _, _⟩) ?_)
    refine Lib.hid ?_
    refine wpList_store_row (o := ⟨none, _, _, _, _, _⟩) rfl 27 (.tmp 2) (.tmp 9) rfl (w.heap.size + 1) #[.int .i8 1, .int .i64 0, .string ⟨#[117, 110, 100, 101, 102, 105, 110, 101, 100]⟩, .string ⟨#[]⟩, .slice none 0 0] rfl rfl 27 zT (HB2.out.2) (infoTM' _ rfl) rfl (by simp [Value.oneCell']) ?_
    have HZ := Lib.hid (And.intro (setRow_heap w2 (w.heap.size + 1) zT #[.int .i8 1, .int .i64 0, .string ⟨#[117, 110, 100, 101, 102, 105, 110, 101, 100]⟩, .string ⟨#[]⟩, .slice none 0 0] 27 (0, 0) HB2.out.2) (bel_setRow HB2.out.1 HB2.out.1.size (Nat.le_succ _) #[.int .i8 1, .int .i64 0, .string ⟨#[117, 110, 100, 101, 102, 105, 110, 101, 100]⟩, .string ⟨#[]⟩, .slice none 0 0]))
    generalize w2.setRow (w.heap.size + 1) #[.int .i8 1, .int .i64 0, .string ⟨#[117, 110, 100, 101, 102, 105, 110, 101, 100]⟩, .string ⟨#[]⟩, .slice none 0 0] = W4 at *
    go_wp2_with fail
    exact ret_cell HZ.out.1 rfl Tryd.underlying27 rfl (infoTM' _ rfl) rfl ⟨by rw [HE.out]; rfl, HZ.out.2⟩
/-- the last part gives way -/
def limL (L : List Tm) : List Tm := L.dropLast ++ [.mk 1 0 limS ⟨#[]⟩ []]
/-- a tuple whose last part gives way, if it is too great -/
def tupS (L : List Tm) : Tm := if mdN L 1 = 0 then .mk 5 0 ⟨#[]⟩ ⟨#[]⟩ L else if mdN (limL L) 1 = 0 then .mk 5 0 ⟨#[]⟩ ⟨#[]⟩ (limL L) else .mk 0 0 ⟨#[]⟩ ⟨#[]⟩ []
end Go.Proofs.YtepfmanbllegiaaDoor
namespace Go.Proofs.YtepfmanbllegiaaDoor
open Go.ChangeShapes Go.WideShapes Go.ChangeAt Go.RowKit
set_option linter.unusedVariables false
set_option linter.unusedSimpArgs false
set_option maxRecDepth 100000
def sureN (n : Int) : Int := min (max n 0) 576460752303423487
theorem sure_b (n : Int) : 0 ≤ sureN n ∧ sureN n ≤ 576460752303423487 := by
  unfold sureN
  omega
/-- a term outside of M comes back -/
def LsPost (M : Nat → Prop) (w : World) (e : Ending) (w' : World) : Prop := ∃ x : TE, e = .returned (.agg x.cells.toArray) ∧ TeOk M w' x ∧ Below w.heap.size w w'
/-- a term outside of M and a number -/
def LtPost (M : Nat → Prop) (w : World) (e : Ending) (w' : World) : Prop := ∃ (x : TE) (n : Int), e = .returned (.tuple #[.agg x.cells.toArray, .int .i64 n]) ∧ TeOk M w' x ∧ Below w.heap.size w w'
/-- two terms in a new block -/
theorem two_tes (M : Nat → Prop) (w : World) (hM : ∀ k, M k → k < w.heap.size) (x y : TE) (hx : TeOk M w x) (hy : TeOk M w y) :
    TesOk M (w.alloc (.cells (x.cells ++ y.cells).toArray 27)) (.slice (some ⟨w.heap.size, 0, none⟩) 2 2) [x, y] := by
  have hn := heap_new w (.cells (x.cells ++ y.cells).toArray 27)
  have hb := (Below.refl w.heap.size w).alloc (Nat.le_refl _) (.cells (x.cells ++ y.cells).toArray 27)
  refine ⟨⟨some ⟨w.heap.size, 0, none⟩, 2, rfl, Nat.le_refl _, by omega, .inr ⟨w.heap.size, 0, rfl, fun h => Nat.lt_irrefl _ (hM _ h), fun j u hj => ?_⟩⟩, fun z hz => ?_⟩
  · rw [Nat.zero_add]
    refine (cells_at hn j u ?_).1
    rw [List.getElem?_toArray]
    simpa [tcs, TE.cells] using hj
  · simp only [List.mem_cons, List.not_mem_nil, or_false] at hz
    rcases hz with rfl | rfl
    · exact hx.keep hb
    · exact hy.keep hb
theorem tup_lt (M : Nat → Prop) (w : World) (hM : ∀ k, M k → k < w.heap.size) (hc : Cells w 0 letL) (v : Value) (E : List TE) (h : TesOk M w v E) (h1 : ∀ c, v ≠ .slice none 0 c ∨ c = 0) (hl : E.length ≤ 4000) :
    Calls Tryd.prog 46 #[v] w (LtPost M w) := by
  refine (tup_any M w hM hc v E h h1 hl).mono ?_
  rintro e w' ⟨hb, ⟨h2, x, rfl, hx, hx2⟩ | ⟨h2, rfl⟩⟩
  · exact ⟨x, 0, rfl, hx2, hb⟩
  · exact ⟨numT 0 0, _, rfl, numT_ok _ _ _ _ (by omega) (by omega), hb⟩
def BxS (q : Nat) (x : TE) (W : World) : Prop := W.cell? ⟨q, 0, none⟩ = some (.int .i8 x.k) ∧ W.cell? ⟨q, 1, none⟩ = some (.int .i64 x.n) ∧ W.cell? ⟨q, 2, none⟩ = some (.string x.s) ∧ W.cell? ⟨q, 3, none⟩ = some (.string x.u) ∧ W.cell? ⟨q, 4, none⟩ = some (.slice x.ao x.l.length x.cap)
theorem BxS.keep {q : Nat} {x : TE} {W W' : World} (h : BxS q x W) (hb : Below W.heap.size W W') : BxS q x W' := ⟨keep_cell h.1 hb, keep_cell h.2.1 hb, keep_cell h.2.2.1 hb, keep_cell h.2.2.2.1 hb, keep_cell h.2.2.2.2 hb⟩
theorem BxS.of {q : Nat} {x : TE} {W : World} (h : W.heap[q]? = some (.cells x.cells.toArray 27 (0, 0))) : BxS q x W := ⟨(cells_at h 0 _ rfl).1, (cells_at h 1 _ rfl).1, (cells_at h 2 _ rfl).1, (cells_at h 3 _ rfl).1, (cells_at h 4 _ rfl).1⟩
/-- what stands while a function with a term's box and a term's result goes on -/
structure RpW (w0 w : World) (M : Nat → Prop) (x : TE) : Prop where
  hb : Below w0.heap.size w0 w
  h1 : w.heap[w0.heap.size]? = some (.cells x.cells.toArray 27 (0, 0))
  h2 : w.heap[w0.heap.size + 1]? = some (.cells zT 27 (0, 0))
  hl : w0.heap.size + 2 ≤ w.heap.size
theorem RpW.keep {w0 w w' : World} {M : Nat → Prop} {x : TE} (h : RpW w0 w M x) (hb : Below w.heap.size w w') : RpW w0 w' M x := ⟨h.hb.trans (hb.mono h.hb.size), keep_heap h.h1 hb, keep_heap h.h2 hb, Nat.le_trans h.hl hb.size⟩
theorem RpW.start (w : World) (M : Nat → Prop) (x : TE) : RpW w ((w.alloc (.cells x.cells.toArray 27)).alloc (.cells zT 27)) M x := by
  have hb1 := (Below.refl w.heap.size w).alloc (Nat.le_refl _) (.cells x.cells.toArray 27)
  have hb2 := hb1.alloc (by simp) (.cells zT 27)
  have n2 := heap_new (w.alloc (.cells x.cells.toArray 27)) (.cells zT 27)
  rw [World.size_alloc] at n2
  exact ⟨hb2, heap_old (heap_new w _) _, n2, by simp⟩
end Go.Proofs.YtepfmanbllegiaaDoor
