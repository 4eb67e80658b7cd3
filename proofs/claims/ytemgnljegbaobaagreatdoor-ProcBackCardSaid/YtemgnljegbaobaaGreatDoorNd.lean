/- frame.Push. Conditions: the frames read, their rows are not too long. -/
import Derived.Test.YtemgnljegbaobaaGreatDoorNc
namespace Go.Proofs.YtemgnljegbaobaaGreatDoor
open Go.ChangeShapes Go.WideShapes Go.ChangeAt Go.RowKit
set_option linter.unusedVariables false
set_option linter.unusedSimpArgs false
set_option maxRecDepth 100000
theorem exec_load_row {P : Program} {op : Oper} {a : Act} {w : World} (ty : TypeId) (x : Operand) (ho : op.op = .load ty x) (b : Nat) (hx : a.eval x = .pointer (some ⟨b, 0, none⟩)) (cs : Array Value) (t : TypeId) (fr : Nat × Nat) (d : TypeDesc)
    (hg : w.heap[b]? = some (.cells cs t fr)) (hu : P.underlying ty = some d) (hd : d.isRow = true) (hi : (P.info? ty).map (·.size) = some cs.size) : (execOp a.eval op).run P w = .ok (.value (.agg cs)) w := by
  have hr : w.rangeAt b 0 cs.toList := fun j v hj => by
    rw [Nat.zero_add]
    simpa [World.cell?, hg] using hj
  have := run_loadVar_mid (P := P) w b 0 ty cs.toList d hr hu hd (by simpa using hi)
  unfold execOp
  simp only [ho, hx, Instr.loadAt, Instr.sureAddr, Sem.run_bind, Sem.run_pure, Result.andThen_ok, this]
/-- a part of unknown cells put into a row's cells -/
theorem fold_list : ∀ (l : List Value) (k : Nat) (z : Array Value), k + l.length = z.size → (l.zipIdx k).foldl (fun (a : Array Value) x => a.setIfInBounds x.2 x.1) z = (z.toList.take k ++ l).toArray
  | [], k, z, h => by
    simp only [List.zipIdx_nil, List.foldl_nil, List.append_nil]
    rw [List.take_of_length_le (by simp at h ⊢; omega)]
  | v :: r, k, z, h => by
    rw [List.length_cons] at h
    rw [List.zipIdx_cons, List.foldl_cons, fold_list r (k + 1) _ (by simp; omega)]
    have hl : k < z.toList.length := by simp; omega
    have e : (z.setIfInBounds k v).toList.take (k + 1) = z.toList.take k ++ [v] := by
      rw [Array.toList_setIfInBounds, List.take_set, List.take_add_one, List.getElem?_eq_getElem hl, Option.toList_some]
      have hlen : (List.take k z.toList).length = k := by rw [List.length_take]; omega
      rw [List.set_append, if_neg (by omega), hlen, Nat.sub_self]
      rfl
    rw [e, List.append_assoc]
    rfl
theorem fold_zip (z cs : Array Value) (h : z.size = cs.size) : Array.foldl (fun (a : Array Value) x => a.setIfInBounds x.snd x.fst) z (cs.zipIdx 0) 0 cs.size = cs := by
  obtain ⟨l⟩ := cs
  have h2 := fold_list l 0 z (by simpa using h.symm)
  have h3 : (l.toArray.zipIdx 0).size = l.length := by simp
  simp only [List.size_toArray] at *
  rw [← h3, ← Array.foldl_toList]
  simpa using h2
def BoxS (b : Nat) (cs : Array Value) (t : TypeId) (W : World) : Prop := W.heap[b]? = some (.cells cs t (0, 0))
theorem BoxS.keep {b : Nat} {cs : Array Value} {t : TypeId} {W W' : World} (h : BoxS b cs t W) (hb : Below W.heap.size W W') : BoxS b cs t W' := keep_heap h hb
def PushP (w : World) (L : List Fm) (f : Fm) (e : Ending) (w' : World) : Prop :=
  Below w.heap.size w w' ∧ ((64 ≤ L.length ∧ e = .returned (.tuple #[.slice none 0 0, .int .i64 11])) ∨ (L.length < 64 ∧ ∃ v' L', e = .returned (.tuple #[v', .int .i64 0]) ∧ St w' v' L' ∧ Cp (L ++ [f]) L' ∧ (∀ k, v'.ownBlock = some k → w.heap.size ≤ k) ∧ ∀ g ∈ L', ∀ k, k < w.heap.size → FrN k g.cs))
set_option maxHeartbeats 8000000 in
theorem push_any (w : World) (v : Value) (L : List Fm) (f : Fm) (h : St w v L) (hf : FrX w f.cs f.X) (hn : L.length ≤ 10000) (hX : ∀ g ∈ L, g.X.ok) (hY : f.X.ok) : Calls Tryz.prog 82 #[v, .agg f.cs] w (PushP w L f) := by
  obtain ⟨ao, c, rfl, hc1, hc2⟩ := h.row.slice
  have hb := (Below.refl w.heap.size w).alloc (Nat.le_refl _) (.cells f.cs 65)
  have hx := heap_new w (.cells f.cs 65)
  have HB := Lib.hid hb
  have HX := Lib.hid (show BoxS w.heap.size f.cs 65 (w.alloc (.cells f.cs 65)) from hx)
  have HL := Lib.hid (h.keep hb)
  have HF := Lib.hid (hf.keep hb)
  clear h hf hb hx
  go_enter Tryz.func82, Tryz.ntmps82
  by_cases h64 : 64 ≤ L.length
  · have hd : decide ((64 : Int) ≤ (L.length : Int)) = true := decide_eq_true (by omega)
    have HH := Lib.hid h64
    clear h64
    go_wp2_with fail
    go_ret2
    exact ⟨HB.out, .inl ⟨HH.out, rfl⟩⟩
  · have hd : decide ((64 : Int) ≤ (L.length : Int)) = false := decide_eq_false (by omega)
    have HH := Lib.hid h64
    clear h64
    go_wp2_with fail
    generalize w.alloc (.cells f.cs 65) = W0 at *
    have hd := (Below.refl W0.heap.size W0).drew
    have hS : BoxS w.heap.size f.cs 65 W0.drew := HX.out.keep hd
    have HL1 := Lib.hid (HL.out.keep hd)
    have HF1 := Lib.hid (HF.out.keep hd)
    have HB1 := Lib.hid (HB.out.trans (hd.mono HB.out.size))
    clear hd HX HL HF HB
    refine region_plan (BoxS w.heap.size f.cs 65) [(0, 0), (2, 0), (1, 1), (3, 1), (4, 1), (5, 1), (6, 0), (7, 0)] (by kernel_rfl) (by kernel_rfl) (by kernel_rfl) hS ?_
    generalize W0.drew = W1 at *
    have HxW : Hid (w.heap.size < W1.heap.size) := Lib.hid (heap_lt hS)
    iterate 1 (first | (refine plan_skip rfl ?_ ?_; (focus (rfl)); (try simp only [Act.put, List.setIfInBounds_toArray, List.set_cons_zero, List.set_cons_succ])) | (refine plan_take (v := ?_) rfl ?_ (fun w hSw => ?_) ?_; rotate_left; (focus (rfl)); (focus (unfold BoxS at hSw; (go_simp <;> with_reducible rfl))); (try simp only [Act.put, List.setIfInBounds_toArray, List.set_cons_zero, List.set_cons_succ])))
    refine plan_take rfl ?_ (fun wS hSw => exec_load_row 65 (.tmp 3) rfl w.heap.size rfl f.cs 65 (0, 0) _ hSw Tryz.underlying65 rfl (infoFR HF1.out.size)) ?_
    focus (rfl)
    (try simp only [Act.put, List.setIfInBounds_toArray, List.set_cons_zero, List.set_cons_succ])
    refine plan_run rfl ?_ (fun K hK => ?_)
    focus (rfl)
    go_simp
    refine (stack_any _ _ _ HL1.out hn hX).mono ?_
    rintro e W2 ⟨v2, L2, rfl, o2, c2, f2, hb2⟩
    obtain ⟨a2, k2, rfl⟩ := own_slice o2
    have hS2 := hS.keep hb2
    have H2 := Lib.hid (And.intro o2 (And.intro c2 f2))
    refine hK.out _ _ hS2 ?_
    clear hK K 
    (try simp only [Act.put, List.setIfInBounds_toArray, List.set_cons_zero, List.set_cons_succ])
    clear o2 c2 f2 hS
    refine plan_run rfl ?_ (fun K hK => ?_)
    focus (rfl)
    go_simp
    refine (own_any _ _ _ (HF1.out.keep hb2) hY).mono ?_
    rintro e W3 ⟨cs', rfl, q1, q2, hb3, q4⟩
    have hS3 := hS2.keep hb3
    have H3 := Lib.hid (And.intro q1 (And.intro q2 (And.intro hb3 q4)))
    refine hK.out _ _ hS3 ?_
    clear hK K 
    (try simp only [Act.put, List.setIfInBounds_toArray, List.set_cons_zero, List.set_cons_succ])
    clear q1 q2 q4 hS2 hb3
    refine plan_run rfl ?_ (fun K hK => ?_)
    focus (rfl)
    go_simp
    rw [if_neg (by have := H3.out.1.size; simp [this])]
    rw [fold_zip _ _ (by rw [H3.out.1.size]; rfl)]
    go_simp
    have hba := (Below.refl W3.heap.size W3).alloc (Nat.le_refl _) (.cells cs' 65)
    have hna := heap_new W3 (.cells cs' 65)
    have hsa : (W3.alloc (.cells cs' 65)).heap.size = W3.heap.size + 1 := by simp
    have hSa := hS3.keep hba
    refine hK.out _ _ (hSa) ?_
    clear hK K
    (try simp only [Act.put, List.setIfInBounds_toArray, List.set_cons_zero, List.set_cons_succ])
    obtain ⟨q1, q2, hb3, q4⟩ := H3.out
    obtain ⟨o2, c2, f2⟩ := H2.out
    have hxW := HxW.out
    have lt2 : ∀ k, (Value.slice a2 L.length k2).ownBlock = some k → k < W2.heap.size := own_lt o2 (Nat.le_refl _)
    have hb23 := hb3.trans (hba.mono hb3.size)
    have o2' := own_keep o2 hb23
    have hB := HB1.out.trans ((hb2.trans (hb23.mono hb2.size)).mono HB1.out.size)
    have hsz1 := hb2.size
    have hsz2 := hb3.size
    generalize W3.alloc (.cells cs' 65) = Wa at *
    obtain ⟨i0, z0, i1, i2, i3, i4, i5⟩ := info_of (P := Tryz.prog) (e := 65) 35 (by kernel_rfl)
    have h64' := HH.out
    refine plan_run rfl ?_ (fun K hK => ?_)
    focus (rfl)
    refine op_append_own2 (.tmp 10) (.tmp 13) 22 rfl W1.heap.size 65 i0 z0 35 i0.bytes Tryz.underlying22 i1 i2 i3 rfl i5 (by decide) (.slice a2 L.length k2) L.length (frs L2) rfl o2' ⟨W3.heap.size, 0, none⟩ 1 1 cs'.toList rfl (by simp [q1.size]) (fun j u hj => by
      rw [Addr.add_lit, Nat.zero_add]
      exact (cells_at hna j u (by simpa using hj)).1) (fun u hu => by
      have := q1.one
      rw [Array.all_eq_true_iff_forall_mem] at this
      exact this u (by simpa using hu)) (by unfold maxLen; omega) (le_bytes (by omega) i4) (by omega) ?_
    intro v' Wn hown hg hwh
    obtain ⟨uo, uc, rfl⟩ := own_slice hown
    have hcg := chg_grown hg
    have hSn : BoxS w.heap.size f.cs 65 Wn := hcg.heap hSa (fun e => by have := own_base o2 _ e.symm; omega)
    refine hK.out _ _ (hSn) ?_
    clear hK K
    (try simp only [Act.put, List.setIfInBounds_toArray, List.set_cons_zero, List.set_cons_succ])
    have hBn := hB.trans (hcg.below (B := w.heap.size) hB.size (fun k e => by have := own_base o2 _ e.symm; omega))
    have hfr : ∀ g ∈ L2 ++ [(⟨cs', f.X⟩ : Fm)], FrX Wn g.cs g.X := by
      intro g hg'
      rcases List.mem_append.1 hg' with hg' | hg'
      · obtain ⟨h1, h2⟩ := f2 g hg'
        exact (h1.keep hb23).chg hcg (fun k e => h2 k (.inr e.symm))
      · obtain rfl := List.mem_singleton.1 hg'
        exact (q1.keep hba).chg hcg (fun k e => q4 k (lt2 k e.symm))
    have hst : St Wn (.slice uo (L.length + 1) uc) (L2 ++ [⟨cs', f.X⟩]) := by
      refine ⟨?_, hfr⟩
      rw [List.length_append, c2.1, frs_snoc]
      refine Rw_own hown fun u hu => ?_
      rw [← frs_snoc L2 ⟨cs', f.X⟩] at hu
      simp only [frs, List.mem_flatMap] at hu
      obtain ⟨g, hg1, hg2⟩ := hu
      have := (hfr g hg1).one
      rw [Array.all_eq_true_iff_forall_mem] at this
      exact this u (by simpa using hg2)
    have hap : ∀ g ∈ L2 ++ [(⟨cs', f.X⟩ : Fm)], ∀ k, k < w.heap.size → FrN k g.cs := by
      intro g hg' k hk
      rcases List.mem_append.1 hg' with hg' | hg'
      · exact (f2 g hg').2 k (.inl (by omega))
      · obtain rfl := List.mem_singleton.1 hg'
        exact q4 k (by omega)
    have hob : ∀ k, (Value.slice uo (L.length + 1) uc).ownBlock = some k → w.heap.size ≤ k := fun k hk => by have := own_base hown k hk; omega
    have HR := Lib.hid (And.intro hBn (And.intro hst (And.intro (c2.snoc (f := f) (f' := ⟨cs', f.X⟩) rfl q2) (And.intro hob hap))))
    clear hap hob hBn hst hfr hcg hown hg hwh hSn hSa hna hba hsa o2 o2' c2 f2 q1 q2 hb3 q4 hb23 hB lt2 hsz1 hsz2
    iterate 2 (first | (refine plan_skip rfl ?_ ?_; (focus (rfl)); (try simp only [Act.put, List.setIfInBounds_toArray, List.set_cons_zero, List.set_cons_succ])) | (refine plan_take (v := ?_) rfl ?_ (fun w hSw => ?_) ?_; rotate_left; (focus (rfl)); (focus (unfold BoxS at hSw; (go_simp <;> with_reducible rfl))); (try simp only [Act.put, List.setIfInBounds_toArray, List.set_cons_zero, List.set_cons_succ])))
    refine plan_done ?_
    go_wp2_with fail
    go_ret2
    exact ⟨HR.out.1, .inr ⟨by omega, _, _, rfl, HR.out.2.1, HR.out.2.2⟩⟩
end Go.Proofs.YtemgnljegbaobaaGreatDoor
