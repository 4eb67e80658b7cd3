/- scan: Scan, walked: its iterator. Conditions: lengths fit; the tables read as laid. -/
import Derived.Test.YtnhhihmifbjkkaaDoorSj
import Derived.Test.YtnhhihmifbjkkaaDoorRf
import Derived.Sort.QuietIn
namespace Go.Proofs.YtnhhihmifbjkkaaDoor
open Go.ChangeShapes Go.WideShapes Go.ChangeAt Go.RowKit Go.Shelf
set_option linter.unusedVariables false
attribute [local go_sem] Oper.semAt_some
abbrev NT := Int × Tv
def tv (t : Tk) : Tv := (t.1, t.2.1, ⟨t.2.2.1.toArray⟩, (t.2.2.2 : Int))
def tkC (t : Tv) : List Value := [.int .i8 t.1, .int .i64 t.2.1, .string t.2.2.1, .int .i64 t.2.2.2]
def encT (x : NT) : Array Value := #[.int .i64 x.1, .agg #[.int .i8 x.2.1, .int .i64 x.2.2.1, .string x.2.2.2.1, .int .i64 x.2.2.2.2]]
def numT : Int → List Tk → List NT
  | _, [] => []
  | i, t :: l => (i, tv t) :: numT (i + 1) l
/-- what Scan comes to -/
def scanR (s : ByteArray) : List Tk × (Int × Nat) := if 8192 < s.size then ([], (3, 0)) else scan s.data.toList 0
def TabsB (w W : World) : Prop := Tabs W ∧ 1 < w.heap.size ∧ 2 < w.heap.size ∧ 0 < w.heap.size
theorem TabsB.keep {w W W' : World} (h : TabsB w W) (hb : Below W.heap.size W W') : TabsB w W' := ⟨h.1.keep hb, h.2⟩
theorem TabsB.chg {S : Nat → Prop} {w W W' : World} (h : TabsB w W) (hc : Chg S W W') (hs : ∀ k, k < w.heap.size → ¬ S k) : TabsB w W' := by
  obtain ⟨⟨h1, h2, h3⟩, h4, h5, h6⟩ := h
  exact ⟨⟨fun j r hj => ⟨hc.cell (h1 j r hj).1 (hs _ h4), hc.cell (h1 j r hj).2 (hs _ h4)⟩, fun j r hj => hc.cell (h2 j r hj) (hs _ h5), fun j r hj => hc.cell (h3 j r hj) (hs _ h6)⟩, h4, h5, h6⟩
theorem TabsB.new {w : World} (h : Tabs w) : TabsB w w := ⟨h, World.block_lt_of_cell? w _ (h.1 0 _ rfl).1, World.block_lt_of_cell? w _ (h.2.1 0 _ rfl), World.block_lt_of_cell? w _ (h.2.2 0 _ rfl)⟩
/-- what stands while it goes over tokens -/
def ScanI (w : World) (s : ByteArray) (pre : List NT) (W : World) : Prop :=
  (∃ ov, W.heap[w.heap.size]? = some (.cells #[ov] 34 (0, 0)) ∧ W.ownsRow (w.heap.size + 4) 25 4 ov pre.length (pre.flatMap fun x => tkC x.2)) ∧
  W.heap[w.heap.size + 1]? = some (.cells #[.int .i64 0, .int .i64 0] 28 (0, 0)) ∧
  W.heap[w.heap.size + 2]? = some (.cells #[.string s] 9 (0, 0)) ∧ W.heap[w.heap.size + 3]? = some (.cells #[.pointer (some ⟨w.heap.size + 1, 0, none⟩)] 46 (0, 0)) ∧ TabsB w W ∧ Below w.heap.size w W
def ScanE (w : World) (s : ByteArray) (xs : List NT) (W : World) : Prop :=
  (∃ ov, W.heap[w.heap.size]? = some (.cells #[ov] 34 (0, 0)) ∧ ((scanR s).2.1 = 0 → W.ownsRow (w.heap.size + 4) 25 4 ov (scanR s).1.length ((scanR s).1.flatMap fun x => tkC (tv x)))) ∧
  W.heap[w.heap.size + 1]? = some (.cells #[.int .i64 (scanR s).2.1, .int .i64 (scanR s).2.2] 28 (0, 0)) ∧ Below w.heap.size w W
theorem all_in (s : ByteArray) (p : Addr) (w : World) : Calls Tryd.prog 23 #[.string s, .pointer (some p)] w fun e w' =>
    e = .returned (.func (.func 28) #[] #[.pointer (some ⟨w.heap.size, 0, none⟩), .pointer (some ⟨w.heap.size + 1, 0, none⟩)]) ∧ w' = (w.alloc (.cells #[.string s] 9)).alloc (.cells #[.pointer (some p)] 46) := by
  go_enter Tryd.func23, Tryd.ntmps23
  go_wp2_with fail
  go_ret
  exact ⟨rfl, rfl⟩
/-- what the iterator asks of the world -/
def ItI (w : World) (s : ByteArray) (W : World) : Prop :=
  W.heap[w.heap.size + 1]? = some (.cells #[.int .i64 0, .int .i64 0] 28 (0, 0)) ∧
  W.heap[w.heap.size + 2]? = some (.cells #[.string s] 9 (0, 0)) ∧ W.heap[w.heap.size + 3]? = some (.cells #[.pointer (some ⟨w.heap.size + 1, 0, none⟩)] 46 (0, 0)) ∧ TabsB w W
theorem ScanI.it {w : World} {s : ByteArray} {pre : List NT} {W : World} (h : ScanI w s pre W) : ItI w s W := ⟨h.2.1, h.2.2.1, h.2.2.2.1, h.2.2.2.2.1⟩
theorem ScanI.keep {w : World} {s : ByteArray} {pre : List NT} {W W' : World} (h : ScanI w s pre W) (hb : Below W.heap.size W W') : ScanI w s pre W' := by
  obtain ⟨⟨ov, h1, h2⟩, h3, h4, h5, h6, h7⟩ := h
  exact ⟨⟨ov, keep_heap h1 hb, own_keep h2 hb⟩, keep_heap h3 hb, keep_heap h4 hb, keep_heap h5 hb, h6.keep hb, h7.trans (hb.mono h7.size)⟩
theorem ScanI.setF {w : World} {s : ByteArray} {pre : List NT} {W : World} (h : ScanI w s pre W) : ScanI w s pre ((W.setCell ⟨w.heap.size + 1, 0, none⟩ (.int .i64 0)).setCell ⟨w.heap.size + 1, 1, none⟩ (.int .i64 0)) := by
  obtain ⟨⟨ov, h1, h2⟩, h3, h4, h5, h6, h7⟩ := h
  have c := (chg_set (w := W) (p := ⟨w.heap.size + 1, 0, none⟩) (.int .i64 0)).trans (chg_set (p := ⟨w.heap.size + 1, 1, none⟩) (.int .i64 0))
  have hb := (h7.setCell (p := ⟨w.heap.size + 1, 0, none⟩) (by simp) (.int .i64 0)).setCell (p := ⟨w.heap.size + 1, 1, none⟩) (by simp) (.int .i64 0)
  exact ⟨⟨ov, c.heap h1 (by simp), own_chg h2 c (fun k hk => by have := own_base h2 k hk; simp; omega)⟩, set_at (i := 1) (set_at (i := 0) h3 _) _, c.heap h4 (by simp), c.heap h5 (by simp), h6.chg c (fun k hk e => by simp at e; omega), hb⟩
theorem keeps_chg {S : Nat → Prop} {B : Nat} {A C : World} (h : Chg S A C) (hs : ∀ k, S k → k < B) : KeepsFrom B A C := ⟨h.size, fun k o hk ho _ => h.heap ho (fun e => by have := hs k e; omega)⟩
theorem numT_len : ∀ (i : Int) (l : List Tk), (numT i l).length = l.length
  | _, [] => rfl
  | i, t :: l => by simp [numT, numT_len (i + 1) l]
theorem numT_cells : ∀ (i : Int) (l : List Tk), ((numT i l).flatMap fun x => tkC x.2) = l.flatMap fun x => tkC (tv x)
  | _, [] => rfl
  | i, t :: l => by simp [numT, numT_cells (i + 1) l]
theorem blankN_end {s : ByteArray} {o : Nat} (ho : o ≤ s.size) (h : o + blk false (s.data.toList.drop o) = s.size) : blankN s (o : Int) = (s.size : Int) := by
  by_cases h1 : s.size ≤ o
  · rw [blankN, if_pos (by omega)]; omega
  · rw [blankN, if_neg (by omega)]
    have : (o : Int).toNat = o := rfl
    rw [this, h]
theorem scan_at_end {s : ByteArray} {o : Nat} (h : o + blk false (s.data.toList.drop o) = s.size) : scan (s.data.toList.drop o) o = ([], (0, 0)) := scan_end (by simp; omega)
set_option maxRecDepth 100000 in
set_option maxHeartbeats 4000000 in
theorem all1_in (l : Nat) (w : World) (s : ByteArray) (hs : s.size ≤ 1099511627776) (J Jx : List NT → World → Prop) (T : World → Prop) (hJ : ∀ pre W, J pre W → ScanI w s pre W)
    (hk : ∀ pre A B, J pre A → KeepsFrom (w.heap.size + 4) A B → ScanI w s pre B → J pre B) (hT : ∀ pre A B, J pre A → KeepsFrom (w.heap.size + 4) A B → T B)
    (hY : ∀ pre x W1, J pre W1 → pre.length < 8193 → YieldAt Fence.wide (8 - 1) Tryd.prog l (encT x) W1 fun e W' => (e = .returned (.bool true) ∧ J (pre ++ [x]) W') ∨ (e = .returned (.bool false) ∧ Jx (pre ++ [x]) W'))
    (W : World) (h0 : J [] W) :
    CallsIn Fence.wide 8 Tryd.prog 28 #[.func (.yield l) #[] #[], .pointer (some ⟨w.heap.size + 2, 0, none⟩), .pointer (some ⟨w.heap.size + 3, 0, none⟩)] W fun e W' => (∃ v, e = .returned v) ∧
      ((∃ xs, ScanE w s xs W' ∧ T W') ∨ (∃ pre : List NT, True ∧ Jx pre W')) := by
  obtain ⟨i1, i2, i3, i4⟩ := (hJ _ _ h0).it
  obtain ⟨a0, b0⟩ := cells_at i1 0 _ rfl
  obtain ⟨a1, b1⟩ := cells_at i1 1 _ rfl
  obtain ⟨a2, b2⟩ := cells_at i2 0 _ rfl
  obtain ⟨a3, b3⟩ := cells_at i3 0 _ rfl
  clear i1 i2 i3
  refine callsIn_of_wp Tryd.func28 rfl trivial ?_ rfl
  simp only [Tryd.ntmps28, List.size_toArray, List.length_cons, List.length_nil, Nat.reduceAdd, Nat.reduceSub, Array.replicate_succ, Array.replicate_zero, List.push_toArray, List.append_toArray, List.nil_append, List.cons_append]
  by_cases hbig : 8192 < s.size
  · have hz := h0
    have h00 := hJ _ _ h0
    gi_wp2
    refine bodyPost_ret (results_none rfl _ _ _) rfl ⟨⟨_, rfl⟩, .inl ⟨[], ?_, ?_⟩⟩
    · obtain ⟨⟨ov, k1, k2⟩, k3, k4, k5, k6, k7⟩ := h00
      have er : scanR s = ([], (3, 0)) := by rw [scanR, if_pos hbig]
      refine ⟨⟨ov, ?_, fun h => by rw [er] at h; cases h⟩, ?_, ?_⟩
      · exact (chg_set (p := ⟨w.heap.size + 1, 1, none⟩) _).heap ((chg_set (p := ⟨w.heap.size + 1, 0, none⟩) _).heap k1 (by simp)) (by simp)
      · rw [er]
        exact set_at (i := 1) (set_at (i := 0) k3 _) _
      · exact (k7.setCell (p := ⟨w.heap.size + 1, 0, none⟩) (by simp) _).setCell (p := ⟨w.heap.size + 1, 1, none⟩) (by simp) _
    · exact hT _ _ _ hz ⟨by simp [World.setCell], fun k o hk ho _ => (((chg_set (p := ⟨w.heap.size + 1, 0, none⟩) _).trans (chg_set (p := ⟨w.heap.size + 1, 1, none⟩) _)).heap ho (by simp; omega))⟩
  · gi_wp2
    gi_loopw [4, 5] (fun nv av wr => ∃ (pre : List NT) (o : Nat), nv = .int .i64 pre.length ∧ av = .int .i64 o ∧ o ≤ s.size ∧ pre.length ≤ o ∧ J pre wr ∧ Hid (numT 0 (scan s.data.toList 0).1 = pre ++ numT pre.length (scan (s.data.toList.drop o) o).1 ∧ (scan s.data.toList 0).2 = (scan (s.data.toList.drop o) o).2))
      (fun _ av _ => s.size - (intOf av).toNat)
    case atStart => exact ⟨[], 0, rfl, rfl, by omega, by simp, h0, Lib.hid ⟨rfl, rfl⟩⟩
    case round =>
      clear a0 b0 a1 b1 a2 b2 a3 b3 h0
      obtain ⟨pre, o, rfl, rfl, ho, hpo, hJp, HS⟩ := hrel
      obtain ⟨i1, i2, i3, i4⟩ := (hJ _ _ hJp).it
      obtain ⟨a0, b0⟩ := cells_at i1 0 _ rfl
      obtain ⟨a1, b1⟩ := cells_at i1 1 _ rfl
      obtain ⟨a2, b2⟩ := cells_at i2 0 _ rfl
      obtain ⟨a3, b3⟩ := cells_at i3 0 _ rfl
      have HB := Lib.hid (blank_any s hs (o : Int))
      clear i1 i2 i3
      have HI := Lib.hid i4
      clear i4
      by_cases hend : o + blk false (s.data.toList.drop o) = s.size
      · have hbl := blankN_end ho hend
        have HE := Lib.hid (scan_at_end hend)
        rw [hbl] at HB
        clear hend hbl
        gi_wp2
        refine wpIn_region_quiet_lit rfl (by kernel_rfl) (by kernel_rfl) ?_
        iterate 2 (gi_big_quiet_step (fail))
        refine BigFrame.wpQuietIn_want (fun _ _ _ _ => trivial) rfl (fun K hK => ?_)
        gi_big_quiet_op
        apply Exists.intro
        refine ⟨fun _ => ?_, ?_⟩
        · exact CallsIn.quiet_of_same (callsIn_wide.2 ((HB.out _).mono fun _ _ h => ⟨h.1, h.2.symm⟩))
        refine hK _ ?_
        clear hK K
        (try simp only [Act.put, List.setIfInBounds_toArray, List.set_cons_zero, List.set_cons_succ])
        repeat (gi_big_quiet_step (fail))
        refine wpQuietIn_nil ?_
        intro _ hw'
        obtain ⟨nq, hw''⟩ := hw'
        subst hw''
        gi_wp2
        go_end0
        refine ⟨⟨_, rfl⟩, .inl ⟨pre, ?_, hT _ _ _ hJp ⟨Nat.le_refl _, fun k o _ h _ => h⟩⟩⟩
        have hI := hJ _ _ hJp
        obtain ⟨⟨ov, k1, k2⟩, k3, k4, k5, k6, k7⟩ := hI
        have h1 := HS.out
        rw [HE.out] at h1
        have er : scanR s = scan s.data.toList 0 := by rw [scanR, if_neg hbig]
        have e2 : pre = numT 0 (scan s.data.toList 0).1 := by have := h1.1; simp [numT] at this; exact this.symm
        have hd := (Below.refl wr.heap.size wr)
        have hdn := below_drewN hd nq
        refine ⟨⟨ov, keep_heap k1 hdn, fun _ => ?_⟩, ?_, below_drewN k7 nq⟩
        · rw [er]
          have := own_keep k2 hdn
          rw [e2, numT_len, numT_cells] at this
          exact this
        · rw [er, h1.2]
          exact keep_heap k3 hdn
      · obtain ⟨b, r, hr⟩ := Rest.mk' ho hend
        have hbl := hr.blank
        have hlt := hr.lt
        have hba := hr.at_
        rw [hbl] at HB
        have HNX := Lib.hid (fun W (h : Tabs W) => next_any s hs (o : Int) W h)
        have hnv : nextV s (o : Int) = nextN s o := by rw [nextV, if_neg (by omega)]; rfl
        have hne : ¬ blk false (s.data.toList.drop o) = (s.data.toList.drop o).length := by simp; omega
        have hdr : (s.data.toList.drop o).drop (blk false (s.data.toList.drop o)) = r.data.toList := by rw [List.drop_drop, ← hba, hr.rest]
        cases hx : lex r.data.toList with
        | inl e =>
          have hE := hnv.trans (nextN_bad hr hx)
          rw [hE] at HNX
          have HE := Lib.hid (scan_bad (o := o) hne (by rw [hdr]; exact hx))
          have HBA := Lib.hid hba
          have hez : (e != 0) = true := by rcases lex_err hx with rfl | rfl <;> rfl
          clear hend hbl hnv hne hdr hx hE hba
          gi_wp2
          refine wpIn_region_quiet_lit rfl (by kernel_rfl) (by kernel_rfl) ?_
          iterate 2 (gi_big_quiet_step (fail))
          refine BigFrame.wpQuietIn_want (fun _ _ _ _ => trivial) rfl (fun K hK => ?_)
          gi_big_quiet_op
          apply Exists.intro
          refine ⟨fun _ => ?_, ?_⟩
          · exact CallsIn.quiet_of_same (callsIn_wide.2 ((HB.out _).mono fun _ _ h => ⟨h.1, h.2.symm⟩))
          refine hK _ ?_
          clear hK K
          (try simp only [Act.put, List.setIfInBounds_toArray, List.set_cons_zero, List.set_cons_succ])
          repeat (gi_big_quiet_step (fail))
          refine wpQuietIn_nil ?_
          intro _ hw'
          obtain ⟨nq, hw''⟩ := hw'
          subst hw''
          gi_wp2
          refine ⟨trivial, (callsIn_wide.2 (HNX.out _ (HI.out.1.keep (below_drewN (Below.refl _ _) nq)))).mono ?_⟩
          rintro e w2 ⟨rfl, hb2⟩
          have hdn := below_drewN (Below.refl wr.heap.size wr) nq
          have hI2 := ((hJ _ _ hJp).keep hdn).keep hb2
          have HC2 := Lib.hid (chg_of_below (hdn.trans (hb2.mono hdn.size)) (fun _ => False))
          have H2 := Lib.hid hI2
          clear a0 b0 a1 b1 a2 b2 a3 b3
          obtain ⟨i1, i2, i3, i4⟩ := hI2.it
          obtain ⟨a0, b0⟩ := cells_at i1 0 _ rfl
          obtain ⟨a1, b1⟩ := cells_at i1 1 _ rfl
          obtain ⟨a2, b2⟩ := cells_at i2 0 _ rfl
          obtain ⟨a3, b3⟩ := cells_at i3 0 _ rfl
          have hsz := heap_lt i3
          have hsz1 : w.heap.size + 1 < w2.heap.size := by omega
          have hsz2 : w.heap.size + 1 < w2.heap.size + 1 := by omega
          have hsz3 : ¬ w.heap.size + 1 = w2.heap.size := by omega
          have hsz4 : ¬ w.heap.size + 1 = w2.heap.size + 1 := by omega
          clear i1 i2 i3 i4 hI2 hb2 hdn
          gi_wp2
          refine ⟨fun f h => (by cases h), ?_⟩
          gi_wp2
          refine bodyPost_ret (results_none rfl _ _ _) rfl ⟨⟨_, rfl⟩, .inl ⟨pre, ?_, ?_⟩⟩
          · obtain ⟨⟨ov, k1, k2⟩, k3, k4, k5, k6, k7⟩ := H2.out
            have er : scanR s = scan s.data.toList 0 := by rw [scanR, if_neg hbig]
            have e2 : (scanR s).2 = (e, b) := by rw [er, HS.out.2, HE.out, ← HBA.out]
            refine ⟨⟨ov, ?_, fun h => ?_⟩, ?_, ?_⟩
            · exact heap_old (heap_old ((chg_set (p := ⟨w.heap.size + 1, 1, none⟩) _).heap ((chg_set (p := ⟨w.heap.size + 1, 0, none⟩) _).heap k1 (by simp)) (by simp)) _) _
            · exfalso
              rw [e2] at h
              simp at hez
              exact hez h
            · rw [e2]
              exact heap_old (heap_old (set_at (i := 1) (set_at (i := 0) k3 _) _) _) _
            · have h8 := (k7.setCell (p := ⟨w.heap.size + 1, 0, none⟩) (by simp) (.int .i64 e)).setCell (p := ⟨w.heap.size + 1, 1, none⟩) (by simp) (.int .i64 b)
              have h9 := h8.alloc h8.size (.cells #[.int .i8 0, .int .i64 0, .string ⟨#[]⟩, .int .i64 0] 25)
              exact h9.alloc h9.size _
          · have hc := HC2.out.mono (T := fun k => k = w.heap.size + 1) (fun k _ h => h.elim)
            exact hT _ _ _ hJp (keeps_chg ((((hc.trans (chg_set (p := ⟨w.heap.size + 1, 0, none⟩) _)).trans (chg_set (p := ⟨w.heap.size + 1, 1, none⟩) _)).trans (chg_alloc _ _ _)).trans (chg_alloc _ _ _)) (fun k h => by omega))
        | inr p =>
          obtain ⟨k, n, t, m⟩ := p
          have hE := hnv.trans (nextN_tok hr hx)
          rw [hE] at HNX
          have HE := Lib.hid (scan_tok (o := o) hne (by rw [hdr]; exact hx))
          have HBA := Lib.hid hba
          have hm := lex_len hx
          have hrs := hr.size
          have hm1 := hm.1
          have hm2 : b + m ≤ s.size := by have := hm.2; simp at this; omega
          clear hend hbl hnv hne hdr hx hE hba hm hrs
          gi_wp2
          refine wpIn_region_quiet_lit rfl (by kernel_rfl) (by kernel_rfl) ?_
          iterate 2 (gi_big_quiet_step (fail))
          refine BigFrame.wpQuietIn_want (fun _ _ _ _ => trivial) rfl (fun K hK => ?_)
          gi_big_quiet_op
          apply Exists.intro
          refine ⟨fun _ => ?_, ?_⟩
          · exact CallsIn.quiet_of_same (callsIn_wide.2 ((HB.out _).mono fun _ _ h => ⟨h.1, h.2.symm⟩))
          refine hK _ ?_
          clear hK K
          (try simp only [Act.put, List.setIfInBounds_toArray, List.set_cons_zero, List.set_cons_succ])
          repeat (gi_big_quiet_step (fail))
          refine wpQuietIn_nil ?_
          intro _ hw'
          obtain ⟨nq, hw''⟩ := hw'
          subst hw''
          gi_wp2
          refine ⟨trivial, (callsIn_wide.2 (HNX.out _ (HI.out.1.keep (below_drewN (Below.refl _ _) nq)))).mono ?_⟩
          rintro e w2 ⟨rfl, hb2⟩
          have hdn := below_drewN (Below.refl wr.heap.size wr) nq
          have hI2 := ((hJ _ _ hJp).keep hdn).keep hb2
          have HC2 := Lib.hid (chg_of_below (hdn.trans (hb2.mono hdn.size)) (fun _ => False))
          have H2 := Lib.hid hI2
          clear a0 b0 a1 b1 a2 b2 a3 b3
          obtain ⟨i1, i2, i3, i4⟩ := hI2.it
          obtain ⟨a0, b0⟩ := cells_at i1 0 _ rfl
          obtain ⟨a1, b1⟩ := cells_at i1 1 _ rfl
          obtain ⟨a2, b2⟩ := cells_at i2 0 _ rfl
          obtain ⟨a3, b3⟩ := cells_at i3 0 _ rfl
          have hsz := heap_lt i3
          have hsz1 : w.heap.size + 1 < w2.heap.size := by omega
          have hsz2 : w.heap.size + 1 < w2.heap.size + 1 := by omega
          have hsz3 : ¬ w.heap.size + 1 = w2.heap.size := by omega
          have hsz4 : ¬ w.heap.size + 1 = w2.heap.size + 1 := by omega
          clear i1 i2 i3 i4 hI2 hb2 hdn
          have h3 := H2.out.setF
          have h4 := h3.keep ((Below.refl _ _).alloc (Nat.le_refl _) (.cells #[.int .i8 k, .int .i64 n, .string ⟨t.toArray⟩, .int .i64 b] 25))
          have h5 := h4.keep ((Below.refl _ _).alloc (Nat.le_refl _) (.cells #[.int .i64 0, .int .i64 0] 28))
          have hc := HC2.out.mono (T := fun k => k = w.heap.size + 1) (fun k _ h => h.elim)
          have hJ5 := hk _ _ _ hJp (keeps_chg ((((hc.trans (chg_set (p := ⟨w.heap.size + 1, 0, none⟩) (.int .i64 0))).trans (chg_set (p := ⟨w.heap.size + 1, 1, none⟩) (.int .i64 0))).trans (chg_alloc _ _ (.cells #[.int .i8 k, .int .i64 n, .string ⟨t.toArray⟩, .int .i64 b] 25))).trans (chg_alloc _ _ (.cells #[.int .i64 0, .int .i64 0] 28))) (fun k h => by omega)) h5
          obtain ⟨fn, tmps, assign, body, hy, hR⟩ := hY _ ((pre.length : Int), (k, n, ⟨t.toArray⟩, (b : Int))) _ hJ5 (by omega)
          dsimp only [encT] at hy
          have HR := Lib.hid hR
          clear h3 h4 h5 hc hJ5 hR
          gi_wp2
          refine HR.out.mono ?_
          rintro e W3 (⟨rfl, hJ3⟩ | ⟨rfl, hJx3⟩)
          · clear hy
            gi_wp2
            refine ⟨⟨pre ++ [((pre.length : Int), (k, n, ⟨t.toArray⟩, (b : Int)))], b + m, by simp, by go_num, hm2, by have := HBA.out; simp; omega, hJ3, Lib.hid ?_⟩, by have := HBA.out; simp [intOf]; omega⟩
            have h1 := HS.out
            rw [HE.out] at h1
            have h2 := HBA.out
            refine ⟨?_, ?_⟩
            · rw [h1.1]
              simp only [numT, List.append_assoc, List.singleton_append, List.length_append, List.length_cons, List.length_nil, List.drop_drop]
              rw [← h2, ← Nat.add_assoc, ← h2]
              rfl
            · rw [h1.2]
              simp only [List.drop_drop]
              rw [← h2, ← Nat.add_assoc, ← h2]
          · clear hy
            gi_wp2
            refine bodyPost_ret (results_none rfl _ _ _) rfl ⟨⟨_, rfl⟩, .inr ⟨_, trivial, hJx3⟩⟩
end Go.Proofs.YtnhhihmifbjkkaaDoor
