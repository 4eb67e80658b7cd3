/- gen.Reply, frame.Reason: some term outside of M. Conditions: what is handed over reads; the letters stand. -/
/- gen.IsCall. Conditions: what is handed over reads; the letters stand. -/
/- frame.Reason: some term outside of M. Conditions: what is handed over reads; the letters stand. -/
/- append onto a row that is full; rows that a function owns, as terms. -/
import Derived.Test.YthpmdeofdlcccaaGreatDoorMs1
namespace Go.Proofs.YthpmdeofdlcccaaGreatDoor
open Go.ChangeShapes Go.WideShapes Go.ChangeAt Go.RowKit
set_option linter.unusedVariables false
set_option linter.unusedSimpArgs false
set_option maxRecDepth 100000
def sureN (n : Int) : Int := min (max n 0) 576460752303423487
theorem sure_any (n : Int) (w : World) : Calls Tryz.prog 104 #[.int .i64 n] w fun e w' => e = .returned (.int .i64 (sureN n)) ∧ w' = w := by
  go_enter Tryz.func104, Tryz.ntmps104
  go_wp2_with fail
  go_ret
  exact ⟨rfl, rfl⟩
theorem number_any (n : Int) (w : World) : Calls Tryz.prog 99 #[.int .i64 n] w fun e w' => e = .returned (.bool (n == sureN n)) ∧ w' = w := by
  have hS := sure_any n
  generalize sureN n = m at *
  go_enter Tryz.func99, Tryz.ntmps99
  go_wp2_with fail
  refine (hS _).mono ?_
  rintro e w1 ⟨rfl, rfl⟩
  go_wp2_with fail
  go_ret
  exact ⟨rfl, rfl⟩
theorem sure_b (n : Int) : 0 ≤ sureN n ∧ sureN n ≤ 576460752303423487 := by
  unfold sureN
  omega
theorem gref_any (n : Int) (w : World) : Calls Tryz.prog 100 #[.int .i64 n] w fun e w' => e = .returned (.agg #[.int .i8 2, .int .i64 (sureN n), .string ⟨#[]⟩, .string ⟨#[]⟩, .slice none 0 0]) ∧ Below w.heap.size w w' := by
  have hb1 := (Below.refl w.heap.size w).alloc (Nat.le_refl _) (.cells #[.int .i8 2, .int .i64 (sureN n), .string ⟨#[]⟩, .string ⟨#[]⟩, .slice none 0 0] 25)
  have hx1 := heap_new w (.cells #[.int .i8 2, .int .i64 (sureN n), .string ⟨#[]⟩, .string ⟨#[]⟩, .slice none 0 0] 25)
  have HB := Lib.hid (And.intro hb1 hx1)
  clear hb1 hx1
  have hS := sure_any n
  generalize sureN n = m at *
  go_enter Tryz.func100, Tryz.ntmps100
  go_wp2_with fail
  refine (hS _).mono ?_
  rintro e w1 ⟨rfl, rfl⟩
  go_wp2_with (with_reducible refine stop_op (o := ⟨_, .store 25 (.tmp 2) (.tmp 5), _, _, _, _⟩) ?_)
  refine Lib.hid ?_
  refine wpList_store_new (o := ⟨none, _, _, _, _, _⟩) rfl 25 (.tmp 2) (.tmp 5) rfl #[.int .i8 2, .int .i64 m, .string ⟨#[]⟩, .string ⟨#[]⟩, .slice none 0 0] rfl rfl (infoTM' _ rfl) rfl (by simp [Value.oneCell']) ?_
  go_wp2_with fail
  exact ret_cell HB.out.2 rfl Tryz.underlying25 rfl (infoTM' _ rfl) rfl ⟨rfl, HB.out.1⟩
/-- a term outside of M comes back -/
def LsPost (M : Nat → Prop) (w : World) (e : Ending) (w' : World) : Prop := ∃ x : TE, e = .returned (.agg x.cells.toArray) ∧ TeOk M w' x ∧ Below w.heap.size w w'
/-- a term outside of M and a number -/
def LtPost (M : Nat → Prop) (w : World) (e : Ending) (w' : World) : Prop := ∃ (x : TE) (n : Int), e = .returned (.tuple #[.agg x.cells.toArray, .int .i64 n]) ∧ TeOk M w' x ∧ Below w.heap.size w w'
/-- two terms in a new block -/
theorem two_tes (M : Nat → Prop) (w : World) (hM : ∀ k, M k → k < w.heap.size) (x y : TE) (hx : TeOk M w x) (hy : TeOk M w y) :
    TesOk M (w.alloc (.cells (x.cells ++ y.cells).toArray 25)) (.slice (some ⟨w.heap.size, 0, none⟩) 2 2) [x, y] := by
  have hn := heap_new w (.cells (x.cells ++ y.cells).toArray 25)
  have hb := (Below.refl w.heap.size w).alloc (Nat.le_refl _) (.cells (x.cells ++ y.cells).toArray 25)
  refine ⟨⟨some ⟨w.heap.size, 0, none⟩, 2, rfl, Nat.le_refl _, by omega, .inr ⟨w.heap.size, 0, rfl, fun h => Nat.lt_irrefl _ (hM _ h), fun j u hj => ?_⟩⟩, fun z hz => ?_⟩
  · rw [Nat.zero_add]
    refine (cells_at hn j u ?_).1
    rw [List.getElem?_toArray]
    simpa [tcs, TE.cells] using hj
  · simp only [List.mem_cons, List.not_mem_nil, or_false] at hz
    rcases hz with rfl | rfl
    · exact hx.keep hb
    · exact hy.keep hb
theorem tup_lt (M : Nat → Prop) (w : World) (hM : ∀ k, M k → k < w.heap.size) (hc : Cells w 0 letL) (v : Value) (E : List TE) (h : TesOk M w v E) (h1 : ∀ c, v ≠ .slice none 0 c ∨ c = 0) (hl : E.length ≤ 4000) :
    Calls Tryz.prog 40 #[v] w (LtPost M w) := by
  refine (tup_any M w hM hc v E h h1 hl).mono ?_
  rintro e w' ⟨hb, ⟨h2, x, rfl, hx, hx2⟩ | ⟨h2, rfl⟩⟩
  · exact ⟨x, 0, rfl, hx2, hb⟩
  · exact ⟨numT 0 0, _, rfl, numT_ok _ _ _ _ (by omega) (by omega), hb⟩
def BxS (q : Nat) (x : TE) (W : World) : Prop := W.cell? ⟨q, 0, none⟩ = some (.int .i8 x.k) ∧ W.cell? ⟨q, 1, none⟩ = some (.int .i64 x.n) ∧ W.cell? ⟨q, 2, none⟩ = some (.string x.s) ∧ W.cell? ⟨q, 3, none⟩ = some (.string x.u) ∧ W.cell? ⟨q, 4, none⟩ = some (.slice x.ao x.l.length x.cap)
theorem BxS.keep {q : Nat} {x : TE} {W W' : World} (h : BxS q x W) (hb : Below W.heap.size W W') : BxS q x W' := ⟨keep_cell h.1 hb, keep_cell h.2.1 hb, keep_cell h.2.2.1 hb, keep_cell h.2.2.2.1 hb, keep_cell h.2.2.2.2 hb⟩
theorem BxS.of {q : Nat} {x : TE} {W : World} (h : W.heap[q]? = some (.cells x.cells.toArray 25 (0, 0))) : BxS q x W := ⟨(cells_at h 0 _ rfl).1, (cells_at h 1 _ rfl).1, (cells_at h 2 _ rfl).1, (cells_at h 3 _ rfl).1, (cells_at h 4 _ rfl).1⟩
/-- what stands while a function with a term's box and a term's result goes on -/
structure RpW (w0 w : World) (M : Nat → Prop) (x : TE) : Prop where
  hb : Below w0.heap.size w0 w
  h1 : w.heap[w0.heap.size]? = some (.cells x.cells.toArray 25 (0, 0))
  h2 : w.heap[w0.heap.size + 1]? = some (.cells zT 25 (0, 0))
  hl : w0.heap.size + 2 ≤ w.heap.size
theorem RpW.keep {w0 w w' : World} {M : Nat → Prop} {x : TE} (h : RpW w0 w M x) (hb : Below w.heap.size w w') : RpW w0 w' M x := ⟨h.hb.trans (hb.mono h.hb.size), keep_heap h.h1 hb, keep_heap h.h2 hb, Nat.le_trans h.hl hb.size⟩
theorem RpW.start (w : World) (M : Nat → Prop) (x : TE) : RpW w ((w.alloc (.cells x.cells.toArray 25)).alloc (.cells zT 25)) M x := by
  have hb1 := (Below.refl w.heap.size w).alloc (Nat.le_refl _) (.cells x.cells.toArray 25)
  have hb2 := hb1.alloc (by simp) (.cells zT 25)
  have n2 := heap_new (w.alloc (.cells x.cells.toArray 25)) (.cells zT 25)
  rw [World.size_alloc] at n2
  exact ⟨hb2, heap_old (heap_new w _) _, n2, by simp⟩
set_option maxHeartbeats 2000000 in
theorem reply_any (M : Nat → Prop) (w : World) (hM : ∀ k, M k → k < w.heap.size) (hc : Cells w 0 letL) (r : Int) (x : TE) (hx : TeOk M w x) : Calls Tryz.prog 91 #[.int .i64 r, .agg x.cells.toArray] w (LtPost M w) := by
  have hR := RpW.start w M x
  have HCK := Lib.hid (check_any _ _ _ _ (keepCells hc hR.hb) (hx.keep hR.hb).tv.choose_spec)
  obtain ⟨x0, x1, x2, x3, x4⟩ := BxS.of hR.h1
  have HR0 := Lib.hid hR
  have HX := Lib.hid (And.intro hx (And.intro hM hc))
  clear hR hx hM hc
  generalize checkN x.t = c at *
  have hN := number_any r
  generalize (r == sureN r) = nb at *
  go_enter Tryz.func91, Tryz.ntmps91
  go_wp2_with fail
  generalize (w.alloc (.cells x.cells.toArray 25)).alloc (.cells zT 25) = w2 at *
  refine HCK.out.mono ?_
  rintro e w3 ⟨rfl, hb3⟩
  have HR := Lib.hid (HR0.out.keep hb3)
  clear hb3 HR0 HCK x0 x1 x2 x3 x4
  by_cases hc0 : c = 0
  · have q1 : (c != 0) = false := by simp [hc0]
    clear hc0
    go_wp2_with fail
    refine (hN _).mono ?_
    rintro e w4 ⟨rfl, rfl⟩
    cases nb
    · skip
      go_wp2_with (with_reducible refine stop_op (o := ⟨_, .store 25 (.tmp 4) (.tmp 14), _, _, _, _⟩) ?_)
      refine Lib.hid ?_
      refine wpList_store_row (o := ⟨none, _, _, _, _, _⟩) rfl 25 (.tmp 4) (.tmp 14) rfl (w.heap.size + 1) #[.int .i8 0, .int .i64 0, .string ⟨#[]⟩, .string ⟨#[]⟩, .slice none 0 0] rfl rfl 25 zT (HR.out.h2) (infoTM' _ rfl) rfl (by simp [Value.oneCell']) ?_
      have HZ := Lib.hid (And.intro (setRow_heap w4 (w.heap.size + 1) zT #[.int .i8 0, .int .i64 0, .string ⟨#[]⟩, .string ⟨#[]⟩, .slice none 0 0] 25 (0, 0) HR.out.h2) (bel_setRow HR.out.hb HR.out.hb.size (Nat.le_succ _) #[.int .i8 0, .int .i64 0, .string ⟨#[]⟩, .string ⟨#[]⟩, .slice none 0 0]))
      generalize w4.setRow (w.heap.size + 1) #[.int .i8 0, .int .i64 0, .string ⟨#[]⟩, .string ⟨#[]⟩, .slice none 0 0] = w5 at *
      clear HR
      go_wp2_with fail
      exact ret_row HZ.out.1 rfl Tryz.underlying25 rfl (infoTM' _ rfl) rfl rfl ⟨numT 0 0, 2, rfl, numT_ok _ _ _ _ (by omega) (by omega), HZ.out.2⟩
    · clear q1
      go_wp2_with fail
      have hS : BxS w.heap.size x (World.drew w4) := (BxS.of HR.out.h1).keep (Below.refl _ _).drew
      have hR := HR.out.keep (Below.refl w4.heap.size w4).drew
      refine region_plan (BxS w.heap.size x) [(0, 0), (2, 0), (1, 1), (3, 1), (4, 1), (5, 0), (6, 0), (7, 1), (8, 0)] (by kernel_rfl) (by kernel_rfl) (by kernel_rfl) hS ?_
      generalize w4.drew = WD at *
      clear HR
      iterate 2 (first | (refine plan_skip rfl ?_ ?_; (focus (rfl)); (try simp only [Act.put, List.setIfInBounds_toArray, List.set_cons_zero, List.set_cons_succ])) | (refine plan_take (v := ?_) rfl ?_ (fun w hSw => ?_) ?_; rotate_left; (focus (rfl)); (focus (unfold BxS at hSw; (go_simp <;> with_reducible rfl))); (try simp only [Act.put, List.setIfInBounds_toArray, List.set_cons_zero, List.set_cons_succ])))
      refine plan_run rfl ?_ (fun K hK => ?_)
      focus (rfl)
      go_simp
      refine (gref_any r WD).mono ?_
      rintro e W1 ⟨rfl, hb1⟩
      have hS1 := hS.keep hb1
      have hR1 := hR.keep hb1
      refine hK.out _ _ hS1 ?_
      clear hK K 
      (try simp only [Act.put, List.setIfInBounds_toArray, List.set_cons_zero, List.set_cons_succ])
      clear hS hR hb1
      have hs := sure_b r
      generalize sureN r = m at *
      have hba := (Below.refl W1.heap.size W1).alloc (Nat.le_refl _) (.cells #[.int .i8 2, .int .i64 m, .string ⟨#[]⟩, .string ⟨#[]⟩, .slice none 0 0, .int .i8 x.k, .int .i64 x.n, .string x.s, .string x.u, .slice x.ao x.l.length x.cap] 25)
      have hSa := hS1.keep hba
      have hRa := hR1.keep hba
      have hta : TesOk (fun k => M k ∨ k = w.heap.size + 1) (W1.alloc (.cells #[.int .i8 2, .int .i64 m, .string ⟨#[]⟩, .string ⟨#[]⟩, .slice none 0 0, .int .i8 x.k, .int .i64 x.n, .string x.s, .string x.u, .slice x.ao x.l.length x.cap] 25)) (.slice (some ⟨W1.heap.size, 0, none⟩) 2 2) [numT 2 m, x] :=
        two_tes _ W1 (fun k hk => by
          have := hR1.hl
          rcases hk with hk | hk
          · have := HX.out.2.1 k hk
            omega
          · omega) (numT 2 m) x (numT_ok _ _ _ _ (by omega) (by omega)) (HX.out.1.chg (chg_of_below hR1.hb (fun _ => False)) (fun _ h => h.elim) (fun k hk hl => hk.elim id (fun e => by omega)))
      refine plan_run rfl ?_ (fun K hK => ?_)
      focus (rfl)
      go_simp
      refine hK.out _ _ (hSa) ?_
      clear hK K
      (try simp only [Act.put, List.setIfInBounds_toArray, List.set_cons_zero, List.set_cons_succ])
      have HT := Lib.hid (tup_lt _ (W1.alloc (.cells #[.int .i8 2, .int .i64 m, .string ⟨#[]⟩, .string ⟨#[]⟩, .slice none 0 0, .int .i8 x.k, .int .i64 x.n, .string x.s, .string x.u, .slice x.ao x.l.length x.cap] 25)) (fun k hk => by
        have := hRa.hl
        rcases hk with hk | hk
        · have := HX.out.2.1 k hk
          omega
        · omega) (keepCells HX.out.2.2 hRa.hb) _ _ hta (fun c => .inl (by simp)) (by simp))
      generalize W1.alloc (.cells #[.int .i8 2, .int .i64 m, .string ⟨#[]⟩, .string ⟨#[]⟩, .slice none 0 0, .int .i8 x.k, .int .i64 x.n, .string x.s, .string x.u, .slice x.ao x.l.length x.cap] 25) = Wa at *
      clear hba hS1 hR1 hta
      refine plan_run rfl ?_ (fun K hK => ?_)
      focus (rfl)
      go_simp
      refine (HT.out).mono ?_
      rintro e W2 ⟨y, en, rfl, hy, hb2⟩
      have hS2 := hSa.keep hb2
      have hR2 := hRa.keep hb2
      refine hK.out _ _ hS2 ?_
      clear hK K 
      (try simp only [Act.put, List.setIfInBounds_toArray, List.set_cons_zero, List.set_cons_succ])
      clear hSa hRa hb2 HT
      iterate 2 (first | (refine plan_skip rfl ?_ ?_; (focus (rfl)); (try simp only [Act.put, List.setIfInBounds_toArray, List.set_cons_zero, List.set_cons_succ])) | (refine plan_take (v := ?_) rfl ?_ (fun w hSw => ?_) ?_; rotate_left; (focus (rfl)); (focus (unfold BxS at hSw; (go_simp <;> with_reducible rfl))); (try simp only [Act.put, List.setIfInBounds_toArray, List.set_cons_zero, List.set_cons_succ])))
      have hc4 := chg_setRow W2 (w.heap.size + 1) #[.int .i8 y.k, .int .i64 y.n, .string y.s, .string y.u, .slice y.ao y.l.length y.cap]
      have hZ := And.intro (setRow_heap W2 (w.heap.size + 1) zT #[.int .i8 y.k, .int .i64 y.n, .string y.s, .string y.u, .slice y.ao y.l.length y.cap] 25 (0, 0) hR2.h2) (And.intro (bel_setRow hR2.hb hR2.hb.size (Nat.le_succ _) #[.int .i8 y.k, .int .i64 y.n, .string y.s, .string y.u, .slice y.ao y.l.length y.cap]) (hy.chg (M' := M) hc4 (fun k e _ => .inr e) (fun k hk _ => .inl hk)))
      have hS4 : BxS w.heap.size x (W2.setRow (w.heap.size + 1) #[.int .i8 y.k, .int .i64 y.n, .string y.s, .string y.u, .slice y.ao y.l.length y.cap]) := by
        obtain ⟨g0, g1, g2, g3, g4⟩ := hS2
        have hn : ¬ (w.heap.size = w.heap.size + 1) := by omega
        exact ⟨hc4.cell g0 hn, hc4.cell g1 hn, hc4.cell g2 hn, hc4.cell g3 hn, hc4.cell g4 hn⟩
      refine plan_run rfl ?_ (fun K hK => ?_)
      focus (rfl)
      refine wp_store_row 25 (.tmp 4) (.tmp 20) rfl (w.heap.size + 1) #[.int .i8 y.k, .int .i64 y.n, .string y.s, .string y.u, .slice y.ao y.l.length y.cap] rfl rfl 25 zT hR2.h2 (infoTM' _ rfl) rfl (by simp [Value.oneCell']) ?_
      refine hK.out _ _ (hS4) ?_
      clear hK K
      (try simp only [Act.put, List.setIfInBounds_toArray, List.set_cons_zero, List.set_cons_succ])
      iterate 1 (first | (refine plan_skip rfl ?_ ?_; (focus (rfl)); (try simp only [Act.put, List.setIfInBounds_toArray, List.set_cons_zero, List.set_cons_succ])) | (refine plan_take (v := ?_) rfl ?_ (fun w hSw => ?_) ?_; rotate_left; (focus (rfl)); (focus (unfold BxS at hSw; (go_simp <;> with_reducible rfl))); (try simp only [Act.put, List.setIfInBounds_toArray, List.set_cons_zero, List.set_cons_succ])))
      refine plan_done ?_
      have HZ := Lib.hid hZ
      generalize W2.setRow (w.heap.size + 1) #[.int .i8 y.k, .int .i64 y.n, .string y.s, .string y.u, .slice y.ao y.l.length y.cap] = W3 at *
      clear hZ hS4 hc4 hS2 hR2 hy
      go_wp2_with fail
      exact ret_row HZ.out.1 rfl Tryz.underlying25 rfl (infoTM' _ rfl) rfl rfl ⟨y, en, rfl, HZ.out.2.2, HZ.out.2.1⟩
  · have q1 : (c != 0) = true := by simp [hc0]
    clear hc0
    go_wp2_with (with_reducible refine stop_op (o := ⟨_, .store 25 (.tmp 4) (.tmp 14), _, _, _, _⟩) ?_)
    refine Lib.hid ?_
    refine wpList_store_row (o := ⟨none, _, _, _, _, _⟩) rfl 25 (.tmp 4) (.tmp 14) rfl (w.heap.size + 1) #[.int .i8 0, .int .i64 0, .string ⟨#[]⟩, .string ⟨#[]⟩, .slice none 0 0] rfl rfl 25 zT (HR.out.h2) (infoTM' _ rfl) rfl (by simp [Value.oneCell']) ?_
    have HZ := Lib.hid (And.intro (setRow_heap w3 (w.heap.size + 1) zT #[.int .i8 0, .int .i64 0, .string ⟨#[]⟩, .string ⟨#[]⟩, .slice none 0 0] 25 (0, 0) HR.out.h2) (bel_setRow HR.out.hb HR.out.hb.size (Nat.le_succ _) #[.int .i8 0, .int .i64 0, .string ⟨#[]⟩, .string ⟨#[]⟩, .slice none 0 0]))
    generalize w3.setRow (w.heap.size + 1) #[.int .i8 0, .int .i64 0, .string ⟨#[]⟩, .string ⟨#[]⟩, .slice none 0 0] = w5 at *
    clear HR
    go_wp2_with fail
    exact ret_row HZ.out.1 rfl Tryz.underlying25 rfl (infoTM' _ rfl) rfl rfl ⟨numT 0 0, 2, rfl, numT_ok _ _ _ _ (by omega) (by omega), HZ.out.2⟩
end Go.Proofs.YthpmdeofdlcccaaGreatDoor
namespace Go.Proofs.YthpmdeofdlcccaaGreatDoor
open Go.ChangeShapes Go.WideShapes Go.ChangeAt Go.RowKit
set_option linter.unusedVariables false
set_option linter.unusedSimpArgs false
set_option maxRecDepth 100000
theorem ret_call {P : Program} {fn : Func} {R : Ending → World → Prop} {tmps : Array Value} {w : World} {g p q q1 q2 : Nat} {ty t : TypeId} {fr : Nat × Nat} {d : TypeDesc} {cs : Array Value} {u u1 u2 : Value} (hg : w.heap[g]? = some (.cells cs t fr)) (hfn : fn.results = #[.tmp q, .tmp q1, .cell p ty, .tmp q2])
    (hu : P.underlying ty = some d) (hd : (match d with | .struct _ | .array _ _ => true | _ => false) = true) (hi : (P.info? ty).map (·.size) = some cs.size)
    (hp : tmps.getD p undef = .pointer (some ⟨g, 0, none⟩)) (hq : tmps.getD q undef = u) (hq1 : tmps.getD q1 undef = u1) (hq2 : tmps.getD q2 undef = u2) (hpost : R (.returned (.tuple #[u, u1, .agg cs, u2])) w) : bodyPost P fn R .ret { tmps := tmps, defers := [] } w := by
  refine bodyPost_ret (v := .tuple #[u, u1, .agg cs, u2]) ?_ rfl hpost
  have hl := run_loadVar_row (P := P) w g t ty cs fr d hg hu hd hi
  unfold results
  rw [hfn]
  simp only [Array.getD_eq_getD_getElem?] at hp hq hq1 hq2
  simp [asAddr, hp, hq, hq1, hq2, hl]
def gcS : ByteArray := ⟨#[103, 101, 110, 95, 99, 97, 108, 108]⟩
/-- a call: who, its reference, the question -/
def callP (t : Tm) : Option (Int × Int × Tm) :=
  if checkN t = 0 ∧ t.k = 5 then
    match t.l with
    | [a, f, q] => if a.k = 1 ∧ a.s = gcS ∧ f.k = 5 then
        match f.l with
        | [p, r] => if p.k = 4 ∧ r.k = 2 then some (p.n, r.n, q) else none
        | _ => none
      else none
    | _ => none
  else none
def IcPost (M : Nat → Prop) (w : World) (t : Tm) (e : Ending) (w' : World) : Prop := ∃ (y : TE) (p r : Int) (b : Bool), e = .returned (.tuple #[.int .i64 p, .int .i64 r, .agg y.cells.toArray, .bool b]) ∧ TeOk M w' y ∧ Below w.heap.size w w' ∧ callP t = (if b then some (p, r, y.t) else none) ∧ (b = false → y = numT 0 0)
def ZxS (q : Nat) (W : World) : Prop := W.cell? ⟨q, 0, none⟩ = some (.int .i8 0) ∧ W.cell? ⟨q, 1, none⟩ = some (.int .i64 0) ∧ W.cell? ⟨q, 2, none⟩ = some (.string ⟨#[]⟩) ∧ W.cell? ⟨q, 3, none⟩ = some (.string ⟨#[]⟩) ∧ W.cell? ⟨q, 4, none⟩ = some (.slice none 0 0)
theorem ZxS.keep {q : Nat} {W W' : World} (h : ZxS q W) (hb : Below W.heap.size W W') : ZxS q W' := ⟨keep_cell h.1 hb, keep_cell h.2.1 hb, keep_cell h.2.2.1 hb, keep_cell h.2.2.2.1 hb, keep_cell h.2.2.2.2 hb⟩
theorem ZxS.of {q : Nat} {W : World} (h : W.heap[q]? = some (.cells zT 25 (0, 0))) : ZxS q W := ⟨(cells_at h 0 _ rfl).1, (cells_at h 1 _ rfl).1, (cells_at h 2 _ rfl).1, (cells_at h 3 _ rfl).1, (cells_at h 4 _ rfl).1⟩
def IcS (q qf b2 o2 b o : Nat) (lv flv : Value) (pn rn k n : Int) (s u : ByteArray) (l : Value) (W : World) : Prop := W.cell? ⟨q, 4, none⟩ = some lv ∧ W.cell? ⟨qf, 4, none⟩ = some flv ∧ W.cell? ⟨b2, o2 + 1, none⟩ = some (.int .i64 pn) ∧ W.cell? ⟨b2, o2 + 5 + 1, none⟩ = some (.int .i64 rn) ∧
  W.cell? ⟨b, o + 10, none⟩ = some (.int .i8 k) ∧ W.cell? ⟨b, o + 10 + 1, none⟩ = some (.int .i64 n) ∧ W.cell? ⟨b, o + 10 + 2, none⟩ = some (.string s) ∧ W.cell? ⟨b, o + 10 + 3, none⟩ = some (.string u) ∧ W.cell? ⟨b, o + 10 + 4, none⟩ = some l
set_option maxHeartbeats 4000000 in
theorem iscall_any (M : Nat → Prop) (w : World) (hM : ∀ k, M k → k < w.heap.size) (hc : Cells w 0 letL) (x : TE) (hx : TeOk M w x) : Calls Tryz.prog 29 #[.agg x.cells.toArray] w (IcPost M w x.t) := by
  have hR := RpW.start w M x
  have HCK := Lib.hid (check_any _ _ _ _ (keepCells hc hR.hb) (hx.keep hR.hb).tv.choose_spec)
  obtain ⟨x0, x1, x2, x3, x4⟩ := BxS.of hR.h1
  have HR0 := Lib.hid hR
  have HX := Lib.hid (And.intro hx (And.intro hM hc))
  have hE : callP x.t = (if checkN x.t = 0 ∧ x.k = 5 then
    match x.l with
    | [a, f, q] => if a.k = 1 ∧ a.s = gcS ∧ f.k = 5 then
        match f.l with
        | [p, r] => if p.k = 4 ∧ r.k = 2 then some (p.n, r.n, q) else none
        | _ => none
      else none
    | _ => none
  else none) := rfl
  clear hR hx hM hc
  generalize checkN x.t = c at *
  go_enter Tryz.func29, Tryz.ntmps29
  go_wp2_with fail
  generalize (w.alloc (.cells x.cells.toArray 25)).alloc (.cells zT 25) = w2 at *
  refine HCK.out.mono ?_
  rintro e w3 ⟨rfl, hb3⟩
  have HR := Lib.hid (HR0.out.keep hb3)
  clear hb3 HR0 HCK x0 x1 x2 x3 x4
  obtain ⟨x0, x1, x2, x3, x4⟩ := BxS.of HR.out.h1
  clear x1 x2 x3
  by_cases hc0 : c = 0
  · have q1 : (c != 0) = false := by simp [hc0]
    by_cases hk : x.k = 5
    · rw [hk] at x0
      by_cases hl : x.l.length = 3
      · obtain ⟨b, off, a, e0, ea, ha, pa, -⟩ := HX.out.1.part (i := 0) (by omega)
        obtain ⟨b', off', f, e1, ef, hf, pf, -⟩ := HX.out.1.part (i := 1) (by omega)
        obtain ⟨b'', off'', y, e2, ey, hy, py, -⟩ := HX.out.1.part (i := 2) (by omega)
        rw [e0] at e1 e2
        injection e1 with e1
        injection e1 with g1 g2 g3
        subst g1 g2
        injection e2 with e2
        injection e2 with g1 g2 g3
        subst g1 g2
        have hxl : x.l = [a.t, f.t, y.t] := by
          match hq : x.l with
          | [] => rw [hq] at hl; simp at hl
          | [_] => rw [hq] at hl; simp at hl
          | [_, _] => rw [hq] at hl; simp at hl
          | [_, _, _] => rw [hq] at ea ef ey; simp at ea ef ey; rw [ea, ef, ey]
          | _ :: _ :: _ :: _ :: _ => rw [hq] at hl; simp at hl
        rw [hxl] at hE
        rw [hl, e0] at x4
        have hE2 : callP x.t = (if a.k = 1 ∧ a.s = gcS ∧ f.k = 5 then
            match f.l with
            | [p, r] => if p.k = 4 ∧ r.k = 2 then some (p.n, r.n, y.t) else none
            | _ => none
          else none) := hE.trans (if_pos ⟨hc0, hk⟩)
        have HEE := Lib.hid hE2
        obtain ⟨a0, -, a2, -, -⟩ := pa.keep HR.out.hb
        have HPF := Lib.hid (pf.keep HR.out.hb)
        have HPY := Lib.hid (And.intro py (And.intro hy hf))
        rw [show off + 0 * 5 = off by omega] at a0 a2
        clear hE hE2 hxl ea ef ey pa pf py hy hf ha hc0 hk hl e0 g3
        by_cases h1 : a.k = 1
        · rw [h1] at a0
          by_cases h2 : a.s = gcS
          · rw [h2] at a2
            unfold gcS at a2
            obtain ⟨f0, f1, f2, f3, f4⟩ := HPF.out
            rw [show off + 1 * 5 = off + 5 by omega] at f0 f1 f2 f3 f4
            go_wp2_with (with_reducible refine stop_op (o := ⟨_, .store 25 (.tmp 6) (.tmp 41), _, _, _, _⟩) ?_)
            refine Lib.hid ?_
            refine wpList_store_new (o := ⟨none, _, _, _, _, _⟩) rfl 25 (.tmp 6) (.tmp 41) rfl #[.int .i8 f.k, .int .i64 f.n, .string f.s, .string f.u, .slice f.ao f.l.length f.cap] rfl rfl (infoTM' _ rfl) rfl (by simp [Value.oneCell']) ?_
            have hb4 := (Below.refl w3.heap.size w3).alloc (Nat.le_refl _) (.cells #[.int .i8 f.k, .int .i64 f.n, .string f.s, .string f.u, .slice f.ao f.l.length f.cap] 25)
            have HR4 := Lib.hid (HR.out.keep hb4)
            have HRL := Lib.hid HR.out.hl
            have HF4 := Lib.hid (heap_new w3 (.cells #[.int .i8 f.k, .int .i64 f.n, .string f.s, .string f.u, .slice f.ao f.l.length f.cap] 25))
            obtain ⟨g0, -, -, -, g4⟩ := BxS.of (x := f) HF4.out
            have x4b := keep_cell x4 hb4
            clear f0 f1 f2 f3 f4 x0 a0 a2 HPF hb4 x4 HR
            generalize w3.alloc (.cells #[.int .i8 f.k, .int .i64 f.n, .string f.s, .string f.u, .slice f.ao f.l.length f.cap] 25) = w4 at *
            have HQF := Lib.hid (show w.heap.size + 2 ≤ w3.heap.size from HRL.out)
            generalize w3.heap.size = qf at *
            by_cases h3 : f.k = 5
            · rw [h3] at g0
              have HE4 := Lib.hid ((HEE.out).trans (if_pos ⟨h1, h2, h3⟩))
              by_cases h4 : f.l.length = 2
              · obtain ⟨b2, o2, p, e3, ep, -, pp, -⟩ := HPY.out.2.2.part (i := 0) (by omega)
                obtain ⟨b3, o3, r, e4, er, -, pr, -⟩ := HPY.out.2.2.part (i := 1) (by omega)
                rw [e3] at e4
                injection e4 with e4
                injection e4 with k1 k2 k3
                subst k1 k2
                have hfl : f.l = [p.t, r.t] := by
                  match hq : f.l with
                  | [] => rw [hq] at h4; simp at h4
                  | [_] => rw [hq] at h4; simp at h4
                  | [_, _] => rw [hq] at ep er; simp at ep er; rw [ep, er]
                  | _ :: _ :: _ :: _ => rw [hq] at h4; simp at h4
                have hE5 := HE4.out
                rw [hfl] at hE5
                have HE5 := Lib.hid (show callP x.t = (if p.k = 4 ∧ r.k = 2 then some (p.n, r.n, y.t) else none) from hE5)
                rw [h4, e3] at g4
                have HPP := Lib.hid pp
                obtain ⟨p0, p1, -, -, -⟩ := pp.keep HR4.out.hb
                obtain ⟨r0, r1, -, -, -⟩ := pr.keep HR4.out.hb
                rw [show o2 + 0 * 5 = o2 by omega] at p0 p1
                rw [show o2 + 1 * 5 = o2 + 5 by omega] at r0 r1
                clear hE5 hfl ep er pp pr e3 h3 h4 HE4 HEE h1 h2
                by_cases h5 : p.k = 4
                · rw [h5] at p0
                  by_cases h6 : r.k = 2
                  · rw [h6] at r0
                    have HE := Lib.hid (show callP x.t = (if true then some (p.n, r.n, y.t) else none) by rw [HE5.out, if_pos ⟨h5, h6⟩]; rfl)
                    clear HE5 h5 h6
                    go_wp2_with fail
                    obtain ⟨z0, z1, z2, z3, z4⟩ := HPY.out.1.keep HR4.out.hb
                    rw [show off + 2 * 5 = off + 10 by omega] at z0 z1 z2 z3 z4
                    have hdr : Below w4.heap.size w4 w4.drew := (Below.refl _ _).drew
                    have hS : IcS w.heap.size qf b2 o2 b off (.slice (some ⟨b, off, none⟩) 3 x.cap) (.slice (some ⟨b2, o2, none⟩) 2 f.cap) p.n r.n y.k y.n y.s y.u (.slice y.ao y.l.length y.cap) w4.drew :=
                      ⟨keep_cell x4b hdr, keep_cell g4 hdr, keep_cell p1 hdr, keep_cell r1 hdr, keep_cell z0 hdr, keep_cell z1 hdr, keep_cell z2 hdr, keep_cell z3 hdr, keep_cell z4 hdr⟩
                    have hR := HR4.out.keep hdr
                    have hqf : Hid (w.heap.size + 1 ≠ qf ∧ w.heap.size + 1 ≠ b ∧ w.heap.size + 1 ≠ b2) := by
                      have l1 := HQF.out
                      have l2 := World.block_lt_of_cell? w _ HPY.out.1.c0
                      have l3 := World.block_lt_of_cell? w _ HPP.out.c0
                      exact Lib.hid ⟨by omega, by simp only at l2; omega, by simp only at l3; omega⟩
                    refine region_plan (IcS w.heap.size qf b2 o2 b off (.slice (some ⟨b, off, none⟩) 3 x.cap) (.slice (some ⟨b2, o2, none⟩) 2 f.cap) p.n r.n y.k y.n y.s y.u (.slice y.ao y.l.length y.cap)) [(0, 0), (1, 0), (2, 0), (3, 0), (4, 0), (5, 0), (6, 0), (7, 0), (8, 0), (9, 0), (10, 0), (11, 0), (12, 0), (13, 0), (14, 0), (15, 0), (16, 1), (17, 0)] (by kernel_rfl) (by kernel_rfl) (by kernel_rfl) hS ?_
                    generalize w4.drew = WD at *
                    clear HR4 x4b g4 p1 r1 z0 z1 z2 z3 z4 hdr
                    iterate 16 (first | (refine plan_skip rfl ?_ ?_; (focus (rfl)); (try simp only [Act.put, List.setIfInBounds_toArray, List.set_cons_zero, List.set_cons_succ])) | (refine plan_take (v := ?_) rfl ?_ (fun w hSw => ?_) ?_; rotate_left; (focus (rfl)); (focus (unfold IcS at hSw; (go_simp <;> with_reducible rfl))); (try simp only [Act.put, List.setIfInBounds_toArray, List.set_cons_zero, List.set_cons_succ])))
                    have hc4 := chg_setRow WD (w.heap.size + 1) #[.int .i8 y.k, .int .i64 y.n, .string y.s, .string y.u, .slice y.ao y.l.length y.cap]
                    have hZ := And.intro (setRow_heap WD (w.heap.size + 1) zT #[.int .i8 y.k, .int .i64 y.n, .string y.s, .string y.u, .slice y.ao y.l.length y.cap] 25 (0, 0) hR.h2) (bel_setRow hR.hb hR.hb.size (Nat.le_succ _) #[.int .i8 y.k, .int .i64 y.n, .string y.s, .string y.u, .slice y.ao y.l.length y.cap])
                    have hS4 : IcS w.heap.size qf b2 o2 b off (.slice (some ⟨b, off, none⟩) 3 x.cap) (.slice (some ⟨b2, o2, none⟩) 2 f.cap) p.n r.n y.k y.n y.s y.u (.slice y.ao y.l.length y.cap) (WD.setRow (w.heap.size + 1) #[.int .i8 y.k, .int .i64 y.n, .string y.s, .string y.u, .slice y.ao y.l.length y.cap]) := by
                      obtain ⟨k1, k2, k3, k4, k5, k6, k7, k8, k9⟩ := hS
                      have n0 : ¬ (w.heap.size = w.heap.size + 1) := by omega
                      have n1 : ¬ (qf = w.heap.size + 1) := fun e => hqf.out.1 e.symm
                      have n2 : ¬ (b = w.heap.size + 1) := fun e => hqf.out.2.1 e.symm
                      have n3 : ¬ (b2 = w.heap.size + 1) := fun e => hqf.out.2.2 e.symm
                      exact ⟨hc4.cell k1 n0, hc4.cell k2 n1, hc4.cell k3 n3, hc4.cell k4 n3, hc4.cell k5 n2, hc4.cell k6 n2, hc4.cell k7 n2, hc4.cell k8 n2, hc4.cell k9 n2⟩
                    refine plan_run rfl ?_ (fun K hK => ?_)
                    focus (rfl)
                    refine wp_store_row 25 (.tmp 4) (.tmp 80) rfl (w.heap.size + 1) #[.int .i8 y.k, .int .i64 y.n, .string y.s, .string y.u, .slice y.ao y.l.length y.cap] rfl rfl 25 zT hR.h2 (infoTM' _ rfl) rfl (by simp [Value.oneCell']) ?_
                    refine hK.out _ _ (hS4) ?_
                    clear hK K
                    (try simp only [Act.put, List.setIfInBounds_toArray, List.set_cons_zero, List.set_cons_succ])
                    iterate 1 (first | (refine plan_skip rfl ?_ ?_; (focus (rfl)); (try simp only [Act.put, List.setIfInBounds_toArray, List.set_cons_zero, List.set_cons_succ])) | (refine plan_take (v := ?_) rfl ?_ (fun w hSw => ?_) ?_; rotate_left; (focus (rfl)); (focus (unfold IcS at hSw; (go_simp <;> with_reducible rfl))); (try simp only [Act.put, List.setIfInBounds_toArray, List.set_cons_zero, List.set_cons_succ])))
                    refine plan_done ?_
                    have HZ := Lib.hid hZ
                    generalize WD.setRow (w.heap.size + 1) #[.int .i8 y.k, .int .i64 y.n, .string y.s, .string y.u, .slice y.ao y.l.length y.cap] = W3 at *
                    clear hZ hS4 hc4 hR hS
                    go_wp2_with fail
                    exact ret_call HZ.out.1 rfl Tryz.underlying25 rfl (infoTM' _ rfl) rfl rfl rfl rfl ⟨y, p.n, r.n, true, rfl, HPY.out.2.1.keep HZ.out.2, HZ.out.2, HE.out, fun h => by cases h⟩
                  · have q3 : (r.k == 2) = false := by simp [h6]
                    have HE := Lib.hid (show callP x.t = (if false then some (0, 0, (numT 0 0).t) else none) by rw [HE5.out, if_neg (fun h => h6 h.2)]; rfl)
                    clear HE5 h5 h6
                    go_wp2_with fail
                    have hS : ZxS (w.heap.size + 1) (World.drew w4) := (ZxS.of HR4.out.h2).keep (Below.refl _ _).drew
                    have hR := HR4.out.keep (Below.refl w4.heap.size w4).drew
                    refine region_plan (ZxS (w.heap.size + 1)) [(0, 0), (1, 0), (2, 0), (3, 1), (4, 0)] (by kernel_rfl) (by kernel_rfl) (by kernel_rfl) hS ?_
                    generalize World.drew w4 = WD at *
                    clear HR4
                    iterate 3 (first | (refine plan_skip rfl ?_ ?_; (focus (rfl)); (try simp only [Act.put, List.setIfInBounds_toArray, List.set_cons_zero, List.set_cons_succ])) | (refine plan_take (v := ?_) rfl ?_ (fun w hSw => ?_) ?_; rotate_left; (focus (rfl)); (focus (unfold ZxS at hSw; (go_simp <;> with_reducible rfl))); (try simp only [Act.put, List.setIfInBounds_toArray, List.set_cons_zero, List.set_cons_succ])))
                    have hc4 := chg_setRow WD (w.heap.size + 1) #[.int .i8 0, .int .i64 0, .string ⟨#[]⟩, .string ⟨#[]⟩, .slice none 0 0]
                    have hZ := And.intro (setRow_heap WD (w.heap.size + 1) zT #[.int .i8 0, .int .i64 0, .string ⟨#[]⟩, .string ⟨#[]⟩, .slice none 0 0] 25 (0, 0) hR.h2) (bel_setRow hR.hb hR.hb.size (Nat.le_succ _) #[.int .i8 0, .int .i64 0, .string ⟨#[]⟩, .string ⟨#[]⟩, .slice none 0 0])
                    have hS4 := ZxS.of hZ.1
                    refine plan_run rfl ?_ (fun K hK => ?_)
                    focus (rfl)
                    refine wp_store_row 25 (.tmp 4) (.tmp 81) rfl (w.heap.size + 1) #[.int .i8 0, .int .i64 0, .string ⟨#[]⟩, .string ⟨#[]⟩, .slice none 0 0] rfl rfl 25 zT hR.h2 (infoTM' _ rfl) rfl (by simp [Value.oneCell']) ?_
                    refine hK.out _ _ (hS4) ?_
                    clear hK K
                    (try simp only [Act.put, List.setIfInBounds_toArray, List.set_cons_zero, List.set_cons_succ])
                    iterate 1 (first | (refine plan_skip rfl ?_ ?_; (focus (rfl)); (try simp only [Act.put, List.setIfInBounds_toArray, List.set_cons_zero, List.set_cons_succ])) | (refine plan_take (v := ?_) rfl ?_ (fun w hSw => ?_) ?_; rotate_left; (focus (rfl)); (focus (unfold ZxS at hSw; (go_simp <;> with_reducible rfl))); (try simp only [Act.put, List.setIfInBounds_toArray, List.set_cons_zero, List.set_cons_succ])))
                    refine plan_done ?_
                    have HZ := Lib.hid hZ
                    generalize WD.setRow (w.heap.size + 1) #[.int .i8 0, .int .i64 0, .string ⟨#[]⟩, .string ⟨#[]⟩, .slice none 0 0] = W3 at *
                    clear hZ hS4 hc4 hR hS
                    go_wp2_with fail
                    exact ret_call HZ.out.1 rfl Tryz.underlying25 rfl (infoTM' _ rfl) rfl rfl rfl rfl ⟨numT 0 0, 0, 0, false, rfl, numT_ok _ _ _ _ (by omega) (by omega), HZ.out.2, HE.out, fun _ => rfl⟩
                · have q3 : (p.k == 4) = false := by simp [h5]
                  have HE := Lib.hid (show callP x.t = (if false then some (0, 0, (numT 0 0).t) else none) by rw [HE5.out, if_neg (fun h => h5 h.1)]; rfl)
                  clear HE5 h5
                  go_wp2_with fail
                  have hS : ZxS (w.heap.size + 1) (World.drew w4) := (ZxS.of HR4.out.h2).keep (Below.refl _ _).drew
                  have hR := HR4.out.keep (Below.refl w4.heap.size w4).drew
                  refine region_plan (ZxS (w.heap.size + 1)) [(0, 0), (1, 0), (2, 0), (3, 1), (4, 0)] (by kernel_rfl) (by kernel_rfl) (by kernel_rfl) hS ?_
                  generalize World.drew w4 = WD at *
                  clear HR4
                  iterate 3 (first | (refine plan_skip rfl ?_ ?_; (focus (rfl)); (try simp only [Act.put, List.setIfInBounds_toArray, List.set_cons_zero, List.set_cons_succ])) | (refine plan_take (v := ?_) rfl ?_ (fun w hSw => ?_) ?_; rotate_left; (focus (rfl)); (focus (unfold ZxS at hSw; (go_simp <;> with_reducible rfl))); (try simp only [Act.put, List.setIfInBounds_toArray, List.set_cons_zero, List.set_cons_succ])))
                  have hc4 := chg_setRow WD (w.heap.size + 1) #[.int .i8 0, .int .i64 0, .string ⟨#[]⟩, .string ⟨#[]⟩, .slice none 0 0]
                  have hZ := And.intro (setRow_heap WD (w.heap.size + 1) zT #[.int .i8 0, .int .i64 0, .string ⟨#[]⟩, .string ⟨#[]⟩, .slice none 0 0] 25 (0, 0) hR.h2) (bel_setRow hR.hb hR.hb.size (Nat.le_succ _) #[.int .i8 0, .int .i64 0, .string ⟨#[]⟩, .string ⟨#[]⟩, .slice none 0 0])
                  have hS4 := ZxS.of hZ.1
                  refine plan_run rfl ?_ (fun K hK => ?_)
                  focus (rfl)
                  refine wp_store_row 25 (.tmp 4) (.tmp 81) rfl (w.heap.size + 1) #[.int .i8 0, .int .i64 0, .string ⟨#[]⟩, .string ⟨#[]⟩, .slice none 0 0] rfl rfl 25 zT hR.h2 (infoTM' _ rfl) rfl (by simp [Value.oneCell']) ?_
                  refine hK.out _ _ (hS4) ?_
                  clear hK K
                  (try simp only [Act.put, List.setIfInBounds_toArray, List.set_cons_zero, List.set_cons_succ])
                  iterate 1 (first | (refine plan_skip rfl ?_ ?_; (focus (rfl)); (try simp only [Act.put, List.setIfInBounds_toArray, List.set_cons_zero, List.set_cons_succ])) | (refine plan_take (v := ?_) rfl ?_ (fun w hSw => ?_) ?_; rotate_left; (focus (rfl)); (focus (unfold ZxS at hSw; (go_simp <;> with_reducible rfl))); (try simp only [Act.put, List.setIfInBounds_toArray, List.set_cons_zero, List.set_cons_succ])))
                  refine plan_done ?_
                  have HZ := Lib.hid hZ
                  generalize WD.setRow (w.heap.size + 1) #[.int .i8 0, .int .i64 0, .string ⟨#[]⟩, .string ⟨#[]⟩, .slice none 0 0] = W3 at *
                  clear hZ hS4 hc4 hR hS
                  go_wp2_with fail
                  exact ret_call HZ.out.1 rfl Tryz.underlying25 rfl (infoTM' _ rfl) rfl rfl rfl rfl ⟨numT 0 0, 0, 0, false, rfl, numT_ok _ _ _ _ (by omega) (by omega), HZ.out.2, HE.out, fun _ => rfl⟩
              · have q3 : ((f.l.length : Int) == 2) = false := by simp; omega
                have HE := Lib.hid (show callP x.t = (if false then some (0, 0, (numT 0 0).t) else none) by
                  rw [HE4.out]
                  match hq : f.l with
                  | [] => simp
                  | [_] => simp
                  | [_, _] => rw [hq] at h4; simp at h4
                  | _ :: _ :: _ :: _ => simp)
                clear HE4 h3 h4 HEE h1 h2
                go_wp2_with fail
                have hS : ZxS (w.heap.size + 1) (World.drew w4) := (ZxS.of HR4.out.h2).keep (Below.refl _ _).drew
                have hR := HR4.out.keep (Below.refl w4.heap.size w4).drew
                refine region_plan (ZxS (w.heap.size + 1)) [(0, 0), (1, 0), (2, 0), (3, 1), (4, 0)] (by kernel_rfl) (by kernel_rfl) (by kernel_rfl) hS ?_
                generalize World.drew w4 = WD at *
                clear HR4
                iterate 3 (first | (refine plan_skip rfl ?_ ?_; (focus (rfl)); (try simp only [Act.put, List.setIfInBounds_toArray, List.set_cons_zero, List.set_cons_succ])) | (refine plan_take (v := ?_) rfl ?_ (fun w hSw => ?_) ?_; rotate_left; (focus (rfl)); (focus (unfold ZxS at hSw; (go_simp <;> with_reducible rfl))); (try simp only [Act.put, List.setIfInBounds_toArray, List.set_cons_zero, List.set_cons_succ])))
                have hc4 := chg_setRow WD (w.heap.size + 1) #[.int .i8 0, .int .i64 0, .string ⟨#[]⟩, .string ⟨#[]⟩, .slice none 0 0]
                have hZ := And.intro (setRow_heap WD (w.heap.size + 1) zT #[.int .i8 0, .int .i64 0, .string ⟨#[]⟩, .string ⟨#[]⟩, .slice none 0 0] 25 (0, 0) hR.h2) (bel_setRow hR.hb hR.hb.size (Nat.le_succ _) #[.int .i8 0, .int .i64 0, .string ⟨#[]⟩, .string ⟨#[]⟩, .slice none 0 0])
                have hS4 := ZxS.of hZ.1
                refine plan_run rfl ?_ (fun K hK => ?_)
                focus (rfl)
                refine wp_store_row 25 (.tmp 4) (.tmp 81) rfl (w.heap.size + 1) #[.int .i8 0, .int .i64 0, .string ⟨#[]⟩, .string ⟨#[]⟩, .slice none 0 0] rfl rfl 25 zT hR.h2 (infoTM' _ rfl) rfl (by simp [Value.oneCell']) ?_
                refine hK.out _ _ (hS4) ?_
                clear hK K
                (try simp only [Act.put, List.setIfInBounds_toArray, List.set_cons_zero, List.set_cons_succ])
                iterate 1 (first | (refine plan_skip rfl ?_ ?_; (focus (rfl)); (try simp only [Act.put, List.setIfInBounds_toArray, List.set_cons_zero, List.set_cons_succ])) | (refine plan_take (v := ?_) rfl ?_ (fun w hSw => ?_) ?_; rotate_left; (focus (rfl)); (focus (unfold ZxS at hSw; (go_simp <;> with_reducible rfl))); (try simp only [Act.put, List.setIfInBounds_toArray, List.set_cons_zero, List.set_cons_succ])))
                refine plan_done ?_
                have HZ := Lib.hid hZ
                generalize WD.setRow (w.heap.size + 1) #[.int .i8 0, .int .i64 0, .string ⟨#[]⟩, .string ⟨#[]⟩, .slice none 0 0] = W3 at *
                clear hZ hS4 hc4 hR hS
                go_wp2_with fail
                exact ret_call HZ.out.1 rfl Tryz.underlying25 rfl (infoTM' _ rfl) rfl rfl rfl rfl ⟨numT 0 0, 0, 0, false, rfl, numT_ok _ _ _ _ (by omega) (by omega), HZ.out.2, HE.out, fun _ => rfl⟩
            · have q3 : (f.k == 5) = false := by simp [h3]
              have HE := Lib.hid (show callP x.t = (if false then some (0, 0, (numT 0 0).t) else none) by rw [HEE.out, if_neg (fun h => h3 h.2.2)]; rfl)
              clear HEE h1 h2 h3
              go_wp2_with fail
              have hS : ZxS (w.heap.size + 1) (World.drew w4) := (ZxS.of HR4.out.h2).keep (Below.refl _ _).drew
              have hR := HR4.out.keep (Below.refl w4.heap.size w4).drew
              refine region_plan (ZxS (w.heap.size + 1)) [(0, 0), (1, 0), (2, 0), (3, 1), (4, 0)] (by kernel_rfl) (by kernel_rfl) (by kernel_rfl) hS ?_
              generalize World.drew w4 = WD at *
              clear HR4
              iterate 3 (first | (refine plan_skip rfl ?_ ?_; (focus (rfl)); (try simp only [Act.put, List.setIfInBounds_toArray, List.set_cons_zero, List.set_cons_succ])) | (refine plan_take (v := ?_) rfl ?_ (fun w hSw => ?_) ?_; rotate_left; (focus (rfl)); (focus (unfold ZxS at hSw; (go_simp <;> with_reducible rfl))); (try simp only [Act.put, List.setIfInBounds_toArray, List.set_cons_zero, List.set_cons_succ])))
              have hc4 := chg_setRow WD (w.heap.size + 1) #[.int .i8 0, .int .i64 0, .string ⟨#[]⟩, .string ⟨#[]⟩, .slice none 0 0]
              have hZ := And.intro (setRow_heap WD (w.heap.size + 1) zT #[.int .i8 0, .int .i64 0, .string ⟨#[]⟩, .string ⟨#[]⟩, .slice none 0 0] 25 (0, 0) hR.h2) (bel_setRow hR.hb hR.hb.size (Nat.le_succ _) #[.int .i8 0, .int .i64 0, .string ⟨#[]⟩, .string ⟨#[]⟩, .slice none 0 0])
              have hS4 := ZxS.of hZ.1
              refine plan_run rfl ?_ (fun K hK => ?_)
              focus (rfl)
              refine wp_store_row 25 (.tmp 4) (.tmp 81) rfl (w.heap.size + 1) #[.int .i8 0, .int .i64 0, .string ⟨#[]⟩, .string ⟨#[]⟩, .slice none 0 0] rfl rfl 25 zT hR.h2 (infoTM' _ rfl) rfl (by simp [Value.oneCell']) ?_
              refine hK.out _ _ (hS4) ?_
              clear hK K
              (try simp only [Act.put, List.setIfInBounds_toArray, List.set_cons_zero, List.set_cons_succ])
              iterate 1 (first | (refine plan_skip rfl ?_ ?_; (focus (rfl)); (try simp only [Act.put, List.setIfInBounds_toArray, List.set_cons_zero, List.set_cons_succ])) | (refine plan_take (v := ?_) rfl ?_ (fun w hSw => ?_) ?_; rotate_left; (focus (rfl)); (focus (unfold ZxS at hSw; (go_simp <;> with_reducible rfl))); (try simp only [Act.put, List.setIfInBounds_toArray, List.set_cons_zero, List.set_cons_succ])))
              refine plan_done ?_
              have HZ := Lib.hid hZ
              generalize WD.setRow (w.heap.size + 1) #[.int .i8 0, .int .i64 0, .string ⟨#[]⟩, .string ⟨#[]⟩, .slice none 0 0] = W3 at *
              clear hZ hS4 hc4 hR hS
              go_wp2_with fail
              exact ret_call HZ.out.1 rfl Tryz.underlying25 rfl (infoTM' _ rfl) rfl rfl rfl rfl ⟨numT 0 0, 0, 0, false, rfl, numT_ok _ _ _ _ (by omega) (by omega), HZ.out.2, HE.out, fun _ => rfl⟩
          · have q2 : (a.s.toList == [103, 101, 110, 95, 99, 97, 108, 108]) = false := by rw [← show gcS.toList = [103, 101, 110, 95, 99, 97, 108, 108] by simp [gcS]]; exact str_ne h2
            have HE := Lib.hid (show callP x.t = (if false then some (0, 0, (numT 0 0).t) else none) by rw [HEE.out, if_neg (fun h => h2 h.2.1)]; rfl)
            clear HEE h1 h2 HPF HPY
            go_wp2_with fail
            have hS : ZxS (w.heap.size + 1) (World.drew w3) := (ZxS.of HR.out.h2).keep (Below.refl _ _).drew
            have hR := HR.out.keep (Below.refl w3.heap.size w3).drew
            refine region_plan (ZxS (w.heap.size + 1)) [(0, 0), (1, 0), (2, 0), (3, 1), (4, 0)] (by kernel_rfl) (by kernel_rfl) (by kernel_rfl) hS ?_
            generalize World.drew w3 = WD at *
            clear HR
            iterate 3 (first | (refine plan_skip rfl ?_ ?_; (focus (rfl)); (try simp only [Act.put, List.setIfInBounds_toArray, List.set_cons_zero, List.set_cons_succ])) | (refine plan_take (v := ?_) rfl ?_ (fun w hSw => ?_) ?_; rotate_left; (focus (rfl)); (focus (unfold ZxS at hSw; (go_simp <;> with_reducible rfl))); (try simp only [Act.put, List.setIfInBounds_toArray, List.set_cons_zero, List.set_cons_succ])))
            have hc4 := chg_setRow WD (w.heap.size + 1) #[.int .i8 0, .int .i64 0, .string ⟨#[]⟩, .string ⟨#[]⟩, .slice none 0 0]
            have hZ := And.intro (setRow_heap WD (w.heap.size + 1) zT #[.int .i8 0, .int .i64 0, .string ⟨#[]⟩, .string ⟨#[]⟩, .slice none 0 0] 25 (0, 0) hR.h2) (bel_setRow hR.hb hR.hb.size (Nat.le_succ _) #[.int .i8 0, .int .i64 0, .string ⟨#[]⟩, .string ⟨#[]⟩, .slice none 0 0])
            have hS4 := ZxS.of hZ.1
            refine plan_run rfl ?_ (fun K hK => ?_)
            focus (rfl)
            refine wp_store_row 25 (.tmp 4) (.tmp 37) rfl (w.heap.size + 1) #[.int .i8 0, .int .i64 0, .string ⟨#[]⟩, .string ⟨#[]⟩, .slice none 0 0] rfl rfl 25 zT hR.h2 (infoTM' _ rfl) rfl (by simp [Value.oneCell']) ?_
            refine hK.out _ _ (hS4) ?_
            clear hK K
            (try simp only [Act.put, List.setIfInBounds_toArray, List.set_cons_zero, List.set_cons_succ])
            iterate 1 (first | (refine plan_skip rfl ?_ ?_; (focus (rfl)); (try simp only [Act.put, List.setIfInBounds_toArray, List.set_cons_zero, List.set_cons_succ])) | (refine plan_take (v := ?_) rfl ?_ (fun w hSw => ?_) ?_; rotate_left; (focus (rfl)); (focus (unfold ZxS at hSw; (go_simp <;> with_reducible rfl))); (try simp only [Act.put, List.setIfInBounds_toArray, List.set_cons_zero, List.set_cons_succ])))
            refine plan_done ?_
            have HZ := Lib.hid hZ
            generalize WD.setRow (w.heap.size + 1) #[.int .i8 0, .int .i64 0, .string ⟨#[]⟩, .string ⟨#[]⟩, .slice none 0 0] = W3 at *
            clear hZ hS4 hc4 hR hS
            go_wp2_with fail
            exact ret_call HZ.out.1 rfl Tryz.underlying25 rfl (infoTM' _ rfl) rfl rfl rfl rfl ⟨numT 0 0, 0, 0, false, rfl, numT_ok _ _ _ _ (by omega) (by omega), HZ.out.2, HE.out, fun _ => rfl⟩
        · have q2 : (a.k != 1) = true := by simp [h1]
          have HE := Lib.hid (show callP x.t = (if false then some (0, 0, (numT 0 0).t) else none) by rw [HEE.out, if_neg (fun h => h1 h.1)]; rfl)
          clear HEE h1 HPF HPY
          go_wp2_with fail
          have hS : ZxS (w.heap.size + 1) (World.drew w3) := (ZxS.of HR.out.h2).keep (Below.refl _ _).drew
          have hR := HR.out.keep (Below.refl w3.heap.size w3).drew
          refine region_plan (ZxS (w.heap.size + 1)) [(0, 0), (1, 0), (2, 0), (3, 1), (4, 0)] (by kernel_rfl) (by kernel_rfl) (by kernel_rfl) hS ?_
          generalize World.drew w3 = WD at *
          clear HR
          iterate 3 (first | (refine plan_skip rfl ?_ ?_; (focus (rfl)); (try simp only [Act.put, List.setIfInBounds_toArray, List.set_cons_zero, List.set_cons_succ])) | (refine plan_take (v := ?_) rfl ?_ (fun w hSw => ?_) ?_; rotate_left; (focus (rfl)); (focus (unfold ZxS at hSw; (go_simp <;> with_reducible rfl))); (try simp only [Act.put, List.setIfInBounds_toArray, List.set_cons_zero, List.set_cons_succ])))
          have hc4 := chg_setRow WD (w.heap.size + 1) #[.int .i8 0, .int .i64 0, .string ⟨#[]⟩, .string ⟨#[]⟩, .slice none 0 0]
          have hZ := And.intro (setRow_heap WD (w.heap.size + 1) zT #[.int .i8 0, .int .i64 0, .string ⟨#[]⟩, .string ⟨#[]⟩, .slice none 0 0] 25 (0, 0) hR.h2) (bel_setRow hR.hb hR.hb.size (Nat.le_succ _) #[.int .i8 0, .int .i64 0, .string ⟨#[]⟩, .string ⟨#[]⟩, .slice none 0 0])
          have hS4 := ZxS.of hZ.1
          refine plan_run rfl ?_ (fun K hK => ?_)
          focus (rfl)
          refine wp_store_row 25 (.tmp 4) (.tmp 37) rfl (w.heap.size + 1) #[.int .i8 0, .int .i64 0, .string ⟨#[]⟩, .string ⟨#[]⟩, .slice none 0 0] rfl rfl 25 zT hR.h2 (infoTM' _ rfl) rfl (by simp [Value.oneCell']) ?_
          refine hK.out _ _ (hS4) ?_
          clear hK K
          (try simp only [Act.put, List.setIfInBounds_toArray, List.set_cons_zero, List.set_cons_succ])
          iterate 1 (first | (refine plan_skip rfl ?_ ?_; (focus (rfl)); (try simp only [Act.put, List.setIfInBounds_toArray, List.set_cons_zero, List.set_cons_succ])) | (refine plan_take (v := ?_) rfl ?_ (fun w hSw => ?_) ?_; rotate_left; (focus (rfl)); (focus (unfold ZxS at hSw; (go_simp <;> with_reducible rfl))); (try simp only [Act.put, List.setIfInBounds_toArray, List.set_cons_zero, List.set_cons_succ])))
          refine plan_done ?_
          have HZ := Lib.hid hZ
          generalize WD.setRow (w.heap.size + 1) #[.int .i8 0, .int .i64 0, .string ⟨#[]⟩, .string ⟨#[]⟩, .slice none 0 0] = W3 at *
          clear hZ hS4 hc4 hR hS
          go_wp2_with fail
          exact ret_call HZ.out.1 rfl Tryz.underlying25 rfl (infoTM' _ rfl) rfl rfl rfl rfl ⟨numT 0 0, 0, 0, false, rfl, numT_ok _ _ _ _ (by omega) (by omega), HZ.out.2, HE.out, fun _ => rfl⟩
      · have q2 : ((x.l.length : Int) != 3) = true := by simp; omega
        have HE := Lib.hid (show callP x.t = (if false then some (0, 0, (numT 0 0).t) else none) by
          rw [hE, if_pos ⟨hc0, hk⟩]
          match hq : x.l with
          | [] => simp
          | [_] => simp
          | [_, _] => simp
          | [_, _, _] => rw [hq] at hl; simp at hl
          | _ :: _ :: _ :: _ :: _ => simp)
        clear hE hc0 hk hl
        go_wp2_with fail
        have hS : ZxS (w.heap.size + 1) (World.drew w3) := (ZxS.of HR.out.h2).keep (Below.refl _ _).drew
        have hR := HR.out.keep (Below.refl w3.heap.size w3).drew
        refine region_plan (ZxS (w.heap.size + 1)) [(0, 0), (1, 0), (2, 0), (3, 1), (4, 0)] (by kernel_rfl) (by kernel_rfl) (by kernel_rfl) hS ?_
        generalize World.drew w3 = WD at *
        clear HR
        iterate 3 (first | (refine plan_skip rfl ?_ ?_; (focus (rfl)); (try simp only [Act.put, List.setIfInBounds_toArray, List.set_cons_zero, List.set_cons_succ])) | (refine plan_take (v := ?_) rfl ?_ (fun w hSw => ?_) ?_; rotate_left; (focus (rfl)); (focus (unfold ZxS at hSw; (go_simp <;> with_reducible rfl))); (try simp only [Act.put, List.setIfInBounds_toArray, List.set_cons_zero, List.set_cons_succ])))
        have hc4 := chg_setRow WD (w.heap.size + 1) #[.int .i8 0, .int .i64 0, .string ⟨#[]⟩, .string ⟨#[]⟩, .slice none 0 0]
        have hZ := And.intro (setRow_heap WD (w.heap.size + 1) zT #[.int .i8 0, .int .i64 0, .string ⟨#[]⟩, .string ⟨#[]⟩, .slice none 0 0] 25 (0, 0) hR.h2) (bel_setRow hR.hb hR.hb.size (Nat.le_succ _) #[.int .i8 0, .int .i64 0, .string ⟨#[]⟩, .string ⟨#[]⟩, .slice none 0 0])
        have hS4 := ZxS.of hZ.1
        refine plan_run rfl ?_ (fun K hK => ?_)
        focus (rfl)
        refine wp_store_row 25 (.tmp 4) (.tmp 37) rfl (w.heap.size + 1) #[.int .i8 0, .int .i64 0, .string ⟨#[]⟩, .string ⟨#[]⟩, .slice none 0 0] rfl rfl 25 zT hR.h2 (infoTM' _ rfl) rfl (by simp [Value.oneCell']) ?_
        refine hK.out _ _ (hS4) ?_
        clear hK K
        (try simp only [Act.put, List.setIfInBounds_toArray, List.set_cons_zero, List.set_cons_succ])
        iterate 1 (first | (refine plan_skip rfl ?_ ?_; (focus (rfl)); (try simp only [Act.put, List.setIfInBounds_toArray, List.set_cons_zero, List.set_cons_succ])) | (refine plan_take (v := ?_) rfl ?_ (fun w hSw => ?_) ?_; rotate_left; (focus (rfl)); (focus (unfold ZxS at hSw; (go_simp <;> with_reducible rfl))); (try simp only [Act.put, List.setIfInBounds_toArray, List.set_cons_zero, List.set_cons_succ])))
        refine plan_done ?_
        have HZ := Lib.hid hZ
        generalize WD.setRow (w.heap.size + 1) #[.int .i8 0, .int .i64 0, .string ⟨#[]⟩, .string ⟨#[]⟩, .slice none 0 0] = W3 at *
        clear hZ hS4 hc4 hR hS
        go_wp2_with fail
        exact ret_call HZ.out.1 rfl Tryz.underlying25 rfl (infoTM' _ rfl) rfl rfl rfl rfl ⟨numT 0 0, 0, 0, false, rfl, numT_ok _ _ _ _ (by omega) (by omega), HZ.out.2, HE.out, fun _ => rfl⟩
    · have q2 : (x.k != 5) = true := by simp [hk]
      have HE := Lib.hid (show callP x.t = (if false then some (0, 0, (numT 0 0).t) else none) by rw [hE, if_neg (fun h => hk h.2)]; rfl)
      clear hE hc0 hk
      go_wp2_with fail
      have hS : ZxS (w.heap.size + 1) (World.drew w3) := (ZxS.of HR.out.h2).keep (Below.refl _ _).drew
      have hR := HR.out.keep (Below.refl w3.heap.size w3).drew
      refine region_plan (ZxS (w.heap.size + 1)) [(0, 0), (1, 0), (2, 0), (3, 1), (4, 0)] (by kernel_rfl) (by kernel_rfl) (by kernel_rfl) hS ?_
      generalize World.drew w3 = WD at *
      clear HR
      iterate 3 (first | (refine plan_skip rfl ?_ ?_; (focus (rfl)); (try simp only [Act.put, List.setIfInBounds_toArray, List.set_cons_zero, List.set_cons_succ])) | (refine plan_take (v := ?_) rfl ?_ (fun w hSw => ?_) ?_; rotate_left; (focus (rfl)); (focus (unfold ZxS at hSw; (go_simp <;> with_reducible rfl))); (try simp only [Act.put, List.setIfInBounds_toArray, List.set_cons_zero, List.set_cons_succ])))
      have hc4 := chg_setRow WD (w.heap.size + 1) #[.int .i8 0, .int .i64 0, .string ⟨#[]⟩, .string ⟨#[]⟩, .slice none 0 0]
      have hZ := And.intro (setRow_heap WD (w.heap.size + 1) zT #[.int .i8 0, .int .i64 0, .string ⟨#[]⟩, .string ⟨#[]⟩, .slice none 0 0] 25 (0, 0) hR.h2) (bel_setRow hR.hb hR.hb.size (Nat.le_succ _) #[.int .i8 0, .int .i64 0, .string ⟨#[]⟩, .string ⟨#[]⟩, .slice none 0 0])
      have hS4 := ZxS.of hZ.1
      refine plan_run rfl ?_ (fun K hK => ?_)
      focus (rfl)
      refine wp_store_row 25 (.tmp 4) (.tmp 37) rfl (w.heap.size + 1) #[.int .i8 0, .int .i64 0, .string ⟨#[]⟩, .string ⟨#[]⟩, .slice none 0 0] rfl rfl 25 zT hR.h2 (infoTM' _ rfl) rfl (by simp [Value.oneCell']) ?_
      refine hK.out _ _ (hS4) ?_
      clear hK K
      (try simp only [Act.put, List.setIfInBounds_toArray, List.set_cons_zero, List.set_cons_succ])
      iterate 1 (first | (refine plan_skip rfl ?_ ?_; (focus (rfl)); (try simp only [Act.put, List.setIfInBounds_toArray, List.set_cons_zero, List.set_cons_succ])) | (refine plan_take (v := ?_) rfl ?_ (fun w hSw => ?_) ?_; rotate_left; (focus (rfl)); (focus (unfold ZxS at hSw; (go_simp <;> with_reducible rfl))); (try simp only [Act.put, List.setIfInBounds_toArray, List.set_cons_zero, List.set_cons_succ])))
      refine plan_done ?_
      have HZ := Lib.hid hZ
      generalize WD.setRow (w.heap.size + 1) #[.int .i8 0, .int .i64 0, .string ⟨#[]⟩, .string ⟨#[]⟩, .slice none 0 0] = W3 at *
      clear hZ hS4 hc4 hR hS
      go_wp2_with fail
      exact ret_call HZ.out.1 rfl Tryz.underlying25 rfl (infoTM' _ rfl) rfl rfl rfl rfl ⟨numT 0 0, 0, 0, false, rfl, numT_ok _ _ _ _ (by omega) (by omega), HZ.out.2, HE.out, fun _ => rfl⟩
  · have q1 : (c != 0) = true := by simp [hc0]
    have HE := Lib.hid (show callP x.t = (if false then some (0, 0, (numT 0 0).t) else none) by rw [hE, if_neg (fun h => hc0 h.1)]; rfl)
    clear hE hc0
    go_wp2_with fail
    have hS : ZxS (w.heap.size + 1) (World.drew w3) := (ZxS.of HR.out.h2).keep (Below.refl _ _).drew
    have hR := HR.out.keep (Below.refl w3.heap.size w3).drew
    refine region_plan (ZxS (w.heap.size + 1)) [(0, 0), (1, 0), (2, 0), (3, 1), (4, 0)] (by kernel_rfl) (by kernel_rfl) (by kernel_rfl) hS ?_
    generalize World.drew w3 = WD at *
    clear HR
    iterate 3 (first | (refine plan_skip rfl ?_ ?_; (focus (rfl)); (try simp only [Act.put, List.setIfInBounds_toArray, List.set_cons_zero, List.set_cons_succ])) | (refine plan_take (v := ?_) rfl ?_ (fun w hSw => ?_) ?_; rotate_left; (focus (rfl)); (focus (unfold ZxS at hSw; (go_simp <;> with_reducible rfl))); (try simp only [Act.put, List.setIfInBounds_toArray, List.set_cons_zero, List.set_cons_succ])))
    have hc4 := chg_setRow WD (w.heap.size + 1) #[.int .i8 0, .int .i64 0, .string ⟨#[]⟩, .string ⟨#[]⟩, .slice none 0 0]
    have hZ := And.intro (setRow_heap WD (w.heap.size + 1) zT #[.int .i8 0, .int .i64 0, .string ⟨#[]⟩, .string ⟨#[]⟩, .slice none 0 0] 25 (0, 0) hR.h2) (bel_setRow hR.hb hR.hb.size (Nat.le_succ _) #[.int .i8 0, .int .i64 0, .string ⟨#[]⟩, .string ⟨#[]⟩, .slice none 0 0])
    have hS4 := ZxS.of hZ.1
    refine plan_run rfl ?_ (fun K hK => ?_)
    focus (rfl)
    refine wp_store_row 25 (.tmp 4) (.tmp 37) rfl (w.heap.size + 1) #[.int .i8 0, .int .i64 0, .string ⟨#[]⟩, .string ⟨#[]⟩, .slice none 0 0] rfl rfl 25 zT hR.h2 (infoTM' _ rfl) rfl (by simp [Value.oneCell']) ?_
    refine hK.out _ _ (hS4) ?_
    clear hK K
    (try simp only [Act.put, List.setIfInBounds_toArray, List.set_cons_zero, List.set_cons_succ])
    iterate 1 (first | (refine plan_skip rfl ?_ ?_; (focus (rfl)); (try simp only [Act.put, List.setIfInBounds_toArray, List.set_cons_zero, List.set_cons_succ])) | (refine plan_take (v := ?_) rfl ?_ (fun w hSw => ?_) ?_; rotate_left; (focus (rfl)); (focus (unfold ZxS at hSw; (go_simp <;> with_reducible rfl))); (try simp only [Act.put, List.setIfInBounds_toArray, List.set_cons_zero, List.set_cons_succ])))
    refine plan_done ?_
    have HZ := Lib.hid hZ
    generalize WD.setRow (w.heap.size + 1) #[.int .i8 0, .int .i64 0, .string ⟨#[]⟩, .string ⟨#[]⟩, .slice none 0 0] = W3 at *
    clear hZ hS4 hc4 hR hS
    go_wp2_with fail
    exact ret_call HZ.out.1 rfl Tryz.underlying25 rfl (infoTM' _ rfl) rfl rfl rfl rfl ⟨numT 0 0, 0, 0, false, rfl, numT_ok _ _ _ _ (by omega) (by omega), HZ.out.2, HE.out, fun _ => rfl⟩
end Go.Proofs.YthpmdeofdlcccaaGreatDoor
namespace Go.Proofs.YthpmdeofdlcccaaGreatDoor
open Go.ChangeShapes Go.WideShapes Go.ChangeAt Go.RowKit
set_option linter.unusedVariables false
set_option linter.unusedSimpArgs false
set_option maxRecDepth 100000
def errS : ByteArray := ⟨#[101, 114, 114, 111, 114]⟩
def nocS : ByteArray := ⟨#[110, 111, 99, 97, 116, 99, 104]⟩
set_option maxHeartbeats 4000000 in
theorem reason_any (M : Nat → Prop) (w : World) (hM : ∀ k, M k → k < w.heap.size) (hc : Cells w 0 letL) (c : Int) (x : TE) (hx : TeOk M w x) : Calls Tryz.prog 88 #[.int .i8 c, .agg x.cells.toArray] w (LsPost M w) := by
  have hR := RpW.start w M x
  obtain ⟨x0, x1, x2, x3, x4⟩ := BxS.of hR.h1
  have HR0 := Lib.hid hR
  have HX := Lib.hid (And.intro hx (And.intro hM hc))
  clear hR hx hM hc
  by_cases h2 : c = 2
  · subst h2
    go_enter Tryz.func88, Tryz.ntmps88
    go_wp2_with (with_reducible refine stop_op (o := ⟨_, .store 25 (.tmp 4) (.tmp 11), _, _, _, _⟩) ?_)
    refine Lib.hid ?_
    refine wpList_store_row (o := ⟨none, _, _, _, _, _⟩) rfl 25 (.tmp 4) (.tmp 11) rfl (w.heap.size + 1) #[.int .i8 x.k, .int .i64 x.n, .string x.s, .string x.u, .slice x.ao x.l.length x.cap] rfl rfl 25 zT (HR0.out.h2) (infoTM' _ rfl) rfl (by simp [Value.oneCell']) ?_
    generalize (w.alloc (.cells x.cells.toArray 25)).alloc (.cells zT 25) = W1 at *
    have HZ := Lib.hid (And.intro (setRow_heap W1 (w.heap.size + 1) zT #[.int .i8 x.k, .int .i64 x.n, .string x.s, .string x.u, .slice x.ao x.l.length x.cap] 25 (0, 0) HR0.out.h2) (bel_setRow HR0.out.hb HR0.out.hb.size (Nat.le_succ _) #[.int .i8 x.k, .int .i64 x.n, .string x.s, .string x.u, .slice x.ao x.l.length x.cap]))
    generalize W1.setRow (w.heap.size + 1) #[.int .i8 x.k, .int .i64 x.n, .string x.s, .string x.u, .slice x.ao x.l.length x.cap] = W4 at *
    clear HR0 x0 x1 x2 x3 x4
    go_wp2_with fail
    exact ret_cell HZ.out.1 rfl Tryz.underlying25 rfl (infoTM' _ rfl) rfl ⟨x, rfl, HX.out.1.keep HZ.out.2, HZ.out.2⟩
  · by_cases h3 : c = 3
    · subst h3
      clear h2
      go_enter Tryz.func88, Tryz.ntmps88
      go_wp2_with (with_reducible refine stop_op (o := ⟨_, .buildSlice 23 2 #[(0, .tmp 16), (1, .tmp 17)], _, _, _, _⟩) ?_)
      generalize (w.alloc (.cells x.cells.toArray 25)).alloc (.cells zT 25) = W1 at *
      have hR1 := HR0.out
      have hba := (Below.refl W1.heap.size W1).alloc (Nat.le_refl _) (.cells #[.int .i8 1, .int .i64 0, .string ⟨#[110, 111, 99, 97, 116, 99, 104]⟩, .string ⟨#[]⟩, .slice none 0 0, .int .i8 x.k, .int .i64 x.n, .string x.s, .string x.u, .slice x.ao x.l.length x.cap] 25)
      have hRa := hR1.keep hba
      have hta : TesOk (fun k => M k ∨ k = w.heap.size + 1) (W1.alloc (.cells #[.int .i8 1, .int .i64 0, .string ⟨#[110, 111, 99, 97, 116, 99, 104]⟩, .string ⟨#[]⟩, .slice none 0 0, .int .i8 x.k, .int .i64 x.n, .string x.s, .string x.u, .slice x.ao x.l.length x.cap] 25)) (.slice (some ⟨W1.heap.size, 0, none⟩) 2 2) [atomT ⟨#[110, 111, 99, 97, 116, 99, 104]⟩, x] :=
        two_tes _ W1 (fun k hk => by
          have := hR1.hl
          rcases hk with hk | hk
          · have := HX.out.2.1 k hk
            omega
          · omega) (atomT ⟨#[110, 111, 99, 97, 116, 99, 104]⟩) x (atomT_ok _ _ _ (by decide)) (HX.out.1.chg (chg_of_below hR1.hb (fun _ => False)) (fun _ h => h.elim) (fun k hk hl => hk.elim id (fun e => by omega)))
      have HT := Lib.hid (tup_lt _ (W1.alloc (.cells #[.int .i8 1, .int .i64 0, .string ⟨#[110, 111, 99, 97, 116, 99, 104]⟩, .string ⟨#[]⟩, .slice none 0 0, .int .i8 x.k, .int .i64 x.n, .string x.s, .string x.u, .slice x.ao x.l.length x.cap] 25)) (fun k hk => by
        have := hRa.hl
        rcases hk with hk | hk
        · have := HX.out.2.1 k hk
          omega
        · omega) (keepCells HX.out.2.2 hRa.hb) _ _ hta (fun c => .inl (by simp)) (by simp))
      have HR := Lib.hid hRa
      clear hba hRa hR1 hta HR0 x0 x1 x2 x3 x4
      refine Lib.hid ?_
      go_wp2_with fail
      generalize W1.alloc (.cells #[.int .i8 1, .int .i64 0, .string ⟨#[110, 111, 99, 97, 116, 99, 104]⟩, .string ⟨#[]⟩, .slice none 0 0, .int .i8 x.k, .int .i64 x.n, .string x.s, .string x.u, .slice x.ao x.l.length x.cap] 25) = Wa at *
      refine HT.out.mono ?_
      rintro e W2 ⟨y, en, rfl, hy, hb2⟩
      have HR2 := Lib.hid (HR.out.keep hb2)
      have HY := Lib.hid hy
      clear HR HT hb2 hy
      simp only [TE.cells]
      go_wp2_with (with_reducible refine stop_op (o := ⟨_, .store 25 (.tmp 6) (.tmp 20), _, _, _, _⟩) ?_)
      refine Lib.hid ?_
      refine wpList_store_new (o := ⟨none, _, _, _, _, _⟩) rfl 25 (.tmp 6) (.tmp 20) rfl #[.int .i8 y.k, .int .i64 y.n, .string y.s, .string y.u, .slice y.ao y.l.length y.cap] rfl rfl (infoTM' _ rfl) rfl (by simp [Value.oneCell']) ?_
      have hb3 := (Below.refl W2.heap.size W2).alloc (Nat.le_refl _) (.cells #[.int .i8 y.k, .int .i64 y.n, .string y.s, .string y.u, .slice y.ao y.l.length y.cap] 25)
      have HR3 := Lib.hid (HR2.out.keep hb3)
      have HY3 := Lib.hid (HY.out.keep hb3)
      obtain ⟨y0, y1, y2, y3, y4⟩ := BxS.of (x := y) (heap_new W2 (.cells #[.int .i8 y.k, .int .i64 y.n, .string y.s, .string y.u, .slice y.ao y.l.length y.cap] 25))
      clear hb3 HR2 HY
      generalize hqs : W2.heap.size = qs at *
      generalize W2.alloc (.cells #[.int .i8 y.k, .int .i64 y.n, .string y.s, .string y.u, .slice y.ao y.l.length y.cap] 25) = W3 at *
      by_cases he : en = 0
      · have q1 : (en != 0) = false := by simp [he]
        clear he
        go_wp2_with (with_reducible refine stop_op (o := ⟨_, .store 25 (.tmp 4) (.tmp 25), _, _, _, _⟩) ?_)
        refine Lib.hid ?_
        refine wpList_store_row (o := ⟨none, _, _, _, _, _⟩) rfl 25 (.tmp 4) (.tmp 25) rfl (w.heap.size + 1) #[.int .i8 y.k, .int .i64 y.n, .string y.s, .string y.u, .slice y.ao y.l.length y.cap] rfl rfl 25 zT (HR3.out.h2) (infoTM' _ rfl) rfl (by simp [Value.oneCell']) ?_
        have hc4 := chg_setRow W3 (w.heap.size + 1) #[.int .i8 y.k, .int .i64 y.n, .string y.s, .string y.u, .slice y.ao y.l.length y.cap]
        have HZ := Lib.hid (And.intro (setRow_heap W3 (w.heap.size + 1) zT #[.int .i8 y.k, .int .i64 y.n, .string y.s, .string y.u, .slice y.ao y.l.length y.cap] 25 (0, 0) HR3.out.h2) (And.intro (bel_setRow HR3.out.hb HR3.out.hb.size (Nat.le_succ _) #[.int .i8 y.k, .int .i64 y.n, .string y.s, .string y.u, .slice y.ao y.l.length y.cap]) (HY3.out.chg (M' := M) hc4 (fun k e _ => .inr e) (fun k hk _ => .inl hk))))
        generalize W3.setRow (w.heap.size + 1) #[.int .i8 y.k, .int .i64 y.n, .string y.s, .string y.u, .slice y.ao y.l.length y.cap] = W4 at *
        clear hc4 HR3 HY3 y0 y1 y2 y3 y4
        go_wp2_with fail
        exact ret_cell HZ.out.1 rfl Tryz.underlying25 rfl (infoTM' _ rfl) rfl ⟨y, rfl, HZ.out.2.2, HZ.out.2.1⟩
      · have q1 : (en != 0) = true := by simp [he]
        clear he
        go_wp2_with (with_reducible refine stop_op (o := ⟨_, .store 25 (.tmp 4) (.tmp 24), _, _, _, _⟩) ?_)
        refine Lib.hid ?_
        refine wpList_store_row (o := ⟨none, _, _, _, _, _⟩) rfl 25 (.tmp 4) (.tmp 24) rfl (w.heap.size + 1) #[.int .i8 1, .int .i64 0, .string limS, .string ⟨#[]⟩, .slice none 0 0] rfl rfl 25 zT (HR3.out.h2) (infoTM' _ rfl) rfl (by simp [Value.oneCell']) ?_
        have HZ := Lib.hid (And.intro (setRow_heap W3 (w.heap.size + 1) zT #[.int .i8 1, .int .i64 0, .string limS, .string ⟨#[]⟩, .slice none 0 0] 25 (0, 0) HR3.out.h2) (bel_setRow HR3.out.hb HR3.out.hb.size (Nat.le_succ _) #[.int .i8 1, .int .i64 0, .string limS, .string ⟨#[]⟩, .slice none 0 0]))
        generalize W3.setRow (w.heap.size + 1) #[.int .i8 1, .int .i64 0, .string limS, .string ⟨#[]⟩, .slice none 0 0] = W4 at *
        clear HR3 HY3 y0 y1 y2 y3 y4
        go_wp2_with fail
        exact ret_cell HZ.out.1 rfl Tryz.underlying25 rfl (infoTM' _ rfl) rfl ⟨atomT limS, rfl, atomT_ok _ _ _ (by decide), HZ.out.2⟩
    · have q2 : (c == 2) = false := by simp [h2]
      have q3 : (c == 3) = false := by simp [h3]
      clear h2 h3
      go_enter Tryz.func88, Tryz.ntmps88
      go_wp2_with (with_reducible refine stop_op (o := ⟨_, .buildSlice 23 2 #[(0, .tmp 16), (1, .tmp 17)], _, _, _, _⟩) ?_)
      generalize (w.alloc (.cells x.cells.toArray 25)).alloc (.cells zT 25) = W1 at *
      have hR1 := HR0.out
      have hba := (Below.refl W1.heap.size W1).alloc (Nat.le_refl _) (.cells #[.int .i8 1, .int .i64 0, .string ⟨#[101, 114, 114, 111, 114]⟩, .string ⟨#[]⟩, .slice none 0 0, .int .i8 x.k, .int .i64 x.n, .string x.s, .string x.u, .slice x.ao x.l.length x.cap] 25)
      have hRa := hR1.keep hba
      have hta : TesOk (fun k => M k ∨ k = w.heap.size + 1) (W1.alloc (.cells #[.int .i8 1, .int .i64 0, .string ⟨#[101, 114, 114, 111, 114]⟩, .string ⟨#[]⟩, .slice none 0 0, .int .i8 x.k, .int .i64 x.n, .string x.s, .string x.u, .slice x.ao x.l.length x.cap] 25)) (.slice (some ⟨W1.heap.size, 0, none⟩) 2 2) [atomT ⟨#[101, 114, 114, 111, 114]⟩, x] :=
        two_tes _ W1 (fun k hk => by
          have := hR1.hl
          rcases hk with hk | hk
          · have := HX.out.2.1 k hk
            omega
          · omega) (atomT ⟨#[101, 114, 114, 111, 114]⟩) x (atomT_ok _ _ _ (by decide)) (HX.out.1.chg (chg_of_below hR1.hb (fun _ => False)) (fun _ h => h.elim) (fun k hk hl => hk.elim id (fun e => by omega)))
      have HT := Lib.hid (tup_lt _ (W1.alloc (.cells #[.int .i8 1, .int .i64 0, .string ⟨#[101, 114, 114, 111, 114]⟩, .string ⟨#[]⟩, .slice none 0 0, .int .i8 x.k, .int .i64 x.n, .string x.s, .string x.u, .slice x.ao x.l.length x.cap] 25)) (fun k hk => by
        have := hRa.hl
        rcases hk with hk | hk
        · have := HX.out.2.1 k hk
          omega
        · omega) (keepCells HX.out.2.2 hRa.hb) _ _ hta (fun c => .inl (by simp)) (by simp))
      have HR := Lib.hid hRa
      clear hba hRa hR1 hta HR0 x0 x1 x2 x3 x4
      refine Lib.hid ?_
      go_wp2_with fail
      generalize W1.alloc (.cells #[.int .i8 1, .int .i64 0, .string ⟨#[101, 114, 114, 111, 114]⟩, .string ⟨#[]⟩, .slice none 0 0, .int .i8 x.k, .int .i64 x.n, .string x.s, .string x.u, .slice x.ao x.l.length x.cap] 25) = Wa at *
      refine HT.out.mono ?_
      rintro e W2 ⟨y, en, rfl, hy, hb2⟩
      have HR2 := Lib.hid (HR.out.keep hb2)
      have HY := Lib.hid hy
      clear HR HT hb2 hy
      simp only [TE.cells]
      go_wp2_with (with_reducible refine stop_op (o := ⟨_, .store 25 (.tmp 6) (.tmp 20), _, _, _, _⟩) ?_)
      refine Lib.hid ?_
      refine wpList_store_new (o := ⟨none, _, _, _, _, _⟩) rfl 25 (.tmp 6) (.tmp 20) rfl #[.int .i8 y.k, .int .i64 y.n, .string y.s, .string y.u, .slice y.ao y.l.length y.cap] rfl rfl (infoTM' _ rfl) rfl (by simp [Value.oneCell']) ?_
      have hb3 := (Below.refl W2.heap.size W2).alloc (Nat.le_refl _) (.cells #[.int .i8 y.k, .int .i64 y.n, .string y.s, .string y.u, .slice y.ao y.l.length y.cap] 25)
      have HR3 := Lib.hid (HR2.out.keep hb3)
      have HY3 := Lib.hid (HY.out.keep hb3)
      obtain ⟨y0, y1, y2, y3, y4⟩ := BxS.of (x := y) (heap_new W2 (.cells #[.int .i8 y.k, .int .i64 y.n, .string y.s, .string y.u, .slice y.ao y.l.length y.cap] 25))
      clear hb3 HR2 HY
      generalize hqs : W2.heap.size = qs at *
      generalize W2.alloc (.cells #[.int .i8 y.k, .int .i64 y.n, .string y.s, .string y.u, .slice y.ao y.l.length y.cap] 25) = W3 at *
      by_cases he : en = 0
      · have q1 : (en != 0) = false := by simp [he]
        clear he
        go_wp2_with (with_reducible refine stop_op (o := ⟨_, .store 25 (.tmp 4) (.tmp 25), _, _, _, _⟩) ?_)
        refine Lib.hid ?_
        refine wpList_store_row (o := ⟨none, _, _, _, _, _⟩) rfl 25 (.tmp 4) (.tmp 25) rfl (w.heap.size + 1) #[.int .i8 y.k, .int .i64 y.n, .string y.s, .string y.u, .slice y.ao y.l.length y.cap] rfl rfl 25 zT (HR3.out.h2) (infoTM' _ rfl) rfl (by simp [Value.oneCell']) ?_
        have hc4 := chg_setRow W3 (w.heap.size + 1) #[.int .i8 y.k, .int .i64 y.n, .string y.s, .string y.u, .slice y.ao y.l.length y.cap]
        have HZ := Lib.hid (And.intro (setRow_heap W3 (w.heap.size + 1) zT #[.int .i8 y.k, .int .i64 y.n, .string y.s, .string y.u, .slice y.ao y.l.length y.cap] 25 (0, 0) HR3.out.h2) (And.intro (bel_setRow HR3.out.hb HR3.out.hb.size (Nat.le_succ _) #[.int .i8 y.k, .int .i64 y.n, .string y.s, .string y.u, .slice y.ao y.l.length y.cap]) (HY3.out.chg (M' := M) hc4 (fun k e _ => .inr e) (fun k hk _ => .inl hk))))
        generalize W3.setRow (w.heap.size + 1) #[.int .i8 y.k, .int .i64 y.n, .string y.s, .string y.u, .slice y.ao y.l.length y.cap] = W4 at *
        clear hc4 HR3 HY3 y0 y1 y2 y3 y4
        go_wp2_with fail
        exact ret_cell HZ.out.1 rfl Tryz.underlying25 rfl (infoTM' _ rfl) rfl ⟨y, rfl, HZ.out.2.2, HZ.out.2.1⟩
      · have q1 : (en != 0) = true := by simp [he]
        clear he
        go_wp2_with (with_reducible refine stop_op (o := ⟨_, .store 25 (.tmp 4) (.tmp 24), _, _, _, _⟩) ?_)
        refine Lib.hid ?_
        refine wpList_store_row (o := ⟨none, _, _, _, _, _⟩) rfl 25 (.tmp 4) (.tmp 24) rfl (w.heap.size + 1) #[.int .i8 1, .int .i64 0, .string limS, .string ⟨#[]⟩, .slice none 0 0] rfl rfl 25 zT (HR3.out.h2) (infoTM' _ rfl) rfl (by simp [Value.oneCell']) ?_
        have HZ := Lib.hid (And.intro (setRow_heap W3 (w.heap.size + 1) zT #[.int .i8 1, .int .i64 0, .string limS, .string ⟨#[]⟩, .slice none 0 0] 25 (0, 0) HR3.out.h2) (bel_setRow HR3.out.hb HR3.out.hb.size (Nat.le_succ _) #[.int .i8 1, .int .i64 0, .string limS, .string ⟨#[]⟩, .slice none 0 0]))
        generalize W3.setRow (w.heap.size + 1) #[.int .i8 1, .int .i64 0, .string limS, .string ⟨#[]⟩, .slice none 0 0] = W4 at *
        clear HR3 HY3 y0 y1 y2 y3 y4
        go_wp2_with fail
        exact ret_cell HZ.out.1 rfl Tryz.underlying25 rfl (infoTM' _ rfl) rfl ⟨atomT limS, rfl, atomT_ok _ _ _ (by decide), HZ.out.2⟩
end Go.Proofs.YthpmdeofdlcccaaGreatDoor
namespace Go.Proofs.YthpmdeofdlcccaaGreatDoor
open Go.ChangeShapes Go.WideShapes Go.ChangeAt Go.RowKit
set_option linter.unusedVariables false
set_option maxRecDepth 100000
theorem wpList_append_full {P : Program} {ops : Array Oper} {rest : List Oper} {o : Oper} {a : Act} {w : World} {Q : Exit → Act → World → Prop} (hgd : o.guard = none) (s x : Operand) (t : TypeId)
    (ho : o.op = .call { callee := .builtin .append, args := #[s, x], argTypes := #[t, t] }) (e : TypeId) (i : TypeInfo) (z : Value) (size bytes : Nat) (ht : P.underlying t = some (.slice e)) (hi : P.info? e = some i) (hz : i.zero = some z)
    (hsize : i.size = size) (hby : i.bytes = bytes) (hzs : z.cells.size = size)
    (b : Addr) (n : Nat) (olds : List Value) (hs : a.eval s = .slice (some b) n n) (hlo : olds.length = n * size) (holds : ∀ j v, olds[j]? = some v → w.cell? (b.add j) = some v)
    (ad : Addr) (m c : Nat) (news : List Value) (hx : a.eval x = .slice (some ad) m c) (hl : news.length = m * size) (hnews : ∀ j v, news[j]? = some v → w.cell? (ad.add j) = some v)
    (hm : 0 < m) (h63 : n + m ≤ 1000000) (hb1 : bytes ≤ 1000)
    (h : ∀ v' w', w'.ownsRow w.heap.size e size v' (n + m) (olds ++ news) → Below w.heap.size w w' → wpList P ops Q rest (a.put o.dst v') w') : wpList P ops Q (o :: rest) a w := by
  refine wpList_plain hgd fun K hK => ?_
  subst hsize
  subst hby
  have hbytes : (n + m) * i.bytes ≤ 140737488355328 := Nat.le_trans (Nat.mul_le_mul h63 hb1) (by decide)
  have hr := run_append_grow (P := P) w t o.type e i z ht hi hz b n n olds hlo holds ad m c news hl hnews (by omega) (by omega) (growslice_fits (by omega) hbytes)
  have hge := grownCap_ge w (n + m) n e
  have hcm : grownCap w (n + m) n e ≤ maxLen := grownCap_le_maxLen w (n + m) n e (by simp only [maxLen]; omega)
  have hlen : (olds ++ news).length = (n + m) * i.size := by rw [List.length_append, hlo, hl, Nat.add_mul]
  have hown : (w.drew.alloc (.cells (olds.toArray ++ news.toArray ++ Builtin.zeroCells z.cells (grownCap w (n + m) n e - (n + m))) e)).ownsRow w.heap.size e i.size
      (.slice (some ⟨w.heap.size, 0, none⟩) (n + m) (grownCap w (n + m) n e)) (n + m) (olds ++ news) := by
    refine ⟨hlen, .inr ⟨w.heap.size, _, _, rfl, Nat.le_refl _, heap_alloc_new w.drew _, hge, hcm, ?_, ?_⟩⟩
    · simp only [Array.size_append, List.size_toArray, size_zeroCells, hzs, hlo, hl, ← Nat.add_mul]
      congr 1
      omega
    · simp only [Array.toList_append, List.append_assoc]
      rw [← List.append_assoc, ← hlen]
      exact List.take_left
  have hb : Below w.heap.size w (w.drew.alloc (.cells (olds.toArray ++ news.toArray ++ Builtin.zeroCells z.cells (grownCap w (n + m) n e - (n + m))) e)) := (Below.refl _ _).drew.alloc (Nat.le_refl _) _
  unfold Oper.wp execOp
  simp only [ho, resolve, invoke, builtin, Sem.run_bind, Sem.run_pure, Result.andThen_ok, List.map_toArray, List.map_cons, List.map_nil, hs, hx, hr]
  exact hK _ _ (h _ _ hown hb)
/-- an owned row of terms -/
theorem tes_own (M : Nat → Prop) (w : World) (base : Nat) (v : Value) (E : List TE) (n : Nat) (hn : n = E.length) (hown : w.ownsRow base 25 5 v n (tcs E)) (hM : ∀ k, M k → k < base) (hE : ∀ x ∈ E, TeOk M w x) : TesOk M w v E := by
  subst hn
  refine ⟨?_, hE⟩
  rcases hown.2 with ⟨rfl, e⟩ | ⟨g, c, cur, rfl, hb, hg, h1, h2, h3, h4⟩
  · have := List.length_eq_zero_iff.1 e
    subst this
    exact ⟨none, 0, rfl, Nat.le_refl _, by omega, .inl rfl⟩
  · refine ⟨some ⟨g, 0, none⟩, c, rfl, h1, by simp only [maxLen] at h2; omega, .inr ⟨g, 0, rfl, fun hm => by have := hM g hm; omega, fun j u hj => ?_⟩⟩
    rw [Nat.zero_add]
    refine (cells_at hg j u ?_).1
    have hj2 : j < (tcs E).length := (List.getElem?_eq_some_iff.1 hj).1
    rw [← h4, List.getElem?_take] at hj
    split at hj
    · rw [← Array.getElem?_toList]
      exact hj
    · cases hj
end Go.Proofs.YthpmdeofdlcccaaGreatDoor
