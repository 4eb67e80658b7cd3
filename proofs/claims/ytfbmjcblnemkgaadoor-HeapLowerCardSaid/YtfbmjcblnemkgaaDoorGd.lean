/- heap: Take, walked. Conditions: the table of letters reads as laid; what comes reads. -/
import Derived.Test.YtfbmjcblnemkgaaDoorJc
import Derived.Test.YtfbmjcblnemkgaaDoorGr
namespace Go.Proofs.YtfbmjcblnemkgaaDoor
open Go.ChangeShapes Go.WideShapes Go.ChangeAt Go.RowKit
set_option linter.unusedVariables false
set_option maxRecDepth 100000
abbrev zT : Array Value := #[.int .i8 0, .int .i64 0, .string ⟨#[]⟩, .string ⟨#[]⟩, .slice none 0 0]
theorem infoTM2 : ∃ i z, Tryd.prog.info? 31 = some i ∧ i.zero = some z ∧ i.size = 5 ∧ i.bytes = 72 ∧ z.cells.size = 5 := by
  have h : (Tryd.prog.info? 31).map (fun i => (i.zero.map (fun z => z.cells.size), i.size, i.bytes)) = some (some 5, 5, 72) := by kernel_rfl
  cases hi : Tryd.prog.info? 31 with
  | none => rw [hi] at h; cases h
  | some i =>
    rw [hi] at h
    simp only [Option.map_some, Option.some.injEq, Prod.mk.injEq] at h
    obtain ⟨h1, h2, h3⟩ := h
    cases hz : i.zero with
    | none => rw [hz] at h1; cases h1
    | some z =>
      rw [hz] at h1
      exact ⟨i, z, rfl, hz, h2, h3, by simpa using h1⟩
theorem infoTM' (cs : Array Value) (h : cs.size = 5) : (Tryd.prog.info? 31).map (·.size) = some cs.size := by
  rw [h]
  kernel_rfl
theorem infoCL' (cs : Array Value) (h : cs.size = 3) : (Tryd.prog.info? 46).map (·.size) = some cs.size := by
  rw [h]
  kernel_rfl
/-- what the closure reads -/
structure TkC (w0 : World) (base p hb tb : Nat) (v : Value) (C : List HC) (W : World) : Prop where
  hp : Hp W base p v C
  hh : W.heap[hb]? = some (.cells #[.pointer (some ⟨p, 0, none⟩)] 24 (0, 0))
  ht : W.heap[tb]? = some (.cells #[.func (.func 30) #[] #[.pointer (some ⟨hb, 0, none⟩), .pointer (some ⟨tb, 0, none⟩)]] 67 (0, 0))
  hb0 : Below w0.heap.size w0 W
theorem TkC.keep {w0 : World} {base p hb tb : Nat} {v : Value} {C : List HC} {W W' : World} (h : TkC w0 base p hb tb v C W) (hk : Below W.heap.size W W') : TkC w0 base p hb tb v C W' :=
  ⟨h.hp.keep hk, keep_heap h.hh hk, keep_heap h.ht hk, h.hb0.trans (hk.mono h.hb0.size)⟩
def TkP (w0 : World) (F : Nat) (t : Tm) (W : World) (e : Ending) (W' : World) : Prop :=
  Below W.heap.size W W' ∧ ∃ x : TE, e = .returned (.agg #[.int .i8 x.k, .int .i64 x.n, .string x.s, .string x.u, .slice x.ao x.l.length x.cap]) ∧ x.t = t ∧ fields x.k x.n x.s x.u ∧ RowS (fun b => b < w0.heap.size ∨ W.heap.size ≤ b) F W' x.lv x.l
theorem take1_leaf (w0 : World) (f F base p hb tb : Nat) (v : Value) (C : List HC) (x : Wd) (W : World) (h : TkC w0 base p hb tb v C W) (hx : WOk f w0 x) (hc : x.c = false) (hF : f ≤ F) :
    Calls Tryd.prog 30 #[x.V, .pointer (some ⟨hb, 0, none⟩), .pointer (some ⟨tb, 0, none⟩)] W (TkP w0 F x.t W) := by
  obtain ⟨xc, xa, xk, xn, xs, xu, xao, xcap, xl⟩ := x
  dsimp only at hc
  subst hc
  have hb1 := (Below.refl W.heap.size W).alloc (Nat.le_refl _) (.cells #[.bool false, .int .i64 xa, .int .i8 xk, .int .i64 xn, .string xs, .string xu, .slice xao xl.length xcap] 33)
  have hnx := heap_new W (.cells #[.bool false, .int .i64 xa, .int .i8 xk, .int .i64 xn, .string xs, .string xu, .slice xao xl.length xcap] 33)
  have hs1 : (W.alloc (.cells #[.bool false, .int .i64 xa, .int .i8 xk, .int .i64 xn, .string xs, .string xu, .slice xao xl.length xcap] 33)).heap.size = W.heap.size + 1 := by simp
  have HB1 := Lib.hid hb1
  have HR0 := Lib.hid hx.2.2.toS
  have HF := Lib.hid hx.2.1
  have HB0 := Lib.hid h.hb0
  clear h hx hb1
  go_enter Tryd.func30, Tryd.ntmps30
  simp only [Wd.V]
  go_wp2_with (with_reducible refine stop_op (o := ⟨_, .store 31 (.tmp 4) (.tmp 13), _, _, _, _⟩) ?_)
  refine Lib.hid ?_
  have hz := heap_new (W.alloc (.cells #[.bool false, .int .i64 xa, .int .i8 xk, .int .i64 xn, .string xs, .string xu, .slice xao xl.length xcap] 33)) (.cells zT 31)
  rw [hs1] at hz
  have hb2 := HB1.out.alloc HB1.out.size (.cells zT 31)
  have hsz : (W.alloc (.cells #[.bool false, .int .i64 xa, .int .i8 xk, .int .i64 xn, .string xs, .string xu, .slice xao xl.length xcap] 33)).heap.size = W.heap.size + 1 := hs1
  generalize W.alloc (.cells #[.bool false, .int .i64 xa, .int .i8 xk, .int .i64 xn, .string xs, .string xu, .slice xao xl.length xcap] 33) = W1 at *
  refine wpList_store_row (o := ⟨none, _, _, _, _, _⟩) rfl 31 (.tmp 4) (.tmp 13) rfl (W.heap.size + 1) #[.int .i8 xk, .int .i64 xn, .string xs, .string xu, .slice xao xl.length xcap] rfl rfl 31 zT hz (infoTM' _ rfl) rfl (by simp [Value.oneCell']) ?_
  have HX := Lib.hid (setRow_heap _ (W.heap.size + 1) _ #[.int .i8 xk, .int .i64 xn, .string xs, .string xu, .slice xao xl.length xcap] _ _ hz)
  have hc := chg_setRow (W1.alloc (.cells zT 31)) (W.heap.size + 1) #[.int .i8 xk, .int .i64 xn, .string xs, .string xu, .slice xao xl.length xcap]
  have hb3 := hb2.trans (hc.below hb2.size (fun k h => by have h : k = W.heap.size + 1 := h; omega))
  have HFIN : Hid (TkP w0 F (.mk xk xn xs xu xl) W (.returned (.agg #[.int .i8 xk, .int .i64 xn, .string xs, .string xu, .slice xao xl.length xcap])) ((W1.alloc (.cells zT 31)).setRow (W.heap.size + 1) #[.int .i8 xk, .int .i64 xn, .string xs, .string xu, .slice xao xl.length xcap])) := Lib.hid
    ⟨hb3, ⟨xk, xn, xs, xu, xao, xcap, xl⟩, rfl, rfl, HF.out, HR0.out.chg (chg_of_below (HB0.out.trans (hb3.mono HB0.out.size)) (fun _ => False)) (fun _ _ _ h => h) (fun k h _ => .inl h) hF⟩
  clear hz hc hb2 hb3
  generalize (W1.alloc (.cells zT 31)).setRow (W.heap.size + 1) #[.int .i8 xk, .int .i64 xn, .string xs, .string xu, .slice xao xl.length xcap] = W9 at *
  go_wp2_with fail
  exact ret_row1 HX.out rfl Tryd.underlying31 rfl (infoTM' _ rfl) rfl HFIN.out
/-- what region 3 reads -/
def Tk3 (hb p bx g i : Nat) (v k sz lv : Value) (W : World) : Prop := W.cell? ⟨hb, 0, none⟩ = some (.pointer (some ⟨p, 0, none⟩)) ∧ W.cell? ⟨p, 0, none⟩ = some v ∧ W.cell? ⟨bx, 1, none⟩ = some (.int .i64 i) ∧ W.cell? ⟨g, i * 3, none⟩ = some k ∧ W.cell? ⟨g, i * 3 + 1, none⟩ = some sz ∧ W.cell? ⟨g, i * 3 + 2, none⟩ = some lv
theorem Tk3.keep {hb p bx g i : Nat} {v k sz lv : Value} {W W' : World} (h : Tk3 hb p bx g i v k sz lv W) (hk : Below W.heap.size W W') : Tk3 hb p bx g i v k sz lv W' := by
  obtain ⟨h1, h2, h3, h4, h5, h6⟩ := h
  exact ⟨keep_cell h1 hk, keep_cell h2 hk, keep_cell h3 hk, keep_cell h4 hk, keep_cell h5 hk, keep_cell h6 hk⟩
/-- what region 8 reads -/
def Tk8 (X Y tb : Nat) (lv fv : Value) (y : Wd) (W : World) : Prop := W.cell? ⟨X, 4, none⟩ = some lv ∧ W.cell? ⟨tb, 0, none⟩ = some fv ∧ W.cell? ⟨Y, 0, none⟩ = some (.bool y.c) ∧ W.cell? ⟨Y, 1, none⟩ = some (.int .i64 y.a) ∧ W.cell? ⟨Y, 2, none⟩ = some (.int .i8 y.k) ∧ W.cell? ⟨Y, 3, none⟩ = some (.int .i64 y.n) ∧ W.cell? ⟨Y, 4, none⟩ = some (.string y.s) ∧ W.cell? ⟨Y, 5, none⟩ = some (.string y.u) ∧ W.cell? ⟨Y, 6, none⟩ = some (.slice y.ao y.l.length y.cap)
theorem Tk8.keep {X Y tb : Nat} {lv fv : Value} {y : Wd} {W W' : World} (h : Tk8 X Y tb lv fv y W) (hk : Below W.heap.size W W') : Tk8 X Y tb lv fv y W' := by
  obtain ⟨h1, h2, h3, h4, h5, h6, h7, h8, h9⟩ := h
  exact ⟨keep_cell h1 hk, keep_cell h2 hk, keep_cell h3 hk, keep_cell h4 hk, keep_cell h5 hk, keep_cell h6 hk, keep_cell h7 hk, keep_cell h8 hk, keep_cell h9 hk⟩
/-- the loop goes on so -/
structure TkI (w0 W : World) (F r X i : Nat) (k : Int) (lv : Value) (E : List TE) (wr : World) : Prop where
  hb : Below W.heap.size W wr
  hX : wr.heap[X]? = some (.cells #[.int .i8 k, .int .i64 0, .string ⟨#[]⟩, .string ⟨#[]⟩, lv] 31 (0, 0))
  hr : wr.heap[r]? = some (.cells zT 31 (0, 0))
  hE : TRow (fun b => b < w0.heap.size ∨ X < b) F wr (X + 1) lv E
theorem TkI.keep {w0 W : World} {F r X i : Nat} {k : Int} {lv : Value} {E : List TE} {wr wr' : World} (h : TkI w0 W F r X i k lv E wr) (hk : Below wr.heap.size wr wr') : TkI w0 W F r X i k lv E wr' :=
  ⟨h.hb.trans (hk.mono h.hb.size), keep_heap h.hX hk, keep_heap h.hr hk, own_keep h.hE.1 hk, fun x hx => ⟨(h.hE.2 x hx).1, (h.hE.2 x hx).2.chg (chg_of_below hk (fun _ => False)) (fun _ _ _ h => h) (fun _ h _ => h) (Nat.le_refl _)⟩⟩
theorem TkI.push {w0 W : World} {F r X i : Nat} {k : Int} {lv lv' : Value} {E : List TE} {W8 W9 : World} {te : TE} {N0 : Nat} (h : TkI w0 W F r X i k lv E W8) (hfe : fields te.k te.n te.s te.u) (hre : RowS (fun b => b < w0.heap.size ∨ N0 ≤ b) F W8 te.lv te.l) (hN : ∀ j, lv.ownBlock = some j → j < N0) (hX0 : X < N0) (hNW : N0 ≤ W8.heap.size)
    (hown : W9.ownsRow (X + 1) 31 5 lv' (E.length + 1) (tcs E ++ te.cells)) (hg : W8.grownBy W9 lv.ownBlock) (hwh : lv'.ownBlock = lv.ownBlock ∨ lv'.ownBlock = some W8.heap.size) (h0 : w0.heap.size ≤ W.heap.size) (hr1 : W.heap.size ≤ r) (hr2 : r < X) :
    TkI w0 W F r X (i + 1) k lv' (E ++ [te]) (W9.setCell ⟨X, 4, none⟩ lv') := by
  have hc := chg_grown hg
  have hcs := chg_set (w := W9) (p := ⟨X, 4, none⟩) lv'
  have hob := own_base h.hE.1
  have hob' := own_base hown
  have hX9 := hc.heap h.hX (fun e => by have := hob X e.symm; omega)
  have hr9 := hc.heap h.hr (fun e => by have := hob r e.symm; omega)
  have h5 : (E ++ [te]).length = E.length + 1 := by simp
  refine ⟨(h.hb.trans (hc.below h.hb.size (fun j e => by have := hob j e.symm; omega))).trans (hcs.below ?_ (fun j e => by have e : j = X := e; omega)), set_at (i := 4) hX9 lv', hcs.heap hr9 (fun e => by have e : r = X := e; omega), ?_, fun x hx => ?_⟩
  · exact Nat.le_trans h.hb.size hc.size
  · rw [h5, tcs_snoc]
    exact own_chg hown hcs (fun j hj e => by have := hob' j hj; have e : j = X := e; omega)
  · rw [List.mem_append] at hx
    rcases hx with hx | hx
    · obtain ⟨q1, q2⟩ := h.hE.2 x hx
      have q3 := q2.chg (S' := fun b => ((b < w0.heap.size ∨ X < b) ∧ lv.ownBlock ≠ some b) ∧ b < W8.heap.size) hc (fun j hj _ e => hj.2 e.symm) (fun j hj hl => ⟨hj, hl⟩) (Nat.le_refl _)
      refine ⟨q1, q3.chg hcs (fun j hj _ e => ?_) (fun j hj _ => ⟨hj.1.1, fun e => ?_⟩) (Nat.le_refl _)⟩
      · have e : j = X := e
        have := hj.1.1
        omega
      · rcases hwh with hw | hw
        · exact hj.1.2 (hw ▸ e)
        · rw [hw] at e
          have := Option.some.inj e
          have := hj.2
          omega
    · obtain rfl := List.mem_singleton.1 hx
      have q3 := hre.chg (S' := fun b => (b < w0.heap.size ∨ N0 ≤ b) ∧ b < W8.heap.size) hc (fun j hj _ e => by
        have h1 := hN j e.symm
        have h2 := hob j e.symm
        omega) (fun j hj hl => ⟨hj, hl⟩) (Nat.le_refl _)
      refine ⟨hfe, q3.chg hcs (fun j hj _ e => ?_) (fun j hj _ => ⟨?_, fun e => ?_⟩) (Nat.le_refl _)⟩
      · have e : j = X := e
        have := hj.1
        omega
      · have := hj.1
        omega
      · rcases hwh with hw | hw
        · rw [hw] at e
          have h1 := hN j e
          have h2 := hob j e
          have := hj.1
          omega
        · rw [hw] at e
          have := Option.some.inj e
          have := hj.2
          omega
set_option maxHeartbeats 8000000 in
theorem take1_any (w0 : World) (f base p hb tb : Nat) (v : Value) (C : List HC) (hO : ∀ c ∈ C, ∀ x ∈ c.l, WOk f w0 x) : ∀ (N : Nat) (x : Wd) (W : World), TkC w0 base p hb tb v C W → WOk f w0 x → Low N x → N ≤ C.length →
    Calls Tryd.prog 30 #[x.V, .pointer (some ⟨hb, 0, none⟩), .pointer (some ⟨tb, 0, none⟩)] W (TkP w0 (f + N) (tkN C N x) W) := by
  intro N
  induction N with
  | zero =>
    intro x W h hx hl _
    cases hc : x.c
    · rw [tkN_leaf C 0 x hc]
      exact take1_leaf w0 f _ base p hb tb v C x W h hx hc (by omega)
    · have := hl hc
      omega
  | succ N ih =>
    intro x W h hx hl hN
    cases hc : x.c
    · rw [tkN_leaf C _ x hc]
      exact take1_leaf w0 f _ base p hb tb v C x W h hx hc (by omega)
    · obtain ⟨l1, l2⟩ := hl hc
      obtain ⟨xc, xa, xk, xn, xs, xu, xao, xcap, xl⟩ := x
      dsimp only at hc l1 l2
      subst hc
      obtain ⟨i, rfl⟩ := Int.eq_ofNat_of_zero_le l1
      have hi : i < C.length := by omega
      obtain ⟨c, hcc⟩ : ∃ c, C[i]? = some c := ⟨C[i], by simp [hi]⟩
      rw [tkN_cell C N _ c rfl (by simpa using hcc)]
      obtain ⟨vo, vc, rfl, -, hcm, p0, -, -, -, hps, hcell⟩ := h.hp.facts
      obtain ⟨g, rfl, hg⟩ := hcell i c hcc
      have e0 := hg 0 _ rfl
      have e1 := hg 1 _ rfl
      have e2 := hg 2 _ rfl
      simp only [Nat.add_zero] at e0
      have hgs := World.block_lt_of_cell? W _ e0
      have hh0 := (cells_at h.hh 0 _ rfl).1
      have hok := h.hp.2.2.2.2 i c hcc
      have HOK := Lib.hid hok
      have HH := Lib.hid h
      have HCC := Lib.hid hcc
      have HIH := Lib.hid ih
      have HO := Lib.hid hO
      have hb1 := (Below.refl W.heap.size W).alloc (Nat.le_refl _) (.cells #[.bool true, .int .i64 i, .int .i8 xk, .int .i64 xn, .string xs, .string xu, .slice xao xl.length xcap] 33)
      have hnx := heap_new W (.cells #[.bool true, .int .i64 i, .int .i8 xk, .int .i64 xn, .string xs, .string xu, .slice xao xl.length xcap] 33)
      have hs1 : (W.alloc (.cells #[.bool true, .int .i64 i, .int .i8 xk, .int .i64 xn, .string xs, .string xu, .slice xao xl.length xcap] 33)).heap.size = W.heap.size + 1 := by simp
      have hz := heap_new (W.alloc (.cells #[.bool true, .int .i64 i, .int .i8 xk, .int .i64 xn, .string xs, .string xu, .slice xao xl.length xcap] 33)) (.cells zT 31)
      rw [hs1] at hz
      have hb2 := hb1.alloc hb1.size (.cells zT 31)
      have hs2 : ((W.alloc (.cells #[.bool true, .int .i64 i, .int .i8 xk, .int .i64 xn, .string xs, .string xu, .slice xao xl.length xcap] 33)).alloc (.cells zT 31)).heap.size = W.heap.size + 2 := by simp
      have hS3 : Tk3 hb p W.heap.size g i (.slice (some ⟨g, 0, none⟩) C.length vc) (.int .i8 c.k) (.int .i64 c.sz) (.slice c.lo c.l.length c.lc) ((W.alloc (.cells #[.bool true, .int .i64 i, .int .i8 xk, .int .i64 xn, .string xs, .string xu, .slice xao xl.length xcap] 33)).alloc (.cells zT 31)).drew :=
        ⟨keep_cell hh0 (hb2.drew), keep_cell p0 (hb2.drew), (cells_at (heap_old hnx (.cells zT 31)) 1 _ rfl).1, keep_cell e0 (hb2.drew), keep_cell e1 (hb2.drew), keep_cell e2 (hb2.drew)⟩
      have HB2 := Lib.hid hb2.drew
      have HZ := Lib.hid (keep_heap hz (Below.refl _ _).drew)
      clear h hx hl hok hcell hg e0 e1 e2 p0 hh0 hb1 hnx hb2 hz ih hO hcc
      go_enter Tryd.func30, Tryd.ntmps30
      simp only [Wd.V]
      go_wp2_with fail
      refine region_plan (Tk3 hb p W.heap.size g i (.slice (some ⟨g, 0, none⟩) C.length vc) (.int .i8 c.k) (.int .i64 c.sz) (.slice c.lo c.l.length c.lc)) [(0, 0), (1, 0), (2, 0), (3, 0), (4, 0), (5, 0), (6, 0), (7, 0), (8, 1), (9, 1)] (by kernel_rfl) (by kernel_rfl) (by kernel_rfl) hS3 ?_
      have hsd : ((W.alloc (.cells #[.bool true, .int .i64 i, .int .i8 xk, .int .i64 xn, .string xs, .string xu, .slice xao xl.length xcap] 33)).alloc (.cells zT 31)).drew.heap.size = W.heap.size + 2 := hs2
      generalize ((W.alloc (.cells #[.bool true, .int .i64 i, .int .i8 xk, .int .i64 xn, .string xs, .string xu, .slice xao xl.length xcap] 33)).alloc (.cells zT 31)).drew = WD at *
      have HSD := Lib.hid hsd
      clear hsd hs1 hs2
      iterate 8 (first | (refine plan_skip rfl ?_ ?_; (focus (rfl)); (try simp only [Act.put, List.setIfInBounds_toArray, List.set_cons_zero, List.set_cons_succ])) | (refine plan_take (v := ?_) rfl ?_ (fun w hSw => ?_) ?_; rotate_left; (focus (rfl)); (focus (unfold Tk3 at hSw; (go_simp <;> with_reducible rfl))); (try simp only [Act.put, List.setIfInBounds_toArray, List.set_cons_zero, List.set_cons_succ])))
      have hba := (Below.refl WD.heap.size WD).alloc (Nat.le_refl _) (.cells #[.int .i8 0, .int .i64 0, .slice none 0 0] 46)
      have hSa := hS3.keep hba
      refine plan_run rfl ?_ (fun K hK => ?_)
      focus (rfl)
      go_simp
      refine hK.out _ _ (hSa) ?_
      clear hK K
      (try simp only [Act.put, List.setIfInBounds_toArray, List.set_cons_zero, List.set_cons_succ])
      have hb5 := (Below.refl WD.heap.size WD).alloc (Nat.le_refl _) (.cells #[.int .i8 c.k, .int .i64 c.sz, .slice c.lo c.l.length c.lc] 46)
      have hSb := hS3.keep hb5
      have hn5 := heap_new WD (.cells #[.int .i8 c.k, .int .i64 c.sz, .slice c.lo c.l.length c.lc] 46)
      refine plan_run rfl ?_ (fun K hK => ?_)
      focus (rfl)
      refine wp_store_row 46 (.tmp 5) (.tmp 21) rfl WD.heap.size #[.int .i8 c.k, .int .i64 c.sz, .slice c.lo c.l.length c.lc] rfl rfl 46 #[.int .i8 0, .int .i64 0, .slice none 0 0] (heap_new WD _) (infoCL' _ rfl) rfl (by simp [Value.oneCell']) ?_
      rw [setRow_alloc]
      refine hK.out _ _ (hSb) ?_
      clear hK K
      (try simp only [Act.put, List.setIfInBounds_toArray, List.set_cons_zero, List.set_cons_succ])
      refine plan_done ?_
      have hsd := HSD.out
      have hs5 : (WD.alloc (.cells #[.int .i8 c.k, .int .i64 c.sz, .slice c.lo c.l.length c.lc] 46)).heap.size = W.heap.size + 3 := by rw [World.size_alloc, hsd]
      have HB5 := Lib.hid (HB2.out.trans (hb5.mono (by omega)))
      have HZ5 := Lib.hid (keep_heap HZ.out hb5)
      obtain ⟨f0, -⟩ := cells_at hn5 0 _ rfl
      obtain ⟨f2, -⟩ := cells_at hn5 2 _ rfl
      have HN5 := Lib.hid hn5
      clear hba hSa hb5 hSb hn5 hS3 HB2 HZ
      rw [hsd] at *
      generalize (WD.alloc (.cells #[.int .i8 c.k, .int .i64 c.sz, .slice c.lo c.l.length c.lc] 46)) = W5 at *
      have HS5 := Lib.hid hs5
      clear hs5
      go_wp2_with (with_reducible refine stop_op (o := ⟨_, .store 31 (.tmp 6) (.tmp 24), _, _, _, _⟩) ?_)
      refine Lib.hid ?_
      refine wpList_store_new (o := ⟨none, _, _, _, _, _⟩) rfl 31 (.tmp 6) (.tmp 24) rfl #[.int .i8 c.k, .int .i64 0, .string ⟨#[]⟩, .string ⟨#[]⟩, .slice none 0 0] rfl rfl (infoTM' _ rfl) rfl (by simp [Value.oneCell']) ?_
      have hb6 := (Below.refl W5.heap.size W5).alloc (Nat.le_refl _) (.cells #[.int .i8 c.k, .int .i64 0, .string ⟨#[]⟩, .string ⟨#[]⟩, .slice none 0 0] 31)
      have hn6 := heap_new W5 (.cells #[.int .i8 c.k, .int .i64 0, .string ⟨#[]⟩, .string ⟨#[]⟩, .slice none 0 0] 31)
      have hI0 : TkI w0 W (f + N) (W.heap.size + 1) W5.heap.size 0 c.k (.slice none 0 0) [] (W5.alloc (.cells #[.int .i8 c.k, .int .i64 0, .string ⟨#[]⟩, .string ⟨#[]⟩, .slice none 0 0] 31)) :=
        ⟨HB5.out.trans (hb6.mono HB5.out.size), hn6, keep_heap HZ5.out hb6, World.ownsRow_nil _ _ _ _, fun x hx => by cases hx⟩
      rw [HS5.out] at hI0
      have HI0 := Lib.hid hI0
      have f2' := keep_cell f2 hb6
      obtain ⟨ao', cap', e', -, -, hrw, hno⟩ := own_wrow (HH.out.hp.2.2.1.2 c (List.mem_of_getElem? HCC.out))
      injection e' with e1' e2' e3'
      subst e1' e3'
      have HRW := Lib.hid hrw
      have hl6 := heap_lt (keep_heap HN5.out hb6)
      have hcl : c.l.length ≤ 255 := HOK.out.2.2.2.1
      clear hb6 hn6 hI0 hrw hno e2' f0 f2 HB5 HZ5 HN5
      have hs5 := HS5.out
      rw [hs5] at *
      generalize W5.alloc (.cells #[.int .i8 c.k, .int .i64 0, .string ⟨#[]⟩, .string ⟨#[]⟩, .slice none 0 0] 31) = W6 at *
      go_wp2_with fail
      go_loopw [28] (fun iv wr => ∃ (j : Nat) (lv : Value) (E : List TE), j ≤ c.l.length ∧ iv = .int .i64 j ∧ Hid (TkI w0 W (f + N) (W.heap.size + 1) (W.heap.size + 3) j c.k lv E wr ∧ E.length = j ∧ E.map TE.t = (c.l.take j).map (tkN C N)))
        (fun iv _ => c.l.length - (intOf iv).toNat)
      case atStart => exact ⟨0, _, [], by omega, rfl, Lib.hid ⟨HI0.out, rfl, rfl⟩⟩
      case round =>
        clear HI0 f2' hl6
        obtain ⟨j, lv, E, hj', rfl, HI⟩ := hrel
        by_cases hlt : j < c.l.length
        · obtain ⟨y, hy⟩ : ∃ y, c.l[j]? = some y := ⟨c.l[j], by simp [hlt]⟩
          have hym := List.mem_of_getElem? hy
          have HLO := Lib.hid (low_part HH.out.hp.2.2.2 HCC.out hym)
          have HYO := Lib.hid (HO.out c (List.mem_of_getElem? HCC.out) y hym)
          have HY := Lib.hid hy
          obtain ⟨b', off, elo, hbs, hcx⟩ := HRW.out.keep HI.out.1.hb j y hy
          have c0 := hcx 0 _ rfl
          have c1 := hcx 1 _ rfl
          have c2 := hcx 2 _ rfl
          have c3 := hcx 3 _ rfl
          have c4 := hcx 4 _ rfl
          have c5 := hcx 5 _ rfl
          have c6 := hcx 6 _ rfl
          simp only [Nat.add_zero] at c0
          rw [elo]
          clear hcx hy hym
          go_wp2_with (with_reducible refine stop_op (o := ⟨_, .store 33 (.tmp 8) (.tmp 31), _, _, _, _⟩) ?_)
          refine Lib.hid ?_
          have hby := (Below.refl wr.heap.size wr).alloc (Nat.le_refl _) (.cells y.cells.toArray 33)
          have hny := heap_new wr (.cells y.cells.toArray 33)
          have hdy : Below wr.heap.size wr (wr.alloc (.cells y.cells.toArray 33)).drew := hby.drew
          have hIy := HI.out.1.keep hdy
          have hTy := HH.out.keep hIy.hb
          have hY := keep_heap hny (Below.refl _ _).drew
          have hS8 : Tk8 (W.heap.size + 3) wr.heap.size tb lv (.func (.func 30) #[] #[.pointer (some ⟨hb, 0, none⟩), .pointer (some ⟨tb, 0, none⟩)]) y (wr.alloc (.cells y.cells.toArray 33)).drew :=
            ⟨(cells_at hIy.hX 4 _ rfl).1, (cells_at hTy.ht 0 _ rfl).1, (cells_at hY 0 _ rfl).1, (cells_at hY 1 _ rfl).1, (cells_at hY 2 _ rfl).1, (cells_at hY 3 _ rfl).1, (cells_at hY 4 _ rfl).1, (cells_at hY 5 _ rfl).1, (cells_at hY 6 _ rfl).1⟩
          have hwd : (wr.alloc (.cells y.cells.toArray 33)).drew.heap.size = wr.heap.size + 1 := by
            have : (wr.alloc (.cells y.cells.toArray 33)).heap.size = wr.heap.size + 1 := by simp
            exact this
          have hcall := HIH.out y (wr.alloc (.cells y.cells.toArray 33)).drew hTy HYO.out (fun h => by have := HLO.out h; omega) (by omega)
          have HCALL := Lib.hid hcall
          have HIY := Lib.hid hIy
          have HTY := Lib.hid hTy
          have HYY := Lib.hid hY
          have hww := HI.out.1.hb.size
          have hX3 := heap_lt HI.out.1.hX
          have HWD := Lib.hid hwd
          obtain ⟨yc, ya, yk, yn, ys, yu, yao, ycap, yl⟩ := y
          dsimp only at c0 c1 c2 c3 c4 c5 c6
          refine wpList_store_new (o := ⟨none, _, _, _, _, _⟩) rfl 33 (.tmp 8) (.tmp 31) rfl #[.bool yc, .int .i64 ya, .int .i8 yk, .int .i64 yn, .string ys, .string yu, .slice yao yl.length ycap] rfl rfl (infoWD _ rfl) rfl (by simp [Value.oneCell']) ?_
          clear hby hny hdy hIy hTy hY hcall c0 c1 c2 c3 c4 c5 c6 hwd
          simp only [Wd.cells, Wd.V] at *
          go_wp2_with fail
          refine region_planZ 8 (Tk8 (W.heap.size + 3) wr.heap.size tb lv (.func (.func 30) #[] #[.pointer (some ⟨hb, 0, none⟩), .pointer (some ⟨tb, 0, none⟩)]) ⟨yc, ya, yk, yn, ys, yu, yao, ycap, yl⟩) [(0, 0), (1, 0), (2, 0), (3, 0), (4, 1), (5, 1), (6, 1), (7, 0), (8, 1)] (by kernel_rfl) (by kernel_rfl) (by kernel_rfl) hS8 ?_
          generalize (wr.alloc (.cells #[.bool yc, .int .i64 ya, .int .i8 yk, .int .i64 yn, .string ys, .string yu, .slice yao yl.length ycap] 33)).drew = WD at *
          iterate 4 (first | (refine planZ_skip rfl ?_ ?_; (focus (rfl)); (try simp only [Act.put, List.setIfInBounds_toArray, List.set_cons_zero, List.set_cons_succ])) | (refine planZ_take (v := ?_) rfl ?_ (fun w hSw => ?_) ?_; rotate_left; (focus (rfl)); (focus (unfold Tk8 at hSw; (go_simp <;> with_reducible rfl))); (try simp only [Act.put, List.setIfInBounds_toArray, List.set_cons_zero, List.set_cons_succ])))
          obtain ⟨i0, z0, q1, q2, q3, q4, q5⟩ := infoTM2
          refine planZ_run rfl ?_ (fun K hK => ?_)
          focus (rfl)
          go_simp
          refine (HCALL.out).mono ?_
          rintro e W8 ⟨hb8, te, rfl, hte, hfe, hre⟩
          have hS9 := hS8.keep hb8
          refine hK.out _ _ (fun _ => hS9) ?_
          clear hK K 
          (try simp only [Act.put, List.setIfInBounds_toArray, List.set_cons_zero, List.set_cons_succ])
          have hbt := (Below.refl W8.heap.size W8).alloc (Nat.le_refl _) (.cells te.cells.toArray 31)
          have hSt : Tk8 (W.heap.size + 3) wr.heap.size tb lv (.func (.func 30) #[] #[.pointer (some ⟨hb, 0, none⟩), .pointer (some ⟨tb, 0, none⟩)]) ⟨yc, ya, yk, yn, ys, yu, yao, ycap, yl⟩ (W8.alloc (.cells te.cells.toArray 31)) := hS9.keep hbt
          refine planZ_run rfl ?_ (fun K hK => ?_)
          focus (rfl)
          go_simp
          refine hK.out _ _ (fun _ => hSt) ?_
          clear hK K
          (try simp only [Act.put, List.setIfInBounds_toArray, List.set_cons_zero, List.set_cons_succ])
          have hIt := (HIY.out.keep hb8).keep hbt
          have hTt := (HTY.out.keep hb8).keep hbt
          have hYt := keep_heap (keep_heap HYY.out hb8) hbt
          have hnt := heap_new W8 (.cells te.cells.toArray 31)
          have hret := hre.chg (S' := fun b => b < w0.heap.size ∨ WD.heap.size ≤ b) (chg_of_below hbt (fun _ => False)) (fun _ _ _ h => h) (fun _ h _ => h) (Nat.le_refl _)
          have hs8 := hb8.size
          have hst : (W8.alloc (.cells te.cells.toArray 31)).heap.size = W8.heap.size + 1 := by simp
          have hWD := HWD.out
          have hEl : E.length ≤ 255 := by have := HI.out.2.1; omega
          have hown8 : ∀ j, lv.ownBlock = some j → j < WD.heap.size := own_lt HIY.out.hE.1 (Nat.le_refl _)
          simp only [TE.cells] at hbt hSt hIt hTt hYt hnt hret hst
          have HNT := Lib.hid hnt
          generalize hWT : (W8.alloc (.cells #[.int .i8 te.k, .int .i64 te.n, .string te.s, .string te.u, .slice te.ao te.l.length te.cap] 31)) = WT at *
          refine planZ_run rfl ?_ (fun K hK => ?_)
          focus (rfl)
          refine op_append_any (.tmp 33) (.tmp 37) 22 rfl (W.heap.size + 3 + 1) 31 i0 z0 5 72 Tryd.underlying22 q1 q2 q3 q4 q5 (by decide) lv E.length (tcs E) rfl hIt.hE.1 (some ⟨W8.heap.size, 0, none⟩) 1 1 te.cells rfl rfl (fun e => by cases e) (fun ad e j u hj => by
            injection e with e
            subst e
            rw [Addr.add_lit, Nat.zero_add]
            exact (cells_at HNT.out j u (by simpa [TE.cells] using hj)).1) (by simp [TE.cells, Value.oneCell']) (by unfold maxLen; omega) (by omega) (by omega) ?_
          intro v9 W9 hown9 hg9 hwh9
          obtain ⟨uo, uc, rfl⟩ := own_slice hown9
          have hpush := TkI.push hIt hfe hret hown8 (by omega) (by omega) hown9 hg9 hwh9 HH.out.hb0.size (by omega) (by omega)
          have hc9 := chg_grown hg9
          have hob9 := own_type hIt.hE.1
          have hX9 := hc9.heap hIt.hX (fun e => by have := own_base hIt.hE.1 _ e.symm; omega)
          have ht9 := hc9.heap hTt.ht (fun e => by
            obtain ⟨cur, hcur⟩ := hob9 _ e.symm
            rw [hTt.ht] at hcur
            cases hcur)
          have hY9 := hc9.heap hYt (fun e => by
            obtain ⟨cur, hcur⟩ := hob9 _ e.symm
            rw [hYt] at hcur
            cases hcur)
          have hS10 : Tk8 (W.heap.size + 3) wr.heap.size tb lv (.func (.func 30) #[] #[.pointer (some ⟨hb, 0, none⟩), .pointer (some ⟨tb, 0, none⟩)]) ⟨yc, ya, yk, yn, ys, yu, yao, ycap, yl⟩ W9 :=
            ⟨(cells_at hX9 4 _ rfl).1, (cells_at ht9 0 _ rfl).1, (cells_at hY9 0 _ rfl).1, (cells_at hY9 1 _ rfl).1, (cells_at hY9 2 _ rfl).1, (cells_at hY9 3 _ rfl).1, (cells_at hY9 4 _ rfl).1, (cells_at hY9 5 _ rfl).1, (cells_at hY9 6 _ rfl).1⟩
          refine hK.out _ _ (fun _ => hS10) ?_
          clear hK K
          (try simp only [Act.put, List.setIfInBounds_toArray, List.set_cons_zero, List.set_cons_succ])
          iterate 1 (first | (refine planZ_skip rfl ?_ ?_; (focus (rfl)); (try simp only [Act.put, List.setIfInBounds_toArray, List.set_cons_zero, List.set_cons_succ])) | (refine planZ_take (v := ?_) rfl ?_ (fun w hSw => ?_) ?_; rotate_left; (focus (rfl)); (focus (unfold Tk8 at hSw; (go_simp <;> with_reducible rfl))); (try simp only [Act.put, List.setIfInBounds_toArray, List.set_cons_zero, List.set_cons_succ])))
          obtain ⟨a0, a0f⟩ := cells_at hX9 4 _ rfl
          have hxl9 := heap_lt hX9
          refine planZ_run rfl ?_ (fun K hK => ?_)
          focus (rfl)
          go_simp
          refine hK.out _ _ (fun h => absurd rfl h) ?_
          clear hK K
          (try simp only [Act.put, List.setIfInBounds_toArray, List.set_cons_zero, List.set_cons_succ])
          refine planZ_done ?_
          have HFIN : Hid (TkI w0 W (f + N) (W.heap.size + 1) (W.heap.size + 3) (j + 1) c.k (.slice uo (E.length + 1) uc) (E ++ [te]) (W9.setCell ⟨W.heap.size + 3, 4, none⟩ (.slice uo (E.length + 1) uc)) ∧ (E ++ [te]).length = j + 1 ∧ (E ++ [te]).map TE.t = (c.l.take (j + 1)).map (tkN C N)) := Lib.hid ⟨hpush, by simp [HI.out.2.1], by rw [List.map_append, HI.out.2.2, List.take_add_one, HY.out, List.map_append]; simp [hte]⟩
          clear hpush hc9 hob9 hX9 ht9 hY9 hS10 a0 a0f hxl9 hown9 hg9 hwh9 hIt hTt hYt hnt hret hs8 hst hWD hown8 hbt hSt hS9 hS8 hb8 hre hfe hte
          go_wp2_with fail
          go_roundw
          case rel => exact ⟨j + 1, _, E ++ [te], by omega, by go_num, HFIN⟩
          case measure => simp [intOf]; omega
        · obtain rfl : j = c.l.length := by omega
          rw [List.take_length] at HI
          obtain ⟨x0, -⟩ := cells_at HI.out.1.hX 0 _ rfl
          obtain ⟨x1, -⟩ := cells_at HI.out.1.hX 1 _ rfl
          obtain ⟨x2, -⟩ := cells_at HI.out.1.hX 2 _ rfl
          obtain ⟨x3, -⟩ := cells_at HI.out.1.hX 3 _ rfl
          obtain ⟨x4, -⟩ := cells_at HI.out.1.hX 4 _ rfl
          obtain ⟨la, lc, elv, l1, l2, l3⟩ := HI.out.1.hE.row (fun k h => .inr (by omega))
          have hlen : (E.map TE.t).length = c.l.length := by rw [HI.out.2.2]; simp
          rw [hlen] at elv
          have hz := HI.out.1.hr
          have HRS := Lib.hid (HI.out.1.hE.row (fun k h => .inr (by omega)))
          have hrl := heap_lt hz
          have hc := chg_setRow wr (W.heap.size + 1) #[.int .i8 c.k, .int .i64 0, .string ⟨#[]⟩, .string ⟨#[]⟩, .slice la c.l.length lc]
          have HX := Lib.hid (setRow_heap _ (W.heap.size + 1) _ #[.int .i8 c.k, .int .i64 0, .string ⟨#[]⟩, .string ⟨#[]⟩, .slice la c.l.length lc] _ _ hz)
          have hw0 := HH.out.hb0.size
          have HFIN : Hid (TkP w0 (f + (N + 1)) (.mk c.k 0 ⟨#[]⟩ ⟨#[]⟩ (c.l.map (tkN C N))) W (.returned (.agg #[.int .i8 c.k, .int .i64 0, .string ⟨#[]⟩, .string ⟨#[]⟩, .slice la c.l.length lc])) (wr.setRow (W.heap.size + 1) #[.int .i8 c.k, .int .i64 0, .string ⟨#[]⟩, .string ⟨#[]⟩, .slice la c.l.length lc])) := Lib.hid (by
            have hk : -128 ≤ c.k ∧ c.k ≤ 127 := by
              have := HOK.out.1
              simp only [partsB, Bool.or_eq_true, decide_eq_true_eq] at this
              omega
            refine ⟨HI.out.1.hb.trans (hc.below HI.out.1.hb.size (fun k h => by have h : k = W.heap.size + 1 := h; omega)), ⟨c.k, 0, ⟨#[]⟩, ⟨#[]⟩, la, lc, c.l.map (tkN C N)⟩, by simp, rfl, ⟨hk, by simp, Nat.zero_le _, Nat.zero_le _⟩, ?_⟩
            have h9 := HRS.out.chg (S' := fun b => b < w0.heap.size ∨ W.heap.size ≤ b) hc (fun b hb _ e => by
              have e : b = W.heap.size + 1 := e
              have hb : b < w0.heap.size ∨ W.heap.size + 3 < b := hb
              omega) (fun b hb _ => by
              have hb : b < w0.heap.size ∨ W.heap.size + 3 < b := hb
              show b < w0.heap.size ∨ W.heap.size ≤ b
              omega) (Nat.le_refl _)
            rw [HI.out.2.2, elv] at h9
            simp only [TE.lv, List.length_map]
            exact h9)
          subst elv
          clear hc l3
          go_wp2_with (with_reducible refine stop_op (o := ⟨_, .store 31 (.tmp 4) (.tmp 41), _, _, _, _⟩) ?_)
          refine Lib.hid ?_
          refine wpList_store_row (o := ⟨none, _, _, _, _, _⟩) rfl 31 (.tmp 4) (.tmp 41) rfl (W.heap.size + 1) #[.int .i8 c.k, .int .i64 0, .string ⟨#[]⟩, .string ⟨#[]⟩, .slice la c.l.length lc] rfl rfl 31 zT hz (infoTM' _ rfl) rfl (by simp [Value.oneCell']) ?_
          generalize wr.setRow (W.heap.size + 1) #[.int .i8 c.k, .int .i64 0, .string ⟨#[]⟩, .string ⟨#[]⟩, .slice la c.l.length lc] = W9 at *
          go_wp2_with fail
          exact ret_row1 HX.out rfl Tryd.underlying31 rfl (infoTM' _ rfl) rfl HFIN.out
def TakeP (w0 : World) (F : Nat) (C : List HC) (x : Wd) (W : World) (e : Ending) (W' : World) : Prop :=
  Below W.heap.size W W' ∧ ((mayW C.length x = true ∧ ∃ te : TE, e = .returned (.tuple #[.agg #[.int .i8 te.k, .int .i64 te.n, .string te.s, .string te.u, .slice te.ao te.l.length te.cap], .int .i64 0]) ∧ te.t = tkN C C.length x ∧ fields te.k te.n te.s te.u ∧ RowS (fun b => b < w0.heap.size ∨ W.heap.size ≤ b) F W' te.lv te.l) ∨
    (mayW C.length x = false ∧ e = .returned (.tuple #[.agg zT, .int .i64 2])))
set_option maxHeartbeats 8000000 in
theorem take_any (w0 : World) (f base p : Nat) (v : Value) (C : List HC) (x : Wd) (W : World) (hO : ∀ c ∈ C, ∀ x ∈ c.l, WOk f w0 x) (hp : Hp W base p v C) (hL : Cells W 0 letL) (hx : WOk f w0 x) (hb0 : Below w0.heap.size w0 W) :
    Calls Tryd.prog 12 #[.pointer (some ⟨p, 0, none⟩), x.V] W (TakeP w0 (f + C.length) C x W) := by
  have hb3 : Below W.heap.size W (((W.alloc (.cells #[.pointer (some ⟨p, 0, none⟩)] 24)).alloc (.cells x.cells.toArray 33)).alloc (.cells zT 31)) := ((((Below.refl W.heap.size W).alloc (Nat.le_refl _) _).alloc (by simp) _).alloc (by simp; omega) _)
  have hs3 : (((W.alloc (.cells #[.pointer (some ⟨p, 0, none⟩)] 24)).alloc (.cells x.cells.toArray 33)).alloc (.cells zT 31)).heap.size = W.heap.size + 3 := by simp
  have n0 := heap_old (heap_old (heap_new W (.cells #[.pointer (some ⟨p, 0, none⟩)] 24)) (.cells x.cells.toArray 33)) (.cells zT 31)
  have n1 := heap_old (heap_new (W.alloc (.cells #[.pointer (some ⟨p, 0, none⟩)] 24)) (.cells x.cells.toArray 33)) (.cells zT 31)
  have n2 := heap_new ((W.alloc (.cells #[.pointer (some ⟨p, 0, none⟩)] 24)).alloc (.cells x.cells.toArray 33)) (.cells zT 31)
  simp only [World.size_alloc] at n0 n1 n2
  have HM := Lib.hid (may_any f _ base p v C x (hp.keep hb3) (fun j r hj => ⟨keep_cell (hL j r hj).1 hb3, keep_cell (hL j r hj).2 hb3⟩) (hx.keep (hb0.trans (hb3.mono hb0.size))))
  have HP := Lib.hid hp
  have HO := Lib.hid hO
  have HX := Lib.hid hx
  have HB0 := Lib.hid hb0
  have HB3 := Lib.hid hb3
  have N0 := Lib.hid n0
  have N1 := Lib.hid n1
  have N2 := Lib.hid n2
  have HS3 := Lib.hid hs3
  clear hp hO hL hb0 hb3 n0 n1 n2 hs3
  obtain ⟨xc, xa, xk, xn, xs, xu, xao, xcap, xl⟩ := x
  simp only [Wd.V, Wd.cells] at *
  go_enter Tryd.func12, Tryd.ntmps12
  go_wp2_with fail
  generalize ((W.alloc (.cells #[.pointer (some ⟨p, 0, none⟩)] 24)).alloc (.cells #[.bool xc, .int .i64 xa, .int .i8 xk, .int .i64 xn, .string xs, .string xu, .slice xao xl.length xcap] 33)).alloc (.cells zT 31) = W3 at *
  refine HM.out.mono ?_
  rintro e W4 ⟨rfl, hb4⟩
  have HB4 := Lib.hid (HB3.out.trans (hb4.mono HB3.out.size))
  have HN0 := Lib.hid (keep_heap N0.out hb4)
  have HN1 := Lib.hid (keep_heap N1.out hb4)
  have HN2 := Lib.hid (keep_heap N2.out hb4)
  have hs4 := hb4.size
  clear hb4 N0 N1 N2 HM HB3
  cases hm : mayW C.length ⟨xc, xa, xk, xn, xs, xu, xao, xcap, xl⟩
  · have HMM := Lib.hid hm
    clear hm
    go_wp2_with (with_reducible refine stop_op (o := ⟨_, .store 31 (.tmp 4) (.tmp 16), _, _, _, _⟩) ?_)
    refine Lib.hid ?_
    refine wpList_store_row (o := ⟨none, _, _, _, _, _⟩) rfl 31 (.tmp 4) (.tmp 16) rfl (W.heap.size + 1 + 1) zT rfl rfl 31 zT HN2.out (infoTM' _ rfl) rfl (by simp [Value.oneCell']) ?_
    rw [setRow_self _ _ _ _ _ HN2.out]
    go_wp2_with fail
    exact ret_row HN2.out rfl Tryd.underlying31 rfl (infoTM' _ rfl) rfl rfl ⟨HB4.out, .inr ⟨HMM.out, rfl⟩⟩
  · have HMM := Lib.hid hm
    clear hm
    obtain ⟨x0, -⟩ := cells_at HN1.out 0 _ rfl
    obtain ⟨x1, -⟩ := cells_at HN1.out 1 _ rfl
    obtain ⟨x2, -⟩ := cells_at HN1.out 2 _ rfl
    obtain ⟨x3, -⟩ := cells_at HN1.out 3 _ rfl
    obtain ⟨x4, -⟩ := cells_at HN1.out 4 _ rfl
    obtain ⟨x5, -⟩ := cells_at HN1.out 5 _ rfl
    obtain ⟨x6, -⟩ := cells_at HN1.out 6 _ rfl
    have hl1 := heap_lt HN1.out
    go_wp2_with fail
    have hb5 := (Below.refl W4.heap.size W4).alloc (Nat.le_refl _) (.cells #[.func (.func 30) #[] #[.pointer (some ⟨W.heap.size, 0, none⟩), .pointer (some ⟨W4.heap.size, 0, none⟩)]] 67)
    have hn5 := heap_new W4 (.cells #[.func (.func 30) #[] #[.pointer (some ⟨W.heap.size, 0, none⟩), .pointer (some ⟨W4.heap.size, 0, none⟩)]] 67)
    have hB5 := HB4.out.trans (hb5.mono HB4.out.size)
    have hT : TkC w0 base p W.heap.size W4.heap.size v C (W4.alloc (.cells #[.func (.func 30) #[] #[.pointer (some ⟨W.heap.size, 0, none⟩), .pointer (some ⟨W4.heap.size, 0, none⟩)]] 67)) := ⟨HP.out.keep hB5, keep_heap HN0.out hb5, hn5, HB0.out.trans (hB5.mono HB0.out.size)⟩
    have HB5 := Lib.hid hB5
    have HN5 := Lib.hid (keep_heap HN2.out hb5)
    clear hb5 hn5 hB5 x0 x1 x2 x3 x4 x5 x6
    have hlow : Low C.length ⟨xc, xa, xk, xn, xs, xu, xao, xcap, xl⟩ := fun h => by
      have := HMM.out
      simp only [mayW] at this
      rw [if_pos h] at this
      simp only [Bool.and_eq_true, decide_eq_true_eq] at this
      exact ⟨this.1, this.2.1⟩
    generalize W4.alloc (.cells #[.func (.func 30) #[] #[.pointer (some ⟨W.heap.size, 0, none⟩), .pointer (some ⟨W4.heap.size, 0, none⟩)]] 67) = W5 at *
    refine (take1_any w0 f base p W.heap.size W4.heap.size v C HO.out C.length ⟨xc, xa, xk, xn, xs, xu, xao, xcap, xl⟩ W5 hT HX.out hlow (Nat.le_refl _)).mono ?_
    rintro e W6 ⟨hb6, te, rfl, hte, hfe, hre⟩
    have hz := keep_heap HN5.out hb6
    have hB6 := HB5.out.trans (hb6.mono HB5.out.size)
    have hc := chg_setRow W6 (W.heap.size + 1 + 1) #[.int .i8 te.k, .int .i64 te.n, .string te.s, .string te.u, .slice te.ao te.l.length te.cap]
    have HXX := Lib.hid (setRow_heap _ (W.heap.size + 1 + 1) _ #[.int .i8 te.k, .int .i64 te.n, .string te.s, .string te.u, .slice te.ao te.l.length te.cap] _ _ hz)
    have h5 := HB5.out.size
    have h25 := heap_lt HN5.out
    have hw0 := HB0.out.size
    have HFIN : Hid (TakeP w0 (f + C.length) C ⟨xc, xa, xk, xn, xs, xu, xao, xcap, xl⟩ W (.returned (.tuple #[.agg #[.int .i8 te.k, .int .i64 te.n, .string te.s, .string te.u, .slice te.ao te.l.length te.cap], .int .i64 0])) (W6.setRow (W.heap.size + 1 + 1) #[.int .i8 te.k, .int .i64 te.n, .string te.s, .string te.u, .slice te.ao te.l.length te.cap])) := Lib.hid
      ⟨hB6.trans (hc.below hB6.size (fun k h => by have h : k = W.heap.size + 1 + 1 := h; omega)), .inl ⟨HMM.out, te, rfl, hte, hfe, hre.chg hc (fun b hb _ e => by
        have e : b = W.heap.size + 1 + 1 := e
        have hb : b < w0.heap.size ∨ W5.heap.size ≤ b := hb
        omega) (fun b hb _ => by
        have hb : b < w0.heap.size ∨ W5.heap.size ≤ b := hb
        show b < w0.heap.size ∨ W.heap.size ≤ b
        omega) (Nat.le_refl _)⟩⟩
    clear hc hre hb6 hB6 hte hfe hT hlow
    go_wp2_with (with_reducible refine stop_op (o := ⟨_, .store 31 (.tmp 4) (.tmp 20), _, _, _, _⟩) ?_)
    refine Lib.hid ?_
    refine wpList_store_row (o := ⟨none, _, _, _, _, _⟩) rfl 31 (.tmp 4) (.tmp 20) rfl (W.heap.size + 1 + 1) #[.int .i8 te.k, .int .i64 te.n, .string te.s, .string te.u, .slice te.ao te.l.length te.cap] rfl rfl 31 zT hz (infoTM' _ rfl) rfl (by simp [Value.oneCell']) ?_
    generalize W6.setRow (W.heap.size + 1 + 1) #[.int .i8 te.k, .int .i64 te.n, .string te.s, .string te.u, .slice te.ao te.l.length te.cap] = W9 at *
    go_wp2_with fail
    exact ret_row HXX.out rfl Tryd.underlying31 rfl (infoTM' _ rfl) rfl rfl HFIN.out
end Go.Proofs.YtfbmjcblnemkgaaDoor
