/- start.Done. Conditions: the records read. -/
/- start.Result of what a machine comes back with. Conditions: it reads, may be; the letters stand. -/
import Derived.Test.YtepfmanbllegiaaDoorMt15
import Derived.Test.YtepfmanbllegiaaDoorMt22
namespace Go.Proofs.YtepfmanbllegiaaDoor
open Go.ChangeShapes Go.WideShapes Go.ChangeAt Go.RowKit
set_option linter.unusedVariables false
set_option linter.unusedSimpArgs false
set_option maxRecDepth 100000
/-- the records that are done with -/
def doneL (a : Fa) (m : Mm) (RL : List Rc) : List Rc := if a.k = 4 ∧ 0 ≤ m.n ∧ m.n ≤ (RL.length : Int) then RL.take m.n.toNat else []
def DnP (w : World) (a : Fa) (m : Mm) (RL : List Rc) (e : Ending) (w' : World) : Prop := Below w.heap.size w w' ∧ ∃ v, e = .returned v ∧ w'.ownsRow w.heap.size 46 13 v (doneL a m RL).length (rcs (doneL a m RL))
set_option maxHeartbeats 8000000 in
theorem done_any (M : Nat → Prop) (w : World) (a : Fa) (m : Mm) (RL : List Rc) (h : RcAt M w m.rs RL) (hl : RL.length ≤ 100) : Calls Tryd.prog 8 #[.agg (flL a m).toArray] w (DnP w a m RL) := by
  have hb1 := (Below.refl w.heap.size w).alloc (Nat.le_refl _) (.cells (flL a m).toArray 36)
  have n1 := heap_new w (.cells (flL a m).toArray 36)
  have hrn := h.1
  have hra := h.2.1
  have HB := Lib.hid (And.intro hb1 (And.intro (h.keep hb1) (show w.heap.size ≤ (w.alloc (.cells (flL a m).toArray 36)).heap.size by simp)))
  have a0 : (w.alloc (.cells (flL a m).toArray 36)).cell? ⟨w.heap.size, 0, none⟩ = some (.int .i8 a.k) := (cells_at n1 0 _ rfl).1
  have a12 : (w.alloc (.cells (flL a m).toArray 36)).cell? ⟨w.heap.size, 12, none⟩ = some (.int .i64 m.n) := (cells_at n1 12 _ rfl).1
  have a28 : (w.alloc (.cells (flL a m).toArray 36)).cell? ⟨w.heap.size, 28, none⟩ = some (.slice m.rs.o m.rs.n m.rs.c) := (cells_at n1 28 _ rfl).1
  rw [hrn] at a28
  clear hb1 n1 h
  go_enter Tryd.func8, Tryd.ntmps8
  by_cases h1 : a.k = 4
  · have q1 : (a.k != 4) = false := by simp [h1]
    by_cases h2 : m.n < 0
    · have q2 : decide (m.n < 0) = true := by simp; omega
      have HF := Lib.hid (show doneL a m RL = [] by unfold doneL; rw [if_neg (by omega)])
      go_wp2_with fail
      go_ret
      exact ⟨HB.out.1, _, rfl, by rw [HF.out]; exact World.ownsRow_nil _ _ _ _⟩
    · have q2 : decide (m.n < 0) = false := by simp; omega
      by_cases h3 : (RL.length : Int) < m.n
      · have q3 : decide ((RL.length : Int) < m.n) = true := by simp; omega
        have HF := Lib.hid (show doneL a m RL = [] by unfold doneL; rw [if_neg (by omega)])
        go_wp2_with fail
        go_ret
        exact ⟨HB.out.1, _, rfl, by rw [HF.out]; exact World.ownsRow_nil _ _ _ _⟩
      · have q3 : decide ((RL.length : Int) < m.n) = false := by simp; omega
        obtain ⟨N, hN⟩ : ∃ N : Nat, m.n = (N : Int) := ⟨m.n.toNat, by omega⟩
        have hNl : N ≤ RL.length := by omega
        have HF := Lib.hid (show doneL a m RL = RL.take N by unfold doneL; rw [if_pos (by omega), hN, Int.toNat_natCast])
        rw [hN] at a12 q2 q3
        have hc1 : (N : Int) ≤ (m.rs.c : Int) := by omega
        have hc0 : (0 : Int) ≤ (N : Int) := by omega
        clear h1 h2 h3 hN
        go_wp2_with (at_builtin; refine stop_here ?_)
        refine Lib.hid ?_
        generalize w.alloc (.cells (flL a m).toArray 36) = w1 at *
        refine wpList_append_rc rfl (.const (.slice none 0 0)) (.tmp 28) rfl ⟨m.rs.o, N, m.rs.c⟩ (RL.take N) rfl rfl (HB.out.2.1.take hNl) (by rw [List.length_take]; omega) ?_
        intro v w2 hown hb2
        have HL := Lib.hid (show (RL.take N).length = N by rw [List.length_take]; omega)
        rw [HL.out] at hown
        have HZ := Lib.hid (And.intro (HB.out.1.trans (hb2.mono HB.out.1.size)) (own_lower hown HB.out.2.2))
        obtain ⟨so, sc, rfl⟩ := own_slice hown
        clear hown hb2
        go_wp2_with fail
        go_ret
        exact ⟨HZ.out.1, _, rfl, by rw [HF.out, HL.out]; exact HZ.out.2⟩
  · have q1 : (a.k != 4) = true := by simp [h1]
    have HF := Lib.hid (show doneL a m RL = [] by unfold doneL; rw [if_neg (by omega)])
    go_wp2_with fail
    go_ret
    exact ⟨HB.out.1, _, rfl, by rw [HF.out]; exact World.ownsRow_nil _ _ _ _⟩
/-- pids told back -/
theorem spL_rebuild : ∀ (L : List Tm), spL (rebuild L nilT) = L ∧ spE (rebuild L nilT) = nilT
  | [] => sp_stop (by decide)
  | t :: L => by
    rw [rebuild, sp_step.1, sp_step.2, (spL_rebuild L).1, (spL_rebuild L).2]
    exact ⟨rfl, rfl⟩
theorem nT_reb : ∀ (l : List Tm) (d : Tm), nT (rebuild l d) = nL l + l.length + nT d
  | [], d => by simp [rebuild, nL]
  | a :: l, d => by
    have h : nT (rebuild (a :: l) d) = nT a + nT (rebuild l d) + 1 := by rw [rebuild, nT, nL, nL, nL]; omega
    rw [h, nT_reb l d, nL, List.length_cons]
    omega
theorem okT_reb : ∀ {l : List Tm}, okL l → okT (rebuild l nilT)
  | [], _ => ⟨by kernel_rfl, trivial⟩
  | a :: l, h => by
    rw [okL] at h
    rw [rebuild, okT]
    refine ⟨by kernel_rfl, ?_⟩
    rw [okL, okL, okL]
    exact ⟨h.1, okT_reb h.2, trivial⟩
theorem list_ok {RL : List Rc} (hp : ∀ r ∈ RL, r.pid ≤ 576460752303423487) : okT (listT RL) ∧ nT (listT RL) = 2 * RL.length + 1 := by
  obtain ⟨h1, h2⟩ := pids_ok hp
  refine ⟨okT_reb h1, ?_⟩
  unfold listT
  rw [nT_reb, h2, List.length_map]
  have : (pidsV RL).length = RL.length := by simp [pidsV]
  rw [this]
  have h8 : nT nilT = 1 := by simp [nT, nL]
  omega
def pidI (RL : List Rc) : List Value := RL.map fun r => .int .i64 (max r.pid 0)
def PiP (w : World) (RL : List Rc) (e : Ending) (w' : World) : Prop := Below w.heap.size w w' ∧ ∃ v, e = .returned (.tuple #[v, .bool true]) ∧ w'.ownsRow w.heap.size 3 1 v RL.length (pidI RL)
theorem plist_x {M : Nat → Prop} (w : World) (hc : Cells w 0 letL) (RL : List Rc) (hp : ∀ r ∈ RL, r.pid ≤ 576460752303423487) (hl : RL.length ≤ 100) (x : TE) (hx : TeOk M w x) (hxt : x.t = listT RL) :
    Calls Tryd.prog 41 #[.agg #[.int .i8 x.k, .int .i64 x.n, .string x.s, .string x.u, .slice x.ao x.l.length x.cap]] w fun e w' => Below w.heap.size w w' ∧ ∃ (ao : Option Addr) (cap : Nat) (E : List TE), e = .returned (.tuple #[.slice ao RL.length cap, .bool true]) ∧ E.map TE.t = (pidsV RL).map TE.t ∧ TesOk (fun k => w'.heap.size ≤ k) w' (.slice ao RL.length cap) E := by
  obtain ⟨h1, h2⟩ := list_ok hp
  obtain ⟨F, htv⟩ := hx.tv
  have hck : checkN x.t = 0 := by rw [hxt]; exact ok_check h1 (by omega)
  obtain ⟨g1, g2⟩ := spL_rebuild ((pidsV RL).map TE.t)
  have hlen : (spL x.t).length = RL.length := by rw [hxt]; unfold listT; rw [g1]; simp [pidsV]
  have hP := plist_any F x.t _ w hc htv hck
  refine hP.mono ?_
  rintro e w' ⟨hb, ⟨-, ao, cap, rfl, -, hrow⟩ | ⟨hn, -⟩⟩
  · obtain ⟨E, hE, hTE⟩ := TesOk.of_row (M := fun k => w'.heap.size ≤ k) (hrow.toS.chg (S' := Av (fun k => w'.heap.size ≤ k)) (Chg.refl (fun _ => False) w') (fun _ _ _ h => h) (fun k hk hl => Nat.not_le_of_lt hk) (Nat.le_refl _))
    rw [hlen] at hTE ⊢
    refine ⟨hb, ao, cap, E, rfl, ?_, hTE⟩
    rw [hE, hxt]
    exact g1
  · exact absurd (by rw [hxt]; unfold listT; rw [g2]; rfl) hn
theorem info1I : ∃ i0 z0, Tryd.prog.info? 3 = some i0 ∧ i0.zero = some z0 ∧ i0.size = 1 ∧ i0.bytes = 8 ∧ z0.cells.size = 1 := by
  have h : (Tryd.prog.info? 3).map (fun i => (i.zero.map (fun z => z.cells.size), i.size, i.bytes)) = some (some 1, 1, 8) := by kernel_rfl
  cases hi : Tryd.prog.info? 3 with
  | none => rw [hi] at h; cases h
  | some i =>
    rw [hi] at h
    simp only [Option.map_some, Option.some.injEq, Prod.mk.injEq] at h
    obtain ⟨h1, h2, h3⟩ := h
    cases hz : i.zero with
    | none => rw [hz] at h1; cases h1
    | some z =>
      rw [hz] at h1
      exact ⟨i, z, rfl, hz, h2, h3, by simpa using h1⟩
/-- where the loop stands -/
structure PiW (W b w : World) (RL : List Rc) (ov : Value) (i : Nat) : Prop where
  hb : Below W.heap.size W w
  h2 : Below b.heap.size b w
  ho : w.ownsRow b.heap.size 3 1 ov i (pidI (RL.take i))
theorem PiW.keep {W b w w' : World} {RL : List Rc} {ov : Value} {i : Nat} (h : PiW W b w RL ov i) (hb : Below w.heap.size w w') : PiW W b w' RL ov i := ⟨h.hb.trans (hb.mono h.hb.size), h.h2.trans (hb.mono h.h2.size), own_keep h.ho hb⟩
theorem oneV_k {r : Rc} {y : TE} (h : y.t = (oneV r.pid).t) : (0 < r.pid ∧ y.k = 4 ∧ y.n = r.pid) ∨ (¬ 0 < r.pid ∧ y.k = 1 ∧ y.s = undS) := by
  have e1 : y.k = (oneV r.pid).k := congrArg Tm.k h
  have e2 : y.n = (oneV r.pid).n := congrArg Tm.n h
  have e3 : y.s = (oneV r.pid).s := congrArg Tm.s h
  unfold oneV at e1 e2 e3
  split at e1
  · rename_i h0
    rw [if_pos h0] at e2
    exact .inl ⟨h0, e1, e2⟩
  · rename_i h0
    rw [if_neg h0] at e3
    exact .inr ⟨h0, e1, e3⟩
set_option maxHeartbeats 8000000 in
theorem pids_any {M : Nat → Prop} (w : World) (hc : Cells w 0 letL) (RL : List Rc) (hp : ∀ r ∈ RL, r.pid ≤ 576460752303423487) (hl : RL.length ≤ 100) (x : TE) (hx : TeOk M w x) (hxt : x.t = listT RL) :
    Calls Tryd.prog 23 #[.agg #[.int .i8 x.k, .int .i64 x.n, .string x.s, .string x.u, .slice x.ao x.l.length x.cap]] w (PiP w RL) := by
  have hb1 := (Below.refl w.heap.size w).alloc (Nat.le_refl _) (.cells #[.int .i8 x.k, .int .i64 x.n, .string x.s, .string x.u, .slice x.ao x.l.length x.cap] 27)
  have hx1 := hx.keep hb1
  have HL := Lib.hid (plist_x (w.alloc (.cells #[.int .i8 x.k, .int .i64 x.n, .string x.s, .string x.u, .slice x.ao x.l.length x.cap] 27)) (keepCells hc hb1) RL hp hl x hx1 hxt)
  have HB := Lib.hid hb1
  obtain ⟨y0, y1, y2, y3, y4⟩ := BxS.of (x := x) (heap_new w (.cells #[.int .i8 x.k, .int .i64 x.n, .string x.s, .string x.u, .slice x.ao x.l.length x.cap] 27))
  clear hb1 hx1 hx hxt hc
  go_enter Tryd.func23, Tryd.ntmps23
  go_wp2_with fail
  generalize w.alloc (.cells #[.int .i8 x.k, .int .i64 x.n, .string x.s, .string x.u, .slice x.ao x.l.length x.cap] 27) = w1 at *
  refine HL.out.mono ?_
  clear HL
  rintro e w2 ⟨hb2, ao, cap, E, rfl, hE, hT⟩
  have HT := Lib.hid (And.intro hE hT)
  have H2 : Hid (PiW w w2 w2 RL (.slice none 0 0) 0) := Lib.hid ⟨HB.out.trans (hb2.mono HB.out.size), Below.refl _ _, World.ownsRow_nil _ _ _ _⟩
  have HWB := Lib.hid (show w.heap.size ≤ w2.heap.size from H2.out.hb.size)
  clear hb2 hE hT y0 y1 y2 y3 y4 HB
  go_wp2_with fail
  generalize w2 = wb at *
  go_loopw [2, 3, 14] (fun ov bv iv wr => ∃ i : Nat, i ≤ RL.length ∧ iv = .int .i64 i ∧ bv = .bool true ∧ Hid (PiW w wb wr RL ov i)) (fun _ _ iv _ => RL.length - (intOf iv).toNat)
  case atStart => exact ⟨0, Nat.zero_le _, rfl, rfl, H2⟩
  case round =>
    clear H2
    obtain ⟨i, hi, rfl, rfl, HI⟩ := hrel
    by_cases hlt : i < RL.length
    · obtain ⟨r, hr⟩ : ∃ r, RL[i]? = some r := ⟨RL[i], List.getElem?_eq_getElem hlt⟩
      have hEl : E.length = RL.length := by
        have := congrArg List.length HT.out.1
        simpa [pidsV] using this
      obtain ⟨y, hy⟩ : ∃ y, E[i]? = some y := ⟨E[i]'(by omega), List.getElem?_eq_getElem _⟩
      have hyt : y.t = (oneV r.pid).t := by
        have := congrArg (fun l => l[i]?) HT.out.1
        simp only [List.getElem?_map, hy, pidsV, hr, Option.map_some] at this
        injection this
      obtain ⟨b, off, cap', e, -, c0, c1, c2, c3, c4⟩ := (HT.out.2.keep HI.out.h2).at hy
      injection e with e1 e2 e3
      subst e1 e3
      have HR := Lib.hid hr
      have hyk := oneV_k hyt
      clear hr hEl hy hyt e2
      obtain ⟨yk, yn, ys, yu, yao, ycap, yl⟩ := y
      go_wp2_with (with_reducible refine stop_op (o := ⟨_, .store 27 (.tmp 6) (.tmp 17), _, _, _, _⟩) ?_)
      refine Lib.hid ?_
      refine wpList_store_new (o := ⟨none, _, _, _, _, _⟩) rfl 27 (.tmp 6) (.tmp 17) rfl #[.int .i8 yk, .int .i64 yn, .string ys, .string yu, .slice yao yl.length ycap] rfl rfl (infoTM' _ rfl) rfl (by simp [Value.oneCell']) ?_
      have hb3 := (Below.refl wr.heap.size wr).alloc (Nat.le_refl _) (.cells #[.int .i8 yk, .int .i64 yn, .string ys, .string yu, .slice yao yl.length ycap] 27)
      have HI3 := Lib.hid (HI.out.keep hb3)
      obtain ⟨y0, y1, y2, y3, y4⟩ := BxS.of (x := ⟨yk, yn, ys, yu, yao, ycap, yl⟩) (heap_new wr (.cells #[.int .i8 yk, .int .i64 yn, .string ys, .string yu, .slice yao yl.length ycap] 27))
      clear hb3 HI c0 c1 c2 c3 c4
      generalize wr.alloc (.cells #[.int .i8 yk, .int .i64 yn, .string ys, .string yu, .slice yao yl.length ycap] 27) = w3 at *
      generalize wr.heap.size = q at *
      rcases hyk with ⟨hp0, hk, hn⟩ | ⟨hp0, hk, hs⟩
      · have hk : yk = 4 := hk
        have hn : yn = r.pid := hn
        subst hk hn
        have HMX := Lib.hid (show max r.pid 0 = r.pid by omega)
        have hd : decide (0 < r.pid) = true := by simpa using hp0
        clear hp0
        have hb4 := (Below.refl w3.heap.size w3).alloc (Nat.le_refl _) (.cells #[.int .i64 r.pid] 3)
        have hn4 := heap_new w3 (.cells #[.int .i64 r.pid] 3)
        have ho4 := own_keep HI3.out.ho hb4
        have hs4 : wb.heap.size ≤ (w3.alloc (.cells #[.int .i64 r.pid] 3)).heap.size := Nat.le_trans HI3.out.h2.size hb4.size
        have HW4 := Lib.hid (And.intro hb4 (And.intro hn4 (And.intro ho4 hs4)))
        clear hb4 hn4 ho4 hs4
        obtain ⟨i0, z0, q1, q2, q3, q4, q5⟩ := info1I
        go_wp2_with (at_builtin; refine stop_here ?_)
        refine Lib.hid ?_
        refine wpList_append_own2 rfl (.tmp 27) (.tmp 30) 32 rfl wb.heap.size 3 i0 z0 1 8 Tryd.underlying32 q1 q2 q3 q4 q5 (by decide) _ i (pidI (RL.take i)) rfl HW4.out.2.2.1 ⟨w3.heap.size, 0, none⟩ 1 1 [.int .i64 r.pid] rfl rfl (fun q u hq => by
          rw [Addr.add_lit, Nat.zero_add]
          exact (cells_at HW4.out.2.1 q u (by simpa using hq)).1) (by simp [Value.oneCell']) (by unfold maxLen; omega) (by omega) HW4.out.2.2.2 ?_
        intro v5 w5 hown5 hg5 hwh5
        have hba := own_base HW4.out.2.2.1
        have hc5 := chg_grown hg5
        have HNEW : Hid (PiW w wb w5 RL v5 (i + 1)) := Lib.hid ⟨(HI3.out.hb.trans (HW4.out.1.mono HI3.out.hb.size)).trans (hc5.below (Nat.le_trans HWB.out HW4.out.2.2.2) fun k e => by have := hba k e.symm; have := HWB.out; omega), (HI3.out.h2.trans (HW4.out.1.mono HI3.out.h2.size)).trans (hc5.below HW4.out.2.2.2 fun k e => by have := hba k e.symm; omega), by
          have e : pidI (RL.take (i + 1)) = pidI (RL.take i) ++ [.int .i64 r.pid] := by
            rw [List.take_add_one, HR.out]
            simp only [pidI, Option.toList_some, List.map_append, List.map_cons, List.map_nil]
            rw [HMX.out]
          rw [e]
          exact hown5⟩
        clear hown5 hg5 hwh5 hba hc5 HW4 HI3
        go_wp2_with fail
        go_roundw
        case rel => exact ⟨i + 1, by omega, by go_num, rfl, HNEW⟩
        case measure => simp [intOf]; omega
      · have hk : yk = 1 := hk
        have hs : ys = undS := hs
        subst hk
        rw [hs] at y2
        change w3.cell? _ = some (.string ⟨#[117, 110, 100, 101, 102, 105, 110, 101, 100]⟩) at y2
        have HMX := Lib.hid (show max r.pid 0 = 0 by omega)
        clear hs hp0
        have hb4 := (Below.refl w3.heap.size w3).alloc (Nat.le_refl _) (.cells #[.int .i64 0] 3)
        have hn4 := heap_new w3 (.cells #[.int .i64 0] 3)
        have ho4 := own_keep HI3.out.ho hb4
        have hs4 : wb.heap.size ≤ (w3.alloc (.cells #[.int .i64 0] 3)).heap.size := Nat.le_trans HI3.out.h2.size hb4.size
        have HW4 := Lib.hid (And.intro hb4 (And.intro hn4 (And.intro ho4 hs4)))
        clear hb4 hn4 ho4 hs4
        obtain ⟨i0, z0, q1, q2, q3, q4, q5⟩ := info1I
        go_wp2_with (at_builtin; refine stop_here ?_)
        refine Lib.hid ?_
        refine wpList_append_own2 rfl (.tmp 41) (.tmp 42) 32 rfl wb.heap.size 3 i0 z0 1 8 Tryd.underlying32 q1 q2 q3 q4 q5 (by decide) _ i (pidI (RL.take i)) rfl HW4.out.2.2.1 ⟨w3.heap.size, 0, none⟩ 1 1 [.int .i64 0] rfl rfl (fun q u hq => by
          rw [Addr.add_lit, Nat.zero_add]
          exact (cells_at HW4.out.2.1 q u (by simpa using hq)).1) (by simp [Value.oneCell']) (by unfold maxLen; omega) (by omega) HW4.out.2.2.2 ?_
        intro v5 w5 hown5 hg5 hwh5
        have hba := own_base HW4.out.2.2.1
        have hc5 := chg_grown hg5
        have HNEW : Hid (PiW w wb w5 RL v5 (i + 1)) := Lib.hid ⟨(HI3.out.hb.trans (HW4.out.1.mono HI3.out.hb.size)).trans (hc5.below (Nat.le_trans HWB.out HW4.out.2.2.2) fun k e => by have := hba k e.symm; have := HWB.out; omega), (HI3.out.h2.trans (HW4.out.1.mono HI3.out.h2.size)).trans (hc5.below HW4.out.2.2.2 fun k e => by have := hba k e.symm; omega), by
          have e : pidI (RL.take (i + 1)) = pidI (RL.take i) ++ [.int .i64 0] := by
            rw [List.take_add_one, HR.out]
            simp only [pidI, Option.toList_some, List.map_append, List.map_cons, List.map_nil]
            rw [HMX.out]
          rw [e]
          exact hown5⟩
        clear hown5 hg5 hwh5 hba hc5 HW4 HI3
        go_wp2_with fail
        go_roundw
        case rel => exact ⟨i + 1, by omega, by go_num, rfl, HNEW⟩
        case measure => simp [intOf]; omega
    · obtain rfl : i = RL.length := by omega
      have hown := HI.out.ho
      rw [List.take_length] at hown
      have HZ := Lib.hid (And.intro HI.out.hb (own_lower hown HWB.out))
      obtain ⟨so, sc, rfl⟩ := own_slice hown
      clear hown HI
      go_wp2_with fail
      go_ret2
      exact ⟨HZ.out.1, _, rfl, HZ.out.2⟩
end Go.Proofs.YtepfmanbllegiaaDoor
namespace Go.Proofs.YtepfmanbllegiaaDoor
open Go.ChangeShapes Go.WideShapes Go.ChangeAt Go.RowKit
set_option linter.unusedVariables false
set_option linter.unusedSimpArgs false
set_option maxRecDepth 100000
theorem ret_row14 {P : Program} {fn : Func} {R : Ending → World → Prop} {tmps : Array Value} {w : World} {g p q r s : Nat} {ty t : TypeId} {fr : Nat × Nat} {d : TypeDesc} {cs : Array Value} {u v z : Value} (hg : w.heap[g]? = some (.cells cs t fr)) (hfn : fn.results = #[.tmp q, .cell p ty, .tmp r, .tmp s])
    (hu : P.underlying ty = some d) (hd : (match d with | .struct _ | .array _ _ => true | _ => false) = true) (hi : (P.info? ty).map (·.size) = some cs.size)
    (hp : tmps.getD p undef = .pointer (some ⟨g, 0, none⟩)) (hq : tmps.getD q undef = u) (hr : tmps.getD r undef = v) (hs : tmps.getD s undef = z) (hpost : R (.returned (.tuple #[u, .agg cs, v, z])) w) : bodyPost P fn R .ret { tmps := tmps, defers := [] } w := by
  refine bodyPost_ret (v := .tuple #[u, .agg cs, v, z]) ?_ rfl hpost
  have hl := run_loadVar_row (P := P) w g t ty cs fr d hg hu hd hi
  unfold results
  rw [hfn]
  simp only [Array.getD_eq_getD_getElem?] at hp hq hr hs
  simp [asAddr, hp, hq, hr, hs, hl]
/-- what a machine comes back with: its parts -/
def bkL (er : Bool) (RL : List Rc) (r : Tm) : List Tm := if er then [errA, listT RL, r] else [okA, listT RL]
def ReP (w : World) (er : Bool) (RL : List Rc) (e : Ending) (w' : World) : Prop := Below w.heap.size w w' ∧ ∃ (v : Value) (y : TE), e = .returned (.tuple #[v, .agg #[.int .i8 y.k, .int .i64 y.n, .string y.s, .string y.u, .slice y.ao y.l.length y.cap], .bool (!er), .bool er]) ∧ w'.ownsRow w.heap.size 3 1 v RL.length (pidI RL)
theorem pids_x {M : Nat → Prop} (w : World) (hc : Cells w 0 letL) (RL : List Rc) (hp : ∀ r ∈ RL, r.pid ≤ 576460752303423487) (hl : RL.length ≤ 100) (y : TE) (hx : TeOk M w y) (hxt : y.t = listT RL) : Calls Tryd.prog 23 #[.agg #[.int .i8 y.k, .int .i64 y.n, .string y.s, .string y.u, .slice y.ao y.l.length y.cap]] w (PiP w RL) := pids_any w hc RL hp hl y hx hxt
def ZzS (q : Nat) (W : World) : Prop := W.heap[q]? = some (.cells zT 27 (0, 0))
def ReS (q b o : Nat) (n c : Nat) (z : TE) (q3 : Nat) (W : World) : Prop := W.cell? ⟨q, 4, none⟩ = some (.slice (some ⟨b, o, none⟩) n c) ∧ W.cell? ⟨b, o + 10, none⟩ = some (.int .i8 z.k) ∧ W.cell? ⟨b, o + 10 + 1, none⟩ = some (.int .i64 z.n) ∧ W.cell? ⟨b, o + 10 + 2, none⟩ = some (.string z.s) ∧ W.cell? ⟨b, o + 10 + 3, none⟩ = some (.string z.u) ∧ W.cell? ⟨b, o + 10 + 4, none⟩ = some (.slice z.ao z.l.length z.cap)
theorem bk_len {er : Bool} {RL : List Rc} {r : Tm} : (bkL er RL r).length = if er then 3 else 2 := by cases er <;> rfl
set_option maxHeartbeats 16000000 in
theorem result_any {M : Nat → Prop} (w : World) (hc : Cells w 0 letL) (RL : List Rc) (hp : ∀ r ∈ RL, r.pid ≤ 576460752303423487) (hl : RL.length ≤ 100) (er : Bool) (r : Tm) (x : TE) (hx : TeOk M w x) (hxt : x.t = .mk 5 0 ⟨#[]⟩ ⟨#[]⟩ (bkL er RL r)) (hck : checkN x.t = 0) :
    Calls Tryd.prog 7 #[.agg #[.int .i8 x.k, .int .i64 x.n, .string x.s, .string x.u, .slice x.ao x.l.length x.cap]] w (ReP w er RL) := by
  have hb2 := ((Below.refl w.heap.size w).alloc (Nat.le_refl _) (.cells #[.int .i8 x.k, .int .i64 x.n, .string x.s, .string x.u, .slice x.ao x.l.length x.cap] 27)).alloc (by simp) (.cells zT 27)
  have n1 := heap_old (heap_new w (.cells #[.int .i8 x.k, .int .i64 x.n, .string x.s, .string x.u, .slice x.ao x.l.length x.cap] 27)) (.cells zT 27)
  have n2 := heap_new (w.alloc (.cells #[.int .i8 x.k, .int .i64 x.n, .string x.s, .string x.u, .slice x.ao x.l.length x.cap] 27)) (.cells zT 27)
  rw [World.size_alloc] at n2
  have hk : x.k = 5 := congrArg Tm.k hxt
  have hll : x.l = bkL er RL r := congrArg Tm.l hxt
  have hlen : x.l.length = if er then 3 else 2 := by rw [hll, bk_len]
  have hlen2 : 2 ≤ x.l.length := by rw [hlen]; split <;> omega
  obtain ⟨b, off, u, e1, e2, hu, hp0, -⟩ := hx.part (i := 0) (by omega)
  obtain ⟨b', off', y, e1', e2', hy, hp1, -⟩ := hx.part (i := 1) (by omega)
  rw [e1] at e1'
  injection e1' with e1'
  injection e1' with g1 g2
  subst g1 g2
  have hyt : y.t = listT RL := by
    rw [hll] at e2'
    cases er <;> (simp [bkL] at e2'; exact e2'.symm)
  have hut : u.t = if er then errA else okA := by
    rw [hll] at e2
    cases er <;> (simp [bkL] at e2; exact e2.symm)
  have huk : u.k = 1 := by have h := congrArg Tm.k hut; cases er <;> exact h
  have hus : u.s = if er then ⟨#[101, 114, 114, 111, 114]⟩ else ⟨#[111, 107]⟩ := by have h := congrArg Tm.s hut; cases er <;> exact h
  have hbl : b < w.heap.size := World.block_lt_of_cell? w _ hp0.c0
  have HC := Lib.hid (check_x ((w.alloc (.cells #[.int .i8 x.k, .int .i64 x.n, .string x.s, .string x.u, .slice x.ao x.l.length x.cap] 27)).alloc (.cells zT 27)) (keepCells hc hb2) x (hx.keep hb2))
  rw [hck] at HC
  have HB := Lib.hid (And.intro hb2 (And.intro n1 n2))
  have HX := Lib.hid (And.intro hc (And.intro hp (And.intro hy (And.intro hyt (And.intro hp0 (And.intro hp1 (And.intro hll (And.intro hx hbl))))))))
  have HK := Lib.hid (And.intro hk (And.intro e1 (And.intro hlen (And.intro huk hus))))
  obtain ⟨y0, y1, y2, y3, y4⟩ := BxS.of (x := x) n1
  clear hb2 n1 n2 hc hp hxt hck hx hk hll hlen e1 e2 e2' hu hp0 hp1 hy hyt hut huk hus hlen2 hbl
  go_enter Tryd.func7, Tryd.ntmps7
  go_wp2_with fail
  generalize (w.alloc (.cells #[.int .i8 x.k, .int .i64 x.n, .string x.s, .string x.u, .slice x.ao x.l.length x.cap] 27)).alloc (.cells zT 27) = w1 at *
  refine HC.out.mono ?_
  clear HC
  rintro e w2 ⟨rfl, hb2⟩
  have HB2 := Lib.hid (And.intro (HB.out.1.trans (hb2.mono HB.out.1.size)) (And.intro (keep_heap HB.out.2.1 hb2) (keep_heap HB.out.2.2 hb2)))
  clear hb2 HB y0 y1 y2 y3 y4
  obtain ⟨y0, y1, y2, y3, y4⟩ := BxS.of (x := x) HB2.out.2.1
  obtain ⟨p0, p1, p2, p3, p4⟩ := HX.out.2.2.2.2.1.keep HB2.out.1
  obtain ⟨r0, r1, r2, r3, r4⟩ := HX.out.2.2.2.2.2.1.keep HB2.out.1
  rw [HK.out.1] at y0
  rw [HK.out.2.1] at y4
  rw [HK.out.2.2.2.1] at p0
  rw [show off + 0 * 5 = off by omega] at p0 p1 p2 p3 p4
  rw [show off + 1 * 5 = off + 5 by omega] at r0 r1 r2 r3 r4
  have HY := Lib.hid (pids_x w2 (keepCells HX.out.1 HB2.out.1) RL HX.out.2.1 hl y (HX.out.2.2.1.keep HB2.out.1) HX.out.2.2.2.1)
  cases er
  · have hlen : x.l.length = 2 := HK.out.2.2.1
    have hus : u.s = ⟨#[111, 107]⟩ := HK.out.2.2.2.2
    rw [hlen] at y4
    rw [hus] at p2
    clear hlen hus
    go_wp2_with fail
    refine HY.out.mono ?_
    clear HY
    rintro e w3 ⟨hb3, v, rfl, hown⟩
    have HB3 := Lib.hid (And.intro (HB2.out.1.trans (hb3.mono HB2.out.1.size)) (And.intro (keep_heap HB2.out.2.2 hb3) (own_lower hown HB2.out.1.size)))
    have y4' := keep_cell y4 hb3
    have p2' := keep_cell p2 hb3
    obtain ⟨vo, vc, rfl⟩ := own_slice hown
    clear hb3 hown HB2 y0 y1 y2 y3 y4 p0 p1 p2 p3 p4 r0 r1 r2 r3 r4
    go_wp2_with fail
    have hdr : Below w3.heap.size w3 w3.drew := (Below.refl _ _).drew
    have hq3 := keep_heap HB3.out.2.1 hdr
    have hS : BxS (w.heap.size + 1) (numT 0 0) w3.drew := BxS.of hq3
    have HB4 := Lib.hid (And.intro (HB3.out.1.trans (hdr.mono HB3.out.1.size)) (And.intro hq3 (own_keep HB3.out.2.2 hdr)))
    clear hdr hq3 y4' p2' HB3
    refine region_plan (BxS (w.heap.size + 1) (numT 0 0)) [(0, 0), (1, 0), (2, 0), (3, 1), (4, 0), (5, 0)] (by kernel_rfl) (by kernel_rfl) (by kernel_rfl) hS ?_
    generalize w3.drew = WD at *
    iterate 3 (first | (refine plan_skip rfl ?_ ?_; (focus (rfl)); (try simp only [Act.put, List.setIfInBounds_toArray, List.set_cons_zero, List.set_cons_succ])) | (refine plan_take (v := ?_) rfl ?_ (fun w hSw => ?_) ?_; rotate_left; (focus (rfl)); (focus (unfold BxS at hSw; (go_simp <;> with_reducible rfl))); (try simp only [Act.put, List.setIfInBounds_toArray, List.set_cons_zero, List.set_cons_succ])))
    refine plan_run rfl ?_ (fun K hK => ?_)
    focus (rfl)
    refine wp_store_row 27 (.tmp 3) (.tmp 57) rfl (w.heap.size + 1) zT rfl rfl 27 zT HB4.out.2.1 (infoTM' _ rfl) rfl (by simp [Value.oneCell']) ?_
    rw [setRow_self _ _ _ _ _ HB4.out.2.1]
    refine hK.out _ _ (hS) ?_
    clear hK K
    (try simp only [Act.put, List.setIfInBounds_toArray, List.set_cons_zero, List.set_cons_succ])
    iterate 2 (first | (refine plan_skip rfl ?_ ?_; (focus (rfl)); (try simp only [Act.put, List.setIfInBounds_toArray, List.set_cons_zero, List.set_cons_succ])) | (refine plan_take (v := ?_) rfl ?_ (fun w hSw => ?_) ?_; rotate_left; (focus (rfl)); (focus (unfold BxS at hSw; (go_simp <;> with_reducible rfl))); (try simp only [Act.put, List.setIfInBounds_toArray, List.set_cons_zero, List.set_cons_succ])))
    refine plan_done ?_
    go_wp2_with fail
    exact ret_row14 HB4.out.2.1 rfl Tryd.underlying27 rfl (infoTM' _ rfl) rfl rfl rfl rfl ⟨HB4.out.1, _, numT 0 0, rfl, HB4.out.2.2⟩
  · have hlen : x.l.length = 3 := HK.out.2.2.1
    have hus : u.s = ⟨#[101, 114, 114, 111, 114]⟩ := HK.out.2.2.2.2
    rw [hlen] at y4
    rw [hus] at p2
    obtain ⟨b2, off2, z, e1, -, hz, hpz, -⟩ := HX.out.2.2.2.2.2.2.2.1.part (i := 2) (by omega)
    rw [HK.out.2.1] at e1
    injection e1 with e1
    injection e1 with g1 g2
    subst g1 g2
    have HZP := Lib.hid hpz
    clear hlen hus hz hpz
    go_wp2_with fail
    refine HY.out.mono ?_
    clear HY
    rintro e w3 ⟨hb3, v, rfl, hown⟩
    have HB3 := Lib.hid (And.intro (HB2.out.1.trans (hb3.mono HB2.out.1.size)) (And.intro (keep_heap HB2.out.2.2 hb3) (own_lower hown HB2.out.1.size)))
    have y4' := keep_cell y4 hb3
    have p2' := keep_cell p2 hb3
    obtain ⟨vo, vc, rfl⟩ := own_slice hown
    have HOB := Lib.hid (And.intro (heap_lt HB2.out.2.2) (own_base hown))
    clear hb3 hown HB2 y0 y1 y2 y3 y4 p0 p1 p2 p3 p4 r0 r1 r2 r3 r4
    go_wp2_with fail
    have hdr : Below w3.heap.size w3 w3.drew := (Below.refl _ _).drew
    have hq3 := keep_heap HB3.out.2.1 hdr
    have hbd := HB3.out.1.trans (hdr.mono HB3.out.1.size)
    obtain ⟨z0, z1, z2, z3, z4⟩ := HZP.out.keep hbd
    rw [show off + 2 * 5 = off + 10 by omega] at z0 z1 z2 z3 z4
    have hS : ReS w.heap.size b off 3 x.cap z (w.heap.size + 1) w3.drew := ⟨keep_cell y4' hdr, z0, z1, z2, z3, z4⟩
    have HB4 := Lib.hid (And.intro hbd (And.intro hq3 (own_keep HB3.out.2.2 hdr)))
    clear hdr hq3 y4' p2' HB3 hbd z0 z1 z2 z3 z4
    refine region_plan (ReS w.heap.size b off 3 x.cap z (w.heap.size + 1)) [(0, 0), (1, 0), (2, 0), (3, 0), (4, 0), (5, 0), (6, 1), (7, 0), (8, 0)] (by kernel_rfl) (by kernel_rfl) (by kernel_rfl) hS ?_
    generalize w3.drew = WD at *
    iterate 6 (first | (refine plan_skip rfl ?_ ?_; (focus (rfl)); (try simp only [Act.put, List.setIfInBounds_toArray, List.set_cons_zero, List.set_cons_succ])) | (refine plan_take (v := ?_) rfl ?_ (fun w hSw => ?_) ?_; rotate_left; (focus (rfl)); (focus (unfold ReS at hSw; (go_simp <;> with_reducible rfl))); (try simp only [Act.put, List.setIfInBounds_toArray, List.set_cons_zero, List.set_cons_succ])))
    refine plan_run rfl ?_ (fun K hK => ?_)
    focus (rfl)
    refine wp_store_row 27 (.tmp 3) (.tmp 74) rfl (w.heap.size + 1) #[.int .i8 z.k, .int .i64 z.n, .string z.s, .string z.u, .slice z.ao z.l.length z.cap] rfl rfl 27 zT HB4.out.2.1 (infoTM' _ rfl) rfl (by simp [Value.oneCell']) ?_
    have hc5 := chg_setRow WD (w.heap.size + 1) #[.int .i8 z.k, .int .i64 z.n, .string z.s, .string z.u, .slice z.ao z.l.length z.cap]
    have hb5 : ¬ b = w.heap.size + 1 := by have := HX.out.2.2.2.2.2.2.2.2; omega
    have hq5 : ¬ w.heap.size = w.heap.size + 1 := by omega
    have hS5 : ReS w.heap.size b off 3 x.cap z (w.heap.size + 1) (WD.setRow (w.heap.size + 1) #[.int .i8 z.k, .int .i64 z.n, .string z.s, .string z.u, .slice z.ao z.l.length z.cap]) := ⟨hc5.cell hS.1 hq5, hc5.cell hS.2.1 hb5, hc5.cell hS.2.2.1 hb5, hc5.cell hS.2.2.2.1 hb5, hc5.cell hS.2.2.2.2.1 hb5, hc5.cell hS.2.2.2.2.2 hb5⟩
    refine hK.out _ _ (hS5) ?_
    clear hK K
    (try simp only [Act.put, List.setIfInBounds_toArray, List.set_cons_zero, List.set_cons_succ])
    iterate 2 (first | (refine plan_skip rfl ?_ ?_; (focus (rfl)); (try simp only [Act.put, List.setIfInBounds_toArray, List.set_cons_zero, List.set_cons_succ])) | (refine plan_take (v := ?_) rfl ?_ (fun w hSw => ?_) ?_; rotate_left; (focus (rfl)); (focus (unfold ReS at hSw; (go_simp <;> with_reducible rfl))); (try simp only [Act.put, List.setIfInBounds_toArray, List.set_cons_zero, List.set_cons_succ])))
    refine plan_done ?_
    have HZ := Lib.hid (And.intro (setRow_heap WD (w.heap.size + 1) zT #[.int .i8 z.k, .int .i64 z.n, .string z.s, .string z.u, .slice z.ao z.l.length z.cap] 27 (0, 0) HB4.out.2.1) (And.intro (bel_setRow HB4.out.1 HB4.out.1.size (Nat.le_succ _) #[.int .i8 z.k, .int .i64 z.n, .string z.s, .string z.u, .slice z.ao z.l.length z.cap]) (own_chg HB4.out.2.2 hc5 fun k hk e => by
      have := HOB.out.2 k hk
      have := HOB.out.1
      have e : k = w.heap.size + 1 := e
      omega)))
    clear hc5 hb5 hq5 hS hS5 HB4
    generalize WD.setRow (w.heap.size + 1) #[.int .i8 z.k, .int .i64 z.n, .string z.s, .string z.u, .slice z.ao z.l.length z.cap] = w5 at *
    go_wp2_with fail
    exact ret_row14 HZ.out.1 rfl Tryd.underlying27 rfl (infoTM' _ rfl) rfl rfl rfl rfl ⟨HZ.out.2.1, _, z, rfl, HZ.out.2.2⟩
end Go.Proofs.YtepfmanbllegiaaDoor
