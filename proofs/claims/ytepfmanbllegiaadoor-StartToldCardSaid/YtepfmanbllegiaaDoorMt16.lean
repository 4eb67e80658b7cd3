/- start.Step. Conditions: what is handed over reads; the letters stand; pids may be. -/
import Derived.Test.YtepfmanbllegiaaDoorMt15
namespace Go.Proofs.YtepfmanbllegiaaDoor
open Go.ChangeShapes Go.WideShapes Go.ChangeAt Go.RowKit
set_option linter.unusedVariables false
set_option linter.unusedSimpArgs false
set_option maxRecDepth 100000
theorem setL_fl (a : Fa) (m m' : Mm) : setL (flL a m) 8 (mmL m') = flL a m' := setL_mid (mmL m') (mmL m) [.int .i8 a.k, .int .i64 a.fn, .int .i64 a.pc, .slice a.s3.o a.s3.n a.s3.c, .slice a.s4.o a.s4.n a.s4.c, .slice a.s5.o a.s5.n a.s5.c, .slice a.s6.o a.s6.n a.s6.c, .int .i64 a.wt] [] rfl
def StS2 (n ub : Nat) (a : Fa) (m' : Mm) (ev' : Value) (W : World) : Prop := W.heap[n]? = some (.cells (flL a m').toArray 36 (0, 0)) ∧ W.cell? ⟨ub, 38, none⟩ = some ev'
set_option maxHeartbeats 16000000 in
theorem step_any (M : Nat → Prop) (w : World) (hM : ∀ k, M k → k < w.heap.size) (hc : Cells w 0 letL) (a : Fa) (m : Mm) (RL : List Rc) (i : Im) (ML : List It) (h : McOk M w m RL) (hml : ItsOk M w (.slice i.ml.o i.ml.n i.ml.c) ML) (hl : RL.length ≤ 100) (hp : ∀ r ∈ RL, -9223372036854775808 ≤ r.pid ∧ r.pid ≤ 576460752303423487)
    (hpid : -9223372036854775808 ≤ m.pid ∧ m.pid ≤ 9223372036854775807) :
    Calls Tryd.prog 6 #[.agg (flL a m).toArray, .agg (imL i).toArray] w (StpP M w a m RL i ML) := by
  have HM := Lib.hid h
  have HX := Lib.hid (And.intro hM (And.intro hc (And.intro hml (And.intro hl (And.intro hp hpid)))))
  have hb1 := (Below.refl w.heap.size w).alloc (Nat.le_refl _) (.cells (flL a m).toArray 36)
  have hb2 := hb1.alloc (by simp) (.cells (imL i).toArray 39)
  have hb3 := hb2.alloc (by simp; omega) (.cells #[.int .i8 0, .int .i64 0, .int .i64 0, .slice none 0 0, .slice none 0 0, .slice none 0 0, .slice none 0 0, .int .i64 0, .int .i8 0, .int .i64 0, .int .i64 0, .int .i64 0, .int .i64 0, .int .i8 0, .int .i64 0, .string ⟨#[]⟩, .string ⟨#[]⟩, .slice none 0 0, .int .i8 0, .int .i64 0, .string ⟨#[]⟩, .string ⟨#[]⟩, .slice none 0 0, .int .i8 0, .int .i64 0, .string ⟨#[]⟩, .string ⟨#[]⟩, .slice none 0 0, .slice none 0 0, .int .i8 0, .int .i64 0, .int .i64 0, .slice none 0 0, .slice none 0 0, .slice none 0 0] 36)
  have z0 := heap_old (heap_old (heap_new w (.cells (flL a m).toArray 36)) (.cells (imL i).toArray 39)) (.cells #[.int .i8 0, .int .i64 0, .int .i64 0, .slice none 0 0, .slice none 0 0, .slice none 0 0, .slice none 0 0, .int .i64 0, .int .i8 0, .int .i64 0, .int .i64 0, .int .i64 0, .int .i64 0, .int .i8 0, .int .i64 0, .string ⟨#[]⟩, .string ⟨#[]⟩, .slice none 0 0, .int .i8 0, .int .i64 0, .string ⟨#[]⟩, .string ⟨#[]⟩, .slice none 0 0, .int .i8 0, .int .i64 0, .string ⟨#[]⟩, .string ⟨#[]⟩, .slice none 0 0, .slice none 0 0, .int .i8 0, .int .i64 0, .int .i64 0, .slice none 0 0, .slice none 0 0, .slice none 0 0] 36)
  have z1 := heap_old (heap_new (w.alloc (.cells (flL a m).toArray 36)) (.cells (imL i).toArray 39)) (.cells #[.int .i8 0, .int .i64 0, .int .i64 0, .slice none 0 0, .slice none 0 0, .slice none 0 0, .slice none 0 0, .int .i64 0, .int .i8 0, .int .i64 0, .int .i64 0, .int .i64 0, .int .i64 0, .int .i8 0, .int .i64 0, .string ⟨#[]⟩, .string ⟨#[]⟩, .slice none 0 0, .int .i8 0, .int .i64 0, .string ⟨#[]⟩, .string ⟨#[]⟩, .slice none 0 0, .int .i8 0, .int .i64 0, .string ⟨#[]⟩, .string ⟨#[]⟩, .slice none 0 0, .slice none 0 0, .int .i8 0, .int .i64 0, .int .i64 0, .slice none 0 0, .slice none 0 0, .slice none 0 0] 36)
  have z2 := heap_new ((w.alloc (.cells (flL a m).toArray 36)).alloc (.cells (imL i).toArray 39)) (.cells #[.int .i8 0, .int .i64 0, .int .i64 0, .slice none 0 0, .slice none 0 0, .slice none 0 0, .slice none 0 0, .int .i64 0, .int .i8 0, .int .i64 0, .int .i64 0, .int .i64 0, .int .i64 0, .int .i8 0, .int .i64 0, .string ⟨#[]⟩, .string ⟨#[]⟩, .slice none 0 0, .int .i8 0, .int .i64 0, .string ⟨#[]⟩, .string ⟨#[]⟩, .slice none 0 0, .int .i8 0, .int .i64 0, .string ⟨#[]⟩, .string ⟨#[]⟩, .slice none 0 0, .slice none 0 0, .int .i8 0, .int .i64 0, .int .i64 0, .slice none 0 0, .slice none 0 0, .slice none 0 0] 36)
  simp only [World.size_alloc] at z1 z2
  have hs : (((w.alloc (.cells (flL a m).toArray 36)).alloc (.cells (imL i).toArray 39)).alloc (.cells #[.int .i8 0, .int .i64 0, .int .i64 0, .slice none 0 0, .slice none 0 0, .slice none 0 0, .slice none 0 0, .int .i64 0, .int .i8 0, .int .i64 0, .int .i64 0, .int .i64 0, .int .i64 0, .int .i8 0, .int .i64 0, .string ⟨#[]⟩, .string ⟨#[]⟩, .slice none 0 0, .int .i8 0, .int .i64 0, .string ⟨#[]⟩, .string ⟨#[]⟩, .slice none 0 0, .int .i8 0, .int .i64 0, .string ⟨#[]⟩, .string ⟨#[]⟩, .slice none 0 0, .slice none 0 0, .int .i8 0, .int .i64 0, .int .i64 0, .slice none 0 0, .slice none 0 0, .slice none 0 0] 36)).heap.size = w.heap.size + 3 := by simp
  have HB := Lib.hid (And.intro hb3 (And.intro z0 (And.intro z1 (And.intro z2 hs))))
  clear h hM hc hp hml hpid hb1 hb2 hb3 z0 z1 z2 hs
  go_enter Tryd.func6, Tryd.ntmps6
  go_wp2_with (with_reducible refine stop_op (o := ⟨_, .buildSlice 47 1 #[(0, .tmp 9)], _, _, _, _⟩) ?_)
  refine Lib.hid ?_
  refine wpList_build_eff (o := ⟨_, _, _, _, _, _⟩) rfl (.tmp 9) rfl (efL idleE).toArray rfl (by simp [efL_len]) ?_
  generalize ((w.alloc (.cells (flL a m).toArray 36)).alloc (.cells (imL i).toArray 39)).alloc (.cells #[.int .i8 0, .int .i64 0, .int .i64 0, .slice none 0 0, .slice none 0 0, .slice none 0 0, .slice none 0 0, .int .i64 0, .int .i8 0, .int .i64 0, .int .i64 0, .int .i64 0, .int .i64 0, .int .i8 0, .int .i64 0, .string ⟨#[]⟩, .string ⟨#[]⟩, .slice none 0 0, .int .i8 0, .int .i64 0, .string ⟨#[]⟩, .string ⟨#[]⟩, .slice none 0 0, .int .i8 0, .int .i64 0, .string ⟨#[]⟩, .string ⟨#[]⟩, .slice none 0 0, .slice none 0 0, .int .i8 0, .int .i64 0, .int .i64 0, .slice none 0 0, .slice none 0 0, .slice none 0 0] 36) = W3 at *
  have hn3 := heap_new W3 (.cells (efL idleE).toArray 51)
  have hb4 := (Below.refl W3.heap.size W3).alloc (Nat.le_refl _) (.cells (efL idleE).toArray 51)
  rw [HB.out.2.2.2.2] at hn3
  have H4 : Hid (StW w (W3.alloc (.cells (efL idleE).toArray 51)) a m i) := Lib.hid ⟨HB.out.1.trans (hb4.mono HB.out.1.size), keep_heap HB.out.2.1 hb4, keep_heap HB.out.2.2.1 hb4, keep_heap HB.out.2.2.2.1 hb4, hn3⟩
  have hs3 := HB.out.2.2.2.2
  clear hn3 hb4 HB
  generalize W3.alloc (.cells (efL idleE).toArray 51) = W4 at *
  try simp only [hs3]
  clear hs3
  go_wp2_with (with_reducible refine stop_op (o := ⟨_, .load 36 (.tmp 2), _, _, _, _⟩) ?_)
  refine Lib.hid ?_
  refine wpList_load_row (o := ⟨_, _, _, _, _, _⟩) rfl 36 (.tmp 2) rfl w.heap.size rfl 36 (flL a m).toArray (0, 0) _ H4.out.hF Tryd.underlying36 rfl (infoFR rfl) ?_
  go_wp2_with fail
  refine (fine_any M W4 (keepCells HX.out.2.1 H4.out.hb) a m (HM.out.U.keep H4.out.hb)).mono ?_
  rintro e W5 ⟨rfl, hb5⟩
  have H5 := Lib.hid (H4.out.keep hb5)
  clear hb5 H4
  cases hfi : finB a m
  · have HFI := Lib.hid hfi
    clear hfi
    go_wp2_with (with_reducible refine stop_op (o := ⟨_, .load 36 (.tmp 2), _, _, _, _⟩) ?_)
    refine Lib.hid ?_
    refine wpList_load_row (o := ⟨_, _, _, _, _, _⟩) rfl 36 (.tmp 2) rfl w.heap.size rfl 36 (flL a m).toArray (0, 0) _ H5.out.hF Tryd.underlying36 rfl (infoFR rfl) ?_
    go_wp2_with (with_reducible refine stop_op (o := ⟨_, .store 36 (.tmp 4) (.tmp 14), _, _, _, _⟩) ?_)
    refine Lib.hid ?_
    refine wpList_store_row (o := ⟨none, _, _, _, _, _⟩) rfl 36 (.tmp 4) (.tmp 14) rfl (w.heap.size + 2) (flL a m).toArray rfl rfl 36 (flL faZ mmZ).toArray H5.out.hZ (infoFR rfl) rfl (all_oneCell_toArray (flL_one a m)) ?_
    have hc := chg_setRow W5 (w.heap.size + 2) (flL a m).toArray
    have hbf := H5.out.hb.trans (hc.below H5.out.hb.size (fun k e => by have e : k = w.heap.size + 2 := e; omega))
    have HQ := Lib.hid (setRow_heap W5 (w.heap.size + 2) _ (flL a m).toArray 36 (0, 0) H5.out.hZ)
    have HP : Hid (StpP M w a m RL i ML (.returned (.tuple #[.agg (flL a m).toArray, .slice (some ⟨w.heap.size + 3, 0, none⟩) 1 1])) (W5.setRow (w.heap.size + 2) (flL a m).toArray)) := Lib.hid ⟨m, _, [idleE], RL, rfl, hbf, EfAt.idle (hc.heap H5.out.hE (by omega)) (by omega), HM.out.keep hbf, .inl ⟨.inl HFI.out, rfl, rfl, rfl⟩⟩
    clear hc hbf H5
    generalize W5.setRow (w.heap.size + 2) (flL a m).toArray = WX at *
    go_wp2_with fail
    exact ret_row HQ.out rfl Tryd.underlying36 rfl (infoFR rfl) rfl rfl HP.out
  · have HFI := Lib.hid hfi
    obtain ⟨-, k1, k2, k3, k4, k5, k6⟩ := finB_iff.1 hfi
    have hN : m.n = (m.n.toNat : Int) := by omega
    have hrl := HM.out.rs.1
    have hNl : m.n.toNat ≤ RL.length := by omega
    have hph : m.ph = 0 ∨ m.ph = 1 ∨ m.ph = 2 ∨ m.ph = 3 ∨ m.ph = 4 := by omega
    have HNN := Lib.hid (And.intro hN (And.intro hNl (And.intro (show m.ph = 1 ∨ m.ph = 2 → m.n.toNat < RL.length from fun h => by have := k5 h; omega) k6)))
    clear hfi k1 k2 k3 k4 k5 k6 hN hrl hNl
    rcases hph with hk | hk | hk | hk | hk
    · have HK := Lib.hid hk
      clear hk
      go_wp2_with (with_reducible refine stop_op (o := ⟨_, .load 34 (.tmp 16), _, _, _, _⟩) ?_)
      refine Lib.hid ?_
      refine wpList_load_mid (op := ⟨_, _, _, _, _, _⟩) rfl 34 (.tmp 16) rfl w.heap.size 8 rfl [.int .i8 m.ph, .int .i64 m.pid, .int .i64 m.ref, .int .i64 m.dl, .int .i64 m.n, .int .i8 m.T.k, .int .i64 m.T.n, .string m.T.s, .string m.T.u, .slice m.T.ao m.T.l.length m.T.cap, .int .i8 m.U.k, .int .i64 m.U.n, .string m.U.s, .string m.U.u, .slice m.U.ao m.U.l.length m.U.cap, .int .i8 m.V.k, .int .i64 m.V.n, .string m.V.s, .string m.V.u, .slice m.V.ao m.V.l.length m.V.cap, .slice m.rs.o m.rs.n m.rs.c, .int .i8 m.st, .int .i64 m.mr, .int .i64 m.mt, .slice m.sp.o m.sp.n m.sp.c, .slice m.lg.o m.lg.n m.lg.c, .slice m.td.o m.td.n m.td.c] _ (fr_range H5.out.hF) Tryd.underlying34 rfl (by rw [infoMA (cs := [.int .i8 m.ph, .int .i64 m.pid, .int .i64 m.ref, .int .i64 m.dl, .int .i64 m.n, .int .i8 m.T.k, .int .i64 m.T.n, .string m.T.s, .string m.T.u, .slice m.T.ao m.T.l.length m.T.cap, .int .i8 m.U.k, .int .i64 m.U.n, .string m.U.s, .string m.U.u, .slice m.U.ao m.U.l.length m.U.cap, .int .i8 m.V.k, .int .i64 m.V.n, .string m.V.s, .string m.V.u, .slice m.V.ao m.V.l.length m.V.cap, .slice m.rs.o m.rs.n m.rs.c, .int .i8 m.st, .int .i64 m.mr, .int .i64 m.mt, .slice m.sp.o m.sp.n m.sp.c, .slice m.lg.o m.lg.n m.lg.c, .slice m.td.o m.td.n m.td.c].toArray) rfl]; rfl) ?_
      go_wp2_with (with_reducible refine stop_op (o := ⟨_, .load 39 (.tmp 3), _, _, _, _⟩) ?_)
      refine Lib.hid ?_
      refine wpList_load_row (o := ⟨_, _, _, _, _, _⟩) rfl 39 (.tmp 3) rfl (w.heap.size + 1) rfl 39 #[.int .i64 i.now, .int .i64 i.self, .slice i.ml.o i.ml.n i.ml.c, .int .i8 i.cls, .bool i.some, .int .i8 i.got.k, .int .i64 i.got.n, .string i.got.s, .string i.got.u, .slice i.got.ao i.got.l.length i.got.cap, .int .i64 i.have_] (0, 0) _ H5.out.hI Tryd.underlying39 rfl (infoIN rfl) ?_
      have hbU := (Below.refl W5.heap.size W5).alloc (Nat.le_refl _) (.cells #[.int .i8 m.ph, .int .i64 m.pid, .int .i64 m.ref, .int .i64 m.dl, .int .i64 m.n, .int .i8 m.T.k, .int .i64 m.T.n, .string m.T.s, .string m.T.u, .slice m.T.ao m.T.l.length m.T.cap, .int .i8 m.U.k, .int .i64 m.U.n, .string m.U.s, .string m.U.u, .slice m.U.ao m.U.l.length m.U.cap, .int .i8 m.V.k, .int .i64 m.V.n, .string m.V.s, .string m.V.u, .slice m.V.ao m.V.l.length m.V.cap, .slice m.rs.o m.rs.n m.rs.c, .int .i8 m.st, .int .i64 m.mr, .int .i64 m.mt, .slice m.sp.o m.sp.n m.sp.c, .slice m.lg.o m.lg.n m.lg.c, .slice m.td.o m.td.n m.td.c, .int .i64 i.now, .int .i64 i.self, .slice i.ml.o i.ml.n i.ml.c, .int .i8 i.cls, .bool i.some, .int .i8 i.got.k, .int .i64 i.got.n, .string i.got.s, .string i.got.u, .slice i.got.ao i.got.l.length i.got.cap, .int .i64 i.have_, .slice none 0 0, .bool false] 66)
      have hq1 := heap_new W5 (.cells #[.int .i8 m.ph, .int .i64 m.pid, .int .i64 m.ref, .int .i64 m.dl, .int .i64 m.n, .int .i8 m.T.k, .int .i64 m.T.n, .string m.T.s, .string m.T.u, .slice m.T.ao m.T.l.length m.T.cap, .int .i8 m.U.k, .int .i64 m.U.n, .string m.U.s, .string m.U.u, .slice m.U.ao m.U.l.length m.U.cap, .int .i8 m.V.k, .int .i64 m.V.n, .string m.V.s, .string m.V.u, .slice m.V.ao m.V.l.length m.V.cap, .slice m.rs.o m.rs.n m.rs.c, .int .i8 m.st, .int .i64 m.mr, .int .i64 m.mt, .slice m.sp.o m.sp.n m.sp.c, .slice m.lg.o m.lg.n m.lg.c, .slice m.td.o m.td.n m.td.c, .int .i64 i.now, .int .i64 i.self, .slice i.ml.o i.ml.n i.ml.c, .int .i8 i.cls, .bool i.some, .int .i8 i.got.k, .int .i64 i.got.n, .string i.got.s, .string i.got.u, .slice i.got.ao i.got.l.length i.got.cap, .int .i64 i.have_, .slice none 0 0, .bool false] 66)
      have H6 := Lib.hid (And.intro (H5.out.keep hbU) (And.intro hq1 (show W5.heap.size < (W5.alloc (.cells #[.int .i8 m.ph, .int .i64 m.pid, .int .i64 m.ref, .int .i64 m.dl, .int .i64 m.n, .int .i8 m.T.k, .int .i64 m.T.n, .string m.T.s, .string m.T.u, .slice m.T.ao m.T.l.length m.T.cap, .int .i8 m.U.k, .int .i64 m.U.n, .string m.U.s, .string m.U.u, .slice m.U.ao m.U.l.length m.U.cap, .int .i8 m.V.k, .int .i64 m.V.n, .string m.V.s, .string m.V.u, .slice m.V.ao m.V.l.length m.V.cap, .slice m.rs.o m.rs.n m.rs.c, .int .i8 m.st, .int .i64 m.mr, .int .i64 m.mt, .slice m.sp.o m.sp.n m.sp.c, .slice m.lg.o m.lg.n m.lg.c, .slice m.td.o m.td.n m.td.c, .int .i64 i.now, .int .i64 i.self, .slice i.ml.o i.ml.n i.ml.c, .int .i8 i.cls, .bool i.some, .int .i8 i.got.k, .int .i64 i.got.n, .string i.got.s, .string i.got.u, .slice i.got.ao i.got.l.length i.got.cap, .int .i64 i.have_, .slice none 0 0, .bool false] 66)).heap.size by simp)))
      have c28 : (W5.alloc (.cells #[.int .i8 m.ph, .int .i64 m.pid, .int .i64 m.ref, .int .i64 m.dl, .int .i64 m.n, .int .i8 m.T.k, .int .i64 m.T.n, .string m.T.s, .string m.T.u, .slice m.T.ao m.T.l.length m.T.cap, .int .i8 m.U.k, .int .i64 m.U.n, .string m.U.s, .string m.U.u, .slice m.U.ao m.U.l.length m.U.cap, .int .i8 m.V.k, .int .i64 m.V.n, .string m.V.s, .string m.V.u, .slice m.V.ao m.V.l.length m.V.cap, .slice m.rs.o m.rs.n m.rs.c, .int .i8 m.st, .int .i64 m.mr, .int .i64 m.mt, .slice m.sp.o m.sp.n m.sp.c, .slice m.lg.o m.lg.n m.lg.c, .slice m.td.o m.td.n m.td.c, .int .i64 i.now, .int .i64 i.self, .slice i.ml.o i.ml.n i.ml.c, .int .i8 i.cls, .bool i.some, .int .i8 i.got.k, .int .i64 i.got.n, .string i.got.s, .string i.got.u, .slice i.got.ao i.got.l.length i.got.cap, .int .i64 i.have_, .slice none 0 0, .bool false] 66)).cell? ⟨w.heap.size, 28, none⟩ = some (.slice m.rs.o m.rs.n m.rs.c) := (cells_at H6.out.1.hF 28 _ rfl).1
      clear hbU hq1
      go_wp2_with (at_builtin; refine stop_here ?_)
      refine Lib.hid ?_
      generalize W5.alloc (.cells #[.int .i8 m.ph, .int .i64 m.pid, .int .i64 m.ref, .int .i64 m.dl, .int .i64 m.n, .int .i8 m.T.k, .int .i64 m.T.n, .string m.T.s, .string m.T.u, .slice m.T.ao m.T.l.length m.T.cap, .int .i8 m.U.k, .int .i64 m.U.n, .string m.U.s, .string m.U.u, .slice m.U.ao m.U.l.length m.U.cap, .int .i8 m.V.k, .int .i64 m.V.n, .string m.V.s, .string m.V.u, .slice m.V.ao m.V.l.length m.V.cap, .slice m.rs.o m.rs.n m.rs.c, .int .i8 m.st, .int .i64 m.mr, .int .i64 m.mt, .slice m.sp.o m.sp.n m.sp.c, .slice m.lg.o m.lg.n m.lg.c, .slice m.td.o m.td.n m.td.c, .int .i64 i.now, .int .i64 i.self, .slice i.ml.o i.ml.n i.ml.c, .int .i8 i.cls, .bool i.some, .int .i8 i.got.k, .int .i64 i.got.n, .string i.got.s, .string i.got.u, .slice i.got.ao i.got.l.length i.got.cap, .int .i64 i.have_, .slice none 0 0, .bool false] 66) = W6 at *
      have hlow : w.heap.size + 4 ≤ W5.heap.size := by
        have := heap_lt H5.out.hE
        omega
      have HLO := Lib.hid hlow
      clear hlow H5
      generalize W5.heap.size = ub at *
      refine wpList_append_rc rfl (.const (.slice none 0 0)) (.tmp 24) rfl m.rs RL rfl rfl (HM.out.rs.keep H6.out.1.hb) (by omega) ?_
      intro rv W7 hown hb7
      obtain ⟨ro, rcc, rfl⟩ := own_slice hown
      have hu7 := keep_heap H6.out.2.1 hb7
      obtain ⟨x20, f20⟩ := cells_at hu7 20 (.slice m.rs.o m.rs.n m.rs.c) rfl
      have hc8 := chg_set (w := W7) (p := ⟨ub, 20, none⟩) (.slice ro RL.length rcc)
      have hu8 := set_at (i := 20) hu7 (.slice ro RL.length rcc)
      have hown8 := own_chg (own_lower hown (show ub + 1 ≤ W6.heap.size by have := H6.out.2.2; omega)) hc8 fun k hk e => by
        have := own_base (own_lower hown (show ub + 1 ≤ W6.heap.size by have := H6.out.2.2; omega)) k hk
        have e : k = ub := e
        omega
      have H7 : Hid (StU w (W7.setCell ⟨ub, 20, none⟩ (.slice ro RL.length rcc)) a m i ub ⟨ro, RL.length, rcc⟩ RL) := Lib.hid ⟨(H6.out.1.keep hb7).chg hc8 (fun k e => by have e : k = ub := e; have := HLO.out; omega), ⟨hu8, rfl, World.ownsRow_nil _ _ _ _⟩, hown8, HLO.out⟩
      clear hown hb7 hu7 hc8 hu8 hown8 H6 c28
      go_wp2_with (with_reducible refine stop_op (o := ⟨_, .store 67 (.tmp 8) (.tmp 39), _, _, _, _⟩) ?_)
      refine Lib.hid ?_
      clear x20 f20
      have hsz : (W7.setCell ⟨ub, 20, none⟩ (.slice ro RL.length rcc)).heap.size = W7.heap.size := by simp
      generalize W7.setCell ⟨ub, 20, none⟩ (.slice ro RL.length rcc) = W8 at *
      rw [← hsz]
      clear hsz
      refine wpList_store_row (o := ⟨none, _, _, _, _, _⟩) rfl 67 (.tmp 8) (.tmp 39) rfl W8.heap.size #[.func (.func 17) #[.pointer (some ⟨ub, 0, none⟩)] #[], .func (.func 18) #[.pointer (some ⟨ub, 0, none⟩)] #[], .func (.func 19) #[.pointer (some ⟨ub, 0, none⟩)] #[], .func (.func 20) #[.pointer (some ⟨ub, 0, none⟩)] #[], .func (.func 21) #[.pointer (some ⟨ub, 0, none⟩)] #[]] rfl rfl 67 #[.nilFunc, .nilFunc, .nilFunc, .nilFunc, .nilFunc] (heap_new W8 (.cells #[.nilFunc, .nilFunc, .nilFunc, .nilFunc, .nilFunc] 67)) (infoPH rfl) rfl (by simp [Value.oneCell']) ?_
      rw [setRow_alloc]
      have hb9 := (Below.refl W8.heap.size W8).alloc (Nat.le_refl _) (.cells #[.func (.func 17) #[.pointer (some ⟨ub, 0, none⟩)] #[], .func (.func 18) #[.pointer (some ⟨ub, 0, none⟩)] #[], .func (.func 19) #[.pointer (some ⟨ub, 0, none⟩)] #[], .func (.func 20) #[.pointer (some ⟨ub, 0, none⟩)] #[], .func (.func 21) #[.pointer (some ⟨ub, 0, none⟩)] #[]] 67)
      have H9 : Hid (StU w (W8.alloc (.cells #[.func (.func 17) #[.pointer (some ⟨ub, 0, none⟩)] #[], .func (.func 18) #[.pointer (some ⟨ub, 0, none⟩)] #[], .func (.func 19) #[.pointer (some ⟨ub, 0, none⟩)] #[], .func (.func 20) #[.pointer (some ⟨ub, 0, none⟩)] #[], .func (.func 21) #[.pointer (some ⟨ub, 0, none⟩)] #[]] 67)) a m i ub ⟨ro, RL.length, rcc⟩ RL) := Lib.hid ⟨H7.out.st.keep hb9, H7.out.hu.keep hb9, own_keep H7.out.rs hb9, H7.out.hub⟩
      have HT9 := Lib.hid (heap_new W8 (.cells #[.func (.func 17) #[.pointer (some ⟨ub, 0, none⟩)] #[], .func (.func 18) #[.pointer (some ⟨ub, 0, none⟩)] #[], .func (.func 19) #[.pointer (some ⟨ub, 0, none⟩)] #[], .func (.func 20) #[.pointer (some ⟨ub, 0, none⟩)] #[], .func (.func 21) #[.pointer (some ⟨ub, 0, none⟩)] #[]] 67))
      clear hb9 H7
      generalize W8.alloc (.cells #[.func (.func 17) #[.pointer (some ⟨ub, 0, none⟩)] #[], .func (.func 18) #[.pointer (some ⟨ub, 0, none⟩)] #[], .func (.func 19) #[.pointer (some ⟨ub, 0, none⟩)] #[], .func (.func 20) #[.pointer (some ⟨ub, 0, none⟩)] #[], .func (.func 21) #[.pointer (some ⟨ub, 0, none⟩)] #[]] 67) = W9 at *
      generalize W8.heap.size = qp at *
      have c8 : W9.cell? ⟨w.heap.size, 8, none⟩ = some (.int .i8 m.ph) := (cells_at H9.out.st.hF 8 _ rfl).1
      have t0 := (cells_at HT9.out 0 _ rfl).1
      rw [HK.out] at c8
      go_wp2_with fail
      refine (next_any (M4 M w) W9 (H9.out.lt4 HX.out.1) (keepCells HX.out.2.1 H9.out.st.hb) ub { m with rs := ⟨ro, RL.length, rcc⟩ } i nilV false [] H9.out.hu (by simp) (H9.out.lvs HX.out.2.1) RL H9.out.rs (H9.out.hr HX.out.1) m.n.toNat HNN.out.1 HNN.out.2.1 HX.out.2.2.2.1 (fun r hr => (HX.out.2.2.2.2.1 r hr).2)).mono ?_
      rintro e WA hq
      have hqs := (hq.toR H9.out.rs (H9.out.hr HX.out.1) fun _ _ _ _ h => h.rs).imp (Q' := ScQ RL i ML { m with rs := ⟨ro, RL.length, rcc⟩ }) fun _ _ _ _ _ h => .inl ⟨HK.out, h⟩
      obtain ⟨m8, E8, ev8, RL8, hs⟩ := H9.out.fin hqs (fun _ _ _ _ h hx => h.U hx) HM.out.U (fun _ _ _ _ _ h hT => h.conv hT)
      have HS := Lib.hid hs
      obtain ⟨⟨vr, rfl⟩, -⟩ := hq
      clear hqs hs
      obtain ⟨c39, f39⟩ := HS.out.hu.idle
      clear H9 HT9 c8 t0
      go_wp2_with (with_reducible refine stop_op (o := ⟨_, .load 34 (.tmp 54), _, _, _, _⟩) ?_)
      refine Lib.hid ?_
      clear c39 f39
      refine wpList_load_mid (op := ⟨_, _, _, _, _, _⟩) rfl 34 (.tmp 54) rfl ub 0 rfl (mmL m8) _ (mid_range (pre := []) (post := imL i ++ [ev8, .bool false]) (by have := HS.out.hu.hU; unfold unL at this; rw [List.append_assoc] at this; exact this) rfl) Tryd.underlying34 rfl (by rw [infoMA (cs := (mmL m8).toArray) rfl]; rfl) ?_
      go_wp2_with (with_reducible refine stop_op (o := ⟨_, .store 34 (.tmp 56) (.tmp 55), _, _, _, _⟩) ?_)
      refine Lib.hid ?_
      refine wpList_store_mid (op := ⟨none, _, _, _, _, _⟩) rfl 34 (.tmp 56) (.tmp 55) rfl w.heap.size 8 (mmL m8).toArray rfl rfl (there_of HS.out.st.hF (by show 8 + 27 ≤ 35; decide)) (infoMA rfl) (all_oneCell_toArray (mmL_one m8)) ?_
      have hc9 := chg_cells (mmL m8) w.heap.size 8 WA
      have hfs := setRow_cells (mmL m8) 8 HS.out.st.hF
      rw [setL_fl a m m8] at hfs
      have H10 := Lib.hid (HS.out.put hc9 hfs)
      clear hc9 hfs HS
      change Hid (StG M w (WA.setCells w.heap.size 8 (mmL m8).toArray.toList) a m8 m8 i ub ev8 false E8 RL8 _) at H10
      generalize WA.setCells w.heap.size 8 (mmL m8).toArray.toList = WB at *
      go_upto_region 11 with fail
      have hS : StS2 w.heap.size ub a m8 ev8 WB.drew := ⟨H10.out.st.hF, H10.out.hu.ev⟩
      have H10 := Lib.hid (H10.out.keep (Below.refl _ _).drew)
      refine region_plan (StS2 w.heap.size ub a m8 ev8) [(0, 0), (1, 0), (2, 0), (3, 0), (4, 0), (5, 1), (6, 0)] (by kernel_rfl) (by kernel_rfl) (by kernel_rfl) hS ?_
      generalize WB.drew = WD at *
      refine plan_take rfl ?_ (fun wS hSw => exec_row 36 (.tmp 2) rfl w.heap.size rfl (flL a m8).toArray 36 (0, 0) _ hSw.1 Tryd.underlying36 rfl (infoFR rfl)) ?_
      focus (rfl)
      (try simp only [Act.put, List.setIfInBounds_toArray, List.set_cons_zero, List.set_cons_succ])
      iterate 4 (first | (refine plan_skip rfl ?_ ?_; (focus (rfl)); (try simp only [Act.put, List.setIfInBounds_toArray, List.set_cons_zero, List.set_cons_succ])) | (refine plan_take (v := ?_) rfl ?_ (fun w hSw => ?_) ?_; rotate_left; (focus (rfl)); (focus (unfold StS2 at hSw; (go_simp <;> with_reducible rfl))); (try simp only [Act.put, List.setIfInBounds_toArray, List.set_cons_zero, List.set_cons_succ])))
      have hcF := chg_setRow WD (w.heap.size + 2) (flL a m8).toArray
      have hSF : StS2 w.heap.size ub a m8 ev8 (WD.setRow (w.heap.size + 2) (flL a m8).toArray) := ⟨hcF.heap hS.1 (by omega), hcF.cell hS.2 (by have := H10.out.hub; show ¬ ub = w.heap.size + 2; omega)⟩
      have HQ := Lib.hid (setRow_heap WD (w.heap.size + 2) _ (flL a m8).toArray 36 (0, 0) H10.out.st.hZ)
      have HP : Hid (StpP M w a m RL i ML (.returned (.tuple #[.agg (flL a m8).toArray, ev8])) (WD.setRow (w.heap.size + 2) (flL a m8).toArray)) := Lib.hid (H10.out.done HX.out.1 HFI.out hcF)
      refine plan_run rfl ?_ (fun K hK => ?_)
      focus (rfl)
      refine wp_store_row 36 (.tmp 4) (.tmp 57) rfl (w.heap.size + 2) (flL a m8).toArray rfl rfl 36 (flL faZ mmZ).toArray H10.out.st.hZ (infoFR rfl) rfl (all_oneCell_toArray (flL_one a m8)) ?_
      refine hK.out _ _ (hSF) ?_
      clear hK K
      (try simp only [Act.put, List.setIfInBounds_toArray, List.set_cons_zero, List.set_cons_succ])
      iterate 1 (first | (refine plan_skip rfl ?_ ?_; (focus (rfl)); (try simp only [Act.put, List.setIfInBounds_toArray, List.set_cons_zero, List.set_cons_succ])) | (refine plan_take (v := ?_) rfl ?_ (fun w hSw => ?_) ?_; rotate_left; (focus (rfl)); (focus (unfold StS2 at hSw; (go_simp <;> with_reducible rfl))); (try simp only [Act.put, List.setIfInBounds_toArray, List.set_cons_zero, List.set_cons_succ])))
      refine plan_done ?_
      clear hS hcF hSF H10
      generalize WD.setRow (w.heap.size + 2) (flL a m8).toArray = WE at *
      go_wp2_with fail
      exact ret_row HQ.out rfl Tryd.underlying36 rfl (infoFR rfl) rfl rfl HP.out
    · have HK := Lib.hid hk
      clear hk
      go_wp2_with (with_reducible refine stop_op (o := ⟨_, .load 34 (.tmp 16), _, _, _, _⟩) ?_)
      refine Lib.hid ?_
      refine wpList_load_mid (op := ⟨_, _, _, _, _, _⟩) rfl 34 (.tmp 16) rfl w.heap.size 8 rfl [.int .i8 m.ph, .int .i64 m.pid, .int .i64 m.ref, .int .i64 m.dl, .int .i64 m.n, .int .i8 m.T.k, .int .i64 m.T.n, .string m.T.s, .string m.T.u, .slice m.T.ao m.T.l.length m.T.cap, .int .i8 m.U.k, .int .i64 m.U.n, .string m.U.s, .string m.U.u, .slice m.U.ao m.U.l.length m.U.cap, .int .i8 m.V.k, .int .i64 m.V.n, .string m.V.s, .string m.V.u, .slice m.V.ao m.V.l.length m.V.cap, .slice m.rs.o m.rs.n m.rs.c, .int .i8 m.st, .int .i64 m.mr, .int .i64 m.mt, .slice m.sp.o m.sp.n m.sp.c, .slice m.lg.o m.lg.n m.lg.c, .slice m.td.o m.td.n m.td.c] _ (fr_range H5.out.hF) Tryd.underlying34 rfl (by rw [infoMA (cs := [.int .i8 m.ph, .int .i64 m.pid, .int .i64 m.ref, .int .i64 m.dl, .int .i64 m.n, .int .i8 m.T.k, .int .i64 m.T.n, .string m.T.s, .string m.T.u, .slice m.T.ao m.T.l.length m.T.cap, .int .i8 m.U.k, .int .i64 m.U.n, .string m.U.s, .string m.U.u, .slice m.U.ao m.U.l.length m.U.cap, .int .i8 m.V.k, .int .i64 m.V.n, .string m.V.s, .string m.V.u, .slice m.V.ao m.V.l.length m.V.cap, .slice m.rs.o m.rs.n m.rs.c, .int .i8 m.st, .int .i64 m.mr, .int .i64 m.mt, .slice m.sp.o m.sp.n m.sp.c, .slice m.lg.o m.lg.n m.lg.c, .slice m.td.o m.td.n m.td.c].toArray) rfl]; rfl) ?_
      go_wp2_with (with_reducible refine stop_op (o := ⟨_, .load 39 (.tmp 3), _, _, _, _⟩) ?_)
      refine Lib.hid ?_
      refine wpList_load_row (o := ⟨_, _, _, _, _, _⟩) rfl 39 (.tmp 3) rfl (w.heap.size + 1) rfl 39 #[.int .i64 i.now, .int .i64 i.self, .slice i.ml.o i.ml.n i.ml.c, .int .i8 i.cls, .bool i.some, .int .i8 i.got.k, .int .i64 i.got.n, .string i.got.s, .string i.got.u, .slice i.got.ao i.got.l.length i.got.cap, .int .i64 i.have_] (0, 0) _ H5.out.hI Tryd.underlying39 rfl (infoIN rfl) ?_
      have hbU := (Below.refl W5.heap.size W5).alloc (Nat.le_refl _) (.cells #[.int .i8 m.ph, .int .i64 m.pid, .int .i64 m.ref, .int .i64 m.dl, .int .i64 m.n, .int .i8 m.T.k, .int .i64 m.T.n, .string m.T.s, .string m.T.u, .slice m.T.ao m.T.l.length m.T.cap, .int .i8 m.U.k, .int .i64 m.U.n, .string m.U.s, .string m.U.u, .slice m.U.ao m.U.l.length m.U.cap, .int .i8 m.V.k, .int .i64 m.V.n, .string m.V.s, .string m.V.u, .slice m.V.ao m.V.l.length m.V.cap, .slice m.rs.o m.rs.n m.rs.c, .int .i8 m.st, .int .i64 m.mr, .int .i64 m.mt, .slice m.sp.o m.sp.n m.sp.c, .slice m.lg.o m.lg.n m.lg.c, .slice m.td.o m.td.n m.td.c, .int .i64 i.now, .int .i64 i.self, .slice i.ml.o i.ml.n i.ml.c, .int .i8 i.cls, .bool i.some, .int .i8 i.got.k, .int .i64 i.got.n, .string i.got.s, .string i.got.u, .slice i.got.ao i.got.l.length i.got.cap, .int .i64 i.have_, .slice none 0 0, .bool false] 66)
      have hq1 := heap_new W5 (.cells #[.int .i8 m.ph, .int .i64 m.pid, .int .i64 m.ref, .int .i64 m.dl, .int .i64 m.n, .int .i8 m.T.k, .int .i64 m.T.n, .string m.T.s, .string m.T.u, .slice m.T.ao m.T.l.length m.T.cap, .int .i8 m.U.k, .int .i64 m.U.n, .string m.U.s, .string m.U.u, .slice m.U.ao m.U.l.length m.U.cap, .int .i8 m.V.k, .int .i64 m.V.n, .string m.V.s, .string m.V.u, .slice m.V.ao m.V.l.length m.V.cap, .slice m.rs.o m.rs.n m.rs.c, .int .i8 m.st, .int .i64 m.mr, .int .i64 m.mt, .slice m.sp.o m.sp.n m.sp.c, .slice m.lg.o m.lg.n m.lg.c, .slice m.td.o m.td.n m.td.c, .int .i64 i.now, .int .i64 i.self, .slice i.ml.o i.ml.n i.ml.c, .int .i8 i.cls, .bool i.some, .int .i8 i.got.k, .int .i64 i.got.n, .string i.got.s, .string i.got.u, .slice i.got.ao i.got.l.length i.got.cap, .int .i64 i.have_, .slice none 0 0, .bool false] 66)
      have H6 := Lib.hid (And.intro (H5.out.keep hbU) (And.intro hq1 (show W5.heap.size < (W5.alloc (.cells #[.int .i8 m.ph, .int .i64 m.pid, .int .i64 m.ref, .int .i64 m.dl, .int .i64 m.n, .int .i8 m.T.k, .int .i64 m.T.n, .string m.T.s, .string m.T.u, .slice m.T.ao m.T.l.length m.T.cap, .int .i8 m.U.k, .int .i64 m.U.n, .string m.U.s, .string m.U.u, .slice m.U.ao m.U.l.length m.U.cap, .int .i8 m.V.k, .int .i64 m.V.n, .string m.V.s, .string m.V.u, .slice m.V.ao m.V.l.length m.V.cap, .slice m.rs.o m.rs.n m.rs.c, .int .i8 m.st, .int .i64 m.mr, .int .i64 m.mt, .slice m.sp.o m.sp.n m.sp.c, .slice m.lg.o m.lg.n m.lg.c, .slice m.td.o m.td.n m.td.c, .int .i64 i.now, .int .i64 i.self, .slice i.ml.o i.ml.n i.ml.c, .int .i8 i.cls, .bool i.some, .int .i8 i.got.k, .int .i64 i.got.n, .string i.got.s, .string i.got.u, .slice i.got.ao i.got.l.length i.got.cap, .int .i64 i.have_, .slice none 0 0, .bool false] 66)).heap.size by simp)))
      have c28 : (W5.alloc (.cells #[.int .i8 m.ph, .int .i64 m.pid, .int .i64 m.ref, .int .i64 m.dl, .int .i64 m.n, .int .i8 m.T.k, .int .i64 m.T.n, .string m.T.s, .string m.T.u, .slice m.T.ao m.T.l.length m.T.cap, .int .i8 m.U.k, .int .i64 m.U.n, .string m.U.s, .string m.U.u, .slice m.U.ao m.U.l.length m.U.cap, .int .i8 m.V.k, .int .i64 m.V.n, .string m.V.s, .string m.V.u, .slice m.V.ao m.V.l.length m.V.cap, .slice m.rs.o m.rs.n m.rs.c, .int .i8 m.st, .int .i64 m.mr, .int .i64 m.mt, .slice m.sp.o m.sp.n m.sp.c, .slice m.lg.o m.lg.n m.lg.c, .slice m.td.o m.td.n m.td.c, .int .i64 i.now, .int .i64 i.self, .slice i.ml.o i.ml.n i.ml.c, .int .i8 i.cls, .bool i.some, .int .i8 i.got.k, .int .i64 i.got.n, .string i.got.s, .string i.got.u, .slice i.got.ao i.got.l.length i.got.cap, .int .i64 i.have_, .slice none 0 0, .bool false] 66)).cell? ⟨w.heap.size, 28, none⟩ = some (.slice m.rs.o m.rs.n m.rs.c) := (cells_at H6.out.1.hF 28 _ rfl).1
      clear hbU hq1
      go_wp2_with (at_builtin; refine stop_here ?_)
      refine Lib.hid ?_
      generalize W5.alloc (.cells #[.int .i8 m.ph, .int .i64 m.pid, .int .i64 m.ref, .int .i64 m.dl, .int .i64 m.n, .int .i8 m.T.k, .int .i64 m.T.n, .string m.T.s, .string m.T.u, .slice m.T.ao m.T.l.length m.T.cap, .int .i8 m.U.k, .int .i64 m.U.n, .string m.U.s, .string m.U.u, .slice m.U.ao m.U.l.length m.U.cap, .int .i8 m.V.k, .int .i64 m.V.n, .string m.V.s, .string m.V.u, .slice m.V.ao m.V.l.length m.V.cap, .slice m.rs.o m.rs.n m.rs.c, .int .i8 m.st, .int .i64 m.mr, .int .i64 m.mt, .slice m.sp.o m.sp.n m.sp.c, .slice m.lg.o m.lg.n m.lg.c, .slice m.td.o m.td.n m.td.c, .int .i64 i.now, .int .i64 i.self, .slice i.ml.o i.ml.n i.ml.c, .int .i8 i.cls, .bool i.some, .int .i8 i.got.k, .int .i64 i.got.n, .string i.got.s, .string i.got.u, .slice i.got.ao i.got.l.length i.got.cap, .int .i64 i.have_, .slice none 0 0, .bool false] 66) = W6 at *
      have hlow : w.heap.size + 4 ≤ W5.heap.size := by
        have := heap_lt H5.out.hE
        omega
      have HLO := Lib.hid hlow
      clear hlow H5
      generalize W5.heap.size = ub at *
      refine wpList_append_rc rfl (.const (.slice none 0 0)) (.tmp 24) rfl m.rs RL rfl rfl (HM.out.rs.keep H6.out.1.hb) (by omega) ?_
      intro rv W7 hown hb7
      obtain ⟨ro, rcc, rfl⟩ := own_slice hown
      have hu7 := keep_heap H6.out.2.1 hb7
      obtain ⟨x20, f20⟩ := cells_at hu7 20 (.slice m.rs.o m.rs.n m.rs.c) rfl
      have hc8 := chg_set (w := W7) (p := ⟨ub, 20, none⟩) (.slice ro RL.length rcc)
      have hu8 := set_at (i := 20) hu7 (.slice ro RL.length rcc)
      have hown8 := own_chg (own_lower hown (show ub + 1 ≤ W6.heap.size by have := H6.out.2.2; omega)) hc8 fun k hk e => by
        have := own_base (own_lower hown (show ub + 1 ≤ W6.heap.size by have := H6.out.2.2; omega)) k hk
        have e : k = ub := e
        omega
      have H7 : Hid (StU w (W7.setCell ⟨ub, 20, none⟩ (.slice ro RL.length rcc)) a m i ub ⟨ro, RL.length, rcc⟩ RL) := Lib.hid ⟨(H6.out.1.keep hb7).chg hc8 (fun k e => by have e : k = ub := e; have := HLO.out; omega), ⟨hu8, rfl, World.ownsRow_nil _ _ _ _⟩, hown8, HLO.out⟩
      clear hown hb7 hu7 hc8 hu8 hown8 H6 c28
      go_wp2_with (with_reducible refine stop_op (o := ⟨_, .store 67 (.tmp 8) (.tmp 39), _, _, _, _⟩) ?_)
      refine Lib.hid ?_
      clear x20 f20
      have hsz : (W7.setCell ⟨ub, 20, none⟩ (.slice ro RL.length rcc)).heap.size = W7.heap.size := by simp
      generalize W7.setCell ⟨ub, 20, none⟩ (.slice ro RL.length rcc) = W8 at *
      rw [← hsz]
      clear hsz
      refine wpList_store_row (o := ⟨none, _, _, _, _, _⟩) rfl 67 (.tmp 8) (.tmp 39) rfl W8.heap.size #[.func (.func 17) #[.pointer (some ⟨ub, 0, none⟩)] #[], .func (.func 18) #[.pointer (some ⟨ub, 0, none⟩)] #[], .func (.func 19) #[.pointer (some ⟨ub, 0, none⟩)] #[], .func (.func 20) #[.pointer (some ⟨ub, 0, none⟩)] #[], .func (.func 21) #[.pointer (some ⟨ub, 0, none⟩)] #[]] rfl rfl 67 #[.nilFunc, .nilFunc, .nilFunc, .nilFunc, .nilFunc] (heap_new W8 (.cells #[.nilFunc, .nilFunc, .nilFunc, .nilFunc, .nilFunc] 67)) (infoPH rfl) rfl (by simp [Value.oneCell']) ?_
      rw [setRow_alloc]
      have hb9 := (Below.refl W8.heap.size W8).alloc (Nat.le_refl _) (.cells #[.func (.func 17) #[.pointer (some ⟨ub, 0, none⟩)] #[], .func (.func 18) #[.pointer (some ⟨ub, 0, none⟩)] #[], .func (.func 19) #[.pointer (some ⟨ub, 0, none⟩)] #[], .func (.func 20) #[.pointer (some ⟨ub, 0, none⟩)] #[], .func (.func 21) #[.pointer (some ⟨ub, 0, none⟩)] #[]] 67)
      have H9 : Hid (StU w (W8.alloc (.cells #[.func (.func 17) #[.pointer (some ⟨ub, 0, none⟩)] #[], .func (.func 18) #[.pointer (some ⟨ub, 0, none⟩)] #[], .func (.func 19) #[.pointer (some ⟨ub, 0, none⟩)] #[], .func (.func 20) #[.pointer (some ⟨ub, 0, none⟩)] #[], .func (.func 21) #[.pointer (some ⟨ub, 0, none⟩)] #[]] 67)) a m i ub ⟨ro, RL.length, rcc⟩ RL) := Lib.hid ⟨H7.out.st.keep hb9, H7.out.hu.keep hb9, own_keep H7.out.rs hb9, H7.out.hub⟩
      have HT9 := Lib.hid (heap_new W8 (.cells #[.func (.func 17) #[.pointer (some ⟨ub, 0, none⟩)] #[], .func (.func 18) #[.pointer (some ⟨ub, 0, none⟩)] #[], .func (.func 19) #[.pointer (some ⟨ub, 0, none⟩)] #[], .func (.func 20) #[.pointer (some ⟨ub, 0, none⟩)] #[], .func (.func 21) #[.pointer (some ⟨ub, 0, none⟩)] #[]] 67))
      clear hb9 H7
      generalize W8.alloc (.cells #[.func (.func 17) #[.pointer (some ⟨ub, 0, none⟩)] #[], .func (.func 18) #[.pointer (some ⟨ub, 0, none⟩)] #[], .func (.func 19) #[.pointer (some ⟨ub, 0, none⟩)] #[], .func (.func 20) #[.pointer (some ⟨ub, 0, none⟩)] #[], .func (.func 21) #[.pointer (some ⟨ub, 0, none⟩)] #[]] 67) = W9 at *
      generalize W8.heap.size = qp at *
      have c8 : W9.cell? ⟨w.heap.size, 8, none⟩ = some (.int .i8 m.ph) := (cells_at H9.out.st.hF 8 _ rfl).1
      have t0 := (cells_at HT9.out 1 _ rfl).1
      rw [HK.out] at c8
      go_wp2_with fail
      refine (spawned_any (M4 M w) W9 (H9.out.lt4 HX.out.1) (keepCells HX.out.2.1 H9.out.st.hb) ub { m with rs := ⟨ro, RL.length, rcc⟩ } i nilV false [] H9.out.hu (by simp) (H9.out.lvs HX.out.2.1) (H9.out.lv HX.out.2.1) RL H9.out.rs (H9.out.hr HX.out.1) m.n.toNat HNN.out.1 (HNN.out.2.2.1 (by rw [HK.out]; exact .inl rfl)) HX.out.2.2.2.1 (fun r hr => (HX.out.2.2.2.2.1 r hr).2)).mono ?_
      rintro e WA hq
      have hqs := hq.imp (Q' := ScQ RL i ML { m with rs := ⟨ro, RL.length, rcc⟩ }) fun _ _ _ _ _ h => .inr (.inl ⟨HK.out, h⟩)
      obtain ⟨m8, E8, ev8, RL8, hs⟩ := H9.out.fin hqs (fun _ _ _ _ h hx => h.U hx) HM.out.U (fun _ _ _ _ _ h hT => h.conv hT)
      have HS := Lib.hid hs
      obtain ⟨⟨vr, rfl⟩, -⟩ := hq
      clear hqs hs
      obtain ⟨c39, f39⟩ := HS.out.hu.idle
      clear H9 HT9 c8 t0
      go_wp2_with (with_reducible refine stop_op (o := ⟨_, .load 34 (.tmp 54), _, _, _, _⟩) ?_)
      refine Lib.hid ?_
      clear c39 f39
      refine wpList_load_mid (op := ⟨_, _, _, _, _, _⟩) rfl 34 (.tmp 54) rfl ub 0 rfl (mmL m8) _ (mid_range (pre := []) (post := imL i ++ [ev8, .bool false]) (by have := HS.out.hu.hU; unfold unL at this; rw [List.append_assoc] at this; exact this) rfl) Tryd.underlying34 rfl (by rw [infoMA (cs := (mmL m8).toArray) rfl]; rfl) ?_
      go_wp2_with (with_reducible refine stop_op (o := ⟨_, .store 34 (.tmp 56) (.tmp 55), _, _, _, _⟩) ?_)
      refine Lib.hid ?_
      refine wpList_store_mid (op := ⟨none, _, _, _, _, _⟩) rfl 34 (.tmp 56) (.tmp 55) rfl w.heap.size 8 (mmL m8).toArray rfl rfl (there_of HS.out.st.hF (by show 8 + 27 ≤ 35; decide)) (infoMA rfl) (all_oneCell_toArray (mmL_one m8)) ?_
      have hc9 := chg_cells (mmL m8) w.heap.size 8 WA
      have hfs := setRow_cells (mmL m8) 8 HS.out.st.hF
      rw [setL_fl a m m8] at hfs
      have H10 := Lib.hid (HS.out.put hc9 hfs)
      clear hc9 hfs HS
      change Hid (StG M w (WA.setCells w.heap.size 8 (mmL m8).toArray.toList) a m8 m8 i ub ev8 false E8 RL8 _) at H10
      generalize WA.setCells w.heap.size 8 (mmL m8).toArray.toList = WB at *
      go_upto_region 11 with fail
      have hS : StS2 w.heap.size ub a m8 ev8 WB.drew := ⟨H10.out.st.hF, H10.out.hu.ev⟩
      have H10 := Lib.hid (H10.out.keep (Below.refl _ _).drew)
      refine region_plan (StS2 w.heap.size ub a m8 ev8) [(0, 0), (1, 0), (2, 0), (3, 0), (4, 0), (5, 1), (6, 0)] (by kernel_rfl) (by kernel_rfl) (by kernel_rfl) hS ?_
      generalize WB.drew = WD at *
      refine plan_take rfl ?_ (fun wS hSw => exec_row 36 (.tmp 2) rfl w.heap.size rfl (flL a m8).toArray 36 (0, 0) _ hSw.1 Tryd.underlying36 rfl (infoFR rfl)) ?_
      focus (rfl)
      (try simp only [Act.put, List.setIfInBounds_toArray, List.set_cons_zero, List.set_cons_succ])
      iterate 4 (first | (refine plan_skip rfl ?_ ?_; (focus (rfl)); (try simp only [Act.put, List.setIfInBounds_toArray, List.set_cons_zero, List.set_cons_succ])) | (refine plan_take (v := ?_) rfl ?_ (fun w hSw => ?_) ?_; rotate_left; (focus (rfl)); (focus (unfold StS2 at hSw; (go_simp <;> with_reducible rfl))); (try simp only [Act.put, List.setIfInBounds_toArray, List.set_cons_zero, List.set_cons_succ])))
      have hcF := chg_setRow WD (w.heap.size + 2) (flL a m8).toArray
      have hSF : StS2 w.heap.size ub a m8 ev8 (WD.setRow (w.heap.size + 2) (flL a m8).toArray) := ⟨hcF.heap hS.1 (by omega), hcF.cell hS.2 (by have := H10.out.hub; show ¬ ub = w.heap.size + 2; omega)⟩
      have HQ := Lib.hid (setRow_heap WD (w.heap.size + 2) _ (flL a m8).toArray 36 (0, 0) H10.out.st.hZ)
      have HP : Hid (StpP M w a m RL i ML (.returned (.tuple #[.agg (flL a m8).toArray, ev8])) (WD.setRow (w.heap.size + 2) (flL a m8).toArray)) := Lib.hid (H10.out.done HX.out.1 HFI.out hcF)
      refine plan_run rfl ?_ (fun K hK => ?_)
      focus (rfl)
      refine wp_store_row 36 (.tmp 4) (.tmp 57) rfl (w.heap.size + 2) (flL a m8).toArray rfl rfl 36 (flL faZ mmZ).toArray H10.out.st.hZ (infoFR rfl) rfl (all_oneCell_toArray (flL_one a m8)) ?_
      refine hK.out _ _ (hSF) ?_
      clear hK K
      (try simp only [Act.put, List.setIfInBounds_toArray, List.set_cons_zero, List.set_cons_succ])
      iterate 1 (first | (refine plan_skip rfl ?_ ?_; (focus (rfl)); (try simp only [Act.put, List.setIfInBounds_toArray, List.set_cons_zero, List.set_cons_succ])) | (refine plan_take (v := ?_) rfl ?_ (fun w hSw => ?_) ?_; rotate_left; (focus (rfl)); (focus (unfold StS2 at hSw; (go_simp <;> with_reducible rfl))); (try simp only [Act.put, List.setIfInBounds_toArray, List.set_cons_zero, List.set_cons_succ])))
      refine plan_done ?_
      clear hS hcF hSF H10
      generalize WD.setRow (w.heap.size + 2) (flL a m8).toArray = WE at *
      go_wp2_with fail
      exact ret_row HQ.out rfl Tryd.underlying36 rfl (infoFR rfl) rfl rfl HP.out
    · have HK := Lib.hid hk
      clear hk
      go_wp2_with (with_reducible refine stop_op (o := ⟨_, .load 34 (.tmp 16), _, _, _, _⟩) ?_)
      refine Lib.hid ?_
      refine wpList_load_mid (op := ⟨_, _, _, _, _, _⟩) rfl 34 (.tmp 16) rfl w.heap.size 8 rfl [.int .i8 m.ph, .int .i64 m.pid, .int .i64 m.ref, .int .i64 m.dl, .int .i64 m.n, .int .i8 m.T.k, .int .i64 m.T.n, .string m.T.s, .string m.T.u, .slice m.T.ao m.T.l.length m.T.cap, .int .i8 m.U.k, .int .i64 m.U.n, .string m.U.s, .string m.U.u, .slice m.U.ao m.U.l.length m.U.cap, .int .i8 m.V.k, .int .i64 m.V.n, .string m.V.s, .string m.V.u, .slice m.V.ao m.V.l.length m.V.cap, .slice m.rs.o m.rs.n m.rs.c, .int .i8 m.st, .int .i64 m.mr, .int .i64 m.mt, .slice m.sp.o m.sp.n m.sp.c, .slice m.lg.o m.lg.n m.lg.c, .slice m.td.o m.td.n m.td.c] _ (fr_range H5.out.hF) Tryd.underlying34 rfl (by rw [infoMA (cs := [.int .i8 m.ph, .int .i64 m.pid, .int .i64 m.ref, .int .i64 m.dl, .int .i64 m.n, .int .i8 m.T.k, .int .i64 m.T.n, .string m.T.s, .string m.T.u, .slice m.T.ao m.T.l.length m.T.cap, .int .i8 m.U.k, .int .i64 m.U.n, .string m.U.s, .string m.U.u, .slice m.U.ao m.U.l.length m.U.cap, .int .i8 m.V.k, .int .i64 m.V.n, .string m.V.s, .string m.V.u, .slice m.V.ao m.V.l.length m.V.cap, .slice m.rs.o m.rs.n m.rs.c, .int .i8 m.st, .int .i64 m.mr, .int .i64 m.mt, .slice m.sp.o m.sp.n m.sp.c, .slice m.lg.o m.lg.n m.lg.c, .slice m.td.o m.td.n m.td.c].toArray) rfl]; rfl) ?_
      go_wp2_with (with_reducible refine stop_op (o := ⟨_, .load 39 (.tmp 3), _, _, _, _⟩) ?_)
      refine Lib.hid ?_
      refine wpList_load_row (o := ⟨_, _, _, _, _, _⟩) rfl 39 (.tmp 3) rfl (w.heap.size + 1) rfl 39 #[.int .i64 i.now, .int .i64 i.self, .slice i.ml.o i.ml.n i.ml.c, .int .i8 i.cls, .bool i.some, .int .i8 i.got.k, .int .i64 i.got.n, .string i.got.s, .string i.got.u, .slice i.got.ao i.got.l.length i.got.cap, .int .i64 i.have_] (0, 0) _ H5.out.hI Tryd.underlying39 rfl (infoIN rfl) ?_
      have hbU := (Below.refl W5.heap.size W5).alloc (Nat.le_refl _) (.cells #[.int .i8 m.ph, .int .i64 m.pid, .int .i64 m.ref, .int .i64 m.dl, .int .i64 m.n, .int .i8 m.T.k, .int .i64 m.T.n, .string m.T.s, .string m.T.u, .slice m.T.ao m.T.l.length m.T.cap, .int .i8 m.U.k, .int .i64 m.U.n, .string m.U.s, .string m.U.u, .slice m.U.ao m.U.l.length m.U.cap, .int .i8 m.V.k, .int .i64 m.V.n, .string m.V.s, .string m.V.u, .slice m.V.ao m.V.l.length m.V.cap, .slice m.rs.o m.rs.n m.rs.c, .int .i8 m.st, .int .i64 m.mr, .int .i64 m.mt, .slice m.sp.o m.sp.n m.sp.c, .slice m.lg.o m.lg.n m.lg.c, .slice m.td.o m.td.n m.td.c, .int .i64 i.now, .int .i64 i.self, .slice i.ml.o i.ml.n i.ml.c, .int .i8 i.cls, .bool i.some, .int .i8 i.got.k, .int .i64 i.got.n, .string i.got.s, .string i.got.u, .slice i.got.ao i.got.l.length i.got.cap, .int .i64 i.have_, .slice none 0 0, .bool false] 66)
      have hq1 := heap_new W5 (.cells #[.int .i8 m.ph, .int .i64 m.pid, .int .i64 m.ref, .int .i64 m.dl, .int .i64 m.n, .int .i8 m.T.k, .int .i64 m.T.n, .string m.T.s, .string m.T.u, .slice m.T.ao m.T.l.length m.T.cap, .int .i8 m.U.k, .int .i64 m.U.n, .string m.U.s, .string m.U.u, .slice m.U.ao m.U.l.length m.U.cap, .int .i8 m.V.k, .int .i64 m.V.n, .string m.V.s, .string m.V.u, .slice m.V.ao m.V.l.length m.V.cap, .slice m.rs.o m.rs.n m.rs.c, .int .i8 m.st, .int .i64 m.mr, .int .i64 m.mt, .slice m.sp.o m.sp.n m.sp.c, .slice m.lg.o m.lg.n m.lg.c, .slice m.td.o m.td.n m.td.c, .int .i64 i.now, .int .i64 i.self, .slice i.ml.o i.ml.n i.ml.c, .int .i8 i.cls, .bool i.some, .int .i8 i.got.k, .int .i64 i.got.n, .string i.got.s, .string i.got.u, .slice i.got.ao i.got.l.length i.got.cap, .int .i64 i.have_, .slice none 0 0, .bool false] 66)
      have H6 := Lib.hid (And.intro (H5.out.keep hbU) (And.intro hq1 (show W5.heap.size < (W5.alloc (.cells #[.int .i8 m.ph, .int .i64 m.pid, .int .i64 m.ref, .int .i64 m.dl, .int .i64 m.n, .int .i8 m.T.k, .int .i64 m.T.n, .string m.T.s, .string m.T.u, .slice m.T.ao m.T.l.length m.T.cap, .int .i8 m.U.k, .int .i64 m.U.n, .string m.U.s, .string m.U.u, .slice m.U.ao m.U.l.length m.U.cap, .int .i8 m.V.k, .int .i64 m.V.n, .string m.V.s, .string m.V.u, .slice m.V.ao m.V.l.length m.V.cap, .slice m.rs.o m.rs.n m.rs.c, .int .i8 m.st, .int .i64 m.mr, .int .i64 m.mt, .slice m.sp.o m.sp.n m.sp.c, .slice m.lg.o m.lg.n m.lg.c, .slice m.td.o m.td.n m.td.c, .int .i64 i.now, .int .i64 i.self, .slice i.ml.o i.ml.n i.ml.c, .int .i8 i.cls, .bool i.some, .int .i8 i.got.k, .int .i64 i.got.n, .string i.got.s, .string i.got.u, .slice i.got.ao i.got.l.length i.got.cap, .int .i64 i.have_, .slice none 0 0, .bool false] 66)).heap.size by simp)))
      have c28 : (W5.alloc (.cells #[.int .i8 m.ph, .int .i64 m.pid, .int .i64 m.ref, .int .i64 m.dl, .int .i64 m.n, .int .i8 m.T.k, .int .i64 m.T.n, .string m.T.s, .string m.T.u, .slice m.T.ao m.T.l.length m.T.cap, .int .i8 m.U.k, .int .i64 m.U.n, .string m.U.s, .string m.U.u, .slice m.U.ao m.U.l.length m.U.cap, .int .i8 m.V.k, .int .i64 m.V.n, .string m.V.s, .string m.V.u, .slice m.V.ao m.V.l.length m.V.cap, .slice m.rs.o m.rs.n m.rs.c, .int .i8 m.st, .int .i64 m.mr, .int .i64 m.mt, .slice m.sp.o m.sp.n m.sp.c, .slice m.lg.o m.lg.n m.lg.c, .slice m.td.o m.td.n m.td.c, .int .i64 i.now, .int .i64 i.self, .slice i.ml.o i.ml.n i.ml.c, .int .i8 i.cls, .bool i.some, .int .i8 i.got.k, .int .i64 i.got.n, .string i.got.s, .string i.got.u, .slice i.got.ao i.got.l.length i.got.cap, .int .i64 i.have_, .slice none 0 0, .bool false] 66)).cell? ⟨w.heap.size, 28, none⟩ = some (.slice m.rs.o m.rs.n m.rs.c) := (cells_at H6.out.1.hF 28 _ rfl).1
      clear hbU hq1
      go_wp2_with (at_builtin; refine stop_here ?_)
      refine Lib.hid ?_
      generalize W5.alloc (.cells #[.int .i8 m.ph, .int .i64 m.pid, .int .i64 m.ref, .int .i64 m.dl, .int .i64 m.n, .int .i8 m.T.k, .int .i64 m.T.n, .string m.T.s, .string m.T.u, .slice m.T.ao m.T.l.length m.T.cap, .int .i8 m.U.k, .int .i64 m.U.n, .string m.U.s, .string m.U.u, .slice m.U.ao m.U.l.length m.U.cap, .int .i8 m.V.k, .int .i64 m.V.n, .string m.V.s, .string m.V.u, .slice m.V.ao m.V.l.length m.V.cap, .slice m.rs.o m.rs.n m.rs.c, .int .i8 m.st, .int .i64 m.mr, .int .i64 m.mt, .slice m.sp.o m.sp.n m.sp.c, .slice m.lg.o m.lg.n m.lg.c, .slice m.td.o m.td.n m.td.c, .int .i64 i.now, .int .i64 i.self, .slice i.ml.o i.ml.n i.ml.c, .int .i8 i.cls, .bool i.some, .int .i8 i.got.k, .int .i64 i.got.n, .string i.got.s, .string i.got.u, .slice i.got.ao i.got.l.length i.got.cap, .int .i64 i.have_, .slice none 0 0, .bool false] 66) = W6 at *
      have hlow : w.heap.size + 4 ≤ W5.heap.size := by
        have := heap_lt H5.out.hE
        omega
      have HLO := Lib.hid hlow
      clear hlow H5
      generalize W5.heap.size = ub at *
      refine wpList_append_rc rfl (.const (.slice none 0 0)) (.tmp 24) rfl m.rs RL rfl rfl (HM.out.rs.keep H6.out.1.hb) (by omega) ?_
      intro rv W7 hown hb7
      obtain ⟨ro, rcc, rfl⟩ := own_slice hown
      have hu7 := keep_heap H6.out.2.1 hb7
      obtain ⟨x20, f20⟩ := cells_at hu7 20 (.slice m.rs.o m.rs.n m.rs.c) rfl
      have hc8 := chg_set (w := W7) (p := ⟨ub, 20, none⟩) (.slice ro RL.length rcc)
      have hu8 := set_at (i := 20) hu7 (.slice ro RL.length rcc)
      have hown8 := own_chg (own_lower hown (show ub + 1 ≤ W6.heap.size by have := H6.out.2.2; omega)) hc8 fun k hk e => by
        have := own_base (own_lower hown (show ub + 1 ≤ W6.heap.size by have := H6.out.2.2; omega)) k hk
        have e : k = ub := e
        omega
      have H7 : Hid (StU w (W7.setCell ⟨ub, 20, none⟩ (.slice ro RL.length rcc)) a m i ub ⟨ro, RL.length, rcc⟩ RL) := Lib.hid ⟨(H6.out.1.keep hb7).chg hc8 (fun k e => by have e : k = ub := e; have := HLO.out; omega), ⟨hu8, rfl, World.ownsRow_nil _ _ _ _⟩, hown8, HLO.out⟩
      clear hown hb7 hu7 hc8 hu8 hown8 H6 c28
      go_wp2_with (with_reducible refine stop_op (o := ⟨_, .store 67 (.tmp 8) (.tmp 39), _, _, _, _⟩) ?_)
      refine Lib.hid ?_
      clear x20 f20
      have hsz : (W7.setCell ⟨ub, 20, none⟩ (.slice ro RL.length rcc)).heap.size = W7.heap.size := by simp
      generalize W7.setCell ⟨ub, 20, none⟩ (.slice ro RL.length rcc) = W8 at *
      rw [← hsz]
      clear hsz
      refine wpList_store_row (o := ⟨none, _, _, _, _, _⟩) rfl 67 (.tmp 8) (.tmp 39) rfl W8.heap.size #[.func (.func 17) #[.pointer (some ⟨ub, 0, none⟩)] #[], .func (.func 18) #[.pointer (some ⟨ub, 0, none⟩)] #[], .func (.func 19) #[.pointer (some ⟨ub, 0, none⟩)] #[], .func (.func 20) #[.pointer (some ⟨ub, 0, none⟩)] #[], .func (.func 21) #[.pointer (some ⟨ub, 0, none⟩)] #[]] rfl rfl 67 #[.nilFunc, .nilFunc, .nilFunc, .nilFunc, .nilFunc] (heap_new W8 (.cells #[.nilFunc, .nilFunc, .nilFunc, .nilFunc, .nilFunc] 67)) (infoPH rfl) rfl (by simp [Value.oneCell']) ?_
      rw [setRow_alloc]
      have hb9 := (Below.refl W8.heap.size W8).alloc (Nat.le_refl _) (.cells #[.func (.func 17) #[.pointer (some ⟨ub, 0, none⟩)] #[], .func (.func 18) #[.pointer (some ⟨ub, 0, none⟩)] #[], .func (.func 19) #[.pointer (some ⟨ub, 0, none⟩)] #[], .func (.func 20) #[.pointer (some ⟨ub, 0, none⟩)] #[], .func (.func 21) #[.pointer (some ⟨ub, 0, none⟩)] #[]] 67)
      have H9 : Hid (StU w (W8.alloc (.cells #[.func (.func 17) #[.pointer (some ⟨ub, 0, none⟩)] #[], .func (.func 18) #[.pointer (some ⟨ub, 0, none⟩)] #[], .func (.func 19) #[.pointer (some ⟨ub, 0, none⟩)] #[], .func (.func 20) #[.pointer (some ⟨ub, 0, none⟩)] #[], .func (.func 21) #[.pointer (some ⟨ub, 0, none⟩)] #[]] 67)) a m i ub ⟨ro, RL.length, rcc⟩ RL) := Lib.hid ⟨H7.out.st.keep hb9, H7.out.hu.keep hb9, own_keep H7.out.rs hb9, H7.out.hub⟩
      have HT9 := Lib.hid (heap_new W8 (.cells #[.func (.func 17) #[.pointer (some ⟨ub, 0, none⟩)] #[], .func (.func 18) #[.pointer (some ⟨ub, 0, none⟩)] #[], .func (.func 19) #[.pointer (some ⟨ub, 0, none⟩)] #[], .func (.func 20) #[.pointer (some ⟨ub, 0, none⟩)] #[], .func (.func 21) #[.pointer (some ⟨ub, 0, none⟩)] #[]] 67))
      clear hb9 H7
      generalize W8.alloc (.cells #[.func (.func 17) #[.pointer (some ⟨ub, 0, none⟩)] #[], .func (.func 18) #[.pointer (some ⟨ub, 0, none⟩)] #[], .func (.func 19) #[.pointer (some ⟨ub, 0, none⟩)] #[], .func (.func 20) #[.pointer (some ⟨ub, 0, none⟩)] #[], .func (.func 21) #[.pointer (some ⟨ub, 0, none⟩)] #[]] 67) = W9 at *
      generalize W8.heap.size = qp at *
      have c8 : W9.cell? ⟨w.heap.size, 8, none⟩ = some (.int .i8 m.ph) := (cells_at H9.out.st.hF 8 _ rfl).1
      have t0 := (cells_at HT9.out 2 _ rfl).1
      rw [HK.out] at c8
      go_wp2_with fail
      refine (waits_any (M4 M w) W9 (H9.out.lt4 HX.out.1) (keepCells HX.out.2.1 H9.out.st.hb) ub { m with rs := ⟨ro, RL.length, rcc⟩ } i nilV [] H9.out.hu (by simp) (H9.out.lv HX.out.2.1) RL H9.out.rs (H9.out.hr HX.out.1) m.n.toNat HNN.out.1 (HNN.out.2.2.1 (by rw [HK.out]; exact .inr rfl)) HX.out.2.2.2.1 (fun r hr => (HX.out.2.2.2.2.1 r hr).2) ML (H9.out.its HX.out.2.2.1) HX.out.2.2.2.2.2).mono ?_
      rintro e WA (⟨hno, hq⟩ | hq)
      · obtain ⟨m8, E8, ev8, RL8, hs⟩ := H9.out.fin hq (fun _ _ _ _ h hx => by obtain ⟨rfl, -⟩ := h; exact hx) HM.out.U (fun _ _ _ _ _ h _ => h)
        have HS := Lib.hid hs.st
        have HNO := Lib.hid hno
        obtain ⟨c39, f39⟩ := hs.hu.idle
        obtain ⟨⟨vr, rfl⟩, -⟩ := hq
        clear hs hno H9 HT9 c8 t0
        go_wp2_with (with_reducible refine stop_op (o := ⟨_, .load 36 (.tmp 2), _, _, _, _⟩) ?_)
        refine Lib.hid ?_
        refine wpList_load_row (o := ⟨_, _, _, _, _, _⟩) rfl 36 (.tmp 2) rfl w.heap.size rfl 36 (flL a m).toArray (0, 0) _ HS.out.hF Tryd.underlying36 rfl (infoFR rfl) ?_
        go_wp2_with (with_reducible refine stop_op (o := ⟨_, .store 36 (.tmp 4) (.tmp 50), _, _, _, _⟩) ?_)
        refine Lib.hid ?_
        refine wpList_store_row (o := ⟨none, _, _, _, _, _⟩) rfl 36 (.tmp 4) (.tmp 50) rfl (w.heap.size + 2) (flL a m).toArray rfl rfl 36 (flL faZ mmZ).toArray HS.out.hZ (infoFR rfl) rfl (all_oneCell_toArray (flL_one a m)) ?_
        have hc := chg_setRow WA (w.heap.size + 2) (flL a m).toArray
        have hbf := HS.out.hb.trans (hc.below HS.out.hb.size (fun k e => by have e : k = w.heap.size + 2 := e; omega))
        have HQ := Lib.hid (setRow_heap WA (w.heap.size + 2) _ (flL a m).toArray 36 (0, 0) HS.out.hZ)
        have HP : Hid (StpP M w a m RL i ML (.returned (.tuple #[.agg (flL a m).toArray, .slice (some ⟨w.heap.size + 3, 0, none⟩) 1 1])) (WA.setRow (w.heap.size + 2) (flL a m).toArray)) := Lib.hid ⟨m, _, [idleE], RL, rfl, hbf, EfAt.idle (hc.heap HS.out.hE (by omega)) (by omega), HM.out.keep hbf, .inl ⟨.inr (.inl ⟨HK.out, HNO.out⟩), rfl, rfl, rfl⟩⟩
        clear hc hbf HS
        generalize WA.setRow (w.heap.size + 2) (flL a m).toArray = WX at *
        go_wp2_with fail
        exact ret_row HQ.out rfl Tryd.underlying36 rfl (infoFR rfl) rfl rfl HP.out
      · have hqs := hq.imp (Q' := ScQ RL i ML { m with rs := ⟨ro, RL.length, rcc⟩ }) fun _ _ _ _ _ h => .inr (.inr (.inl ⟨HK.out, h⟩))
        obtain ⟨m8, E8, ev8, RL8, hs⟩ := H9.out.fin hqs (fun _ _ _ _ h hx => h.U hx) HM.out.U (fun _ _ _ _ _ h hT => h.conv hT)
        have HS := Lib.hid hs
        obtain ⟨⟨vr, rfl⟩, -⟩ := hq
        clear hqs hs
        obtain ⟨c39, f39⟩ := HS.out.hu.idle
        clear H9 HT9 c8 t0
        go_wp2_with (with_reducible refine stop_op (o := ⟨_, .load 34 (.tmp 54), _, _, _, _⟩) ?_)
        refine Lib.hid ?_
        clear c39 f39
        refine wpList_load_mid (op := ⟨_, _, _, _, _, _⟩) rfl 34 (.tmp 54) rfl ub 0 rfl (mmL m8) _ (mid_range (pre := []) (post := imL i ++ [ev8, .bool false]) (by have := HS.out.hu.hU; unfold unL at this; rw [List.append_assoc] at this; exact this) rfl) Tryd.underlying34 rfl (by rw [infoMA (cs := (mmL m8).toArray) rfl]; rfl) ?_
        go_wp2_with (with_reducible refine stop_op (o := ⟨_, .store 34 (.tmp 56) (.tmp 55), _, _, _, _⟩) ?_)
        refine Lib.hid ?_
        refine wpList_store_mid (op := ⟨none, _, _, _, _, _⟩) rfl 34 (.tmp 56) (.tmp 55) rfl w.heap.size 8 (mmL m8).toArray rfl rfl (there_of HS.out.st.hF (by show 8 + 27 ≤ 35; decide)) (infoMA rfl) (all_oneCell_toArray (mmL_one m8)) ?_
        have hc9 := chg_cells (mmL m8) w.heap.size 8 WA
        have hfs := setRow_cells (mmL m8) 8 HS.out.st.hF
        rw [setL_fl a m m8] at hfs
        have H10 := Lib.hid (HS.out.put hc9 hfs)
        clear hc9 hfs HS
        change Hid (StG M w (WA.setCells w.heap.size 8 (mmL m8).toArray.toList) a m8 m8 i ub ev8 false E8 RL8 _) at H10
        generalize WA.setCells w.heap.size 8 (mmL m8).toArray.toList = WB at *
        go_upto_region 11 with fail
        have hS : StS2 w.heap.size ub a m8 ev8 WB.drew := ⟨H10.out.st.hF, H10.out.hu.ev⟩
        have H10 := Lib.hid (H10.out.keep (Below.refl _ _).drew)
        refine region_plan (StS2 w.heap.size ub a m8 ev8) [(0, 0), (1, 0), (2, 0), (3, 0), (4, 0), (5, 1), (6, 0)] (by kernel_rfl) (by kernel_rfl) (by kernel_rfl) hS ?_
        generalize WB.drew = WD at *
        refine plan_take rfl ?_ (fun wS hSw => exec_row 36 (.tmp 2) rfl w.heap.size rfl (flL a m8).toArray 36 (0, 0) _ hSw.1 Tryd.underlying36 rfl (infoFR rfl)) ?_
        focus (rfl)
        (try simp only [Act.put, List.setIfInBounds_toArray, List.set_cons_zero, List.set_cons_succ])
        iterate 4 (first | (refine plan_skip rfl ?_ ?_; (focus (rfl)); (try simp only [Act.put, List.setIfInBounds_toArray, List.set_cons_zero, List.set_cons_succ])) | (refine plan_take (v := ?_) rfl ?_ (fun w hSw => ?_) ?_; rotate_left; (focus (rfl)); (focus (unfold StS2 at hSw; (go_simp <;> with_reducible rfl))); (try simp only [Act.put, List.setIfInBounds_toArray, List.set_cons_zero, List.set_cons_succ])))
        have hcF := chg_setRow WD (w.heap.size + 2) (flL a m8).toArray
        have hSF : StS2 w.heap.size ub a m8 ev8 (WD.setRow (w.heap.size + 2) (flL a m8).toArray) := ⟨hcF.heap hS.1 (by omega), hcF.cell hS.2 (by have := H10.out.hub; show ¬ ub = w.heap.size + 2; omega)⟩
        have HQ := Lib.hid (setRow_heap WD (w.heap.size + 2) _ (flL a m8).toArray 36 (0, 0) H10.out.st.hZ)
        have HP : Hid (StpP M w a m RL i ML (.returned (.tuple #[.agg (flL a m8).toArray, ev8])) (WD.setRow (w.heap.size + 2) (flL a m8).toArray)) := Lib.hid (H10.out.done HX.out.1 HFI.out hcF)
        refine plan_run rfl ?_ (fun K hK => ?_)
        focus (rfl)
        refine wp_store_row 36 (.tmp 4) (.tmp 57) rfl (w.heap.size + 2) (flL a m8).toArray rfl rfl 36 (flL faZ mmZ).toArray H10.out.st.hZ (infoFR rfl) rfl (all_oneCell_toArray (flL_one a m8)) ?_
        refine hK.out _ _ (hSF) ?_
        clear hK K
        (try simp only [Act.put, List.setIfInBounds_toArray, List.set_cons_zero, List.set_cons_succ])
        iterate 1 (first | (refine plan_skip rfl ?_ ?_; (focus (rfl)); (try simp only [Act.put, List.setIfInBounds_toArray, List.set_cons_zero, List.set_cons_succ])) | (refine plan_take (v := ?_) rfl ?_ (fun w hSw => ?_) ?_; rotate_left; (focus (rfl)); (focus (unfold StS2 at hSw; (go_simp <;> with_reducible rfl))); (try simp only [Act.put, List.setIfInBounds_toArray, List.set_cons_zero, List.set_cons_succ])))
        refine plan_done ?_
        clear hS hcF hSF H10
        generalize WD.setRow (w.heap.size + 2) (flL a m8).toArray = WE at *
        go_wp2_with fail
        exact ret_row HQ.out rfl Tryd.underlying36 rfl (infoFR rfl) rfl rfl HP.out
    · have HK := Lib.hid hk
      clear hk
      go_wp2_with (with_reducible refine stop_op (o := ⟨_, .load 34 (.tmp 16), _, _, _, _⟩) ?_)
      refine Lib.hid ?_
      refine wpList_load_mid (op := ⟨_, _, _, _, _, _⟩) rfl 34 (.tmp 16) rfl w.heap.size 8 rfl [.int .i8 m.ph, .int .i64 m.pid, .int .i64 m.ref, .int .i64 m.dl, .int .i64 m.n, .int .i8 m.T.k, .int .i64 m.T.n, .string m.T.s, .string m.T.u, .slice m.T.ao m.T.l.length m.T.cap, .int .i8 m.U.k, .int .i64 m.U.n, .string m.U.s, .string m.U.u, .slice m.U.ao m.U.l.length m.U.cap, .int .i8 m.V.k, .int .i64 m.V.n, .string m.V.s, .string m.V.u, .slice m.V.ao m.V.l.length m.V.cap, .slice m.rs.o m.rs.n m.rs.c, .int .i8 m.st, .int .i64 m.mr, .int .i64 m.mt, .slice m.sp.o m.sp.n m.sp.c, .slice m.lg.o m.lg.n m.lg.c, .slice m.td.o m.td.n m.td.c] _ (fr_range H5.out.hF) Tryd.underlying34 rfl (by rw [infoMA (cs := [.int .i8 m.ph, .int .i64 m.pid, .int .i64 m.ref, .int .i64 m.dl, .int .i64 m.n, .int .i8 m.T.k, .int .i64 m.T.n, .string m.T.s, .string m.T.u, .slice m.T.ao m.T.l.length m.T.cap, .int .i8 m.U.k, .int .i64 m.U.n, .string m.U.s, .string m.U.u, .slice m.U.ao m.U.l.length m.U.cap, .int .i8 m.V.k, .int .i64 m.V.n, .string m.V.s, .string m.V.u, .slice m.V.ao m.V.l.length m.V.cap, .slice m.rs.o m.rs.n m.rs.c, .int .i8 m.st, .int .i64 m.mr, .int .i64 m.mt, .slice m.sp.o m.sp.n m.sp.c, .slice m.lg.o m.lg.n m.lg.c, .slice m.td.o m.td.n m.td.c].toArray) rfl]; rfl) ?_
      go_wp2_with (with_reducible refine stop_op (o := ⟨_, .load 39 (.tmp 3), _, _, _, _⟩) ?_)
      refine Lib.hid ?_
      refine wpList_load_row (o := ⟨_, _, _, _, _, _⟩) rfl 39 (.tmp 3) rfl (w.heap.size + 1) rfl 39 #[.int .i64 i.now, .int .i64 i.self, .slice i.ml.o i.ml.n i.ml.c, .int .i8 i.cls, .bool i.some, .int .i8 i.got.k, .int .i64 i.got.n, .string i.got.s, .string i.got.u, .slice i.got.ao i.got.l.length i.got.cap, .int .i64 i.have_] (0, 0) _ H5.out.hI Tryd.underlying39 rfl (infoIN rfl) ?_
      have hbU := (Below.refl W5.heap.size W5).alloc (Nat.le_refl _) (.cells #[.int .i8 m.ph, .int .i64 m.pid, .int .i64 m.ref, .int .i64 m.dl, .int .i64 m.n, .int .i8 m.T.k, .int .i64 m.T.n, .string m.T.s, .string m.T.u, .slice m.T.ao m.T.l.length m.T.cap, .int .i8 m.U.k, .int .i64 m.U.n, .string m.U.s, .string m.U.u, .slice m.U.ao m.U.l.length m.U.cap, .int .i8 m.V.k, .int .i64 m.V.n, .string m.V.s, .string m.V.u, .slice m.V.ao m.V.l.length m.V.cap, .slice m.rs.o m.rs.n m.rs.c, .int .i8 m.st, .int .i64 m.mr, .int .i64 m.mt, .slice m.sp.o m.sp.n m.sp.c, .slice m.lg.o m.lg.n m.lg.c, .slice m.td.o m.td.n m.td.c, .int .i64 i.now, .int .i64 i.self, .slice i.ml.o i.ml.n i.ml.c, .int .i8 i.cls, .bool i.some, .int .i8 i.got.k, .int .i64 i.got.n, .string i.got.s, .string i.got.u, .slice i.got.ao i.got.l.length i.got.cap, .int .i64 i.have_, .slice none 0 0, .bool false] 66)
      have hq1 := heap_new W5 (.cells #[.int .i8 m.ph, .int .i64 m.pid, .int .i64 m.ref, .int .i64 m.dl, .int .i64 m.n, .int .i8 m.T.k, .int .i64 m.T.n, .string m.T.s, .string m.T.u, .slice m.T.ao m.T.l.length m.T.cap, .int .i8 m.U.k, .int .i64 m.U.n, .string m.U.s, .string m.U.u, .slice m.U.ao m.U.l.length m.U.cap, .int .i8 m.V.k, .int .i64 m.V.n, .string m.V.s, .string m.V.u, .slice m.V.ao m.V.l.length m.V.cap, .slice m.rs.o m.rs.n m.rs.c, .int .i8 m.st, .int .i64 m.mr, .int .i64 m.mt, .slice m.sp.o m.sp.n m.sp.c, .slice m.lg.o m.lg.n m.lg.c, .slice m.td.o m.td.n m.td.c, .int .i64 i.now, .int .i64 i.self, .slice i.ml.o i.ml.n i.ml.c, .int .i8 i.cls, .bool i.some, .int .i8 i.got.k, .int .i64 i.got.n, .string i.got.s, .string i.got.u, .slice i.got.ao i.got.l.length i.got.cap, .int .i64 i.have_, .slice none 0 0, .bool false] 66)
      have H6 := Lib.hid (And.intro (H5.out.keep hbU) (And.intro hq1 (show W5.heap.size < (W5.alloc (.cells #[.int .i8 m.ph, .int .i64 m.pid, .int .i64 m.ref, .int .i64 m.dl, .int .i64 m.n, .int .i8 m.T.k, .int .i64 m.T.n, .string m.T.s, .string m.T.u, .slice m.T.ao m.T.l.length m.T.cap, .int .i8 m.U.k, .int .i64 m.U.n, .string m.U.s, .string m.U.u, .slice m.U.ao m.U.l.length m.U.cap, .int .i8 m.V.k, .int .i64 m.V.n, .string m.V.s, .string m.V.u, .slice m.V.ao m.V.l.length m.V.cap, .slice m.rs.o m.rs.n m.rs.c, .int .i8 m.st, .int .i64 m.mr, .int .i64 m.mt, .slice m.sp.o m.sp.n m.sp.c, .slice m.lg.o m.lg.n m.lg.c, .slice m.td.o m.td.n m.td.c, .int .i64 i.now, .int .i64 i.self, .slice i.ml.o i.ml.n i.ml.c, .int .i8 i.cls, .bool i.some, .int .i8 i.got.k, .int .i64 i.got.n, .string i.got.s, .string i.got.u, .slice i.got.ao i.got.l.length i.got.cap, .int .i64 i.have_, .slice none 0 0, .bool false] 66)).heap.size by simp)))
      have c28 : (W5.alloc (.cells #[.int .i8 m.ph, .int .i64 m.pid, .int .i64 m.ref, .int .i64 m.dl, .int .i64 m.n, .int .i8 m.T.k, .int .i64 m.T.n, .string m.T.s, .string m.T.u, .slice m.T.ao m.T.l.length m.T.cap, .int .i8 m.U.k, .int .i64 m.U.n, .string m.U.s, .string m.U.u, .slice m.U.ao m.U.l.length m.U.cap, .int .i8 m.V.k, .int .i64 m.V.n, .string m.V.s, .string m.V.u, .slice m.V.ao m.V.l.length m.V.cap, .slice m.rs.o m.rs.n m.rs.c, .int .i8 m.st, .int .i64 m.mr, .int .i64 m.mt, .slice m.sp.o m.sp.n m.sp.c, .slice m.lg.o m.lg.n m.lg.c, .slice m.td.o m.td.n m.td.c, .int .i64 i.now, .int .i64 i.self, .slice i.ml.o i.ml.n i.ml.c, .int .i8 i.cls, .bool i.some, .int .i8 i.got.k, .int .i64 i.got.n, .string i.got.s, .string i.got.u, .slice i.got.ao i.got.l.length i.got.cap, .int .i64 i.have_, .slice none 0 0, .bool false] 66)).cell? ⟨w.heap.size, 28, none⟩ = some (.slice m.rs.o m.rs.n m.rs.c) := (cells_at H6.out.1.hF 28 _ rfl).1
      clear hbU hq1
      go_wp2_with (at_builtin; refine stop_here ?_)
      refine Lib.hid ?_
      generalize W5.alloc (.cells #[.int .i8 m.ph, .int .i64 m.pid, .int .i64 m.ref, .int .i64 m.dl, .int .i64 m.n, .int .i8 m.T.k, .int .i64 m.T.n, .string m.T.s, .string m.T.u, .slice m.T.ao m.T.l.length m.T.cap, .int .i8 m.U.k, .int .i64 m.U.n, .string m.U.s, .string m.U.u, .slice m.U.ao m.U.l.length m.U.cap, .int .i8 m.V.k, .int .i64 m.V.n, .string m.V.s, .string m.V.u, .slice m.V.ao m.V.l.length m.V.cap, .slice m.rs.o m.rs.n m.rs.c, .int .i8 m.st, .int .i64 m.mr, .int .i64 m.mt, .slice m.sp.o m.sp.n m.sp.c, .slice m.lg.o m.lg.n m.lg.c, .slice m.td.o m.td.n m.td.c, .int .i64 i.now, .int .i64 i.self, .slice i.ml.o i.ml.n i.ml.c, .int .i8 i.cls, .bool i.some, .int .i8 i.got.k, .int .i64 i.got.n, .string i.got.s, .string i.got.u, .slice i.got.ao i.got.l.length i.got.cap, .int .i64 i.have_, .slice none 0 0, .bool false] 66) = W6 at *
      have hlow : w.heap.size + 4 ≤ W5.heap.size := by
        have := heap_lt H5.out.hE
        omega
      have HLO := Lib.hid hlow
      clear hlow H5
      generalize W5.heap.size = ub at *
      refine wpList_append_rc rfl (.const (.slice none 0 0)) (.tmp 24) rfl m.rs RL rfl rfl (HM.out.rs.keep H6.out.1.hb) (by omega) ?_
      intro rv W7 hown hb7
      obtain ⟨ro, rcc, rfl⟩ := own_slice hown
      have hu7 := keep_heap H6.out.2.1 hb7
      obtain ⟨x20, f20⟩ := cells_at hu7 20 (.slice m.rs.o m.rs.n m.rs.c) rfl
      have hc8 := chg_set (w := W7) (p := ⟨ub, 20, none⟩) (.slice ro RL.length rcc)
      have hu8 := set_at (i := 20) hu7 (.slice ro RL.length rcc)
      have hown8 := own_chg (own_lower hown (show ub + 1 ≤ W6.heap.size by have := H6.out.2.2; omega)) hc8 fun k hk e => by
        have := own_base (own_lower hown (show ub + 1 ≤ W6.heap.size by have := H6.out.2.2; omega)) k hk
        have e : k = ub := e
        omega
      have H7 : Hid (StU w (W7.setCell ⟨ub, 20, none⟩ (.slice ro RL.length rcc)) a m i ub ⟨ro, RL.length, rcc⟩ RL) := Lib.hid ⟨(H6.out.1.keep hb7).chg hc8 (fun k e => by have e : k = ub := e; have := HLO.out; omega), ⟨hu8, rfl, World.ownsRow_nil _ _ _ _⟩, hown8, HLO.out⟩
      clear hown hb7 hu7 hc8 hu8 hown8 H6 c28
      go_wp2_with (with_reducible refine stop_op (o := ⟨_, .store 67 (.tmp 8) (.tmp 39), _, _, _, _⟩) ?_)
      refine Lib.hid ?_
      clear x20 f20
      have hsz : (W7.setCell ⟨ub, 20, none⟩ (.slice ro RL.length rcc)).heap.size = W7.heap.size := by simp
      generalize W7.setCell ⟨ub, 20, none⟩ (.slice ro RL.length rcc) = W8 at *
      rw [← hsz]
      clear hsz
      refine wpList_store_row (o := ⟨none, _, _, _, _, _⟩) rfl 67 (.tmp 8) (.tmp 39) rfl W8.heap.size #[.func (.func 17) #[.pointer (some ⟨ub, 0, none⟩)] #[], .func (.func 18) #[.pointer (some ⟨ub, 0, none⟩)] #[], .func (.func 19) #[.pointer (some ⟨ub, 0, none⟩)] #[], .func (.func 20) #[.pointer (some ⟨ub, 0, none⟩)] #[], .func (.func 21) #[.pointer (some ⟨ub, 0, none⟩)] #[]] rfl rfl 67 #[.nilFunc, .nilFunc, .nilFunc, .nilFunc, .nilFunc] (heap_new W8 (.cells #[.nilFunc, .nilFunc, .nilFunc, .nilFunc, .nilFunc] 67)) (infoPH rfl) rfl (by simp [Value.oneCell']) ?_
      rw [setRow_alloc]
      have hb9 := (Below.refl W8.heap.size W8).alloc (Nat.le_refl _) (.cells #[.func (.func 17) #[.pointer (some ⟨ub, 0, none⟩)] #[], .func (.func 18) #[.pointer (some ⟨ub, 0, none⟩)] #[], .func (.func 19) #[.pointer (some ⟨ub, 0, none⟩)] #[], .func (.func 20) #[.pointer (some ⟨ub, 0, none⟩)] #[], .func (.func 21) #[.pointer (some ⟨ub, 0, none⟩)] #[]] 67)
      have H9 : Hid (StU w (W8.alloc (.cells #[.func (.func 17) #[.pointer (some ⟨ub, 0, none⟩)] #[], .func (.func 18) #[.pointer (some ⟨ub, 0, none⟩)] #[], .func (.func 19) #[.pointer (some ⟨ub, 0, none⟩)] #[], .func (.func 20) #[.pointer (some ⟨ub, 0, none⟩)] #[], .func (.func 21) #[.pointer (some ⟨ub, 0, none⟩)] #[]] 67)) a m i ub ⟨ro, RL.length, rcc⟩ RL) := Lib.hid ⟨H7.out.st.keep hb9, H7.out.hu.keep hb9, own_keep H7.out.rs hb9, H7.out.hub⟩
      have HT9 := Lib.hid (heap_new W8 (.cells #[.func (.func 17) #[.pointer (some ⟨ub, 0, none⟩)] #[], .func (.func 18) #[.pointer (some ⟨ub, 0, none⟩)] #[], .func (.func 19) #[.pointer (some ⟨ub, 0, none⟩)] #[], .func (.func 20) #[.pointer (some ⟨ub, 0, none⟩)] #[], .func (.func 21) #[.pointer (some ⟨ub, 0, none⟩)] #[]] 67))
      clear hb9 H7
      generalize W8.alloc (.cells #[.func (.func 17) #[.pointer (some ⟨ub, 0, none⟩)] #[], .func (.func 18) #[.pointer (some ⟨ub, 0, none⟩)] #[], .func (.func 19) #[.pointer (some ⟨ub, 0, none⟩)] #[], .func (.func 20) #[.pointer (some ⟨ub, 0, none⟩)] #[], .func (.func 21) #[.pointer (some ⟨ub, 0, none⟩)] #[]] 67) = W9 at *
      generalize W8.heap.size = qp at *
      have c8 : W9.cell? ⟨w.heap.size, 8, none⟩ = some (.int .i8 m.ph) := (cells_at H9.out.st.hF 8 _ rfl).1
      have t0 := (cells_at HT9.out 3 _ rfl).1
      rw [HK.out] at c8
      go_wp2_with fail
      refine (undo_any (M4 M w) W9 (H9.out.lt4 HX.out.1) ub { m with rs := ⟨ro, RL.length, rcc⟩ } i nilV false [] H9.out.hu (by simp) RL H9.out.rs (H9.out.hr HX.out.1) m.n.toNat HNN.out.1 HNN.out.2.1 HX.out.2.2.2.1 (fun r hr => by have := HX.out.2.2.2.2.1 r hr; omega)).mono ?_
      rintro e WA hq
      have hqs := (hq.toR H9.out.rs (H9.out.hr HX.out.1) fun _ _ _ _ h => h.rs).imp (Q' := ScQ RL i ML { m with rs := ⟨ro, RL.length, rcc⟩ }) fun _ _ _ _ _ h => .inr (.inr (.inr (.inl ⟨HK.out, h⟩)))
      obtain ⟨m8, E8, ev8, RL8, hs⟩ := H9.out.fin hqs (fun _ _ _ _ h hx => h.U hx) HM.out.U (fun _ _ _ _ _ h hT => h.conv hT)
      have HS := Lib.hid hs
      obtain ⟨⟨vr, rfl⟩, -⟩ := hq
      clear hqs hs
      obtain ⟨c39, f39⟩ := HS.out.hu.idle
      clear H9 HT9 c8 t0
      go_wp2_with (with_reducible refine stop_op (o := ⟨_, .load 34 (.tmp 54), _, _, _, _⟩) ?_)
      refine Lib.hid ?_
      clear c39 f39
      refine wpList_load_mid (op := ⟨_, _, _, _, _, _⟩) rfl 34 (.tmp 54) rfl ub 0 rfl (mmL m8) _ (mid_range (pre := []) (post := imL i ++ [ev8, .bool false]) (by have := HS.out.hu.hU; unfold unL at this; rw [List.append_assoc] at this; exact this) rfl) Tryd.underlying34 rfl (by rw [infoMA (cs := (mmL m8).toArray) rfl]; rfl) ?_
      go_wp2_with (with_reducible refine stop_op (o := ⟨_, .store 34 (.tmp 56) (.tmp 55), _, _, _, _⟩) ?_)
      refine Lib.hid ?_
      refine wpList_store_mid (op := ⟨none, _, _, _, _, _⟩) rfl 34 (.tmp 56) (.tmp 55) rfl w.heap.size 8 (mmL m8).toArray rfl rfl (there_of HS.out.st.hF (by show 8 + 27 ≤ 35; decide)) (infoMA rfl) (all_oneCell_toArray (mmL_one m8)) ?_
      have hc9 := chg_cells (mmL m8) w.heap.size 8 WA
      have hfs := setRow_cells (mmL m8) 8 HS.out.st.hF
      rw [setL_fl a m m8] at hfs
      have H10 := Lib.hid (HS.out.put hc9 hfs)
      clear hc9 hfs HS
      change Hid (StG M w (WA.setCells w.heap.size 8 (mmL m8).toArray.toList) a m8 m8 i ub ev8 false E8 RL8 _) at H10
      generalize WA.setCells w.heap.size 8 (mmL m8).toArray.toList = WB at *
      go_upto_region 11 with fail
      have hS : StS2 w.heap.size ub a m8 ev8 WB.drew := ⟨H10.out.st.hF, H10.out.hu.ev⟩
      have H10 := Lib.hid (H10.out.keep (Below.refl _ _).drew)
      refine region_plan (StS2 w.heap.size ub a m8 ev8) [(0, 0), (1, 0), (2, 0), (3, 0), (4, 0), (5, 1), (6, 0)] (by kernel_rfl) (by kernel_rfl) (by kernel_rfl) hS ?_
      generalize WB.drew = WD at *
      refine plan_take rfl ?_ (fun wS hSw => exec_row 36 (.tmp 2) rfl w.heap.size rfl (flL a m8).toArray 36 (0, 0) _ hSw.1 Tryd.underlying36 rfl (infoFR rfl)) ?_
      focus (rfl)
      (try simp only [Act.put, List.setIfInBounds_toArray, List.set_cons_zero, List.set_cons_succ])
      iterate 4 (first | (refine plan_skip rfl ?_ ?_; (focus (rfl)); (try simp only [Act.put, List.setIfInBounds_toArray, List.set_cons_zero, List.set_cons_succ])) | (refine plan_take (v := ?_) rfl ?_ (fun w hSw => ?_) ?_; rotate_left; (focus (rfl)); (focus (unfold StS2 at hSw; (go_simp <;> with_reducible rfl))); (try simp only [Act.put, List.setIfInBounds_toArray, List.set_cons_zero, List.set_cons_succ])))
      have hcF := chg_setRow WD (w.heap.size + 2) (flL a m8).toArray
      have hSF : StS2 w.heap.size ub a m8 ev8 (WD.setRow (w.heap.size + 2) (flL a m8).toArray) := ⟨hcF.heap hS.1 (by omega), hcF.cell hS.2 (by have := H10.out.hub; show ¬ ub = w.heap.size + 2; omega)⟩
      have HQ := Lib.hid (setRow_heap WD (w.heap.size + 2) _ (flL a m8).toArray 36 (0, 0) H10.out.st.hZ)
      have HP : Hid (StpP M w a m RL i ML (.returned (.tuple #[.agg (flL a m8).toArray, ev8])) (WD.setRow (w.heap.size + 2) (flL a m8).toArray)) := Lib.hid (H10.out.done HX.out.1 HFI.out hcF)
      refine plan_run rfl ?_ (fun K hK => ?_)
      focus (rfl)
      refine wp_store_row 36 (.tmp 4) (.tmp 57) rfl (w.heap.size + 2) (flL a m8).toArray rfl rfl 36 (flL faZ mmZ).toArray H10.out.st.hZ (infoFR rfl) rfl (all_oneCell_toArray (flL_one a m8)) ?_
      refine hK.out _ _ (hSF) ?_
      clear hK K
      (try simp only [Act.put, List.setIfInBounds_toArray, List.set_cons_zero, List.set_cons_succ])
      iterate 1 (first | (refine plan_skip rfl ?_ ?_; (focus (rfl)); (try simp only [Act.put, List.setIfInBounds_toArray, List.set_cons_zero, List.set_cons_succ])) | (refine plan_take (v := ?_) rfl ?_ (fun w hSw => ?_) ?_; rotate_left; (focus (rfl)); (focus (unfold StS2 at hSw; (go_simp <;> with_reducible rfl))); (try simp only [Act.put, List.setIfInBounds_toArray, List.set_cons_zero, List.set_cons_succ])))
      refine plan_done ?_
      clear hS hcF hSF H10
      generalize WD.setRow (w.heap.size + 2) (flL a m8).toArray = WE at *
      go_wp2_with fail
      exact ret_row HQ.out rfl Tryd.underlying36 rfl (infoFR rfl) rfl rfl HP.out
    · have HK := Lib.hid hk
      clear hk
      go_wp2_with (with_reducible refine stop_op (o := ⟨_, .load 34 (.tmp 16), _, _, _, _⟩) ?_)
      refine Lib.hid ?_
      refine wpList_load_mid (op := ⟨_, _, _, _, _, _⟩) rfl 34 (.tmp 16) rfl w.heap.size 8 rfl [.int .i8 m.ph, .int .i64 m.pid, .int .i64 m.ref, .int .i64 m.dl, .int .i64 m.n, .int .i8 m.T.k, .int .i64 m.T.n, .string m.T.s, .string m.T.u, .slice m.T.ao m.T.l.length m.T.cap, .int .i8 m.U.k, .int .i64 m.U.n, .string m.U.s, .string m.U.u, .slice m.U.ao m.U.l.length m.U.cap, .int .i8 m.V.k, .int .i64 m.V.n, .string m.V.s, .string m.V.u, .slice m.V.ao m.V.l.length m.V.cap, .slice m.rs.o m.rs.n m.rs.c, .int .i8 m.st, .int .i64 m.mr, .int .i64 m.mt, .slice m.sp.o m.sp.n m.sp.c, .slice m.lg.o m.lg.n m.lg.c, .slice m.td.o m.td.n m.td.c] _ (fr_range H5.out.hF) Tryd.underlying34 rfl (by rw [infoMA (cs := [.int .i8 m.ph, .int .i64 m.pid, .int .i64 m.ref, .int .i64 m.dl, .int .i64 m.n, .int .i8 m.T.k, .int .i64 m.T.n, .string m.T.s, .string m.T.u, .slice m.T.ao m.T.l.length m.T.cap, .int .i8 m.U.k, .int .i64 m.U.n, .string m.U.s, .string m.U.u, .slice m.U.ao m.U.l.length m.U.cap, .int .i8 m.V.k, .int .i64 m.V.n, .string m.V.s, .string m.V.u, .slice m.V.ao m.V.l.length m.V.cap, .slice m.rs.o m.rs.n m.rs.c, .int .i8 m.st, .int .i64 m.mr, .int .i64 m.mt, .slice m.sp.o m.sp.n m.sp.c, .slice m.lg.o m.lg.n m.lg.c, .slice m.td.o m.td.n m.td.c].toArray) rfl]; rfl) ?_
      go_wp2_with (with_reducible refine stop_op (o := ⟨_, .load 39 (.tmp 3), _, _, _, _⟩) ?_)
      refine Lib.hid ?_
      refine wpList_load_row (o := ⟨_, _, _, _, _, _⟩) rfl 39 (.tmp 3) rfl (w.heap.size + 1) rfl 39 #[.int .i64 i.now, .int .i64 i.self, .slice i.ml.o i.ml.n i.ml.c, .int .i8 i.cls, .bool i.some, .int .i8 i.got.k, .int .i64 i.got.n, .string i.got.s, .string i.got.u, .slice i.got.ao i.got.l.length i.got.cap, .int .i64 i.have_] (0, 0) _ H5.out.hI Tryd.underlying39 rfl (infoIN rfl) ?_
      have hbU := (Below.refl W5.heap.size W5).alloc (Nat.le_refl _) (.cells #[.int .i8 m.ph, .int .i64 m.pid, .int .i64 m.ref, .int .i64 m.dl, .int .i64 m.n, .int .i8 m.T.k, .int .i64 m.T.n, .string m.T.s, .string m.T.u, .slice m.T.ao m.T.l.length m.T.cap, .int .i8 m.U.k, .int .i64 m.U.n, .string m.U.s, .string m.U.u, .slice m.U.ao m.U.l.length m.U.cap, .int .i8 m.V.k, .int .i64 m.V.n, .string m.V.s, .string m.V.u, .slice m.V.ao m.V.l.length m.V.cap, .slice m.rs.o m.rs.n m.rs.c, .int .i8 m.st, .int .i64 m.mr, .int .i64 m.mt, .slice m.sp.o m.sp.n m.sp.c, .slice m.lg.o m.lg.n m.lg.c, .slice m.td.o m.td.n m.td.c, .int .i64 i.now, .int .i64 i.self, .slice i.ml.o i.ml.n i.ml.c, .int .i8 i.cls, .bool i.some, .int .i8 i.got.k, .int .i64 i.got.n, .string i.got.s, .string i.got.u, .slice i.got.ao i.got.l.length i.got.cap, .int .i64 i.have_, .slice none 0 0, .bool false] 66)
      have hq1 := heap_new W5 (.cells #[.int .i8 m.ph, .int .i64 m.pid, .int .i64 m.ref, .int .i64 m.dl, .int .i64 m.n, .int .i8 m.T.k, .int .i64 m.T.n, .string m.T.s, .string m.T.u, .slice m.T.ao m.T.l.length m.T.cap, .int .i8 m.U.k, .int .i64 m.U.n, .string m.U.s, .string m.U.u, .slice m.U.ao m.U.l.length m.U.cap, .int .i8 m.V.k, .int .i64 m.V.n, .string m.V.s, .string m.V.u, .slice m.V.ao m.V.l.length m.V.cap, .slice m.rs.o m.rs.n m.rs.c, .int .i8 m.st, .int .i64 m.mr, .int .i64 m.mt, .slice m.sp.o m.sp.n m.sp.c, .slice m.lg.o m.lg.n m.lg.c, .slice m.td.o m.td.n m.td.c, .int .i64 i.now, .int .i64 i.self, .slice i.ml.o i.ml.n i.ml.c, .int .i8 i.cls, .bool i.some, .int .i8 i.got.k, .int .i64 i.got.n, .string i.got.s, .string i.got.u, .slice i.got.ao i.got.l.length i.got.cap, .int .i64 i.have_, .slice none 0 0, .bool false] 66)
      have H6 := Lib.hid (And.intro (H5.out.keep hbU) (And.intro hq1 (show W5.heap.size < (W5.alloc (.cells #[.int .i8 m.ph, .int .i64 m.pid, .int .i64 m.ref, .int .i64 m.dl, .int .i64 m.n, .int .i8 m.T.k, .int .i64 m.T.n, .string m.T.s, .string m.T.u, .slice m.T.ao m.T.l.length m.T.cap, .int .i8 m.U.k, .int .i64 m.U.n, .string m.U.s, .string m.U.u, .slice m.U.ao m.U.l.length m.U.cap, .int .i8 m.V.k, .int .i64 m.V.n, .string m.V.s, .string m.V.u, .slice m.V.ao m.V.l.length m.V.cap, .slice m.rs.o m.rs.n m.rs.c, .int .i8 m.st, .int .i64 m.mr, .int .i64 m.mt, .slice m.sp.o m.sp.n m.sp.c, .slice m.lg.o m.lg.n m.lg.c, .slice m.td.o m.td.n m.td.c, .int .i64 i.now, .int .i64 i.self, .slice i.ml.o i.ml.n i.ml.c, .int .i8 i.cls, .bool i.some, .int .i8 i.got.k, .int .i64 i.got.n, .string i.got.s, .string i.got.u, .slice i.got.ao i.got.l.length i.got.cap, .int .i64 i.have_, .slice none 0 0, .bool false] 66)).heap.size by simp)))
      have c28 : (W5.alloc (.cells #[.int .i8 m.ph, .int .i64 m.pid, .int .i64 m.ref, .int .i64 m.dl, .int .i64 m.n, .int .i8 m.T.k, .int .i64 m.T.n, .string m.T.s, .string m.T.u, .slice m.T.ao m.T.l.length m.T.cap, .int .i8 m.U.k, .int .i64 m.U.n, .string m.U.s, .string m.U.u, .slice m.U.ao m.U.l.length m.U.cap, .int .i8 m.V.k, .int .i64 m.V.n, .string m.V.s, .string m.V.u, .slice m.V.ao m.V.l.length m.V.cap, .slice m.rs.o m.rs.n m.rs.c, .int .i8 m.st, .int .i64 m.mr, .int .i64 m.mt, .slice m.sp.o m.sp.n m.sp.c, .slice m.lg.o m.lg.n m.lg.c, .slice m.td.o m.td.n m.td.c, .int .i64 i.now, .int .i64 i.self, .slice i.ml.o i.ml.n i.ml.c, .int .i8 i.cls, .bool i.some, .int .i8 i.got.k, .int .i64 i.got.n, .string i.got.s, .string i.got.u, .slice i.got.ao i.got.l.length i.got.cap, .int .i64 i.have_, .slice none 0 0, .bool false] 66)).cell? ⟨w.heap.size, 28, none⟩ = some (.slice m.rs.o m.rs.n m.rs.c) := (cells_at H6.out.1.hF 28 _ rfl).1
      clear hbU hq1
      go_wp2_with (at_builtin; refine stop_here ?_)
      refine Lib.hid ?_
      generalize W5.alloc (.cells #[.int .i8 m.ph, .int .i64 m.pid, .int .i64 m.ref, .int .i64 m.dl, .int .i64 m.n, .int .i8 m.T.k, .int .i64 m.T.n, .string m.T.s, .string m.T.u, .slice m.T.ao m.T.l.length m.T.cap, .int .i8 m.U.k, .int .i64 m.U.n, .string m.U.s, .string m.U.u, .slice m.U.ao m.U.l.length m.U.cap, .int .i8 m.V.k, .int .i64 m.V.n, .string m.V.s, .string m.V.u, .slice m.V.ao m.V.l.length m.V.cap, .slice m.rs.o m.rs.n m.rs.c, .int .i8 m.st, .int .i64 m.mr, .int .i64 m.mt, .slice m.sp.o m.sp.n m.sp.c, .slice m.lg.o m.lg.n m.lg.c, .slice m.td.o m.td.n m.td.c, .int .i64 i.now, .int .i64 i.self, .slice i.ml.o i.ml.n i.ml.c, .int .i8 i.cls, .bool i.some, .int .i8 i.got.k, .int .i64 i.got.n, .string i.got.s, .string i.got.u, .slice i.got.ao i.got.l.length i.got.cap, .int .i64 i.have_, .slice none 0 0, .bool false] 66) = W6 at *
      have hlow : w.heap.size + 4 ≤ W5.heap.size := by
        have := heap_lt H5.out.hE
        omega
      have HLO := Lib.hid hlow
      clear hlow H5
      generalize W5.heap.size = ub at *
      refine wpList_append_rc rfl (.const (.slice none 0 0)) (.tmp 24) rfl m.rs RL rfl rfl (HM.out.rs.keep H6.out.1.hb) (by omega) ?_
      intro rv W7 hown hb7
      obtain ⟨ro, rcc, rfl⟩ := own_slice hown
      have hu7 := keep_heap H6.out.2.1 hb7
      obtain ⟨x20, f20⟩ := cells_at hu7 20 (.slice m.rs.o m.rs.n m.rs.c) rfl
      have hc8 := chg_set (w := W7) (p := ⟨ub, 20, none⟩) (.slice ro RL.length rcc)
      have hu8 := set_at (i := 20) hu7 (.slice ro RL.length rcc)
      have hown8 := own_chg (own_lower hown (show ub + 1 ≤ W6.heap.size by have := H6.out.2.2; omega)) hc8 fun k hk e => by
        have := own_base (own_lower hown (show ub + 1 ≤ W6.heap.size by have := H6.out.2.2; omega)) k hk
        have e : k = ub := e
        omega
      have H7 : Hid (StU w (W7.setCell ⟨ub, 20, none⟩ (.slice ro RL.length rcc)) a m i ub ⟨ro, RL.length, rcc⟩ RL) := Lib.hid ⟨(H6.out.1.keep hb7).chg hc8 (fun k e => by have e : k = ub := e; have := HLO.out; omega), ⟨hu8, rfl, World.ownsRow_nil _ _ _ _⟩, hown8, HLO.out⟩
      clear hown hb7 hu7 hc8 hu8 hown8 H6 c28
      go_wp2_with (with_reducible refine stop_op (o := ⟨_, .store 67 (.tmp 8) (.tmp 39), _, _, _, _⟩) ?_)
      refine Lib.hid ?_
      clear x20 f20
      have hsz : (W7.setCell ⟨ub, 20, none⟩ (.slice ro RL.length rcc)).heap.size = W7.heap.size := by simp
      generalize W7.setCell ⟨ub, 20, none⟩ (.slice ro RL.length rcc) = W8 at *
      rw [← hsz]
      clear hsz
      refine wpList_store_row (o := ⟨none, _, _, _, _, _⟩) rfl 67 (.tmp 8) (.tmp 39) rfl W8.heap.size #[.func (.func 17) #[.pointer (some ⟨ub, 0, none⟩)] #[], .func (.func 18) #[.pointer (some ⟨ub, 0, none⟩)] #[], .func (.func 19) #[.pointer (some ⟨ub, 0, none⟩)] #[], .func (.func 20) #[.pointer (some ⟨ub, 0, none⟩)] #[], .func (.func 21) #[.pointer (some ⟨ub, 0, none⟩)] #[]] rfl rfl 67 #[.nilFunc, .nilFunc, .nilFunc, .nilFunc, .nilFunc] (heap_new W8 (.cells #[.nilFunc, .nilFunc, .nilFunc, .nilFunc, .nilFunc] 67)) (infoPH rfl) rfl (by simp [Value.oneCell']) ?_
      rw [setRow_alloc]
      have hb9 := (Below.refl W8.heap.size W8).alloc (Nat.le_refl _) (.cells #[.func (.func 17) #[.pointer (some ⟨ub, 0, none⟩)] #[], .func (.func 18) #[.pointer (some ⟨ub, 0, none⟩)] #[], .func (.func 19) #[.pointer (some ⟨ub, 0, none⟩)] #[], .func (.func 20) #[.pointer (some ⟨ub, 0, none⟩)] #[], .func (.func 21) #[.pointer (some ⟨ub, 0, none⟩)] #[]] 67)
      have H9 : Hid (StU w (W8.alloc (.cells #[.func (.func 17) #[.pointer (some ⟨ub, 0, none⟩)] #[], .func (.func 18) #[.pointer (some ⟨ub, 0, none⟩)] #[], .func (.func 19) #[.pointer (some ⟨ub, 0, none⟩)] #[], .func (.func 20) #[.pointer (some ⟨ub, 0, none⟩)] #[], .func (.func 21) #[.pointer (some ⟨ub, 0, none⟩)] #[]] 67)) a m i ub ⟨ro, RL.length, rcc⟩ RL) := Lib.hid ⟨H7.out.st.keep hb9, H7.out.hu.keep hb9, own_keep H7.out.rs hb9, H7.out.hub⟩
      have HT9 := Lib.hid (heap_new W8 (.cells #[.func (.func 17) #[.pointer (some ⟨ub, 0, none⟩)] #[], .func (.func 18) #[.pointer (some ⟨ub, 0, none⟩)] #[], .func (.func 19) #[.pointer (some ⟨ub, 0, none⟩)] #[], .func (.func 20) #[.pointer (some ⟨ub, 0, none⟩)] #[], .func (.func 21) #[.pointer (some ⟨ub, 0, none⟩)] #[]] 67))
      clear hb9 H7
      generalize W8.alloc (.cells #[.func (.func 17) #[.pointer (some ⟨ub, 0, none⟩)] #[], .func (.func 18) #[.pointer (some ⟨ub, 0, none⟩)] #[], .func (.func 19) #[.pointer (some ⟨ub, 0, none⟩)] #[], .func (.func 20) #[.pointer (some ⟨ub, 0, none⟩)] #[], .func (.func 21) #[.pointer (some ⟨ub, 0, none⟩)] #[]] 67) = W9 at *
      generalize W8.heap.size = qp at *
      have c8 : W9.cell? ⟨w.heap.size, 8, none⟩ = some (.int .i8 m.ph) := (cells_at H9.out.st.hF 8 _ rfl).1
      have t0 := (cells_at HT9.out 4 _ rfl).1
      rw [HK.out] at c8
      go_wp2_with fail
      refine (undone_any (M4 M w) W9 (H9.out.lt4 HX.out.1) (keepCells HX.out.2.1 H9.out.st.hb) ub { m with rs := ⟨ro, RL.length, rcc⟩ } i nilV false [] H9.out.hu (by simp) (H9.out.lvs HX.out.2.1) (H9.out.lv HX.out.2.1) RL H9.out.rs (H9.out.hr HX.out.1) (H9.out.te HM.out.U)).mono ?_
      rintro e WA hq
      cases hso : i.some
      · rw [hso] at hq
        have hqr := hq.toR H9.out.rs (H9.out.hr HX.out.1) fun _ _ _ _ h => h.rs
        obtain ⟨m8, E8, ev8, RL8, hs⟩ := H9.out.fin hqr (fun _ _ _ _ h hx => by obtain ⟨⟨rfl, -⟩, -⟩ := h; exact hx) HM.out.U (fun N N' _ _ _ h hT => by
          obtain ⟨⟨g1, ⟨g2, -⟩ | g2⟩, g3⟩ := h
          · rw [hso] at g2
            cases g2
          · exact ⟨⟨g1, .inr g2⟩, g3⟩)
        have HS := Lib.hid hs.st
        have HSO := Lib.hid hso
        obtain ⟨c39, f39⟩ := hs.hu.idle
        obtain ⟨⟨vr, rfl⟩, -⟩ := hq
        clear hs hso hqr H9 HT9 c8 t0
        go_wp2_with (with_reducible refine stop_op (o := ⟨_, .load 36 (.tmp 2), _, _, _, _⟩) ?_)
        refine Lib.hid ?_
        refine wpList_load_row (o := ⟨_, _, _, _, _, _⟩) rfl 36 (.tmp 2) rfl w.heap.size rfl 36 (flL a m).toArray (0, 0) _ HS.out.hF Tryd.underlying36 rfl (infoFR rfl) ?_
        go_wp2_with (with_reducible refine stop_op (o := ⟨_, .store 36 (.tmp 4) (.tmp 50), _, _, _, _⟩) ?_)
        refine Lib.hid ?_
        refine wpList_store_row (o := ⟨none, _, _, _, _, _⟩) rfl 36 (.tmp 4) (.tmp 50) rfl (w.heap.size + 2) (flL a m).toArray rfl rfl 36 (flL faZ mmZ).toArray HS.out.hZ (infoFR rfl) rfl (all_oneCell_toArray (flL_one a m)) ?_
        have hc := chg_setRow WA (w.heap.size + 2) (flL a m).toArray
        have hbf := HS.out.hb.trans (hc.below HS.out.hb.size (fun k e => by have e : k = w.heap.size + 2 := e; omega))
        have HQ := Lib.hid (setRow_heap WA (w.heap.size + 2) _ (flL a m).toArray 36 (0, 0) HS.out.hZ)
        have HP : Hid (StpP M w a m RL i ML (.returned (.tuple #[.agg (flL a m).toArray, .slice (some ⟨w.heap.size + 3, 0, none⟩) 1 1])) (WA.setRow (w.heap.size + 2) (flL a m).toArray)) := Lib.hid ⟨m, _, [idleE], RL, rfl, hbf, EfAt.idle (hc.heap HS.out.hE (by omega)) (by omega), HM.out.keep hbf, .inl ⟨.inr (.inr ⟨HK.out, HSO.out⟩), rfl, rfl, rfl⟩⟩
        clear hc hbf HS
        generalize WA.setRow (w.heap.size + 2) (flL a m).toArray = WX at *
        go_wp2_with fail
        exact ret_row HQ.out rfl Tryd.underlying36 rfl (infoFR rfl) rfl rfl HP.out
      · rw [hso] at hq
        have hqs := (hq.toR H9.out.rs (H9.out.hr HX.out.1) fun _ _ _ _ h => h.rs).imp (Q' := ScQ RL i ML { m with rs := ⟨ro, RL.length, rcc⟩ }) fun _ _ _ _ _ h => .inr (.inr (.inr (.inr ⟨HK.out, hso, h⟩)))
        clear hso
        obtain ⟨m8, E8, ev8, RL8, hs⟩ := H9.out.fin hqs (fun _ _ _ _ h hx => h.U hx) HM.out.U (fun _ _ _ _ _ h hT => h.conv hT)
        have HS := Lib.hid hs
        obtain ⟨⟨vr, rfl⟩, -⟩ := hq
        clear hqs hs
        obtain ⟨c39, f39⟩ := HS.out.hu.idle
        clear H9 HT9 c8 t0
        go_wp2_with (with_reducible refine stop_op (o := ⟨_, .load 34 (.tmp 54), _, _, _, _⟩) ?_)
        refine Lib.hid ?_
        clear c39 f39
        refine wpList_load_mid (op := ⟨_, _, _, _, _, _⟩) rfl 34 (.tmp 54) rfl ub 0 rfl (mmL m8) _ (mid_range (pre := []) (post := imL i ++ [ev8, .bool false]) (by have := HS.out.hu.hU; unfold unL at this; rw [List.append_assoc] at this; exact this) rfl) Tryd.underlying34 rfl (by rw [infoMA (cs := (mmL m8).toArray) rfl]; rfl) ?_
        go_wp2_with (with_reducible refine stop_op (o := ⟨_, .store 34 (.tmp 56) (.tmp 55), _, _, _, _⟩) ?_)
        refine Lib.hid ?_
        refine wpList_store_mid (op := ⟨none, _, _, _, _, _⟩) rfl 34 (.tmp 56) (.tmp 55) rfl w.heap.size 8 (mmL m8).toArray rfl rfl (there_of HS.out.st.hF (by show 8 + 27 ≤ 35; decide)) (infoMA rfl) (all_oneCell_toArray (mmL_one m8)) ?_
        have hc9 := chg_cells (mmL m8) w.heap.size 8 WA
        have hfs := setRow_cells (mmL m8) 8 HS.out.st.hF
        rw [setL_fl a m m8] at hfs
        have H10 := Lib.hid (HS.out.put hc9 hfs)
        clear hc9 hfs HS
        change Hid (StG M w (WA.setCells w.heap.size 8 (mmL m8).toArray.toList) a m8 m8 i ub ev8 false E8 RL8 _) at H10
        generalize WA.setCells w.heap.size 8 (mmL m8).toArray.toList = WB at *
        go_upto_region 11 with fail
        have hS : StS2 w.heap.size ub a m8 ev8 WB.drew := ⟨H10.out.st.hF, H10.out.hu.ev⟩
        have H10 := Lib.hid (H10.out.keep (Below.refl _ _).drew)
        refine region_plan (StS2 w.heap.size ub a m8 ev8) [(0, 0), (1, 0), (2, 0), (3, 0), (4, 0), (5, 1), (6, 0)] (by kernel_rfl) (by kernel_rfl) (by kernel_rfl) hS ?_
        generalize WB.drew = WD at *
        refine plan_take rfl ?_ (fun wS hSw => exec_row 36 (.tmp 2) rfl w.heap.size rfl (flL a m8).toArray 36 (0, 0) _ hSw.1 Tryd.underlying36 rfl (infoFR rfl)) ?_
        focus (rfl)
        (try simp only [Act.put, List.setIfInBounds_toArray, List.set_cons_zero, List.set_cons_succ])
        iterate 4 (first | (refine plan_skip rfl ?_ ?_; (focus (rfl)); (try simp only [Act.put, List.setIfInBounds_toArray, List.set_cons_zero, List.set_cons_succ])) | (refine plan_take (v := ?_) rfl ?_ (fun w hSw => ?_) ?_; rotate_left; (focus (rfl)); (focus (unfold StS2 at hSw; (go_simp <;> with_reducible rfl))); (try simp only [Act.put, List.setIfInBounds_toArray, List.set_cons_zero, List.set_cons_succ])))
        have hcF := chg_setRow WD (w.heap.size + 2) (flL a m8).toArray
        have hSF : StS2 w.heap.size ub a m8 ev8 (WD.setRow (w.heap.size + 2) (flL a m8).toArray) := ⟨hcF.heap hS.1 (by omega), hcF.cell hS.2 (by have := H10.out.hub; show ¬ ub = w.heap.size + 2; omega)⟩
        have HQ := Lib.hid (setRow_heap WD (w.heap.size + 2) _ (flL a m8).toArray 36 (0, 0) H10.out.st.hZ)
        have HP : Hid (StpP M w a m RL i ML (.returned (.tuple #[.agg (flL a m8).toArray, ev8])) (WD.setRow (w.heap.size + 2) (flL a m8).toArray)) := Lib.hid (H10.out.done HX.out.1 HFI.out hcF)
        refine plan_run rfl ?_ (fun K hK => ?_)
        focus (rfl)
        refine wp_store_row 36 (.tmp 4) (.tmp 57) rfl (w.heap.size + 2) (flL a m8).toArray rfl rfl 36 (flL faZ mmZ).toArray H10.out.st.hZ (infoFR rfl) rfl (all_oneCell_toArray (flL_one a m8)) ?_
        refine hK.out _ _ (hSF) ?_
        clear hK K
        (try simp only [Act.put, List.setIfInBounds_toArray, List.set_cons_zero, List.set_cons_succ])
        iterate 1 (first | (refine plan_skip rfl ?_ ?_; (focus (rfl)); (try simp only [Act.put, List.setIfInBounds_toArray, List.set_cons_zero, List.set_cons_succ])) | (refine plan_take (v := ?_) rfl ?_ (fun w hSw => ?_) ?_; rotate_left; (focus (rfl)); (focus (unfold StS2 at hSw; (go_simp <;> with_reducible rfl))); (try simp only [Act.put, List.setIfInBounds_toArray, List.set_cons_zero, List.set_cons_succ])))
        refine plan_done ?_
        clear hS hcF hSF H10
        generalize WD.setRow (w.heap.size + 2) (flL a m8).toArray = WE at *
        go_wp2_with fail
        exact ret_row HQ.out rfl Tryd.underlying36 rfl (infoFR rfl) rfl rfl HP.out
end Go.Proofs.YtepfmanbllegiaaDoor
