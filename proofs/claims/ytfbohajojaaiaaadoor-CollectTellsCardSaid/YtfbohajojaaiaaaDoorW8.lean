/- the law CollectTells, walked. Conditions: the table of letters reads as laid; what comes reads. -/
/- the law CollectTells, of what is handed. -/
import Derived.Test.YtfbohajojaaiaaaDoorW7
namespace Go.Proofs.YtfbohajojaaiaaaDoor
open Go.ChangeShapes Go.WideShapes Go.ChangeAt Go.RowKit Go.Shelf
set_option linter.unusedVariables false
set_option maxRecDepth 100000
attribute [local go_sem] Oper.semAt_some
/-- the boxes that stand -/
structure TB (w : World) (x y : Wd) (leave : Int) (W : World) : Prop where
  hb : Below w.heap.size w W
  hx : W.heap[w.heap.size]? = some (.cells #[.bool x.c, .int .i64 x.a, .int .i8 x.k, .int .i64 x.n, .string x.s, .string x.u, .slice x.ao x.l.length x.cap] 49 (0, 0))
  hy : W.heap[w.heap.size + 1]? = some (.cells #[.bool y.c, .int .i64 y.a, .int .i8 y.k, .int .i64 y.n, .string y.s, .string y.u, .slice y.ao y.l.length y.cap] 49 (0, 0))
  hl : W.heap[w.heap.size + 1 + 1]? = some (.cells #[.int .i64 leave] 3 (0, 0))
  hr : W.heap[w.heap.size + 1 + 1 + 1]? = some (.cells #[.bool false] 4 (0, 0))
theorem TB.keep {w : World} {x y : Wd} {leave : Int} {W W' : World} (h : TB w x y leave W) (hb : Below W.heap.size W W') : TB w x y leave W' :=
  ⟨h.hb.trans (hb.mono h.hb.size), keep_heap h.hx hb, keep_heap h.hy hb, keep_heap h.hl hb, keep_heap h.hr hb⟩
/-- what is kept -/
structure TI (w w3 : World) (x y : Wd) (leave : Int) (p q : Nat) (v v' : Value) (C C' : List HC) (W : World) : Prop where
  tb : TB w x y leave W
  hb : Below w3.heap.size w3 W
  hp : Hp W p p v C
  hr : RHp W q q v' C'
theorem TI.keep {w w3 : World} {x y : Wd} {leave : Int} {p q : Nat} {v v' : Value} {C C' : List HC} {W W' : World} (h : TI w w3 x y leave p q v v' C C' W) (hb : Below W.heap.size W W') : TI w w3 x y leave p q v v' C C' W' :=
  ⟨h.tb.keep hb, h.hb.trans (hb.mono h.hb.size), h.hp.keep hb, h.hr.keep hb⟩
/-- what the two boxes read -/
def XyS (b : Nat) (x y : Wd) (W : World) : Prop :=
  W.cell? ⟨b, 0, none⟩ = some (.bool x.c) ∧ W.cell? ⟨b, 1, none⟩ = some (.int .i64 x.a) ∧ W.cell? ⟨b, 2, none⟩ = some (.int .i8 x.k) ∧ W.cell? ⟨b, 3, none⟩ = some (.int .i64 x.n) ∧ W.cell? ⟨b, 4, none⟩ = some (.string x.s) ∧ W.cell? ⟨b, 5, none⟩ = some (.string x.u) ∧ W.cell? ⟨b, 6, none⟩ = some (.slice x.ao x.l.length x.cap) ∧
  W.cell? ⟨b + 1, 0, none⟩ = some (.bool y.c) ∧ W.cell? ⟨b + 1, 1, none⟩ = some (.int .i64 y.a) ∧ W.cell? ⟨b + 1, 2, none⟩ = some (.int .i8 y.k) ∧ W.cell? ⟨b + 1, 3, none⟩ = some (.int .i64 y.n) ∧ W.cell? ⟨b + 1, 4, none⟩ = some (.string y.s) ∧ W.cell? ⟨b + 1, 5, none⟩ = some (.string y.u) ∧ W.cell? ⟨b + 1, 6, none⟩ = some (.slice y.ao y.l.length y.cap)
theorem XyS.keep {b : Nat} {x y : Wd} {W W' : World} (h : XyS b x y W) (hb : Below W.heap.size W W') : XyS b x y W' := by
  obtain ⟨h1, h2, h3, h4, h5, h6, h7, g1, g2, g3, g4, g5, g6, g7⟩ := h
  exact ⟨keep_cell h1 hb, keep_cell h2 hb, keep_cell h3 hb, keep_cell h4 hb, keep_cell h5 hb, keep_cell h6 hb, keep_cell h7 hb, keep_cell g1 hb, keep_cell g2 hb, keep_cell g3 hb, keep_cell g4 hb, keep_cell g5 hb, keep_cell g6 hb, keep_cell g7 hb⟩
theorem TB.xys {w : World} {x y : Wd} {leave : Int} {W : World} (h : TB w x y leave W) : XyS w.heap.size x y W :=
  ⟨(cells_at h.hx 0 _ rfl).1, (cells_at h.hx 1 _ rfl).1, (cells_at h.hx 2 _ rfl).1, (cells_at h.hx 3 _ rfl).1, (cells_at h.hx 4 _ rfl).1, (cells_at h.hx 5 _ rfl).1, (cells_at h.hx 6 _ rfl).1,
    (cells_at h.hy 0 _ rfl).1, (cells_at h.hy 1 _ rfl).1, (cells_at h.hy 2 _ rfl).1, (cells_at h.hy 3 _ rfl).1, (cells_at h.hy 4 _ rfl).1, (cells_at h.hy 5 _ rfl).1, (cells_at h.hy 6 _ rfl).1⟩
theorem tells_same {w w3 : World} {f : Nat} {R : List Wd} {ro : Option Addr} {x y : Wd} {leave : Int} {p q : Nat} {v v' : Value} {C C' : List HC} (t : TC w w3 f R ro C C') (hx : WOk f w3 x.w) (hy : WOk f w3 y.w) (V : World) (h : TI w w3 x y leave p q v v' C C' V) :
    Calls Tryd.prog 20 #[.pointer (some ⟨p, 0, none⟩), x.w.V, .pointer (some ⟨p, 0, none⟩), y.w.V] V (IsPost V (sameW C C x.w y.w)) :=
  same_any w3 f p p p p v v C C x.w y.w V (fun c hc z hz => (t.ok c hc z hz).1) (fun c hc z hz => (t.ok c hc z hz).1) h.hp h.hp (keep_letters t.hL h.hb) hx hy h.hb
theorem tells_rsame {w w3 : World} {f : Nat} {R : List Wd} {ro : Option Addr} {x y : Wd} {leave : Int} {p q : Nat} {v v' : Value} {C C' : List HC} (t : TC w w3 f R ro C C') (hx : WOk f w3 x.w) (hy : WOk f w3 y.w) (V : World) (h : TI w w3 x y leave p q v v' C C' V) :
    Calls Tryd.prog 22 #[.pointer (some ⟨q, 0, none⟩), x.w.V, .pointer (some ⟨q, 0, none⟩), y.w.V] V (IsPost V (sameW C C x.w y.w)) := by
  rw [← rsame_same h.hp.2.2.2 t.made t.sim]
  exact rsame2_any w3 f q q q q v' v' C' C' x.w y.w V (fun c hc z hz => (t.ok' c hc z hz).1) (fun c hc z hz => (t.ok' c hc z hz).1) h.hr h.hr hx hy (pure_w x) (pure_w y) h.hb
/-- the document's heap that is compared -/
def DsS (P b2 : Nat) (ao : Option Addr) (n cap : Nat) (W : World) : Prop := W.cell? ⟨P, 0, none⟩ = some (.pointer (some ⟨b2, 0, none⟩)) ∧ W.cell? ⟨b2, 0, none⟩ = some (.slice ao n cap)
theorem DsS.keep {P b2 : Nat} {ao : Option Addr} {n cap : Nat} {W W' : World} (h : DsS P b2 ao n cap W) (hb : Below W.heap.size W W') : DsS P b2 ao n cap W' := ⟨keep_cell h.1 hb, keep_cell h.2 hb⟩
theorem seq_cells (w : World) (u v : Value) : (binOp .eql 35 (.func (.func 34) #[] #[u, v]) .nilFunc).run Tryd.prog w = .ok (.bool false) w := by kernel_rfl
/-- what a round reads -/
def BdS (N P b2 X g i : Nat) (ao lo lo2 : Option Addr) (n cap ll lc lc2 : Nat) (k sz : Int) (W : World) : Prop :=
  W.cell? ⟨N, 0, none⟩ = some (.int .i64 i) ∧ W.cell? ⟨P, 0, none⟩ = some (.pointer (some ⟨b2, 0, none⟩)) ∧ W.cell? ⟨b2, 0, none⟩ = some (.slice ao n cap) ∧
  W.cell? ⟨X, 0, none⟩ = some (.int .i8 k) ∧ W.cell? ⟨X, 1, none⟩ = some (.int .i64 sz) ∧ W.cell? ⟨X, 2, none⟩ = some (.slice lo ll lc) ∧
  W.cell? ⟨g, i * 3, none⟩ = some (.int .i8 k) ∧ W.cell? ⟨g, i * 3 + 1, none⟩ = some (.int .i64 sz) ∧ W.cell? ⟨g, i * 3 + 2, none⟩ = some (.slice lo2 ll lc2)
theorem BdS.keep {N P b2 X g i : Nat} {ao lo lo2 : Option Addr} {n cap ll lc lc2 : Nat} {k sz : Int} {W W' : World} (h : BdS N P b2 X g i ao lo lo2 n cap ll lc lc2 k sz W) (hb : Below W.heap.size W W') : BdS N P b2 X g i ao lo lo2 n cap ll lc lc2 k sz W' := by
  obtain ⟨h1, h2, h3, h4, h5, h6, h7, h8, h9⟩ := h
  exact ⟨keep_cell h1 hb, keep_cell h2 hb, keep_cell h3 hb, keep_cell h4 hb, keep_cell h5 hb, keep_cell h6 hb, keep_cell h7 hb, keep_cell h8 hb, keep_cell h9 hb⟩
/-- what the end reads -/
def EdS (N P b2 b9 n : Nat) (ao : Option Addr) (m cap : Nat) (leave : Int) (W : World) : Prop :=
  W.cell? ⟨N, 0, none⟩ = some (.int .i64 n) ∧ W.cell? ⟨P, 0, none⟩ = some (.pointer (some ⟨b2, 0, none⟩)) ∧ W.cell? ⟨b2, 0, none⟩ = some (.slice ao m cap) ∧ W.cell? ⟨b9, 0, none⟩ = some (.int .i64 leave)
theorem EdS.keep {N P b2 b9 n : Nat} {ao : Option Addr} {m cap : Nat} {leave : Int} {W W' : World} (h : EdS N P b2 b9 n ao m cap leave W) (hb : Below W.heap.size W W') : EdS N P b2 b9 n ao m cap leave W' :=
  ⟨keep_cell h.1 hb, keep_cell h.2.1 hb, keep_cell h.2.2.1 hb, keep_cell h.2.2.2 hb⟩
theorem EdS.set {N P b2 b9 n : Nat} {ao : Option Addr} {m cap : Nat} {leave : Int} {W : World} {r : Nat} (h : EdS N P b2 b9 n ao m cap leave W) (h1 : N ≠ r) (h2 : P ≠ r) (h3 : b2 ≠ r) (h4 : b9 ≠ r) : EdS N P b2 b9 n ao m cap leave (W.setCell ⟨r, 0, none⟩ (.bool true)) :=
  have c := chg_set (w := W) (p := ⟨r, 0, none⟩) (.bool true)
  ⟨c.cell h.1 h1, c.cell h.2.1 h2, c.cell h.2.2.1 h3, c.cell h.2.2.2 h4⟩
set_option maxHeartbeats 16000000 in
theorem tells_law (w : World) (f : Nat) (M : List Mk) (R : List Wd) (x y : Wd) (leave : Int) (mo ro : Option Addr) (mc rc : Nat) (hL : Cells w 0 letL) (hM : MRow f w mo M) (hR : WRow w ro R) (hO : ∀ x ∈ R, WOk f w x) (hx : WOk f w x) (hy : WOk f w y)
    (h1 : M.length ≤ 140737488355328) (h2 : R.length ≤ 140737488355328) (h4 : ∀ m ∈ M, m.l.length ≤ 140737488355328) :
    Calls Tryd.prog 5 #[.slice mo M.length mc, .slice ro R.length rc, x.V, y.V, .int .i64 leave] w (IsPost w true) := by
  have hT0 : TB w x y leave ((((w.alloc (.cells #[.bool x.c, .int .i64 x.a, .int .i8 x.k, .int .i64 x.n, .string x.s, .string x.u, .slice x.ao x.l.length x.cap] 49)).alloc (.cells #[.bool y.c, .int .i64 y.a, .int .i8 y.k, .int .i64 y.n, .string y.s, .string y.u, .slice y.ao y.l.length y.cap] 49)).alloc (.cells #[.int .i64 leave] 3)).alloc (.cells #[.bool false] 4)) := by
    have n0 := heap_new w (.cells #[.bool x.c, .int .i64 x.a, .int .i8 x.k, .int .i64 x.n, .string x.s, .string x.u, .slice x.ao x.l.length x.cap] 49)
    have n1 := heap_new (w.alloc (.cells #[.bool x.c, .int .i64 x.a, .int .i8 x.k, .int .i64 x.n, .string x.s, .string x.u, .slice x.ao x.l.length x.cap] 49)) (.cells #[.bool y.c, .int .i64 y.a, .int .i8 y.k, .int .i64 y.n, .string y.s, .string y.u, .slice y.ao y.l.length y.cap] 49)
    have n2 := heap_new ((w.alloc (.cells #[.bool x.c, .int .i64 x.a, .int .i8 x.k, .int .i64 x.n, .string x.s, .string x.u, .slice x.ao x.l.length x.cap] 49)).alloc (.cells #[.bool y.c, .int .i64 y.a, .int .i8 y.k, .int .i64 y.n, .string y.s, .string y.u, .slice y.ao y.l.length y.cap] 49)) (.cells #[.int .i64 leave] 3)
    have n3 := heap_new (((w.alloc (.cells #[.bool x.c, .int .i64 x.a, .int .i8 x.k, .int .i64 x.n, .string x.s, .string x.u, .slice x.ao x.l.length x.cap] 49)).alloc (.cells #[.bool y.c, .int .i64 y.a, .int .i8 y.k, .int .i64 y.n, .string y.s, .string y.u, .slice y.ao y.l.length y.cap] 49)).alloc (.cells #[.int .i64 leave] 3)) (.cells #[.bool false] 4)
    simp only [World.size_alloc] at n1 n2 n3
    exact ⟨((((Below.refl _ w).alloc (Nat.le_refl _) _).alloc (by simp) _).alloc (by simp; omega) _).alloc (by simp; omega) _, heap_old (heap_old (heap_old n0 _) _) _, heap_old (heap_old n1 _) _, heap_old n2 _, n3⟩
  have HT0 := Lib.hid hT0
  have HG1 := Lib.hid (greatr_any _ f M R mo ro mc rc (hM.keep hT0.hb) (hR.keep hT0.hb) (fun z hz => (hO z hz).keep hT0.hb) h1 h2 h4)
  have HL := Lib.hid hL
  have HM := Lib.hid hM
  have HR := Lib.hid hR
  have HO := Lib.hid hO
  have HX := Lib.hid hx
  have HY := Lib.hid hy
  clear hL hM hR hO h4 hT0 hx hy
  refine (callsIn_wide (n := 9)).1 ?_
  refine callsIn_of_wp_marks Tryd.func5 rfl trivial ?_ rfl
  simp only [Tryd.ntmps5, Wd.V, List.size_toArray, List.length_cons, List.length_nil, Nat.reduceAdd, Nat.reduceSub, Array.replicate_succ, Array.replicate_zero, List.push_toArray, List.append_toArray, List.nil_append, List.cons_append]
  gi_wp2
  generalize (((w.alloc (.cells #[.bool x.c, .int .i64 x.a, .int .i8 x.k, .int .i64 x.n, .string x.s, .string x.u, .slice x.ao x.l.length x.cap] 49)).alloc (.cells #[.bool y.c, .int .i64 y.a, .int .i8 y.k, .int .i64 y.n, .string y.s, .string y.u, .slice y.ao y.l.length y.cap] 49)).alloc (.cells #[.int .i64 leave] 3)).alloc (.cells #[.bool false] 4) = W0 at *
  refine ⟨trivial, (callsIn_wide.2 HG1.out).mono ?_⟩
  rintro e w1 ⟨b1, rfl, hb1, hf1⟩
  have HT1 := Lib.hid (HT0.out.keep hb1)
  have HF1 := Lib.hid hf1
  clear hb1 hf1 HG1 HT0
  cases b1
  case true =>
    gi_wp2
    (refine ⟨trivial, ?_⟩; gi_wp2; refine ⟨trivial, ?_⟩; gi_wp2)
    refine ⟨trivial, (callsIn_wide.2 (wakes_any w1 (keep_letters HL.out HT1.out.hb))).mono ?_⟩
    rintro e wz ⟨rfl, hbz⟩
    have hTz := HT1.out.keep hbz
    have hBz := hTz.hb
    have hRz := hTz.hr
    obtain ⟨rz, rzf⟩ := cells_at hRz 0 _ rfl
    have hrl := heap_lt hRz
    have HS := Lib.hid (set_at (i := 0) hRz (.bool true))
    have HBZ := Lib.hid (hBz.setCell (p := ⟨w.heap.size + 1 + 1 + 1, 0, none⟩) (by simp; omega) (.bool true))
    clear hbz hTz hBz hRz
    gi_wp2
    have hc5 := (cells_at HS.out 0 _ rfl).1
    refine ⟨.bool true, ?_, rfl, HBZ.out⟩
    simp [results, Tryd.f5, go_sem, hc5]
  case false =>
    obtain ⟨hm4, hr4, hml4⟩ := fair_facts (HF1.out (by trivial))
    have HML := Lib.hid hml4
    clear hml4 HF1
    obtain ⟨c2, -⟩ := cells_at HT1.out.hx 2 _ rfl
    obtain ⟨c3, -⟩ := cells_at HT1.out.hx 3 _ rfl
    obtain ⟨c4, -⟩ := cells_at HT1.out.hx 4 _ rfl
    obtain ⟨c5, -⟩ := cells_at HT1.out.hx 5 _ rfl
    obtain ⟨c6, -⟩ := cells_at HT1.out.hx 6 _ rfl
    have hbl := heap_lt HT1.out.hx
    gi_wp2
    refine ⟨trivial, (callsIn_wide.2 (great_any f x.t _ w1 (HX.out.keep HT1.out.hb).term)).mono ?_⟩
    rintro e w2 ⟨rfl, hbw2⟩
    have HT2 := Lib.hid (HT1.out.keep hbw2)
    clear hbw2 c2 c3 c4 c5 c6 hbl
    cases hgx : greatB x.t
    case true =>
      clear hgx
      gi_wp2
      (refine ⟨trivial, ?_⟩; gi_wp2)
      refine ⟨trivial, (callsIn_wide.2 (wakes_any w2 (keep_letters HL.out HT2.out.hb))).mono ?_⟩
      rintro e wz ⟨rfl, hbz⟩
      have hTz := HT2.out.keep hbz
      have hBz := hTz.hb
      have hRz := hTz.hr
      obtain ⟨rz, rzf⟩ := cells_at hRz 0 _ rfl
      have hrl := heap_lt hRz
      have HS := Lib.hid (set_at (i := 0) hRz (.bool true))
      have HBZ := Lib.hid (hBz.setCell (p := ⟨w.heap.size + 1 + 1 + 1, 0, none⟩) (by simp; omega) (.bool true))
      clear hbz hTz hBz hRz
      gi_wp2
      have hc5 := (cells_at HS.out 0 _ rfl).1
      refine ⟨.bool true, ?_, rfl, HBZ.out⟩
      simp [results, Tryd.f5, go_sem, hc5]
    case false =>
      clear hgx
      obtain ⟨c2, -⟩ := cells_at HT2.out.hy 2 _ rfl
      obtain ⟨c3, -⟩ := cells_at HT2.out.hy 3 _ rfl
      obtain ⟨c4, -⟩ := cells_at HT2.out.hy 4 _ rfl
      obtain ⟨c5, -⟩ := cells_at HT2.out.hy 5 _ rfl
      obtain ⟨c6, -⟩ := cells_at HT2.out.hy 6 _ rfl
      have hbl := heap_lt HT2.out.hy
      gi_wp2
      refine ⟨trivial, (callsIn_wide.2 (great_any f y.t _ w2 (HY.out.keep HT2.out.hb).term)).mono ?_⟩
      rintro e w3 ⟨rfl, hbw3⟩
      have HT3 := Lib.hid (HT2.out.keep hbw3)
      clear hbw3 c2 c3 c4 c5 c6 hbl
      cases hgy : greatB y.t
      case true =>
        clear hgy
        gi_wp2
        skip
        refine ⟨trivial, (callsIn_wide.2 (wakes_any w3 (keep_letters HL.out HT3.out.hb))).mono ?_⟩
        rintro e wz ⟨rfl, hbz⟩
        have hTz := HT3.out.keep hbz
        have hBz := hTz.hb
        have hRz := hTz.hr
        obtain ⟨rz, rzf⟩ := cells_at hRz 0 _ rfl
        have hrl := heap_lt hRz
        have HS := Lib.hid (set_at (i := 0) hRz (.bool true))
        have HBZ := Lib.hid (hBz.setCell (p := ⟨w.heap.size + 1 + 1 + 1, 0, none⟩) (by simp; omega) (.bool true))
        clear hbz hTz hBz hRz
        gi_wp2
        have hc5 := (cells_at HS.out 0 _ rfl).1
        refine ⟨.bool true, ?_, rfl, HBZ.out⟩
        simp [results, Tryd.f5, go_sem, hc5]
      case false =>
        clear hgy HT1 HT2
        have hlm : (R.map Wd.w).length = R.length := by simp
        gi_wp2
        refine ⟨trivial, (callsIn_wide.2 (both_any w3 f M mo mc (keep_letters HL.out HT3.out.hb) (HM.out.keep HT3.out.hb) hm4 HML.out)).mono ?_⟩
        rintro e w4 ⟨p, q, v, v', C, C', rfl, hBI, hBP⟩
        have HI4 := Lib.hid (TI.mk (HT3.out.keep (Below.mono hBI.hb (Nat.le_refl _))) hBI.hb hBI.hp hBI.hr : TI w w3 x y leave p q v v' C C' w4)
        have TCC := Lib.hid (TC.mk (w := w) (f := f) (ro := ro) (keep_letters HL.out HT3.out.hb) (HR.out.keep HT3.out.hb) hBP.made hBP.sim (by have := hBP.len; omega) (by omega) hBP.ok (fun z hz => by
          obtain ⟨u, hu, rfl⟩ := List.mem_map.1 hz
          exact ⟨(wok_w (HO.out u hu)).keep HT3.out.hb, pure_w u⟩))
        obtain ⟨xw, hxw⟩ : ∃ xw, x.w = xw := ⟨_, rfl⟩
        obtain ⟨yw, hyw⟩ : ∃ yw, y.w = yw := ⟨_, rfl⟩
        obtain ⟨res, hres⟩ : ∃ res, sameW C C x.w y.w = res := ⟨_, rfl⟩
        have HSA : Hid (∀ V, TI w w3 x y leave p q v v' C C' V → _) := Lib.hid (fun V h => tells_same (q := q) (leave := leave) TCC.out (wok_w (HX.out.keep HT3.out.hb)) (wok_w (HY.out.keep HT3.out.hb)) V h)
        have HSB : Hid (∀ V, TI w w3 x y leave p q v v' C C' V → _) := Lib.hid (fun V h => tells_rsame (p := p) (leave := leave) TCC.out (wok_w (HX.out.keep HT3.out.hb)) (wok_w (HY.out.keep HT3.out.hb)) V h)
        have HWX := Lib.hid (fun V => word_any V x)
        have HWY := Lib.hid (fun V => word_any V y)
        rw [hres] at HSA HSB
        rw [hxw, hyw] at HSA HSB
        rw [hxw] at HWX
        rw [hyw] at HWY
        clear hres hxw hyw
        have hCl : C.length ≤ 400 := by have := hBP.len; omega
        have hC'l : C'.length = C.length := hBP.sim.len
        clear hBI hBP HML HM HT3
        gi_wp2
        refine ⟨trivial, (callsIn_wide.2 (words_u TCC.out rc w4 HI4.out.hb)).mono ?_⟩
        rintro e w5 ⟨ao5, cap5, rfl, hbb, hr5⟩
        have HI5 := Lib.hid (HI4.out.keep hbb)
        skip
        clear hbb
        gi_wp2
        refine ⟨trivial, (callsIn_wide.2 (run_u TCC.out w5 HI5.out.hb HI5.out.hp hr5.out)).mono ?_⟩
        rintro e w6 ⟨p1, a1, n1, c1, e1, rfl, hb6, hf1⟩
        have HI6 := Lib.hid (HI5.out.keep hb6)
        clear hb6 hr5 HI4 HI5
        gi_wp2
        refine ⟨trivial, (callsIn_wide.2 (words_u TCC.out rc w6 HI6.out.hb)).mono ?_⟩
        rintro e w7 ⟨ao7, cap7, rfl, hbb, hr7⟩
        have HI7 := Lib.hid (HI6.out.keep hbb)
        have hf1 := Lib.hid (hf1.out.keep hbb)
        clear hbb
        gi_wp2
        refine ⟨trivial, (callsIn_wide.2 (rrun_u TCC.out w7 HI7.out.hb HI7.out.hr hr7.out)).mono ?_⟩
        rintro e w8 ⟨p2, a2, n2, c2, e2, rfl, hb8, hf2⟩
        have HI8 := Lib.hid (HI7.out.keep hb8)
        have hf1 := Lib.hid (hf1.out.keep hb8)
        clear hb8 hr7 HI6 HI7
        obtain ⟨P, hP⟩ : ∃ P, w8.heap.size = P := ⟨_, rfl⟩
        have HPl : w3.heap.size ≤ P := hP ▸ HI8.out.hb.size
        gi_wp2
        try rw [hP]
        have hb9 := (Below.refl w8.heap.size w8).alloc (Nat.le_refl _) (.cells #[.pointer p2] 39)
        have hPX := heap_new w8 (.cells #[.pointer p2] 39)
        rw [hP] at hPX
        have HPX := Lib.hid hPX
        have HI9 := Lib.hid (HI8.out.keep hb9)
        have hf1 := Lib.hid (hf1.out.keep hb9)
        have hf2 := Lib.hid (hf2.out.keep hb9)
        clear hb9 HI8 hPX hP
        generalize w8.alloc (.cells #[.pointer p2] 39) = w9 at *
        refine ⟨trivial, (callsIn_wide.2 (words_u TCC.out rc w9 HI9.out.hb)).mono ?_⟩
        rintro e w10 ⟨ao10, cap10, rfl, hbb, hr10⟩
        have HI10 := Lib.hid (HI9.out.keep hbb)
        have hf1 := Lib.hid (hf1.out.keep hbb); have hf2 := Lib.hid (hf2.out.keep hbb); have HPX := Lib.hid (keep_heap HPX.out hbb)
        clear hbb
        gi_wp2
        refine ⟨trivial, (callsIn_wide.2 (reached_u TCC.out w10 HI10.out.hb HI10.out.hp hr10.out)).mono ?_⟩
        rintro e w11 ⟨a3, n3, c3, e3, rfl, hb11, hf3⟩
        have HI11 := Lib.hid (HI10.out.keep hb11)
        have hf1 := Lib.hid (hf1.out.keep hb11)
        have hf2 := Lib.hid (hf2.out.keep hb11)
        have HPX := Lib.hid (keep_heap HPX.out hb11)
        clear hb11 hr10 HI9 HI10
        gi_wp2
        refine ⟨trivial, (callsIn_wide.2 (words_u TCC.out rc w11 HI11.out.hb)).mono ?_⟩
        rintro e w12 ⟨ao12, cap12, rfl, hbb, hr12⟩
        have HI12 := Lib.hid (HI11.out.keep hbb)
        have hf1 := Lib.hid (hf1.out.keep hbb); have hf2 := Lib.hid (hf2.out.keep hbb); have hf3 := Lib.hid (hf3.out.keep hbb); have HPX := Lib.hid (keep_heap HPX.out hbb)
        clear hbb
        gi_wp2
        refine ⟨trivial, (callsIn_wide.2 (rreached_u TCC.out w12 HI12.out.hb HI12.out.hr hr12.out)).mono ?_⟩
        rintro e w13 ⟨a4, n4, c4, e4, rfl, hb13, hf4⟩
        have HI := Lib.hid (HI12.out.keep hb13)
        have hf1 := Lib.hid (hf1.out.keep hb13)
        have hf2 := Lib.hid (hf2.out.keep hb13)
        have hf3 := Lib.hid (hf3.out.keep hb13)
        have HPX := Lib.hid (keep_heap HPX.out hb13)
        clear hb13 hr12 HI11 HI12
        rcases runs_agree TCC.out HI.out.hp.2.2.2 hf1.out hf2.out hf3.out hf4.out with ⟨rfl, rfl, rfl, rfl, rfl, rfl, rfl, rfl, rfl, rfl, rfl, rfl, rfl, rfl, rfl, rfl, rfl, rfl⟩ | ⟨rfl, rfl, rfl, rfl, rfl, rfl, rfl, b, b2, v1, v2, D, D', S, T, rfl, rfl, rfl, hTG⟩
        · clear hf1 hf2 hf3 hf4 TCC HPX
          have HSW := Lib.hid (samewords_any 0 0 w13 [] [] none none 0 0 (fun i x h => by simp at h) (fun i x h => by simp at h) (fun x h => by simp at h) (fun x h => by simp at h) (by simp) (by simp))
          rw [eqWs_refl] at HSW
          have HIT := Lib.hid (fun V => ints_same V 0 0 [] none none 0 0 ⟨rfl, .inl ⟨rfl, rfl⟩⟩ ⟨rfl, .inl ⟨rfl, rfl⟩⟩ (by simp))
          gi_wp2
          refine ⟨trivial, (callsIn_wide.2 HSW.out).mono ?_⟩
          rintro e w14 ⟨rfl, hb14⟩
          have HI := Lib.hid (HI.out.keep hb14)
          clear hb14 HSW
          gi_wp2
          refine ⟨trivial, (callsIn_wide.2 (HIT.out w14)).mono ?_⟩
          rintro e w15 ⟨rfl, hb15⟩
          have HI := Lib.hid (HI.out.keep hb15)
          clear hb15 HIT
          gi_wp2
          have hdr : Below w15.heap.size w15 w15.drew := (Below.refl _ _).drew
          have HID := Lib.hid (HI.out.keep hdr)
          have HB0 := Lib.hid hdr
          have hS : XyS w.heap.size x y w15.drew := HID.out.tb.xys
          have dn : (res != res) = false := by simp
          clear hdr
          refine region_plan_in _ rfl (XyS w.heap.size x y) [(0, 0), (1, 0), (3, 0), (4, 0), (7, 0), (8, 0), (10, 0), (11, 0), (2, 1), (5, 1), (6, 1), (9, 1), (12, 1), (13, 1), (14, 0)] (by kernel_rfl) (by kernel_rfl) (by kernel_rfl) (by kernel_rfl) hS ?_
          generalize w15.drew = WD at *
          iterate 8 (first | (refine plan_skip rfl ?_ ?_; (focus (rfl)); (try simp only [Act.put, List.setIfInBounds_toArray, List.set_cons_zero, List.set_cons_succ])) | (refine plan_take (v := ?_) rfl ?_ (fun w hSw => ?_) ?_; rotate_left; (focus (rfl)); (focus (unfold XyS at hSw; (go_simp <;> with_reducible rfl))); (try simp only [Act.put, List.setIfInBounds_toArray, List.set_cons_zero, List.set_cons_succ])))
          refine plan_run rfl ?_ (fun K hK => ?_)
          focus (rfl)
          go_simp
          refine (HWX.out _).mono ?_
          rintro e W1 ⟨rfl, hb1⟩
          have hS1 := hS.keep hb1
          have HI1 := Lib.hid (HID.out.keep hb1)
          have HB1 := Lib.hid (HB0.out.trans (hb1.mono HB0.out.size))
          refine hK.out _ _ hS1 ?_
          clear hK K 
          (try simp only [Act.put, List.setIfInBounds_toArray, List.set_cons_zero, List.set_cons_succ])
          refine plan_run rfl ?_ (fun K hK => ?_)
          focus (rfl)
          go_simp
          refine (HWY.out _).mono ?_
          rintro e W2 ⟨rfl, hb2⟩
          have hS2 := hS1.keep hb2
          have HI2 := Lib.hid (HI1.out.keep hb2)
          have HB2 := Lib.hid (HB1.out.trans (hb2.mono HB1.out.size))
          refine hK.out _ _ hS2 ?_
          clear hK K 
          (try simp only [Act.put, List.setIfInBounds_toArray, List.set_cons_zero, List.set_cons_succ])
          refine plan_run rfl ?_ (fun K hK => ?_)
          focus (rfl)
          go_simp
          refine (HSA.out _ HI2.out).mono ?_
          rintro e W3 ⟨rfl, hb3⟩
          have hS3 := hS2.keep hb3
          have HI3 := Lib.hid (HI2.out.keep hb3)
          have HB3 := Lib.hid (HB2.out.trans (hb3.mono HB2.out.size))
          refine hK.out _ _ hS3 ?_
          clear hK K 
          (try simp only [Act.put, List.setIfInBounds_toArray, List.set_cons_zero, List.set_cons_succ])
          refine plan_run rfl ?_ (fun K hK => ?_)
          focus (rfl)
          go_simp
          refine (HWX.out _).mono ?_
          rintro e W4 ⟨rfl, hb4⟩
          have hS4 := hS3.keep hb4
          have HI4 := Lib.hid (HI3.out.keep hb4)
          have HB4 := Lib.hid (HB3.out.trans (hb4.mono HB3.out.size))
          refine hK.out _ _ hS4 ?_
          clear hK K 
          (try simp only [Act.put, List.setIfInBounds_toArray, List.set_cons_zero, List.set_cons_succ])
          refine plan_run rfl ?_ (fun K hK => ?_)
          focus (rfl)
          go_simp
          refine (HWY.out _).mono ?_
          rintro e W5 ⟨rfl, hb5⟩
          have hS5 := hS4.keep hb5
          have HI5 := Lib.hid (HI4.out.keep hb5)
          have HB5 := Lib.hid (HB4.out.trans (hb5.mono HB4.out.size))
          refine hK.out _ _ hS5 ?_
          clear hK K 
          (try simp only [Act.put, List.setIfInBounds_toArray, List.set_cons_zero, List.set_cons_succ])
          refine plan_run rfl ?_ (fun K hK => ?_)
          focus (rfl)
          go_simp
          refine (HSB.out _ HI5.out).mono ?_
          rintro e W6 ⟨rfl, hb6⟩
          have hS6 := hS5.keep hb6
          have HI6 := Lib.hid (HI5.out.keep hb6)
          have HB6 := Lib.hid (HB5.out.trans (hb6.mono HB5.out.size))
          refine hK.out _ _ hS6 ?_
          clear hK K 
          (try simp only [Act.put, List.setIfInBounds_toArray, List.set_cons_zero, List.set_cons_succ])
          iterate 1 ((first | (refine plan_skip rfl ?_ ?_; (focus (rfl)); (try simp only [Act.put, List.setIfInBounds_toArray, List.set_cons_zero, List.set_cons_succ])) | (refine plan_take (v := ?_) rfl ?_ (fun w hSw => ?_) ?_; rotate_left; (focus (rfl)); (focus (unfold XyS at hSw; (go_simp <;> with_reducible rfl))); (try simp only [Act.put, List.setIfInBounds_toArray, List.set_cons_zero, List.set_cons_succ]))); (try simp only [dn]))
          refine plan_done_in ?_
          clear hS hS1 hS2 hS3 hS4 hS5 hS6 dn
          have HT := Lib.hid HI6.out.tb
          clear HI HI1 HI2 HI3 HI4 HI5 HI6 HID HB0 HB1 HB2 HB3 HB4 HB5 HB6 HSA HSB HWX HWY
          gi_wp2
          skip
          refine ⟨trivial, (callsIn_wide.2 (wakes_any W6 (keep_letters HL.out HT.out.hb))).mono ?_⟩
          rintro e wz ⟨rfl, hbz⟩
          have hTz := HT.out.keep hbz
          have hBz := hTz.hb
          have hRz := hTz.hr
          obtain ⟨rz, rzf⟩ := cells_at hRz 0 _ rfl
          have hrl := heap_lt hRz
          have HS := Lib.hid (set_at (i := 0) hRz (.bool true))
          have HBZ := Lib.hid (hBz.setCell (p := ⟨w.heap.size + 1 + 1 + 1, 0, none⟩) (by simp; omega) (.bool true))
          clear hbz hTz hBz hRz
          gi_wp2
          have hc5 := (cells_at HS.out 0 _ rfl).1
          refine ⟨.bool true, ?_, rfl, HBZ.out⟩
          simp [results, Tryd.f5, go_sem, hc5]
        · clear hf1 hf2 hf3 hf4
          have hTl := hTG.hT
          have hSl := hTG.hS
          have hDl := hTG.sim.len
          have HTG := Lib.hid hTG
          have HSW := Lib.hid (samewords_any f f w13 T T a1 a2 c1 c2 hTG.hw1 hTG.hw2 (fun z hz => (hTG.hok z hz).keep HI.out.hb) (fun z hz => (hTG.hok z hz).keep HI.out.hb) (by omega) (by omega))
          rw [eqWs_refl, hTl] at HSW
          clear hTG
          gi_wp2
          refine ⟨trivial, (callsIn_wide.2 HSW.out).mono ?_⟩
          rintro e w14 ⟨rfl, hb14⟩
          have HI := Lib.hid (HI.out.keep hb14)
          have HTG := Lib.hid (HTG.out.keep hb14)
          have HPX := Lib.hid (keep_heap HPX.out hb14)
          clear hb14 HSW
          obtain ⟨B1, hB1⟩ := HTG.out.hi1
          obtain ⟨B2, hB2⟩ := HTG.out.hi2
          have HIT := Lib.hid (ints_same w14 B1 B2 S a3 a4 c3 c4 hB1 hB2 (by omega))
          clear hB1 hB2
          gi_wp2
          refine ⟨trivial, (callsIn_wide.2 HIT.out).mono ?_⟩
          rintro e w15 ⟨rfl, hb15⟩
          have HI := Lib.hid (HI.out.keep hb15)
          have HTG := Lib.hid (HTG.out.keep hb15)
          have HPX := Lib.hid (keep_heap HPX.out hb15)
          clear hb15 HIT
          gi_wp2
          have hdr : Below w15.heap.size w15 w15.drew := (Below.refl _ _).drew
          have HID := Lib.hid (HI.out.keep hdr)
          have HB0 := Lib.hid hdr
          have hS : XyS w.heap.size x y w15.drew := HID.out.tb.xys
          have dn : (res != res) = false := by simp
          clear hdr
          refine region_plan_in _ rfl (XyS w.heap.size x y) [(0, 0), (1, 0), (3, 0), (4, 0), (7, 0), (8, 0), (10, 0), (11, 0), (2, 1), (5, 1), (6, 1), (9, 1), (12, 1), (13, 1), (14, 0)] (by kernel_rfl) (by kernel_rfl) (by kernel_rfl) (by kernel_rfl) hS ?_
          generalize w15.drew = WD at *
          iterate 8 (first | (refine plan_skip rfl ?_ ?_; (focus (rfl)); (try simp only [Act.put, List.setIfInBounds_toArray, List.set_cons_zero, List.set_cons_succ])) | (refine plan_take (v := ?_) rfl ?_ (fun w hSw => ?_) ?_; rotate_left; (focus (rfl)); (focus (unfold XyS at hSw; (go_simp <;> with_reducible rfl))); (try simp only [Act.put, List.setIfInBounds_toArray, List.set_cons_zero, List.set_cons_succ])))
          refine plan_run rfl ?_ (fun K hK => ?_)
          focus (rfl)
          go_simp
          refine (HWX.out _).mono ?_
          rintro e W1 ⟨rfl, hb1⟩
          have hS1 := hS.keep hb1
          have HI1 := Lib.hid (HID.out.keep hb1)
          have HB1 := Lib.hid (HB0.out.trans (hb1.mono HB0.out.size))
          refine hK.out _ _ hS1 ?_
          clear hK K 
          (try simp only [Act.put, List.setIfInBounds_toArray, List.set_cons_zero, List.set_cons_succ])
          refine plan_run rfl ?_ (fun K hK => ?_)
          focus (rfl)
          go_simp
          refine (HWY.out _).mono ?_
          rintro e W2 ⟨rfl, hb2⟩
          have hS2 := hS1.keep hb2
          have HI2 := Lib.hid (HI1.out.keep hb2)
          have HB2 := Lib.hid (HB1.out.trans (hb2.mono HB1.out.size))
          refine hK.out _ _ hS2 ?_
          clear hK K 
          (try simp only [Act.put, List.setIfInBounds_toArray, List.set_cons_zero, List.set_cons_succ])
          refine plan_run rfl ?_ (fun K hK => ?_)
          focus (rfl)
          go_simp
          refine (HSA.out _ HI2.out).mono ?_
          rintro e W3 ⟨rfl, hb3⟩
          have hS3 := hS2.keep hb3
          have HI3 := Lib.hid (HI2.out.keep hb3)
          have HB3 := Lib.hid (HB2.out.trans (hb3.mono HB2.out.size))
          refine hK.out _ _ hS3 ?_
          clear hK K 
          (try simp only [Act.put, List.setIfInBounds_toArray, List.set_cons_zero, List.set_cons_succ])
          refine plan_run rfl ?_ (fun K hK => ?_)
          focus (rfl)
          go_simp
          refine (HWX.out _).mono ?_
          rintro e W4 ⟨rfl, hb4⟩
          have hS4 := hS3.keep hb4
          have HI4 := Lib.hid (HI3.out.keep hb4)
          have HB4 := Lib.hid (HB3.out.trans (hb4.mono HB3.out.size))
          refine hK.out _ _ hS4 ?_
          clear hK K 
          (try simp only [Act.put, List.setIfInBounds_toArray, List.set_cons_zero, List.set_cons_succ])
          refine plan_run rfl ?_ (fun K hK => ?_)
          focus (rfl)
          go_simp
          refine (HWY.out _).mono ?_
          rintro e W5 ⟨rfl, hb5⟩
          have hS5 := hS4.keep hb5
          have HI5 := Lib.hid (HI4.out.keep hb5)
          have HB5 := Lib.hid (HB4.out.trans (hb5.mono HB4.out.size))
          refine hK.out _ _ hS5 ?_
          clear hK K 
          (try simp only [Act.put, List.setIfInBounds_toArray, List.set_cons_zero, List.set_cons_succ])
          refine plan_run rfl ?_ (fun K hK => ?_)
          focus (rfl)
          go_simp
          refine (HSB.out _ HI5.out).mono ?_
          rintro e W6 ⟨rfl, hb6⟩
          have hS6 := hS5.keep hb6
          have HI6 := Lib.hid (HI5.out.keep hb6)
          have HB6 := Lib.hid (HB5.out.trans (hb6.mono HB5.out.size))
          refine hK.out _ _ hS6 ?_
          clear hK K 
          (try simp only [Act.put, List.setIfInBounds_toArray, List.set_cons_zero, List.set_cons_succ])
          iterate 1 ((first | (refine plan_skip rfl ?_ ?_; (focus (rfl)); (try simp only [Act.put, List.setIfInBounds_toArray, List.set_cons_zero, List.set_cons_succ])) | (refine plan_take (v := ?_) rfl ?_ (fun w hSw => ?_) ?_; rotate_left; (focus (rfl)); (focus (unfold XyS at hSw; (go_simp <;> with_reducible rfl))); (try simp only [Act.put, List.setIfInBounds_toArray, List.set_cons_zero, List.set_cons_succ]))); (try simp only [dn]))
          refine plan_done_in ?_
          clear hS hS1 hS2 hS3 hS4 hS5 hS6 dn
          have HTG := Lib.hid (HTG.out.keep HB6.out)
          have HPX := Lib.hid (keep_heap HPX.out HB6.out)
          have HJ := HI6
          clear HI HI1 HI2 HI3 HI4 HI5 HI6 HID HB0 HB1 HB2 HB3 HB4 HB5 HB6 HSA HSB HWX HWY
          gi_wp2
          refine ⟨trivial, (callsIn_wide.2 (cells_any W6 b b v1 D HTG.out.hp)).mono ?_⟩
          rintro e w16 ⟨rfl, hw16⟩
          have hb16 : Below W6.heap.size W6 w16 := by
            rw [hw16]
            exact ((Below.refl _ _).alloc (Nat.le_refl _) _).alloc (by simp) _
          have z1 := heap_new (W6.alloc (.cells #[.pointer (some ⟨b, 0, none⟩)] 25)) (.cells #[.int .i64 D.length] 3)
          have z0 := heap_old (heap_new W6 (.cells #[.pointer (some ⟨b, 0, none⟩)] 25)) (.cells #[.int .i64 D.length] 3)
          rw [← hw16] at z0 z1
          simp only [World.size_alloc] at z1
          have HTG := Lib.hid (HTG.out.keep hb16)
          have HPX := Lib.hid (keep_heap HPX.out hb16)
          have HJ := Lib.hid (HJ.out.keep hb16)
          have HIT := Lib.hid (ItC.mk HTG.out.hp (cells_at z1 0 _ rfl).1 (cells_at z0 0 _ rfl).1 : ItC b b v1 D (W6.heap.size + 1) W6.heap.size w16)
          clear z0 z1 hw16
          have hb16 := Lib.hid hb16
          generalize W6.heap.size = bh at *
          obtain ⟨aoD, capD, hv2, -, -, hcap2, -⟩ := HTG.out.hr.facts
          have hS : DsS P b2 aoD D'.length capD w16.drew := DsS.keep ⟨(cells_at HPX.out 0 _ rfl).1, hcap2⟩ ((Below.refl _ _).drew)
          have hdr : Below w16.heap.size w16 w16.drew := (Below.refl _ _).drew
          have HTG := Lib.hid (HTG.out.keep hdr)
          have HPX := Lib.hid (keep_heap HPX.out hdr)
          have HJ := Lib.hid (HJ.out.keep hdr)
          have HIT := Lib.hid (ItC.mk (HIT.out.hp.keep hdr) (keep_cell HIT.out.hn hdr) (keep_cell HIT.out.hh hdr) : ItC b b v1 D (bh + 1) bh w16.drew)
          have HLN := Lib.hid (len_any w16.drew b b v1 D HTG.out.hp)
          have hsn := @seq_cells
          have dl : ((D.length : Int) != (D'.length : Int)) = false := by rw [hDl]; simp
          clear hb16 hcap2 hdr
          gi_wp2
          refine region_plan_in _ rfl (DsS P b2 aoD D'.length capD) [(0, 0), (1, 0), (2, 0), (3, 0), (5, 0), (6, 0), (7, 0), (8, 0), (9, 0), (4, 1), (10, 0), (11, 0)] (by kernel_rfl) (by kernel_rfl) (by kernel_rfl) (by kernel_rfl) hS ?_
          generalize w16.drew = w17 at *
          iterate 9 ((first | (refine plan_skip rfl ?_ ?_; (focus (rfl)); (try simp only [Act.put, List.setIfInBounds_toArray, List.set_cons_zero, List.set_cons_succ])) | (refine plan_take (v := ?_) rfl ?_ (fun w hSw => ?_) ?_; rotate_left; (focus (rfl)); (focus (unfold DsS at hSw; (go_simp <;> with_reducible rfl))); (try simp only [Act.put, List.setIfInBounds_toArray, List.set_cons_zero, List.set_cons_succ]))); (try simp only [hsn, dl]))
          refine plan_run rfl ?_ (fun K hK => ?_)
          focus (rfl)
          go_simp
          refine (HLN.out).mono ?_
          rintro e W1 ⟨rfl, rfl⟩
          have hS1 := hS
          refine hK.out _ _ hS1 ?_
          clear hK K 
          (try simp only [Act.put, List.setIfInBounds_toArray, List.set_cons_zero, List.set_cons_succ])
          iterate 2 ((first | (refine plan_skip rfl ?_ ?_; (focus (rfl)); (try simp only [Act.put, List.setIfInBounds_toArray, List.set_cons_zero, List.set_cons_succ])) | (refine plan_take (v := ?_) rfl ?_ (fun w hSw => ?_) ?_; rotate_left; (focus (rfl)); (focus (unfold DsS at hSw; (go_simp <;> with_reducible rfl))); (try simp only [Act.put, List.setIfInBounds_toArray, List.set_cons_zero, List.set_cons_succ]))); (try simp only [dl]))
          refine plan_done_in ?_
          clear hS hS1 dl hsn HLN
          gi_wp2
          have hN := Lib.hid (heap_new w17 (.cells #[.int .i64 0] 3))
          have hb2r : b2 ≠ w.heap.size + 1 + 1 + 1 := fun e => by
            have h1 := HTG.out.hr.1
            rw [e, HJ.out.tb.hr] at h1
            simp at h1
          have hPr : P ≠ w.heap.size + 1 + 1 + 1 := fun e => by
            have h1 := HPX.out
            rw [e, HJ.out.tb.hr] at h1
            simp at h1
          have hDm : D.length ≤ 1048576 := HTG.out.hp.2.2.2.1
          have hba := Lib.hid ((Below.refl w17.heap.size w17).alloc (Nat.le_refl _) (.cells #[.int .i64 0] 3))
          obtain ⟨aoE, capE, hv3, -, -, hcb, -, -, hrows⟩ := HTG.out.hr.facts
          rw [hv2] at hv3
          injection hv3 with e31 e32 e33
          subst e31 e33
          have HROWS := Lib.hid hrows
          rw [hDl] at hcb
          have HCB := Lib.hid hcb
          clear hrows e32 hv2 hcb
          have hsz0 : (w17.alloc (.cells #[.int .i64 0] 3)).heap.size = w17.heap.size + 1 := by simp
          refine tells_loop (ex := 0) (w0 := w17) (D := D) (leave := leave) rfl hsz0 ⟨hba.out, hN.out⟩ HIT.out ?assign ?body ?done ?stop
          case assign =>
            clear hsz0
            intro l i X k s lo ll lc W K hK
            have HKK := Lib.hid hK
            clear hK
            gi_wp2
            exact HKK.out
          case body =>
            clear hsz0 hN hba HIT
            intro l i X c lo lc W hi hc hX hXh hrow hI
            have hTGW := HTG.out.keep hI.hb
            have HJW := Lib.hid (HJ.out.keep hI.hb)
            obtain ⟨c', hc', ek, es, el⟩ := hTGW.sim.get hc
            obtain ⟨g, e, hg⟩ := HROWS.out i c' hc'
            subst e
            have hll : c.l.length ≤ 255 := (hTGW.hp.2.2.2.2 i c hc).2.2.2.1
            obtain ⟨lo2', lc2', e', -, -, hrw2, -⟩ := own_wrow (hTGW.hr.2.2.1.2 c' (List.mem_of_getElem? hc'))
            injection e' with ea eb ec
            subst ea ec
            have hcell : ∀ j u, c'.cells[j]? = some u → W.cell? ⟨g, i * 3 + j, none⟩ = some u := fun j u hj => keep_cell (hg j u hj) hI.hb
            have hdr : Below W.heap.size W W.drew := (Below.refl _ _).drew
            have hS : BdS w17.heap.size P b2 X g i (some ⟨g, 0, none⟩) lo c'.lo D.length capD c.l.length lc c'.lc c.k c.sz W.drew := BdS.keep ⟨(cells_at hI.hn 0 _ rfl).1, (cells_at (keep_heap HPX.out hI.hb) 0 _ rfl).1, keep_cell HCB.out hI.hb, (cells_at hXh 0 _ rfl).1, (cells_at hXh 1 _ rfl).1, (cells_at hXh 2 _ rfl).1, by
              have := hcell 0 _ rfl
              rw [ek] at this
              exact this, by
              have := hcell 1 _ rfl
              rw [es] at this
              exact this, by
              have := hcell 2 _ rfl
              rw [el] at this
              exact this⟩ hdr
            rw [el] at hrw2
            have HSC : Hid (∀ V, Below W.heap.size W V → _) := Lib.hid (fun V hb => samecell_same f V c.k c.sz c.l lo c'.lo lc c'.lc (hrow.keep hb) (hrw2.keep hb) (fun x hx => ((hTGW.hcok c (List.mem_of_getElem? hc) x hx).keep HJW.out.hb).keep hb) (by omega))
            have HIW := Lib.hid hI
            have HXW := Lib.hid hXh
            have HDR := Lib.hid hdr
            have dn : ((i : Int) != (i : Int)) = false := by simp
            have dg : decide ((D.length : Int) ≤ (i : Int)) = false := by simp; omega
            have dg2 : decide (D.length ≤ i) = false := by simp; omega
            clear hTGW hrow hrw2 hXh hI hcell hdr hg eb
            simp only [List.setIfInBounds_toArray, List.set_cons_zero, List.set_cons_succ]
            gi_wp2
            refine region_plan_in _ rfl (BdS w17.heap.size P b2 X g i (some ⟨g, 0, none⟩) lo c'.lo D.length capD c.l.length lc c'.lc c.k c.sz) [(0, 0), (1, 0), (2, 0), (3, 0), (4, 0), (5, 0), (6, 0), (7, 0), (8, 0), (9, 0), (10, 0), (11, 0), (12, 0), (13, 0), (14, 0), (15, 0), (16, 0), (17, 0), (18, 0), (19, 0), (20, 0), (21, 1), (22, 0), (23, 0)] (by kernel_rfl) (by kernel_rfl) (by kernel_rfl) (by kernel_rfl) hS ?_
            generalize W.drew = WD at *
            iterate 21 ((first | (refine plan_skip rfl ?_ ?_; (focus (rfl)); (try simp only [Act.put, List.setIfInBounds_toArray, List.set_cons_zero, List.set_cons_succ])) | (refine plan_take (v := ?_) rfl ?_ (fun w hSw => ?_) ?_; rotate_left; (focus (rfl)); (focus (unfold BdS at hSw; (go_simp <;> with_reducible rfl))); (try simp only [Act.put, List.setIfInBounds_toArray, List.set_cons_zero, List.set_cons_succ]))); (try simp only [dn, dg, dg2]))
            refine plan_run rfl ?_ (fun K hK => ?_)
            focus (rfl)
            go_simp
            refine (HSC.out _ HDR.out).mono ?_
            rintro e W1 ⟨rfl, hb1⟩
            have hS1 := hS.keep hb1
            have HD1 := Lib.hid (HDR.out.trans (hb1.mono HDR.out.size))
            refine hK.out _ _ hS1 ?_
            clear hK K 
            (try simp only [Act.put, List.setIfInBounds_toArray, List.set_cons_zero, List.set_cons_succ])
            iterate 2 ((first | (refine plan_skip rfl ?_ ?_; (focus (rfl)); (try simp only [Act.put, List.setIfInBounds_toArray, List.set_cons_zero, List.set_cons_succ])) | (refine plan_take (v := ?_) rfl ?_ (fun w hSw => ?_) ?_; rotate_left; (focus (rfl)); (focus (unfold BdS at hSw; (go_simp <;> with_reducible rfl))); (try simp only [Act.put, List.setIfInBounds_toArray, List.set_cons_zero, List.set_cons_succ]))); (try simp only [dn]))
            refine plan_done_in ?_
            clear hS hS1 hb1 dn dg dg2 HSC
            have hI1 := HIW.out.keep HD1.out
            have hlv := (cells_at (HJW.out.keep HD1.out).tb.hl 0 _ rfl).1
            obtain ⟨n0, n0f⟩ := cells_at hI1.hn 0 _ rfl
            have hnl := heap_lt hI1.hn
            have hne : ¬ w.heap.size + 1 + 1 = w17.heap.size := by have := heap_lt HJ.out.tb.hl; omega
            have hwr : IntKind.i64.wrap ((i : Int) + 1) = (i : Int) + 1 := IntWalk.i64_in _ (by have := hDm; omega)
            have HF : Hid (KeepsFrom (w17.heap.size + 1) W (W1.setCell ⟨w17.heap.size, 0, none⟩ (.int .i64 ((i : Int) + 1))) ∧ LI w17 (i + 1) (W1.setCell ⟨w17.heap.size, 0, none⟩ (.int .i64 ((i : Int) + 1)))) := Lib.hid ⟨(keeps_chg (chg_of_below HD1.out (fun _ => False)) (fun _ h => h.elim)).trans (keeps_chg (chg_set (w := W1) (p := ⟨w17.heap.size, 0, none⟩) (.int .i64 ((i : Int) + 1))) (fun k h => by simp at h; omega)), ⟨hI1.hb.setCell (p := ⟨w17.heap.size, 0, none⟩) (Nat.le_refl _) _, set_at (i := 0) hI1.hn _⟩⟩
            clear hI1
            by_cases hle : (i : Int) + 1 = leave
            · subst hle
              gi_wp2
              exact ⟨HF.out.1, rfl, by simp, HF.out.2⟩
            · have hlf : ((i : Int) + 1 == leave) = false := by simp [hle]
              gi_wp2
              exact HF.out
          case done =>
            clear hsz0 hN hba HIT HROWS
            intro B W hB hI hK
            have du : ((D.length : Int) == (D.length : Int)) = true := by simp
            have dv := du
            have du2 := du
            have du3 := du
            have du4 := du
            gi_wp2
            have hJW := HJ.out.keep hI.hb
            have hr0 := (cells_at hJW.tb.hr 0 _ rfl)
            have hdr : Below W.heap.size W W.drew := (Below.refl _ _).drew
            have hS : EdS w17.heap.size P b2 (w.heap.size + 1 + 1) D.length aoD D.length capD leave W.drew := EdS.keep ⟨(cells_at hI.hn 0 _ rfl).1, (cells_at (keep_heap HPX.out hI.hb) 0 _ rfl).1, keep_cell HCB.out hI.hb, (cells_at hJW.tb.hl 0 _ rfl).1⟩ hdr
            have HWK := Lib.hid (wakes_any W.drew (keep_letters HL.out (hJW.tb.hb.trans (hdr.mono hJW.tb.hb.size))))
            have HJW := Lib.hid hJW
            have HDR := Lib.hid hdr
            have HBW := Lib.hid hB
            have HKW := Lib.hid hK
            clear hI hJW hr0 hdr hB hK
            refine region_plan_in _ rfl (EdS w17.heap.size P b2 (w.heap.size + 1 + 1) D.length aoD D.length capD leave) [(0, 0), (1, 0), (2, 0), (3, 0), (4, 0), (5, 0), (6, 0), (7, 0), (8, 0), (9, 0), (10, 0), (11, 0), (12, 0), (13, 1), (14, 0), (15, 1)] (by kernel_rfl) (by kernel_rfl) (by kernel_rfl) (by kernel_rfl) hS ?_
            generalize W.drew = WD at *
            iterate 13 ((first | (refine plan_skip rfl ?_ ?_; (focus (rfl)); (try simp only [Act.put, List.setIfInBounds_toArray, List.set_cons_zero, List.set_cons_succ])) | (refine plan_take (v := ?_) rfl ?_ (fun w hSw => ?_) ?_; rotate_left; (focus (rfl)); (focus (unfold EdS at hSw; (go_simp <;> with_reducible rfl))); (try simp only [Act.put, List.setIfInBounds_toArray, List.set_cons_zero, List.set_cons_succ]))); (try simp only [du, dv, du2, du3, du4]))
            refine plan_run rfl ?_ (fun K hK => ?_)
            focus (rfl)
            go_simp
            refine (HWK.out).mono ?_
            rintro e W1 ⟨rfl, hb1⟩
            have hS1 := hS.keep hb1
            have HD1 := Lib.hid (HDR.out.trans (hb1.mono HDR.out.size))
            refine hK.out _ _ hS1 ?_
            clear hK K 
            (try simp only [Act.put, List.setIfInBounds_toArray, List.set_cons_zero, List.set_cons_succ])
            iterate 1 (first | (refine plan_skip rfl ?_ ?_; (focus (rfl)); (try simp only [Act.put, List.setIfInBounds_toArray, List.set_cons_zero, List.set_cons_succ])) | (refine plan_take (v := ?_) rfl ?_ (fun w hSw => ?_) ?_; rotate_left; (focus (rfl)); (focus (unfold EdS at hSw; (go_simp <;> with_reducible rfl))); (try simp only [Act.put, List.setIfInBounds_toArray, List.set_cons_zero, List.set_cons_succ])))
            have hT1 := (HJW.out.keep HD1.out).tb
            have hK1 := HKW.out
            obtain ⟨rz, rzf⟩ := cells_at hT1.hr 0 _ rfl
            have hrl := heap_lt hT1.hr
            have hrl0 := heap_lt HJ.out.tb.hr
            have hset := chg_set (w := W1) (p := ⟨w.heap.size + 1 + 1 + 1, 0, none⟩) (.bool true)
            have hS2 : EdS w17.heap.size P b2 (w.heap.size + 1 + 1) D.length aoD D.length capD leave (W1.setCell ⟨w.heap.size + 1 + 1 + 1, 0, none⟩ (.bool true)) := hS1.set (by omega) hPr hb2r (by omega)
            have kr := set_at (i := 0) hT1.hr (.bool true)
            have HRES := Lib.hid kr
            have HBF := Lib.hid (hT1.hb.setCell (p := ⟨w.heap.size + 1 + 1 + 1, 0, none⟩) (by simp; omega) (.bool true))
            have hKB := keep_heap HKW.out HD1.out
            have hBne : ¬ B = w.heap.size + 1 + 1 + 1 := by have := HBW.out; omega
            have HKB := Lib.hid (hset.heap hKB (fun e => hBne e))
            clear hS hT1 hK1 hset kr hKB hb1
            refine plan_run rfl ?_ (fun K hK => ?_)
            focus (rfl)
            go_simp
            refine hK.out _ _ hS2 ?_
            clear hK K
            (try simp only [Act.put, List.setIfInBounds_toArray, List.set_cons_zero, List.set_cons_succ])
            refine plan_done_in ?_
            clear hS1 hS2 rz rzf
            gi_wp2
            refine ⟨by simp, .inl ⟨_, _, rfl, run_takeDeferred HKB.out, ?_⟩⟩
            have hc := chg_put (W1.setCell ⟨w.heap.size + 1 + 1 + 1, 0, none⟩ (.bool true)) B (.deferred none)
            have hBge := HBW.out
            have hc5 := (cells_at (hc.heap HRES.out (fun e => hBne e.symm)) 0 _ rfl).1
            refine ⟨.bool true, ?_, rfl, HBF.out.trans (hc.below HBF.out.size (fun k e => by omega))⟩
            simp [results, Tryd.f5, go_sem, hc5]
          case stop =>
            clear hsz0 hN hba HIT HROWS
            intro B n W hB hnl hI hK
            gi_wp2
            by_cases hnd : n = D.length
            · subst hnd
              have du : ((D.length : Int) == (D.length : Int)) = true := by simp
              have dv := du
              have du2 := du
              have du3 := du
              have du4 := du
              have hJW := HJ.out.keep hI.hb
              have hr0 := (cells_at hJW.tb.hr 0 _ rfl)
              have hdr : Below W.heap.size W W.drew := (Below.refl _ _).drew
              have hS : EdS w17.heap.size P b2 (w.heap.size + 1 + 1) D.length aoD D.length capD leave W.drew := EdS.keep ⟨(cells_at hI.hn 0 _ rfl).1, (cells_at (keep_heap HPX.out hI.hb) 0 _ rfl).1, keep_cell HCB.out hI.hb, (cells_at hJW.tb.hl 0 _ rfl).1⟩ hdr
              have HWK := Lib.hid (wakes_any W.drew (keep_letters HL.out (hJW.tb.hb.trans (hdr.mono hJW.tb.hb.size))))
              have HJW := Lib.hid hJW
              have HDR := Lib.hid hdr
              have HBW := Lib.hid hB
              have HKW := Lib.hid hK
              clear hI hJW hr0 hdr hB hK
              refine region_plan_in _ rfl (EdS w17.heap.size P b2 (w.heap.size + 1 + 1) D.length aoD D.length capD leave) [(0, 0), (1, 0), (2, 0), (3, 0), (4, 0), (5, 0), (6, 0), (7, 0), (8, 0), (9, 0), (10, 0), (11, 0), (12, 0), (13, 1), (14, 0), (15, 1)] (by kernel_rfl) (by kernel_rfl) (by kernel_rfl) (by kernel_rfl) hS ?_
              generalize W.drew = WD at *
              iterate 13 ((first | (refine plan_skip rfl ?_ ?_; (focus (rfl)); (try simp only [Act.put, List.setIfInBounds_toArray, List.set_cons_zero, List.set_cons_succ])) | (refine plan_take (v := ?_) rfl ?_ (fun w hSw => ?_) ?_; rotate_left; (focus (rfl)); (focus (unfold EdS at hSw; (go_simp <;> with_reducible rfl))); (try simp only [Act.put, List.setIfInBounds_toArray, List.set_cons_zero, List.set_cons_succ]))); (try simp only [du, dv, du2, du3, du4]))
              refine plan_run rfl ?_ (fun K hK => ?_)
              focus (rfl)
              go_simp
              refine (HWK.out).mono ?_
              rintro e W1 ⟨rfl, hb1⟩
              have hS1 := hS.keep hb1
              have HD1 := Lib.hid (HDR.out.trans (hb1.mono HDR.out.size))
              refine hK.out _ _ hS1 ?_
              clear hK K 
              (try simp only [Act.put, List.setIfInBounds_toArray, List.set_cons_zero, List.set_cons_succ])
              iterate 1 (first | (refine plan_skip rfl ?_ ?_; (focus (rfl)); (try simp only [Act.put, List.setIfInBounds_toArray, List.set_cons_zero, List.set_cons_succ])) | (refine plan_take (v := ?_) rfl ?_ (fun w hSw => ?_) ?_; rotate_left; (focus (rfl)); (focus (unfold EdS at hSw; (go_simp <;> with_reducible rfl))); (try simp only [Act.put, List.setIfInBounds_toArray, List.set_cons_zero, List.set_cons_succ])))
              have hT1 := (HJW.out.keep HD1.out).tb
              have hK1 := HKW.out
              obtain ⟨rz, rzf⟩ := cells_at hT1.hr 0 _ rfl
              have hrl := heap_lt hT1.hr
              have hrl0 := heap_lt HJ.out.tb.hr
              have hset := chg_set (w := W1) (p := ⟨w.heap.size + 1 + 1 + 1, 0, none⟩) (.bool true)
              have hS2 : EdS w17.heap.size P b2 (w.heap.size + 1 + 1) D.length aoD D.length capD leave (W1.setCell ⟨w.heap.size + 1 + 1 + 1, 0, none⟩ (.bool true)) := hS1.set (by omega) hPr hb2r (by omega)
              have kr := set_at (i := 0) hT1.hr (.bool true)
              have HRES := Lib.hid kr
              have HBF := Lib.hid (hT1.hb.setCell (p := ⟨w.heap.size + 1 + 1 + 1, 0, none⟩) (by simp; omega) (.bool true))
              have hKB := keep_heap HKW.out HD1.out
              have hBne : ¬ B = w.heap.size + 1 + 1 + 1 := by have := HBW.out; omega
              have HKB := Lib.hid (hset.heap hKB (fun e => hBne e))
              clear hS hT1 hK1 hset kr hKB hb1
              refine plan_run rfl ?_ (fun K hK => ?_)
              focus (rfl)
              go_simp
              refine hK.out _ _ hS2 ?_
              clear hK K
              (try simp only [Act.put, List.setIfInBounds_toArray, List.set_cons_zero, List.set_cons_succ])
              refine plan_done_in ?_
              clear hS1 hS2 rz rzf
              gi_wp2
              refine ⟨by simp, .inl ⟨_, _, rfl, run_takeDeferred HKB.out, ?_⟩⟩
              have hc := chg_put (W1.setCell ⟨w.heap.size + 1 + 1 + 1, 0, none⟩ (.bool true)) B (.deferred none)
              have hBge := HBW.out
              have hc5 := (cells_at (hc.heap HRES.out (fun e => hBne e.symm)) 0 _ rfl).1
              refine ⟨.bool true, ?_, rfl, HBF.out.trans (hc.below HBF.out.size (fun k e => by omega))⟩
              simp [results, Tryd.f5, go_sem, hc5]
            · have du : ((n : Int) == (D.length : Int)) = false := by simp; omega
              have dv : (leave == leave) = true := by simp
              have du2 : (n == D.length) = false := by simp [hnd]
              have du3 : decide (n = D.length) = false := by simp [hnd]
              have du4 : (leave == (D.length : Int)) = false := by rw [← hnl]; simp; omega
              have hJW := HJ.out.keep hI.hb
              have hr0 := (cells_at hJW.tb.hr 0 _ rfl)
              have hdr : Below W.heap.size W W.drew := (Below.refl _ _).drew
              have hS : EdS w17.heap.size P b2 (w.heap.size + 1 + 1) n aoD D.length capD leave W.drew := EdS.keep ⟨(cells_at hI.hn 0 _ rfl).1, (cells_at (keep_heap HPX.out hI.hb) 0 _ rfl).1, keep_cell HCB.out hI.hb, (cells_at hJW.tb.hl 0 _ rfl).1⟩ hdr
              have HWK := Lib.hid (wakes_any W.drew (keep_letters HL.out (hJW.tb.hb.trans (hdr.mono hJW.tb.hb.size))))
              have HJW := Lib.hid hJW
              have HDR := Lib.hid hdr
              have HBW := Lib.hid hB
              have HKW := Lib.hid hK
              clear hI hJW hr0 hdr hB hK
              refine region_plan_in _ rfl (EdS w17.heap.size P b2 (w.heap.size + 1 + 1) n aoD D.length capD leave) [(0, 0), (1, 0), (2, 0), (3, 0), (4, 0), (5, 0), (6, 0), (7, 0), (8, 0), (9, 0), (10, 0), (11, 0), (12, 0), (13, 1), (14, 0), (15, 1)] (by kernel_rfl) (by kernel_rfl) (by kernel_rfl) (by kernel_rfl) hS ?_
              generalize W.drew = WD at *
              iterate 13 ((first | (refine plan_skip rfl ?_ ?_; (focus (rfl)); (try simp only [Act.put, List.setIfInBounds_toArray, List.set_cons_zero, List.set_cons_succ])) | (refine plan_take (v := ?_) rfl ?_ (fun w hSw => ?_) ?_; rotate_left; (focus (rfl)); (focus (unfold EdS at hSw; (go_simp <;> with_reducible rfl))); (try simp only [Act.put, List.setIfInBounds_toArray, List.set_cons_zero, List.set_cons_succ]))); (try simp only [du, dv, du2, du3, du4]))
              refine plan_run rfl ?_ (fun K hK => ?_)
              focus (rfl)
              go_simp
              refine (HWK.out).mono ?_
              rintro e W1 ⟨rfl, hb1⟩
              have hS1 := hS.keep hb1
              have HD1 := Lib.hid (HDR.out.trans (hb1.mono HDR.out.size))
              refine hK.out _ _ hS1 ?_
              clear hK K 
              (try simp only [Act.put, List.setIfInBounds_toArray, List.set_cons_zero, List.set_cons_succ])
              iterate 1 (first | (refine plan_skip rfl ?_ ?_; (focus (rfl)); (try simp only [Act.put, List.setIfInBounds_toArray, List.set_cons_zero, List.set_cons_succ])) | (refine plan_take (v := ?_) rfl ?_ (fun w hSw => ?_) ?_; rotate_left; (focus (rfl)); (focus (unfold EdS at hSw; (go_simp <;> with_reducible rfl))); (try simp only [Act.put, List.setIfInBounds_toArray, List.set_cons_zero, List.set_cons_succ])))
              have hT1 := (HJW.out.keep HD1.out).tb
              have hK1 := HKW.out
              obtain ⟨rz, rzf⟩ := cells_at hT1.hr 0 _ rfl
              have hrl := heap_lt hT1.hr
              have hrl0 := heap_lt HJ.out.tb.hr
              have hset := chg_set (w := W1) (p := ⟨w.heap.size + 1 + 1 + 1, 0, none⟩) (.bool true)
              have hS2 : EdS w17.heap.size P b2 (w.heap.size + 1 + 1) n aoD D.length capD leave (W1.setCell ⟨w.heap.size + 1 + 1 + 1, 0, none⟩ (.bool true)) := hS1.set (by omega) hPr hb2r (by omega)
              have kr := set_at (i := 0) hT1.hr (.bool true)
              have HRES := Lib.hid kr
              have HBF := Lib.hid (hT1.hb.setCell (p := ⟨w.heap.size + 1 + 1 + 1, 0, none⟩) (by simp; omega) (.bool true))
              have hKB := keep_heap HKW.out HD1.out
              have hBne : ¬ B = w.heap.size + 1 + 1 + 1 := by have := HBW.out; omega
              have HKB := Lib.hid (hset.heap hKB (fun e => hBne e))
              clear hS hT1 hK1 hset kr hKB hb1
              refine plan_run rfl ?_ (fun K hK => ?_)
              focus (rfl)
              go_simp
              refine hK.out _ _ hS2 ?_
              clear hK K
              (try simp only [Act.put, List.setIfInBounds_toArray, List.set_cons_zero, List.set_cons_succ])
              refine plan_done_in ?_
              clear hS1 hS2 rz rzf
              gi_wp2
              refine ⟨by simp, .inl ⟨_, _, rfl, run_takeDeferred HKB.out, ?_⟩⟩
              have hc := chg_put (W1.setCell ⟨w.heap.size + 1 + 1 + 1, 0, none⟩ (.bool true)) B (.deferred none)
              have hBge := HBW.out
              have hc5 := (cells_at (hc.heap HRES.out (fun e => hBne e.symm)) 0 _ rfl).1
              refine ⟨.bool true, ?_, rfl, HBF.out.trans (hc.below HBF.out.size (fun k e => by omega))⟩
              simp [results, Tryd.f5, go_sem, hc5]
end Go.Proofs.YtfbohajojaaiaaaDoor
namespace Go.Proofs.YtfbohajojaaiaaaDoor
open Go.ChangeShapes Go.WideShapes Go.ChangeAt Go.RowKit Go.Shelf
set_option linter.unusedVariables false
set_option maxRecDepth 100000
theorem part_of {H : Type} {enc : TypeId × Value → H} {W : World} {base : Nat} {v0 : Value} {d0 : DataW H} {p0 : List MemPlace} (hv0 : Value.okWide Tryd.prog W .any base 49 v0) (h0 : DataW.Trod enc Tryd.prog W 0 (fun _ => true) true 49 v0 d0 p0) :
    ∃ f, ∃ x : Wd, v0 = x.V ∧ WOk f W x := by
  obtain ⟨cs, rfl, hsz⟩ := okWide_struct Tryd.underlying49 hv0
  obtain ⟨fuel, hf⟩ := h0
  obtain ⟨h1, hc⟩ := flat_trod 9 49 _ _ _ _ flatPA hf
  obtain ⟨u0, n0, y0, c0, l0, r0⟩ := hc 0 _ rfl
  obtain ⟨u1, n1, y1, c1, l1, r1⟩ := hc 1 _ rfl
  obtain ⟨u2, n2, y2, c2, l2, r2⟩ := hc 2 _ rfl
  obtain ⟨u3, n3, y3, c3, l3, r3⟩ := hc 3 _ rfl
  obtain ⟨u4, n4, y4, c4, l4, r4⟩ := hc 4 _ rfl
  obtain ⟨u5, n5, y5, c5, l5, r5⟩ := hc 5 _ rfl
  obtain ⟨u6, n6, y6, c6, l6, r6⟩ := hc 6 _ rfl
  obtain ⟨a0, rfl⟩ := leaf_bool Tryd.underlying4 r0
  obtain ⟨a1, rfl, w1⟩ := leaf_int Tryd.underlying3 r1
  obtain ⟨a2, rfl, w2⟩ := leaf_int Tryd.underlying44 r2
  obtain ⟨a3, rfl, w3⟩ := leaf_int Tryd.underlying3 r3
  obtain ⟨a4, rfl, w4⟩ := leaf_str Tryd.underlying9 r4
  obtain ⟨a5, rfl, w5⟩ := leaf_str Tryd.underlying9 r5
  obtain ⟨l, hl⟩ := row_of_trod r6
  have hl' := hl.le l6
  obtain ⟨ao6, cap6, rfl, g⟩ := hl
  refine ⟨fuel, ⟨a0, a1, a2, a3, a4, a5, ao6, cap6, l⟩, ?_, bd w1, ⟨i8_bd w2, bd w3, w4, w5⟩, hl'⟩
  obtain ⟨k⟩ := cs
  simp [Value.cells] at h1 c0 c1 c2 c3 c4 c5 c6
  match k, h1 with
  | [_, _, _, _, _, _, _], _ =>
    simp at c0 c1 c2 c3 c4 c5 c6
    subst c0 c1 c2 c3 c4 c5 c6
    rfl
theorem tells_row {H : Type} {enc : TypeId × Value → H} (W : World) {base : Nat} {v0 v1 v2 v3 v4 : Value} {d0 d1 d2 d3 d4 : DataW H} {p0 p1 p2 p3 p4 : List MemPlace} (hv0 : Value.okWide Tryd.prog W .any base 38 v0) (h0 : DataW.Trod enc Tryd.prog W 0 (fun _ => true) true 38 v0 d0 p0) (hz0 : Sz Tryd.prog 38 d0)
    (hv1 : Value.okWide Tryd.prog W .any base 22 v1) (h1 : DataW.Trod enc Tryd.prog W 0 (fun _ => true) true 22 v1 d1 p1) (hz1 : Sz Tryd.prog 22 d1)
    (hv2 : Value.okWide Tryd.prog W .any base 49 v2) (h2 : DataW.Trod enc Tryd.prog W 0 (fun _ => true) true 49 v2 d2 p2)
    (hv3 : Value.okWide Tryd.prog W .any base 49 v3) (h3 : DataW.Trod enc Tryd.prog W 0 (fun _ => true) true 49 v3 d3 p3)
    (hv4 : Value.okWide Tryd.prog W .any base 3 v4) (h4 : DataW.Trod enc Tryd.prog W 0 (fun _ => true) true 3 v4 d4 p4)
    (hL : laidMetH Tryd.prog [("pleach/atoms.letters", letD)] W) : Calls Tryd.prog 5 #[v0, v1, v2, v3, v4] W (IsPost W true) := by
  obtain ⟨_, _, _, rfl⟩ := okWide_slice Tryd.underlying38 hv0
  obtain ⟨_, _, _, rfl⟩ := okWide_slice Tryd.underlying22 hv1
  obtain ⟨leave, rfl⟩ := okWide_int Tryd.underlying3 hv4
  obtain ⟨f0, hf0⟩ := h0
  obtain ⟨f1, hf1⟩ := h1
  obtain ⟨f2, x, rfl, hx⟩ := part_of hv2 h2
  obtain ⟨f3, y, rfl, hy⟩ := part_of hv3 h3
  obtain ⟨mo, mc, M, e0, -, -, a1, a2, a3, -⟩ := makes_of_trod hf0 hz0
  obtain ⟨ro, rc, R, e1, -, -, b1, b2, b3, b4⟩ := parts_of_trod hf1
  rw [e0, e1]
  exact tells_law W (f0 + f1 + f2 + f3) M R x y leave mo ro mc rc (letters_of W hL) (a1.more (by omega)) b1 (fun x hx => (b2 x hx).more (by omega)) (hx.more (by omega)) (hy.more (by omega)) a2 (b3 hz1) a3
end Go.Proofs.YtfbohajojaaiaaaDoor
