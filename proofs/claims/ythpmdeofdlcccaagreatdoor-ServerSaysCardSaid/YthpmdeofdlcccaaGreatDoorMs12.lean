/- frames of any kind by value, their records, what a machine finds: what the laws are handed. No conditions. -/
import Derived.Test.YthpmdeofdlcccaaGreatDoorMs4
import Derived.Test.YthpmdeofdlcccaaGreatDoorMs11
namespace Go.Proofs.YthpmdeofdlcccaaGreatDoor
open Go.ChangeShapes Go.WideShapes Go.ChangeAt Go.RowKit
set_option linter.unusedVariables false
set_option linter.unusedSimpArgs false
set_option maxRecDepth 100000
theorem list_same {α : Type} {l m : List α} (h : l.length = m.length) (hj : ∀ (j : Nat) (u : α), m[j]? = some u → l[j]? = some u) : l = m := by
  apply List.ext_getElem? fun j => ?_
  by_cases hl : j < m.length
  · rw [List.getElem?_eq_getElem hl]
    exact hj j _ (List.getElem?_eq_getElem hl)
  · rw [List.getElem?_eq_none (by omega), List.getElem?_eq_none (by omega)]
/-- a slice -/
structure Sl where
  o : Option Addr
  n : Nat
  c : Nat
def Sl.v (s : Sl) : Value := .slice s.o s.n s.c
/-- a frame's cells that are no machine's -/
structure Fa where
  k : Int
  fn : Int
  pc : Int
  wt : Int
  s3 : Sl
  s4 : Sl
  s5 : Sl
  s6 : Sl
/-- any machine -/
structure Mm where
  ph : Int
  pid : Int
  ref : Int
  dl : Int
  n : Int
  T : TE
  U : TE
  V : TE
  rs : Sl
  st : Int
  mr : Int
  mt : Int
  sp : Sl
  lg : Sl
  td : Sl
def mmL (m : Mm) : List Value := [.int .i8 m.ph, .int .i64 m.pid, .int .i64 m.ref, .int .i64 m.dl, .int .i64 m.n, .int .i8 m.T.k, .int .i64 m.T.n, .string m.T.s, .string m.T.u, .slice m.T.ao m.T.l.length m.T.cap, .int .i8 m.U.k, .int .i64 m.U.n, .string m.U.s, .string m.U.u, .slice m.U.ao m.U.l.length m.U.cap,
  .int .i8 m.V.k, .int .i64 m.V.n, .string m.V.s, .string m.V.u, .slice m.V.ao m.V.l.length m.V.cap, .slice m.rs.o m.rs.n m.rs.c, .int .i8 m.st, .int .i64 m.mr, .int .i64 m.mt, .slice m.sp.o m.sp.n m.sp.c, .slice m.lg.o m.lg.n m.lg.c, .slice m.td.o m.td.n m.td.c]
def flL (a : Fa) (m : Mm) : List Value := [.int .i8 a.k, .int .i64 a.fn, .int .i64 a.pc, .slice a.s3.o a.s3.n a.s3.c, .slice a.s4.o a.s4.n a.s4.c, .slice a.s5.o a.s5.n a.s5.c, .slice a.s6.o a.s6.n a.s6.c, .int .i64 a.wt,
  .int .i8 m.ph, .int .i64 m.pid, .int .i64 m.ref, .int .i64 m.dl, .int .i64 m.n, .int .i8 m.T.k, .int .i64 m.T.n, .string m.T.s, .string m.T.u, .slice m.T.ao m.T.l.length m.T.cap, .int .i8 m.U.k, .int .i64 m.U.n, .string m.U.s, .string m.U.u, .slice m.U.ao m.U.l.length m.U.cap,
  .int .i8 m.V.k, .int .i64 m.V.n, .string m.V.s, .string m.V.u, .slice m.V.ao m.V.l.length m.V.cap, .slice m.rs.o m.rs.n m.rs.c, .int .i8 m.st, .int .i64 m.mr, .int .i64 m.mt, .slice m.sp.o m.sp.n m.sp.c, .slice m.lg.o m.lg.n m.lg.c, .slice m.td.o m.td.n m.td.c]
/-- a record -/
structure Rc where
  c : Ch
  pid : Int
def Rc.cells (r : Rc) : List Value := [.int .i8 r.c.id.k, .int .i64 r.c.id.n, .string r.c.id.s, .string r.c.id.u, .slice r.c.id.ao r.c.id.l.length r.c.id.cap, .int .i8 r.c.ki, .int .i8 r.c.re, .int .i64 r.c.sh, .string r.c.m, .string r.c.f, .slice r.c.ao r.c.an r.c.ac, .slice r.c.so r.c.sn r.c.sc, .int .i64 r.pid]
theorem Rc.cells_len (r : Rc) : r.cells.length = 13 := rfl
def rcs (L : List Rc) : List Value := L.flatMap Rc.cells
theorem rcs_len (L : List Rc) : (rcs L).length = L.length * 13 := by
  induction L with
  | nil => rfl
  | cons x L ih =>
    have e : rcs (x :: L) = x.cells ++ rcs L := rfl
    rw [e, List.length_append, ih, Rc.cells_len, List.length_cons]
    omega
theorem rcs_at : ∀ (L : List Rc) (i j : Nat) (r : Rc), L[i]? = some r → j < 13 → (rcs L)[i * 13 + j]? = r.cells[j]?
  | [], i, j, r, h, hj => by simp at h
  | x :: L, 0, j, r, h, hj => by
    simp at h
    subst h
    have e : rcs (x :: L) = x.cells ++ rcs L := rfl
    rw [e, Nat.zero_mul, Nat.zero_add, List.getElem?_append_left (by rw [Rc.cells_len]; exact hj)]
  | x :: L, i + 1, j, r, h, hj => by
    have e : rcs (x :: L) = x.cells ++ rcs L := rfl
    rw [e, List.getElem?_append_right (by rw [Rc.cells_len]; omega), Rc.cells_len, show (i + 1) * 13 + j - 13 = i * 13 + j by omega]
    exact rcs_at L i j r (by simpa using h) hj
/-- what a child's cells name, read -/
structure ChOk (M : Nat → Prop) (W : World) (c : Ch) : Prop where
  id : TeOk M W c.id
  ar : ∃ EA, TesOk M W c.ar EA
  sup : c.sn ≤ c.sc ∧ (c.sn = 0 ∨ ∃ b off, c.so = some ⟨b, off, none⟩ ∧ ¬ M b ∧ ∃ (o : Option Addr) (n cc : Nat), W.cell? ⟨b, off + 3, none⟩ = some (.slice o n cc))
theorem ChOk.chg {M M' T : Nat → Prop} {w w' : World} {c : Ch} (h : ChOk M w c) (hc : Chg T w w') (hT : ∀ k, T k → k < w.heap.size → M k) (hM : ∀ k, M' k → k < w.heap.size → M k) : ChOk M' w' c := by
  refine ⟨h.id.chg hc hT hM, ?_, ?_⟩
  · obtain ⟨EA, h1⟩ := h.ar
    exact ⟨EA, h1.chg hc hT hM⟩
  · refine ⟨h.sup.1, ?_⟩
    rcases h.sup.2 with h1 | ⟨b, off, h1, h2, o, n, cc, h3⟩
    · exact .inl h1
    · have hlt : b < w.heap.size := World.block_lt_of_cell? w _ h3
      exact .inr ⟨b, off, h1, fun hm => h2 (hM b hm hlt), o, n, cc, hc.cell h3 fun ht => h2 (hT b ht hlt)⟩
theorem ChOk.keep {M : Nat → Prop} {w w' : World} {c : Ch} (h : ChOk M w c) (hb : Below w.heap.size w w') : ChOk M w' c := h.chg (chg_of_below hb (fun _ => False)) (fun _ h => h.elim) (fun _ h _ => h)
/-- rows of records that lie somewhere outside of M -/
def RcAt (M : Nat → Prop) (W : World) (s : Sl) (L : List Rc) : Prop := s.n = L.length ∧ L.length ≤ s.c ∧ s.c ≤ 9223372036854775807 ∧ (L = [] ∨ ∃ b off, s.o = some ⟨b, off, none⟩ ∧ ¬ M b ∧ ∀ (j : Nat) (u : Value), (rcs L)[j]? = some u → W.cell? ⟨b, off + j, none⟩ = some u)
theorem RcAt.chg {M M' T : Nat → Prop} {w w' : World} {s : Sl} {L : List Rc} (h : RcAt M w s L) (hc : Chg T w w') (hT : ∀ k, T k → k < w.heap.size → M k) (hM : ∀ k, M' k → k < w.heap.size → M k) : RcAt M' w' s L := by
  obtain ⟨h1, h2, h3, h4⟩ := h
  refine ⟨h1, h2, h3, ?_⟩
  rcases h4 with h4 | ⟨b, off, e, hb, hcl⟩
  · exact .inl h4
  · by_cases h0 : L = []
    · exact .inl h0
    · have hl : 0 < (rcs L).length := by
        rw [rcs_len]
        have := List.length_pos_iff.2 h0
        omega
      have hlt : b < w.heap.size := World.block_lt_of_cell? w _ (hcl 0 _ (List.getElem?_eq_getElem hl))
      exact .inr ⟨b, off, e, fun hm => hb (hM b hm hlt), fun j u hj => hc.cell (hcl j u hj) fun ht => hb (hT b ht hlt)⟩
theorem RcAt.keep {M : Nat → Prop} {w w' : World} {s : Sl} {L : List Rc} (h : RcAt M w s L) (hb : Below w.heap.size w w') : RcAt M w' s L := h.chg (chg_of_below hb (fun _ => False)) (fun _ h => h.elim) (fun _ h _ => h)
/-- one of them -/
theorem RcAt.at {M : Nat → Prop} {w : World} {s : Sl} {L : List Rc} (h : RcAt M w s L) {i : Nat} {r : Rc} (hr : L[i]? = some r) : ∃ b off, s.o = some ⟨b, off, none⟩ ∧ ¬ M b ∧ ∀ (j : Nat) (u : Value), r.cells[j]? = some u → w.cell? ⟨b, off + i * 13 + j, none⟩ = some u := by
  obtain ⟨-, -, -, h4⟩ := h
  rcases h4 with h4 | ⟨b, off, e, hb, hcl⟩
  · rw [h4] at hr
    simp at hr
  · refine ⟨b, off, e, hb, fun j u hj => ?_⟩
    have hj13 : j < 13 := (List.getElem?_eq_some_iff.1 hj).1
    rw [Nat.add_assoc]
    exact hcl _ _ (by rw [rcs_at L i j r hr hj13]; exact hj)
/-- what a frame by value names, read -/
structure FrOkA (M : Nat → Prop) (W : World) (a : Fa) (m : Mm) (RL : List Rc) : Prop where
  s3 : ∃ E, TesOk M W a.s3.v E
  s5 : ∃ E, TesOk M W a.s5.v E
  T : TeOk M W m.T
  U : TeOk M W m.U
  V : TeOk M W m.V
  rs : RcAt M W m.rs RL
  rc : ∀ r ∈ RL, ChOk M W r.c
  rp : ∀ r ∈ RL, -9223372036854775808 ≤ r.pid ∧ r.pid ≤ 9223372036854775807
theorem FrOkA.chg {M M' T : Nat → Prop} {w w' : World} {a : Fa} {m : Mm} {RL : List Rc} (h : FrOkA M w a m RL) (hc : Chg T w w') (hT : ∀ k, T k → k < w.heap.size → M k) (hM : ∀ k, M' k → k < w.heap.size → M k) : FrOkA M' w' a m RL :=
  ⟨h.s3.imp fun E h => h.chg hc hT hM, h.s5.imp fun E h => h.chg hc hT hM, h.T.chg hc hT hM, h.U.chg hc hT hM, h.V.chg hc hT hM, h.rs.chg hc hT hM, fun r hr => (h.rc r hr).chg hc hT hM, h.rp⟩
theorem FrOkA.keep {M : Nat → Prop} {w w' : World} {a : Fa} {m : Mm} {RL : List Rc} (h : FrOkA M w a m RL) (hb : Below w.heap.size w w') : FrOkA M w' a m RL := h.chg (chg_of_below hb (fun _ => False)) (fun _ h => h.elim) (fun _ h _ => h)
/-- what a machine finds -/
structure Im where
  now : Int
  self : Int
  ml : Sl
  cls : Int
  some : Bool
  got : TE
  have_ : Int
def imL (i : Im) : List Value := [.int .i64 i.now, .int .i64 i.self, .slice i.ml.o i.ml.n i.ml.c, .int .i8 i.cls, .bool i.some, .int .i8 i.got.k, .int .i64 i.got.n, .string i.got.s, .string i.got.u, .slice i.got.ao i.got.l.length i.got.cap, .int .i64 i.have_]
def rcTL : List TypeId := [22, 3, 9, 9, 23, 22, 22, 3, 9, 9, 23, 26, 3]
def spTL : List TypeId := [22, 3, 3, 32]
def frTL : List TypeId := [22, 3, 3, 23, 29, 23, 30, 3, 22, 3, 3, 3, 3, 22, 3, 9, 9, 23, 22, 3, 9, 9, 23, 22, 3, 9, 9, 23, 31, 22, 3, 3, 32, 35, 35]
def inTL : List TypeId := [3, 3, 40, 22, 4, 22, 3, 9, 9, 23, 3]
theorem flat_RC : flat Tryz.prog 5 64 = some rcTL := by kernel_rfl
theorem cells_RC : Tryz.prog.cellsOf 64 = 13 := by kernel_rfl
theorem flat_SP : flat Tryz.prog 4 34 = some spTL := by kernel_rfl
theorem cells_SP : Tryz.prog.cellsOf 34 = 4 := by kernel_rfl
theorem flat_FR : flat Tryz.prog 6 39 = some frTL := by kernel_rfl
theorem flat_IN : flat Tryz.prog 4 43 = some inTL := by kernel_rfl
section
variable {H : Type} {enc : TypeId × Value → H} {W : World}
/-- what a slice of supervisors' specifications holds first -/
theorem sup_first {n : Nat} {v : Value} {y : DataW H × List MemPlace} (h : Rd enc Tryz.prog W n 26 [v] y) : ∃ so sn sc, v = .slice so sn sc ∧ sn ≤ sc ∧ (sn = 0 ∨ ∃ b off, so = some ⟨b, off, none⟩ ∧ ¬ M0 W b ∧ ∃ (o : Option Addr) (n cc : Nat), W.cell? ⟨b, off + 3, none⟩ = some (.slice o n cc)) := by
  obtain ⟨ao, len, cap, rfl, h1, h2, h3, h4⟩ := elems_trod (k := 4) (L := spTL) Tryz.underlying26 flat_SP cells_SP (by decide) h
  refine ⟨ao, len, cap, rfl, h1, ?_⟩
  by_cases h0 : len = 0
  · exact .inl h0
  · obtain ⟨b, off, e, hb, hj⟩ := h4 0 (by omega)
    obtain ⟨u3, n3, y3, c3, -, r3⟩ := hj 3 _ rfl
    obtain ⟨o, n', cc, rfl⟩ := leaf_slice Tryz.underlying32 r3
    rw [Nat.zero_mul, Nat.add_zero] at c3
    exact .inr ⟨b, off, e, Nat.not_le_of_lt hb, o, n', cc, c3⟩
theorem recs_of {n : Nat} {v : Value} {y : DataW H × List MemPlace} (h : Rd enc Tryz.prog W n 31 [v] y) : ∃ (s : Sl) (L : List Rc), v = s.v ∧ RcAt (M0 W) W s L ∧ (∀ r ∈ L, ChOk (M0 W) W r.c) ∧ ∀ r ∈ L, -9223372036854775808 ≤ r.pid ∧ r.pid ≤ 9223372036854775807 := by
  obtain ⟨ao, len, cap, rfl, h1, h2, h3, h4⟩ := elems_trod (k := 5) (L := rcTL) Tryz.underlying31 flat_RC cells_RC (by decide) h
  obtain ⟨L, rfl, hL⟩ := list_choose (Q := fun i (x : Rc) => (∃ b off, ao = some ⟨b, off, none⟩ ∧ ¬ M0 W b ∧ ∀ (j : Nat) (u : Value), x.cells[j]? = some u → W.cell? ⟨b, off + i * 13 + j, none⟩ = some u) ∧ ChOk (M0 W) W x.c ∧ (-9223372036854775808 ≤ x.pid ∧ x.pid ≤ 9223372036854775807)) len (fun i hi => by
    obtain ⟨b, off, e, hb, hj⟩ := h4 i hi
    obtain ⟨u0, n0, y0, c0, -, r0⟩ := hj 0 _ rfl
    obtain ⟨u1, n1, y1, c1, -, r1⟩ := hj 1 _ rfl
    obtain ⟨u2, n2, y2, c2, -, r2⟩ := hj 2 _ rfl
    obtain ⟨u3, n3, y3, c3, -, r3⟩ := hj 3 _ rfl
    obtain ⟨u4, n4, y4, c4, -, r4⟩ := hj 4 _ rfl
    obtain ⟨u5, n5, y5, c5, -, r5⟩ := hj 5 _ rfl
    obtain ⟨u6, n6, y6, c6, -, r6⟩ := hj 6 _ rfl
    obtain ⟨u7, n7, y7, c7, -, r7⟩ := hj 7 _ rfl
    obtain ⟨u8, n8, y8, c8, -, r8⟩ := hj 8 _ rfl
    obtain ⟨u9, n9, y9, c9, -, r9⟩ := hj 9 _ rfl
    obtain ⟨u10, n10, y10, c10, -, r10⟩ := hj 10 _ rfl
    obtain ⟨u11, n11, y11, c11, -, r11⟩ := hj 11 _ rfl
    obtain ⟨u12, n12, y12, c12, -, r12⟩ := hj 12 _ rfl
    obtain ⟨a0, rfl, w0⟩ := leaf_int Tryz.underlying22 r0
    obtain ⟨a1, rfl, w1⟩ := leaf_int Tryz.underlying3 r1
    obtain ⟨a2, rfl, w2⟩ := leaf_str Tryz.underlying9 r2
    obtain ⟨a3, rfl, w3⟩ := leaf_str Tryz.underlying9 r3
    obtain ⟨l, hl⟩ := row_of_trod r4
    obtain ⟨x, e0, e1, e2, e3, e4, hx⟩ := te_of ⟨i8_bd w0, bd w1, w2, w3⟩ hl
    obtain ⟨a5, rfl, w5⟩ := leaf_int Tryz.underlying22 r5
    obtain ⟨a6, rfl, w6⟩ := leaf_int Tryz.underlying22 r6
    obtain ⟨a7, rfl, w7⟩ := leaf_int Tryz.underlying3 r7
    obtain ⟨a8, rfl, w8⟩ := leaf_str Tryz.underlying9 r8
    obtain ⟨a9, rfl, w9⟩ := leaf_str Tryz.underlying9 r9
    obtain ⟨E, hE⟩ := tes_of r10
    obtain ⟨ao', ac, e10, -⟩ := hE.slice
    obtain ⟨so, sn, sc, rfl, hs1, hs2⟩ := sup_first r11
    obtain ⟨a12, rfl, w12⟩ := leaf_int Tryz.underlying3 r12
    subst e0 e1 e2 e3 e4 e10
    exact ⟨⟨⟨x, a5, a6, a7, a8, a9, ao', E.length, ac, so, sn, sc⟩, a12⟩, ⟨b, off, e, Nat.not_le_of_lt hb, fun j u hj => by
      match j, hj with
      | 0, hj => simp [Rc.cells] at hj; subst hj; exact c0
      | 1, hj => simp [Rc.cells] at hj; subst hj; exact c1
      | 2, hj => simp [Rc.cells] at hj; subst hj; exact c2
      | 3, hj => simp [Rc.cells] at hj; subst hj; exact c3
      | 4, hj => simp [Rc.cells] at hj; subst hj; exact c4
      | 5, hj => simp [Rc.cells] at hj; subst hj; exact c5
      | 6, hj => simp [Rc.cells] at hj; subst hj; exact c6
      | 7, hj => simp [Rc.cells] at hj; subst hj; exact c7
      | 8, hj => simp [Rc.cells] at hj; subst hj; exact c8
      | 9, hj => simp [Rc.cells] at hj; subst hj; exact c9
      | 10, hj => simp [Rc.cells] at hj; subst hj; exact c10
      | 11, hj => simp [Rc.cells] at hj; subst hj; exact c11
      | 12, hj => simp [Rc.cells] at hj; subst hj; exact c12
      | j + 13, hj => simp [Rc.cells] at hj⟩, ⟨hx, ⟨E, hE⟩, hs1, hs2⟩, bd w12⟩)
  refine ⟨⟨ao, L.length, cap⟩, L, rfl, ⟨rfl, h1, h2, ?_⟩, fun r hr => ?_, fun r hr => ?_⟩
  · by_cases h0 : L = []
    · exact .inl h0
    · have h00 : 0 < L.length := List.length_pos_iff.2 h0
      obtain ⟨⟨b, off, e, hb, -⟩, -⟩ := hL 0 _ (List.getElem?_eq_getElem h00)
      refine .inr ⟨b, off, e, hb, fun j u hj => ?_⟩
      have hjl : j < L.length * 13 := by
        have := (List.getElem?_eq_some_iff.1 hj).1
        rw [rcs_len] at this
        exact this
      have hi : j / 13 < L.length := by omega
      obtain ⟨⟨b', off', e', -, hc⟩, -⟩ := hL (j / 13) _ (List.getElem?_eq_getElem hi)
      have e' : ao = some ⟨b', off', none⟩ := e'
      rw [e] at e'
      injection e' with e'
      injection e' with e1 e2
      subst e1 e2
      have hm : j % 13 < 13 := Nat.mod_lt _ (by decide)
      have hjj : j / 13 * 13 + j % 13 = j := by omega
      rw [← hjj, rcs_at L _ _ _ (List.getElem?_eq_getElem hi) hm] at hj
      have := hc _ _ hj
      rw [Nat.add_assoc, hjj] at this
      exact this
  · obtain ⟨i, hi⟩ := List.getElem?_of_mem hr
    exact (hL i r hi).2.1
  · obtain ⟨i, hi⟩ := List.getElem?_of_mem hr
    exact (hL i r hi).2.2
--GEN BEGINS
theorem frame_of {base : Nat} {v0 : Value} {d0 : DataW H} {p0 : List MemPlace} (hv0 : Value.okWide Tryz.prog W .any base 39 v0) (h0 : DataW.Trod enc Tryz.prog W 0 (fun _ => true) true 39 v0 d0 p0) :
    ∃ (a : Fa) (m : Mm) (RL : List Rc), v0 = .agg (flL a m).toArray ∧ FrOkA (M0 W) W a m RL := by
  obtain ⟨cs, rfl, hsz⟩ := okWide_struct Tryz.underlying39 hv0
  obtain ⟨fuel, hf⟩ := h0
  obtain ⟨h1, hj⟩ := flat_trod 6 39 frTL _ _ _ flat_FR hf
  obtain ⟨u0, n0, y0, c0, -, r0⟩ := hj 0 _ rfl
  obtain ⟨u1, n1, y1, c1, -, r1⟩ := hj 1 _ rfl
  obtain ⟨u2, n2, y2, c2, -, r2⟩ := hj 2 _ rfl
  obtain ⟨u3, n3, y3, c3, -, r3⟩ := hj 3 _ rfl
  obtain ⟨u4, n4, y4, c4, -, r4⟩ := hj 4 _ rfl
  obtain ⟨u5, n5, y5, c5, -, r5⟩ := hj 5 _ rfl
  obtain ⟨u6, n6, y6, c6, -, r6⟩ := hj 6 _ rfl
  obtain ⟨u7, n7, y7, c7, -, r7⟩ := hj 7 _ rfl
  obtain ⟨u8, n8, y8, c8, -, r8⟩ := hj 8 _ rfl
  obtain ⟨u9, n9, y9, c9, -, r9⟩ := hj 9 _ rfl
  obtain ⟨u10, n10, y10, c10, -, r10⟩ := hj 10 _ rfl
  obtain ⟨u11, n11, y11, c11, -, r11⟩ := hj 11 _ rfl
  obtain ⟨u12, n12, y12, c12, -, r12⟩ := hj 12 _ rfl
  obtain ⟨u13, n13, y13, c13, -, r13⟩ := hj 13 _ rfl
  obtain ⟨u14, n14, y14, c14, -, r14⟩ := hj 14 _ rfl
  obtain ⟨u15, n15, y15, c15, -, r15⟩ := hj 15 _ rfl
  obtain ⟨u16, n16, y16, c16, -, r16⟩ := hj 16 _ rfl
  obtain ⟨u17, n17, y17, c17, -, r17⟩ := hj 17 _ rfl
  obtain ⟨u18, n18, y18, c18, -, r18⟩ := hj 18 _ rfl
  obtain ⟨u19, n19, y19, c19, -, r19⟩ := hj 19 _ rfl
  obtain ⟨u20, n20, y20, c20, -, r20⟩ := hj 20 _ rfl
  obtain ⟨u21, n21, y21, c21, -, r21⟩ := hj 21 _ rfl
  obtain ⟨u22, n22, y22, c22, -, r22⟩ := hj 22 _ rfl
  obtain ⟨u23, n23, y23, c23, -, r23⟩ := hj 23 _ rfl
  obtain ⟨u24, n24, y24, c24, -, r24⟩ := hj 24 _ rfl
  obtain ⟨u25, n25, y25, c25, -, r25⟩ := hj 25 _ rfl
  obtain ⟨u26, n26, y26, c26, -, r26⟩ := hj 26 _ rfl
  obtain ⟨u27, n27, y27, c27, -, r27⟩ := hj 27 _ rfl
  obtain ⟨u28, n28, y28, c28, -, r28⟩ := hj 28 _ rfl
  obtain ⟨u29, n29, y29, c29, -, r29⟩ := hj 29 _ rfl
  obtain ⟨u30, n30, y30, c30, -, r30⟩ := hj 30 _ rfl
  obtain ⟨u31, n31, y31, c31, -, r31⟩ := hj 31 _ rfl
  obtain ⟨u32, n32, y32, c32, -, r32⟩ := hj 32 _ rfl
  obtain ⟨u33, n33, y33, c33, -, r33⟩ := hj 33 _ rfl
  obtain ⟨u34, n34, y34, c34, -, r34⟩ := hj 34 _ rfl
  obtain ⟨a0, rfl, w0⟩ := leaf_int Tryz.underlying22 r0
  obtain ⟨a1, rfl, w1⟩ := leaf_int Tryz.underlying3 r1
  obtain ⟨a2, rfl, w2⟩ := leaf_int Tryz.underlying3 r2
  obtain ⟨E3, hE3⟩ := tes_of r3
  obtain ⟨o3, k3, e3, -⟩ := hE3.slice
  subst e3
  obtain ⟨o4, m4, k4, rfl⟩ := leaf_slice Tryz.underlying29 r4
  obtain ⟨E5, hE5⟩ := tes_of r5
  obtain ⟨o5, k5, e5, -⟩ := hE5.slice
  subst e5
  obtain ⟨o6, m6, k6, rfl⟩ := leaf_slice Tryz.underlying30 r6
  obtain ⟨a7, rfl, w7⟩ := leaf_int Tryz.underlying3 r7
  obtain ⟨a8, rfl, w8⟩ := leaf_int Tryz.underlying22 r8
  obtain ⟨a9, rfl, w9⟩ := leaf_int Tryz.underlying3 r9
  obtain ⟨a10, rfl, w10⟩ := leaf_int Tryz.underlying3 r10
  obtain ⟨a11, rfl, w11⟩ := leaf_int Tryz.underlying3 r11
  obtain ⟨a12, rfl, w12⟩ := leaf_int Tryz.underlying3 r12
  obtain ⟨a13, rfl, w13⟩ := leaf_int Tryz.underlying22 r13
  obtain ⟨a14, rfl, w14⟩ := leaf_int Tryz.underlying3 r14
  obtain ⟨a15, rfl, w15⟩ := leaf_str Tryz.underlying9 r15
  obtain ⟨a16, rfl, w16⟩ := leaf_str Tryz.underlying9 r16
  obtain ⟨l17, hl17⟩ := row_of_trod r17
  obtain ⟨x17, e0, e1, e2, e3, e4, hx17⟩ := te_of ⟨i8_bd w13, bd w14, w15, w16⟩ hl17
  subst e0 e1 e2 e3 e4
  obtain ⟨a18, rfl, w18⟩ := leaf_int Tryz.underlying22 r18
  obtain ⟨a19, rfl, w19⟩ := leaf_int Tryz.underlying3 r19
  obtain ⟨a20, rfl, w20⟩ := leaf_str Tryz.underlying9 r20
  obtain ⟨a21, rfl, w21⟩ := leaf_str Tryz.underlying9 r21
  obtain ⟨l22, hl22⟩ := row_of_trod r22
  obtain ⟨x22, e0, e1, e2, e3, e4, hx22⟩ := te_of ⟨i8_bd w18, bd w19, w20, w21⟩ hl22
  subst e0 e1 e2 e3 e4
  obtain ⟨a23, rfl, w23⟩ := leaf_int Tryz.underlying22 r23
  obtain ⟨a24, rfl, w24⟩ := leaf_int Tryz.underlying3 r24
  obtain ⟨a25, rfl, w25⟩ := leaf_str Tryz.underlying9 r25
  obtain ⟨a26, rfl, w26⟩ := leaf_str Tryz.underlying9 r26
  obtain ⟨l27, hl27⟩ := row_of_trod r27
  obtain ⟨x27, e0, e1, e2, e3, e4, hx27⟩ := te_of ⟨i8_bd w23, bd w24, w25, w26⟩ hl27
  subst e0 e1 e2 e3 e4
  obtain ⟨s28, RL, e28, hR1, hR2, hR3⟩ := recs_of r28
  subst e28
  obtain ⟨a29, rfl, w29⟩ := leaf_int Tryz.underlying22 r29
  obtain ⟨a30, rfl, w30⟩ := leaf_int Tryz.underlying3 r30
  obtain ⟨a31, rfl, w31⟩ := leaf_int Tryz.underlying3 r31
  obtain ⟨o32, m32, k32, rfl⟩ := leaf_slice Tryz.underlying32 r32
  obtain ⟨o33, m33, k33, rfl⟩ := leaf_slice Tryz.underlying35 r33
  obtain ⟨o34, m34, k34, rfl⟩ := leaf_slice Tryz.underlying35 r34
  refine ⟨⟨a0, a1, a2, a7, ⟨o3, E3.length, k3⟩, ⟨o4, m4, k4⟩, ⟨o5, E5.length, k5⟩, ⟨o6, m6, k6⟩⟩, ⟨a8, a9, a10, a11, a12, x17, x22, x27, s28, a29, a30, a31, ⟨o32, m32, k32⟩, ⟨o33, m33, k33⟩, ⟨o34, m34, k34⟩⟩, RL, ?_, ⟨⟨E3, hE3⟩, ⟨E5, hE5⟩, hx17, hx22, hx27, hR1, hR2, hR3⟩⟩
  obtain ⟨cs⟩ := cs
  congr 2
  simp only [Value.cells] at h1 c0 c1 c2 c3 c4 c5 c6 c7 c8 c9 c10 c11 c12 c13 c14 c15 c16 c17 c18 c19 c20 c21 c22 c23 c24 c25 c26 c27 c28 c29 c30 c31 c32 c33 c34
  refine list_same (by have h := h1; exact h) fun j u hj => ?_
  match j, hj with
  | 0, hj => exact (show cs[0]? = _ from (by have h := c0; exact h)).trans hj
  | 1, hj => exact (show cs[1]? = _ from (by have h := c1; exact h)).trans hj
  | 2, hj => exact (show cs[2]? = _ from (by have h := c2; exact h)).trans hj
  | 3, hj => exact (show cs[3]? = _ from (by have h := c3; exact h)).trans hj
  | 4, hj => exact (show cs[4]? = _ from (by have h := c4; exact h)).trans hj
  | 5, hj => exact (show cs[5]? = _ from (by have h := c5; exact h)).trans hj
  | 6, hj => exact (show cs[6]? = _ from (by have h := c6; exact h)).trans hj
  | 7, hj => exact (show cs[7]? = _ from (by have h := c7; exact h)).trans hj
  | 8, hj => exact (show cs[8]? = _ from (by have h := c8; exact h)).trans hj
  | 9, hj => exact (show cs[9]? = _ from (by have h := c9; exact h)).trans hj
  | 10, hj => exact (show cs[10]? = _ from (by have h := c10; exact h)).trans hj
  | 11, hj => exact (show cs[11]? = _ from (by have h := c11; exact h)).trans hj
  | 12, hj => exact (show cs[12]? = _ from (by have h := c12; exact h)).trans hj
  | 13, hj => exact (show cs[13]? = _ from (by have h := c13; exact h)).trans hj
  | 14, hj => exact (show cs[14]? = _ from (by have h := c14; exact h)).trans hj
  | 15, hj => exact (show cs[15]? = _ from (by have h := c15; exact h)).trans hj
  | 16, hj => exact (show cs[16]? = _ from (by have h := c16; exact h)).trans hj
  | 17, hj => exact (show cs[17]? = _ from (by have h := c17; exact h)).trans hj
  | 18, hj => exact (show cs[18]? = _ from (by have h := c18; exact h)).trans hj
  | 19, hj => exact (show cs[19]? = _ from (by have h := c19; exact h)).trans hj
  | 20, hj => exact (show cs[20]? = _ from (by have h := c20; exact h)).trans hj
  | 21, hj => exact (show cs[21]? = _ from (by have h := c21; exact h)).trans hj
  | 22, hj => exact (show cs[22]? = _ from (by have h := c22; exact h)).trans hj
  | 23, hj => exact (show cs[23]? = _ from (by have h := c23; exact h)).trans hj
  | 24, hj => exact (show cs[24]? = _ from (by have h := c24; exact h)).trans hj
  | 25, hj => exact (show cs[25]? = _ from (by have h := c25; exact h)).trans hj
  | 26, hj => exact (show cs[26]? = _ from (by have h := c26; exact h)).trans hj
  | 27, hj => exact (show cs[27]? = _ from (by have h := c27; exact h)).trans hj
  | 28, hj => exact (show cs[28]? = _ from (by have h := c28; exact h)).trans hj
  | 29, hj => exact (show cs[29]? = _ from (by have h := c29; exact h)).trans hj
  | 30, hj => exact (show cs[30]? = _ from (by have h := c30; exact h)).trans hj
  | 31, hj => exact (show cs[31]? = _ from (by have h := c31; exact h)).trans hj
  | 32, hj => exact (show cs[32]? = _ from (by have h := c32; exact h)).trans hj
  | 33, hj => exact (show cs[33]? = _ from (by have h := c33; exact h)).trans hj
  | 34, hj => exact (show cs[34]? = _ from (by have h := c34; exact h)).trans hj
  | j + 35, hj => exact absurd (show (none : Option Value) = some u from hj) (by simp)
end
end Go.Proofs.YthpmdeofdlcccaaGreatDoor
