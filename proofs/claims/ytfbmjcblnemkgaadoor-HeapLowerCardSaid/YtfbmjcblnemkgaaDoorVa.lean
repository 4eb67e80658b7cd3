/- the law's acts, read as data. No conditions. -/
import Derived.Test.YtfbmjcblnemkgaaDoorGw
import Derived.Test.YtfbmjcblnemkgaaDoorGy
namespace Go.Proofs.YtfbmjcblnemkgaaDoor
open Go.ChangeShapes Go.WideShapes Go.ChangeAt Go.RowKit
set_option linter.unusedVariables false
set_option maxRecDepth 100000
/-- what is done to a heap -/
structure Ac where
  d : Int
  t : TE
  k : Int
  lo : Option Addr
  lc : Nat
  L : List Wd
  w : Wd
  n : Int
def Ac.cells (a : Ac) : List Value := [.int .i64 a.d, .int .i8 a.t.k, .int .i64 a.t.n, .string a.t.s, .string a.t.u, .slice a.t.ao a.t.l.length a.t.cap, .int .i8 a.k, .slice a.lo a.L.length a.lc,
  .bool a.w.c, .int .i64 a.w.a, .int .i8 a.w.k, .int .i64 a.w.n, .string a.w.s, .string a.w.u, .slice a.w.ao a.w.l.length a.w.cap, .int .i64 a.n]
def AOk (f : Nat) (W : World) (a : Ac) : Prop := fields a.t.k a.t.n a.t.s a.t.u ∧ Row f W a.t.lv a.t.l ∧ (-128 ≤ a.k ∧ a.k ≤ 127) ∧ WRow W a.lo a.L ∧ (∀ x ∈ a.L, WOk f W x) ∧ a.L.length ≤ 9223372036854775807 ∧ (a.lo = none → a.L = [] ∧ a.lc = 0) ∧ WOk f W a.w
theorem AOk.keep {f : Nat} {W W' : World} {a : Ac} (h : AOk f W a) (hb : Below W.heap.size W W') : AOk f W' a := by
  obtain ⟨h1, h2, h3, h4, h5, h6, h7, h8⟩ := h
  exact ⟨h1, h2.keep hb, h3, h4.keep hb, fun x hx => (h5 x hx).keep hb, h6, h7, h8.keep hb⟩
/-- acts in memory -/
def ARow (f : Nat) (W : World) (ao : Option Addr) (M : List Ac) : Prop := ∀ i a, M[i]? = some a → AOk f W a ∧ ∃ b off, ao = some ⟨b, off, none⟩ ∧ b < W.heap.size ∧ ∀ j u, a.cells[j]? = some u → W.cell? ⟨b, off + i * 16 + j, none⟩ = some u
theorem ARow.keep {f : Nat} {W W' : World} {ao : Option Addr} {M : List Ac} (h : ARow f W ao M) (hb : Below W.heap.size W W') : ARow f W' ao M := by
  intro i a hi
  obtain ⟨h1, b, off, e, hl, hc⟩ := h i a hi
  exact ⟨h1.keep hb, b, off, e, Nat.lt_of_lt_of_le hl hb.size, fun j u hj => keep_cell (hc j u hj) hb⟩
theorem flatAC : flat Tryd.prog 9 56 = some [3, 29, 3, 9, 9, 22, 29, 26, 4, 3, 29, 3, 9, 9, 22, 3] := by kernel_rfl
theorem cellsAC : Tryd.prog.cellsOf 56 = 16 := by kernel_rfl
theorem cellsWD : Tryd.prog.cellsOf 33 = 7 := by kernel_rfl
section
variable {H : Type} {enc : TypeId × Value → H} {W : World}
theorem words_of_trod {fuel : Nat} {v : Value} {x : DataW H × List MemPlace} (h : Rd enc Tryd.prog W fuel 26 [v] x) :
    ∃ ao cap L, v = .slice ao L.length cap ∧ L.length ≤ cap ∧ cap ≤ 9223372036854775807 ∧ WRow W ao L ∧ (∀ x ∈ L, WOk fuel W x) ∧ (ao = none → L = [] ∧ cap = 0) := by
  obtain ⟨ao, len, cap, rfl, h1, h2, h3, h4⟩ := elems_trod (k := 9) Tryd.underlying26 flatWD cellsWD (by simp) h
  have key : ∀ i, i < len → ∃ x : Wd, WOk fuel W x ∧ ∃ b off, ao = some ⟨b, off, none⟩ ∧ b < W.heap.size ∧ ∀ j u, x.cells[j]? = some u → W.cell? ⟨b, off + i * 7 + j, none⟩ = some u := by
    intro i hi
    obtain ⟨b, off, e, hb, hc⟩ := h4 i hi
    obtain ⟨u0, n0, y0, c0, l0, r0⟩ := hc 0 _ rfl
    obtain ⟨u1, n1, y1, c1, l1, r1⟩ := hc 1 _ rfl
    obtain ⟨u2, n2, y2, c2, l2, r2⟩ := hc 2 _ rfl
    obtain ⟨u3, n3, y3, c3, l3, r3⟩ := hc 3 _ rfl
    obtain ⟨u4, n4, y4, c4, l4, r4⟩ := hc 4 _ rfl
    obtain ⟨u5, n5, y5, c5, l5, r5⟩ := hc 5 _ rfl
    obtain ⟨u6, n6, y6, c6, l6, r6⟩ := hc 6 _ rfl
    obtain ⟨a0, rfl⟩ := leaf_bool Tryd.underlying4 r0
    obtain ⟨a1, rfl, w1⟩ := leaf_int Tryd.underlying3 r1
    obtain ⟨a2, rfl, w2⟩ := leaf_int Tryd.underlying29 r2
    obtain ⟨a3, rfl, w3⟩ := leaf_int Tryd.underlying3 r3
    obtain ⟨a4, rfl, w4⟩ := leaf_str Tryd.underlying9 r4
    obtain ⟨a5, rfl, w5⟩ := leaf_str Tryd.underlying9 r5
    obtain ⟨l, hl⟩ := row_of_trod r6
    have hl' := hl.le (Nat.le_of_lt l6)
    obtain ⟨ao6, cap6, rfl, g⟩ := hl
    refine ⟨⟨a0, a1, a2, a3, a4, a5, ao6, cap6, l⟩, ⟨bd w1, ⟨i8_bd w2, bd w3, w4, w5⟩, hl'⟩, b, off, e, hb, fun j u hj => ?_⟩
    simp only [Wd.cells] at hj
    match j, hj with
    | 0, hj => simp at hj; subst hj; exact c0
    | 1, hj => simp at hj; subst hj; exact c1
    | 2, hj => simp at hj; subst hj; exact c2
    | 3, hj => simp at hj; subst hj; exact c3
    | 4, hj => simp at hj; subst hj; exact c4
    | 5, hj => simp at hj; subst hj; exact c5
    | 6, hj => simp at hj; subst hj; exact c6
  obtain ⟨L, rfl, hL⟩ := list_choose len key
  refine ⟨ao, cap, L, rfl, h1, h2, fun i x hi => (hL i x hi).2, fun x hx => ?_, fun e => ⟨List.eq_nil_of_length_eq_zero (h3 e).1, (h3 e).2⟩⟩
  obtain ⟨i, hi⟩ := List.getElem?_of_mem hx
  exact (hL i x hi).1
theorem acts_of_trod {fuel : Nat} {v : Value} {x : DataW H × List MemPlace} (h : Rd enc Tryd.prog W fuel 52 [v] x) :
    ∃ ao cap M, v = .slice ao M.length cap ∧ M.length ≤ 9223372036854775807 ∧ ARow fuel W ao M := by
  obtain ⟨ao, len, cap, rfl, h1, h2, h3, h4⟩ := elems_trod (k := 9) Tryd.underlying52 flatAC cellsAC (by simp) h
  have key : ∀ i, i < len → ∃ a : Ac, AOk fuel W a ∧ ∃ b off, ao = some ⟨b, off, none⟩ ∧ b < W.heap.size ∧ ∀ j u, a.cells[j]? = some u → W.cell? ⟨b, off + i * 16 + j, none⟩ = some u := by
    intro i hi
    obtain ⟨b, off, e, hb, hc⟩ := h4 i hi
    obtain ⟨u0, n0, y0, c0, l0, r0⟩ := hc 0 _ rfl
    obtain ⟨u1, n1, y1, c1, l1, r1⟩ := hc 1 _ rfl
    obtain ⟨u2, n2, y2, c2, l2, r2⟩ := hc 2 _ rfl
    obtain ⟨u3, n3, y3, c3, l3, r3⟩ := hc 3 _ rfl
    obtain ⟨u4, n4, y4, c4, l4, r4⟩ := hc 4 _ rfl
    obtain ⟨u5, n5, y5, c5, l5, r5⟩ := hc 5 _ rfl
    obtain ⟨u6, n6, y6, c6, l6, r6⟩ := hc 6 _ rfl
    obtain ⟨u7, n7, y7, c7, l7, r7⟩ := hc 7 _ rfl
    obtain ⟨u8, n8, y8, c8, l8, r8⟩ := hc 8 _ rfl
    obtain ⟨u9, n9, y9, c9, l9, r9⟩ := hc 9 _ rfl
    obtain ⟨u10, n10, y10, c10, l10, r10⟩ := hc 10 _ rfl
    obtain ⟨u11, n11, y11, c11, l11, r11⟩ := hc 11 _ rfl
    obtain ⟨u12, n12, y12, c12, l12, r12⟩ := hc 12 _ rfl
    obtain ⟨u13, n13, y13, c13, l13, r13⟩ := hc 13 _ rfl
    obtain ⟨u14, n14, y14, c14, l14, r14⟩ := hc 14 _ rfl
    obtain ⟨u15, n15, y15, c15, l15, r15⟩ := hc 15 _ rfl
    obtain ⟨a0, rfl, w0⟩ := leaf_int Tryd.underlying3 r0
    obtain ⟨a1, rfl, w1⟩ := leaf_int Tryd.underlying29 r1
    obtain ⟨a2, rfl, w2⟩ := leaf_int Tryd.underlying3 r2
    obtain ⟨a3, rfl, w3⟩ := leaf_str Tryd.underlying9 r3
    obtain ⟨a4, rfl, w4⟩ := leaf_str Tryd.underlying9 r4
    obtain ⟨lt, hlt⟩ := row_of_trod r5
    have hlt' := hlt.le (Nat.le_of_lt l5)
    obtain ⟨ao5, cap5, rfl, g5⟩ := hlt
    obtain ⟨a6, rfl, w6⟩ := leaf_int Tryd.underlying29 r6
    obtain ⟨lo, lc, L, rfl, k1, k2, k3, k4, k5⟩ := words_of_trod r7
    obtain ⟨a8, rfl⟩ := leaf_bool Tryd.underlying4 r8
    obtain ⟨a9, rfl, w9⟩ := leaf_int Tryd.underlying3 r9
    obtain ⟨a10, rfl, w10⟩ := leaf_int Tryd.underlying29 r10
    obtain ⟨a11, rfl, w11⟩ := leaf_int Tryd.underlying3 r11
    obtain ⟨a12, rfl, w12⟩ := leaf_str Tryd.underlying9 r12
    obtain ⟨a13, rfl, w13⟩ := leaf_str Tryd.underlying9 r13
    obtain ⟨lw, hlw⟩ := row_of_trod r14
    have hlw' := hlw.le (Nat.le_of_lt l14)
    obtain ⟨ao14, cap14, rfl, g14⟩ := hlw
    obtain ⟨a15, rfl, w15⟩ := leaf_int Tryd.underlying3 r15
    refine ⟨⟨a0, ⟨a1, a2, a3, a4, ao5, cap5, lt⟩, a6, lo, lc, L, ⟨a8, a9, a10, a11, a12, a13, ao14, cap14, lw⟩, a15⟩, ⟨⟨i8_bd w1, bd w2, w3, w4⟩, hlt', i8_bd w6, k3, fun x hx => (k4 x hx).le (Nat.le_of_lt l7), by simp only; omega, k5, bd w9, ⟨i8_bd w10, bd w11, w12, w13⟩, hlw'⟩, b, off, e, hb, fun j u hj => ?_⟩
    simp only [Ac.cells] at hj
    match j, hj with
    | 0, hj => simp at hj; subst hj; exact c0
    | 1, hj => simp at hj; subst hj; exact c1
    | 2, hj => simp at hj; subst hj; exact c2
    | 3, hj => simp at hj; subst hj; exact c3
    | 4, hj => simp at hj; subst hj; exact c4
    | 5, hj => simp at hj; subst hj; exact c5
    | 6, hj => simp at hj; subst hj; exact c6
    | 7, hj => simp at hj; subst hj; exact c7
    | 8, hj => simp at hj; subst hj; exact c8
    | 9, hj => simp at hj; subst hj; exact c9
    | 10, hj => simp at hj; subst hj; exact c10
    | 11, hj => simp at hj; subst hj; exact c11
    | 12, hj => simp at hj; subst hj; exact c12
    | 13, hj => simp at hj; subst hj; exact c13
    | 14, hj => simp at hj; subst hj; exact c14
    | 15, hj => simp at hj; subst hj; exact c15
  obtain ⟨M, rfl, hM⟩ := list_choose len key
  exact ⟨ao, cap, M, rfl, by omega, fun i a hi => hM i a hi⟩
end
end Go.Proofs.YtfbmjcblnemkgaaDoor
