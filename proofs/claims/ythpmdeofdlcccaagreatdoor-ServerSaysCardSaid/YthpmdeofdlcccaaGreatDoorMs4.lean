/- children by value; server.may, server.empty; a block of which cells are stored. Conditions: what is handed over reads; the letters stand. -/
/- a server's frame; server.fine. Conditions: what is handed over reads; the letters stand. -/
/- effects; the unit that is under way; its effect. -/
/- the unit's cells; back, begin, terminate, end. -/
import Derived.Test.YthpmdeofdlcccaaGreatDoorMs3
namespace Go.Proofs.YthpmdeofdlcccaaGreatDoor
open Go.ChangeShapes Go.WideShapes Go.ChangeAt Go.RowKit
set_option linter.unusedVariables false
set_option linter.unusedSimpArgs false
set_option maxRecDepth 100000
/-- a child by value -/
structure Ch where
  id : TE
  ki : Int
  re : Int
  sh : Int
  m : ByteArray
  f : ByteArray
  ao : Option Addr
  an : Nat
  ac : Nat
  so : Option Addr
  sn : Nat
  sc : Nat
def Ch.ar (c : Ch) : Value := .slice c.ao c.an c.ac
def Ch.cells (c : Ch) : List Value := [.int .i8 c.id.k, .int .i64 c.id.n, .string c.id.s, .string c.id.u, .slice c.id.ao c.id.l.length c.id.cap, .int .i8 c.ki, .int .i8 c.re, .int .i64 c.sh, .string c.m, .string c.f, .slice c.ao c.an c.ac, .slice c.so c.sn c.sc]
def oneOk : List TE → Bool
  | [x] => decide (checkN x.t = 0)
  | _ => false
/-- may a child be a server's? -/
def mayC (c : Ch) (E : List TE) : Bool := decide (c.ki = 0) && (mayS c.m && oneOk E)
set_option maxHeartbeats 1000000 in
theorem may_any (M : Nat → Prop) (w : World) (hc : Cells w 0 letL) (c : Ch) (E : List TE) (hE : TesOk M w c.ar E) (hm : c.m.size ≤ 9223372036854775807) : Calls Tryz.prog 26 #[.agg c.cells.toArray] w (IsPost w (mayC c E)) := by
  have hb1 := (Below.refl w.heap.size w).alloc (Nat.le_refl _) (.cells c.cells.toArray 28)
  have n1 := heap_new w (.cells c.cells.toArray 28)
  have x5 : (w.alloc (.cells c.cells.toArray 28)).cell? ⟨w.heap.size, 5, none⟩ = some (.int .i8 c.ki) := (cells_at n1 5 _ rfl).1
  have x8 : (w.alloc (.cells c.cells.toArray 28)).cell? ⟨w.heap.size, 8, none⟩ = some (.string c.m) := (cells_at n1 8 _ rfl).1
  have x10 : (w.alloc (.cells c.cells.toArray 28)).cell? ⟨w.heap.size, 10, none⟩ = some (.slice c.ao c.an c.ac) := (cells_at n1 10 _ rfl).1
  have HB := Lib.hid hb1
  have HM := Lib.hid (may7 c.m hm (w.alloc (.cells c.cells.toArray 28)) (keepCells hc hb1))
  have HE1 := Lib.hid (hE.keep hb1)
  have HC := Lib.hid (keepCells hc hb1)
  have hR : mayC c E = (decide (c.ki = 0) && (mayS c.m && oneOk E)) := rfl
  obtain ⟨ao0, cap0, e0, -⟩ := hE.slice
  have e1 : (.slice c.ao c.an c.ac : Value) = .slice ao0 E.length cap0 := e0
  injection e1 with e1 e2 e3
  have hn : c.an = E.length := e2
  clear hb1 n1 hc hE hm e0 e1 e2 e3
  generalize mayC c E = res at *
  by_cases hk : c.ki = 0
  · rw [hk] at x5
    cases hms : mayS c.m
    · have HE := Lib.hid (show res = false by rw [hR, hms]; simp)
      rw [hms] at HM
      clear hR hk hn x10 HE1 HC
      go_enter Tryz.func26, Tryz.ntmps26
      go_wp2_with fail
      refine HM.out.mono ?_
      rintro e w2 ⟨rfl, hb2⟩
      have HB2 := Lib.hid (HB.out.trans (hb2.mono HB.out.size))
      clear hb2 HM
      go_wp2_with fail
      go_ret
      exact ⟨by rw [HE.out]; rfl, HB2.out⟩
    · rw [hms] at HM hR
      have hR1 : res = oneOk E := by rw [hR]; simp [hk]
      have HR1 := Lib.hid hR1
      clear hR hk hms hR1
      by_cases hl : c.an = 1
      · obtain ⟨x, rfl⟩ : ∃ x, E = [x] := by
          match E, hn with
          | [], h => rw [hl] at h; cases h
          | [x], _ => exact ⟨x, rfl⟩
          | _ :: _ :: _, h => rw [hl] at h; simp at h
        obtain ⟨b, off, cap, e1, hx, c0, c1, c2, c3, c4⟩ := HE1.out.at (i := 0) rfl
        have e2 : (.slice c.ao c.an c.ac : Value) = .slice (some ⟨b, off, none⟩) 1 cap := e1
        injection e2 with e2 e3 e4
        rw [e2, hl] at x10
        have HR := Lib.hid (show res = decide (checkN x.t = 0) from HR1.out)
        rw [show off + 0 * 5 = off by omega] at c0 c1 c2 c3 c4
        have HX := Lib.hid hx
        clear hn hl e1 e2 e3 e4 HR1 hx
        go_enter Tryz.func26, Tryz.ntmps26
        go_wp2_with fail
        refine HM.out.mono ?_
        rintro e w2 ⟨rfl, hb2⟩
        have HB2 := Lib.hid (HB.out.trans (hb2.mono HB.out.size))
        have x10b := keep_cell x10 hb2
        have d0 := keep_cell c0 hb2
        have d1 := keep_cell c1 hb2
        have d2 := keep_cell c2 hb2
        have d3 := keep_cell c3 hb2
        have d4 := keep_cell c4 hb2
        have HX2 := Lib.hid (check_any _ _ _ _ (keepCells HC.out hb2) (HX.out.keep hb2).tv.choose_spec)
        clear hb2 HM x10 x5 x8 c0 c1 c2 c3 c4 HX HE1 HC
        have d4 : w2.cell? ⟨b, off + 4, none⟩ = some (.slice x.ao x.l.length x.cap) := d4
        go_wp2_with fail
        generalize checkN x.t = n at *
        refine HX2.out.mono ?_
        rintro e w3 ⟨rfl, hb3⟩
        have HB3 := Lib.hid (HB2.out.trans (hb3.mono HB2.out.size))
        clear hb3 HX2
        go_wp2_with fail
        go_ret
        exact ⟨by rw [HR.out]; by_cases h : n = 0 <;> simp [h], HB3.out⟩
      · have q1 : ((c.an : Int) == 1) = false := by simp; omega
        have HE := Lib.hid (show res = false by
          rw [HR1.out]
          match E, hn with
          | [], _ => rfl
          | [x], h => exact absurd h hl
          | _ :: _ :: _, _ => rfl)
        clear hn hl HR1 HE1 HC
        go_enter Tryz.func26, Tryz.ntmps26
        go_wp2_with fail
        refine HM.out.mono ?_
        rintro e w2 ⟨rfl, hb2⟩
        have HB2 := Lib.hid (HB.out.trans (hb2.mono HB.out.size))
        have x10b := keep_cell x10 hb2
        clear hb2 HM x10 x5 x8
        go_wp2_with fail
        go_ret
        exact ⟨by rw [HE.out]; rfl, HB2.out⟩
  · have q1 : (c.ki == 0) = false := by simp [hk]
    have HE := Lib.hid (show res = false by rw [hR]; simp [hk])
    clear hk hR hn x10 x8 HM HE1 HC
    go_enter Tryz.func26, Tryz.ntmps26
    go_wp2_with fail
    go_ret
    exact ⟨by rw [HE.out]; rfl, HB.out⟩
def emB (x : TE) : Bool := decide (x.k = 0) && (decide (x.n = 0) && (decide (x.s = ⟨#[]⟩) && (decide (x.u = ⟨#[]⟩) && decide (x.l.length = 0))))
set_option maxHeartbeats 1000000 in
theorem sempty_any (w : World) (x : TE) : Calls Tryz.prog 69 #[.agg x.cells.toArray] w (IsPost w (emB x)) := by
  have hb1 := (Below.refl w.heap.size w).alloc (Nat.le_refl _) (.cells x.cells.toArray 25)
  obtain ⟨x0, x1, x2, x3, x4⟩ := BxS.of (heap_new w (.cells x.cells.toArray 25))
  have HB := Lib.hid hb1
  clear hb1
  by_cases h0 : x.k = 0
  · rw [h0] at x0
    by_cases h1 : x.n = 0
    · rw [h1] at x1
      by_cases h2 : x.s = ⟨#[]⟩
      · rw [h2] at x2
        by_cases h3 : x.u = ⟨#[]⟩
        · rw [h3] at x3
          by_cases h4 : x.l.length = 0
          · rw [h4] at x4
            have HE := Lib.hid (show emB x = true by unfold emB; simp [h0, h1, h2, h3, h4])
            go_enter Tryz.func69, Tryz.ntmps69
            go_wp2_with fail
            go_ret
            exact ⟨by rw [HE.out]; rfl, HB.out⟩
          · have q : ((x.l.length : Int) == 0) = false := by rw [beq_eq_false_iff_ne]; omega
            have HE := Lib.hid (show emB x = false by unfold emB; simp [h4])
            go_enter Tryz.func69, Tryz.ntmps69
            go_wp2_with fail
            go_ret
            exact ⟨by rw [HE.out]; rfl, HB.out⟩
        · have q : (x.u.toList == ([] : List UInt8)) = false := by rw [← show (⟨#[]⟩ : ByteArray).toList = [] by simp]; exact str_ne h3
          have HE := Lib.hid (show emB x = false by unfold emB; simp [h3])
          go_enter Tryz.func69, Tryz.ntmps69
          go_wp2_with fail
          go_ret
          exact ⟨by rw [HE.out]; rfl, HB.out⟩
      · have q : (x.s.toList == ([] : List UInt8)) = false := by rw [← show (⟨#[]⟩ : ByteArray).toList = [] by simp]; exact str_ne h2
        have HE := Lib.hid (show emB x = false by unfold emB; simp [h2])
        go_enter Tryz.func69, Tryz.ntmps69
        go_wp2_with fail
        go_ret
        exact ⟨by rw [HE.out]; rfl, HB.out⟩
    · have q : (x.n == 0) = false := by simp [h1]
      have HE := Lib.hid (show emB x = false by unfold emB; simp [h1])
      go_enter Tryz.func69, Tryz.ntmps69
      go_wp2_with fail
      go_ret
      exact ⟨by rw [HE.out]; rfl, HB.out⟩
  · have q : (x.k == 0) = false := by simp [h0]
    have HE := Lib.hid (show emB x = false by unfold emB; simp [h0])
    go_enter Tryz.func69, Tryz.ntmps69
    go_wp2_with fail
    go_ret
    exact ⟨by rw [HE.out]; rfl, HB.out⟩
end Go.Proofs.YthpmdeofdlcccaaGreatDoor
namespace Go.Proofs.YthpmdeofdlcccaaGreatDoor
open Go.ChangeShapes Go.WideShapes Go.ChangeAt Go.RowKit
set_option linter.unusedVariables false
set_option linter.unusedSimpArgs false
set_option maxRecDepth 100000
/-- a server's machine -/
structure Mc where
  ph : Int
  pid : Int
  dl : Int
  T : TE
  U : TE
  V : TE
  rb : Nat
def mcL (m : Mc) : List Value := [.int .i8 m.ph, .int .i64 m.pid, .int .i64 0, .int .i64 m.dl, .int .i64 0, .int .i8 m.T.k, .int .i64 m.T.n, .string m.T.s, .string m.T.u, .slice m.T.ao m.T.l.length m.T.cap, .int .i8 m.U.k, .int .i64 m.U.n, .string m.U.s, .string m.U.u, .slice m.U.ao m.U.l.length m.U.cap,
  .int .i8 m.V.k, .int .i64 m.V.n, .string m.V.s, .string m.V.u, .slice m.V.ao m.V.l.length m.V.cap, .slice (some ⟨m.rb, 0, none⟩) 1 1, .int .i8 0, .int .i64 0, .int .i64 0, .slice none 0 0, .slice none 0 0, .slice none 0 0]
def frL (m : Mc) : List Value := [.int .i8 2, .int .i64 0, .int .i64 0, .slice none 0 0, .slice none 0 0, .slice none 0 0, .slice none 0 0, .int .i64 0, .int .i8 m.ph, .int .i64 m.pid, .int .i64 0, .int .i64 m.dl, .int .i64 0, .int .i8 m.T.k, .int .i64 m.T.n, .string m.T.s, .string m.T.u, .slice m.T.ao m.T.l.length m.T.cap, .int .i8 m.U.k, .int .i64 m.U.n, .string m.U.s, .string m.U.u, .slice m.U.ao m.U.l.length m.U.cap,
  .int .i8 m.V.k, .int .i64 m.V.n, .string m.V.s, .string m.V.u, .slice m.V.ao m.V.l.length m.V.cap, .slice (some ⟨m.rb, 0, none⟩) 1 1, .int .i8 0, .int .i64 0, .int .i64 0, .slice none 0 0, .slice none 0 0, .slice none 0 0]
def rcL (c : Ch) : List Value := [.int .i8 c.id.k, .int .i64 c.id.n, .string c.id.s, .string c.id.u, .slice c.id.ao c.id.l.length c.id.cap, .int .i8 c.ki, .int .i8 c.re, .int .i64 c.sh, .string c.m, .string c.f, .slice c.ao c.an c.ac, .slice c.so c.sn c.sc, .int .i64 0]
/-- a server's frame in memory, outside of M -/
structure McOk (M : Nat → Prop) (w : World) (m : Mc) (c : Ch) (E : List TE) : Prop where
  hph : 0 ≤ m.ph ∧ m.ph ≤ 6
  hT : TeOk M w m.T
  hU : TeOk M w m.U
  hV : TeOk M w m.V
  hr : w.heap[m.rb]? = some (.cells (rcL c).toArray 64 (0, 0))
  hrM : ¬ M m.rb
  hE : TesOk M w c.ar E
  hm : c.m.size ≤ 9223372036854775807
theorem McOk.chg {M M' T : Nat → Prop} {w w' : World} {m : Mc} {c : Ch} {E : List TE} (h : McOk M w m c E) (hc : Chg T w w') (hT : ∀ k, T k → k < w.heap.size → M k) (hM : ∀ k, M' k → k < w.heap.size → M k) : McOk M' w' m c E :=
  ⟨h.hph, h.hT.chg hc hT hM, h.hU.chg hc hT hM, h.hV.chg hc hT hM, hc.heap h.hr (fun e => h.hrM (hT _ e (heap_lt h.hr))), fun e => h.hrM (hM _ e (heap_lt h.hr)), h.hE.chg hc hT hM, h.hm⟩
theorem McOk.keep {M : Nat → Prop} {w w' : World} {m : Mc} {c : Ch} {E : List TE} (h : McOk M w m c E) (hb : Below w.heap.size w w') : McOk M w' m c E := h.chg (chg_of_below hb (fun _ => False)) (fun _ h => h.elim) (fun _ h _ => h)
def termB (x : TE) : Bool := emB x || decide (checkN x.t = 0)
def allB : List TE → Bool
  | [] => true
  | x :: l => termB x && allB l
def fineB (m : Mc) (c : Ch) (E : List TE) : Bool := mayC c E && allB [m.V, m.T, m.U]
set_option maxHeartbeats 8000000 in
theorem fine_any (M : Nat → Prop) (w : World) (hc : Cells w 0 letL) (m : Mc) (c : Ch) (E : List TE) (h : McOk M w m c E) : Calls Tryz.prog 45 #[.agg (frL m).toArray] w (IsPost w (fineB m c E)) := by
  have hb1 := (Below.refl w.heap.size w).alloc (Nat.le_refl _) (.cells (frL m).toArray 39)
  have n1 := heap_new w (.cells (frL m).toArray 39)
  have h1 := h.keep hb1
  have HM := Lib.hid (may_any M (w.alloc (.cells (frL m).toArray 39)) (keepCells hc hb1) c E h1.hE h.hm)
  have HH := Lib.hid (And.intro h1 (And.intro hb1 (And.intro n1 (keepCells hc hb1))))
  have x0 : (w.alloc (.cells (frL m).toArray 39)).cell? ⟨w.heap.size, 0, none⟩ = some (.int .i8 2) := (cells_at n1 0 _ rfl).1
  have x8 : (w.alloc (.cells (frL m).toArray 39)).cell? ⟨w.heap.size, 8, none⟩ = some (.int .i8 m.ph) := (cells_at n1 8 _ rfl).1
  have x28 : (w.alloc (.cells (frL m).toArray 39)).cell? ⟨w.heap.size, 28, none⟩ = some (.slice (some ⟨m.rb, 0, none⟩) 1 1) := (cells_at n1 28 _ rfl).1
  have hph1 : 0 ≤ m.ph := h.hph.1
  have hph2 : m.ph ≤ 6 := h.hph.2
  have hr := h1.hr
  have r0 : (w.alloc (.cells (frL m).toArray 39)).cell? ⟨m.rb, 0, none⟩ = some (.int .i8 c.id.k) := (cells_at hr 0 _ rfl).1
  have r1 : (w.alloc (.cells (frL m).toArray 39)).cell? ⟨m.rb, 1, none⟩ = some (.int .i64 c.id.n) := (cells_at hr 1 _ rfl).1
  have r2 : (w.alloc (.cells (frL m).toArray 39)).cell? ⟨m.rb, 2, none⟩ = some (.string c.id.s) := (cells_at hr 2 _ rfl).1
  have r3 : (w.alloc (.cells (frL m).toArray 39)).cell? ⟨m.rb, 3, none⟩ = some (.string c.id.u) := (cells_at hr 3 _ rfl).1
  have r4 : (w.alloc (.cells (frL m).toArray 39)).cell? ⟨m.rb, 4, none⟩ = some (.slice c.id.ao c.id.l.length c.id.cap) := (cells_at hr 4 _ rfl).1
  have r5 : (w.alloc (.cells (frL m).toArray 39)).cell? ⟨m.rb, 5, none⟩ = some (.int .i8 c.ki) := (cells_at hr 5 _ rfl).1
  have r6 : (w.alloc (.cells (frL m).toArray 39)).cell? ⟨m.rb, 6, none⟩ = some (.int .i8 c.re) := (cells_at hr 6 _ rfl).1
  have r7 : (w.alloc (.cells (frL m).toArray 39)).cell? ⟨m.rb, 7, none⟩ = some (.int .i64 c.sh) := (cells_at hr 7 _ rfl).1
  have r8 : (w.alloc (.cells (frL m).toArray 39)).cell? ⟨m.rb, 8, none⟩ = some (.string c.m) := (cells_at hr 8 _ rfl).1
  have r9 : (w.alloc (.cells (frL m).toArray 39)).cell? ⟨m.rb, 9, none⟩ = some (.string c.f) := (cells_at hr 9 _ rfl).1
  have r10 : (w.alloc (.cells (frL m).toArray 39)).cell? ⟨m.rb, 10, none⟩ = some (.slice c.ao c.an c.ac) := (cells_at hr 10 _ rfl).1
  have r11 : (w.alloc (.cells (frL m).toArray 39)).cell? ⟨m.rb, 11, none⟩ = some (.slice c.so c.sn c.sc) := (cells_at hr 11 _ rfl).1
  have hR : fineB m c E = (mayC c E && allB [m.V, m.T, m.U]) := rfl
  clear hb1 n1 h1 hc h hr
  generalize fineB m c E = res at *
  generalize mayC c E = mb at *
  go_enter Tryz.func45, Tryz.ntmps45
  go_wp2_with fail
  generalize w.alloc (.cells (frL m).toArray 39) = w1 at *
  refine HM.out.mono ?_
  clear HM
  rintro e w2 ⟨rfl, hb2⟩
  have HB2 := Lib.hid (HH.out.2.1.trans (hb2.mono HH.out.2.1.size))
  have HX := Lib.hid (And.intro (HH.out.1.keep hb2) (And.intro (keep_heap HH.out.2.2.1 hb2) (keepCells HH.out.2.2.2 hb2)))
  clear hb2 HH x0 x8 x28 r0 r1 r2 r3 r4 r5 r6 r7 r8 r9 r10 r11
  have n2 := HX.out.2.1
  obtain ⟨v0, v1, v2, v3, v4⟩ : PtAt w2 w.heap.size 23 m.V := ⟨(cells_at n2 23 _ rfl).1, (cells_at n2 24 _ rfl).1, (cells_at n2 25 _ rfl).1, (cells_at n2 26 _ rfl).1, (cells_at n2 27 _ rfl).1⟩
  obtain ⟨t0, t1, t2, t3, t4⟩ : PtAt w2 w.heap.size 13 m.T := ⟨(cells_at n2 13 _ rfl).1, (cells_at n2 14 _ rfl).1, (cells_at n2 15 _ rfl).1, (cells_at n2 16 _ rfl).1, (cells_at n2 17 _ rfl).1⟩
  obtain ⟨u0, u1, u2, u3, u4⟩ : PtAt w2 w.heap.size 18 m.U := ⟨(cells_at n2 18 _ rfl).1, (cells_at n2 19 _ rfl).1, (cells_at n2 20 _ rfl).1, (cells_at n2 21 _ rfl).1, (cells_at n2 22 _ rfl).1⟩
  clear n2
  go_wp2_with fail
  have hb3 := (Below.refl w2.heap.size w2).alloc (Nat.le_refl _) (.cells #[.int .i8 m.V.k, .int .i64 m.V.n, .string m.V.s, .string m.V.u, .slice m.V.ao m.V.l.length m.V.cap, .int .i8 m.T.k, .int .i64 m.T.n, .string m.T.s, .string m.T.u, .slice m.T.ao m.T.l.length m.T.cap, .int .i8 m.U.k, .int .i64 m.U.n, .string m.U.s, .string m.U.u, .slice m.U.ao m.U.l.length m.U.cap] 25)
  have n3 := heap_new w2 (.cells #[.int .i8 m.V.k, .int .i64 m.V.n, .string m.V.s, .string m.V.u, .slice m.V.ao m.V.l.length m.V.cap, .int .i8 m.T.k, .int .i64 m.T.n, .string m.T.s, .string m.T.u, .slice m.T.ao m.T.l.length m.T.cap, .int .i8 m.U.k, .int .i64 m.U.n, .string m.U.s, .string m.U.u, .slice m.U.ao m.U.l.length m.U.cap] 25)
  have hpt : ∀ i y, [m.V, m.T, m.U][i]? = some y → PtAt (w2.alloc (.cells #[.int .i8 m.V.k, .int .i64 m.V.n, .string m.V.s, .string m.V.u, .slice m.V.ao m.V.l.length m.V.cap, .int .i8 m.T.k, .int .i64 m.T.n, .string m.T.s, .string m.T.u, .slice m.T.ao m.T.l.length m.T.cap, .int .i8 m.U.k, .int .i64 m.U.n, .string m.U.s, .string m.U.u, .slice m.U.ao m.U.l.length m.U.cap] 25)) w2.heap.size (i * 5) y := fun i y hi => by
    match i, hi with
    | 0, hi => simp at hi; subst hi; exact ⟨(cells_at n3 0 _ rfl).1, (cells_at n3 1 _ rfl).1, (cells_at n3 2 _ rfl).1, (cells_at n3 3 _ rfl).1, (cells_at n3 4 _ rfl).1⟩
    | 1, hi => simp at hi; subst hi; exact ⟨(cells_at n3 5 _ rfl).1, (cells_at n3 6 _ rfl).1, (cells_at n3 7 _ rfl).1, (cells_at n3 8 _ rfl).1, (cells_at n3 9 _ rfl).1⟩
    | 2, hi => simp at hi; subst hi; exact ⟨(cells_at n3 10 _ rfl).1, (cells_at n3 11 _ rfl).1, (cells_at n3 12 _ rfl).1, (cells_at n3 13 _ rfl).1, (cells_at n3 14 _ rfl).1⟩
    | i + 3, hi => simp at hi
  have HX3 := Lib.hid (And.intro hpt (And.intro (HX.out.1.keep hb3) (keepCells HX.out.2.2 hb3)))
  have HB3 := Lib.hid (HB2.out.trans (hb3.mono HB2.out.size))
  clear hb3 n3 hpt HX HB2 v0 v1 v2 v3 v4 t0 t1 t2 t3 t4 u0 u1 u2 u3 u4
  generalize w2.alloc (.cells #[.int .i8 m.V.k, .int .i64 m.V.n, .string m.V.s, .string m.V.u, .slice m.V.ao m.V.l.length m.V.cap, .int .i8 m.T.k, .int .i64 m.T.n, .string m.T.s, .string m.T.u, .slice m.T.ao m.T.l.length m.T.cap, .int .i8 m.U.k, .int .i64 m.U.n, .string m.U.s, .string m.U.u, .slice m.U.ao m.U.l.length m.U.cap] 25) = W3 at *
  generalize w2.heap.size = g at *
  go_loopw [3, 48] (fun ov iv wr => ∃ (i : Nat) (b : Bool), i ≤ 3 ∧ ov = .bool b ∧ iv = .int .i64 i ∧ Hid (Below W3.heap.size W3 wr ∧ (b && allB ([m.V, m.T, m.U].drop i)) = res))
    (fun _ iv _ => 3 - (intOf iv).toNat)
  case atStart => exact ⟨0, mb, by omega, rfl, rfl, Lib.hid ⟨Below.refl _ _, hR.symm⟩⟩
  case round =>
    obtain ⟨i, b, hi, rfl, rfl, HI⟩ := hrel
    by_cases hlt : i < 3
    · obtain ⟨y, hy⟩ : ∃ y, [m.V, m.T, m.U][i]? = some y := ⟨[m.V, m.T, m.U][i]'(by simpa using hlt), List.getElem?_eq_getElem _⟩
      have hstep := HI.out.2
      rw [drop_cons hy, allB] at hstep
      obtain ⟨y0, y1, y2, y3, y4⟩ := (HX3.out.1 i y hy).keep HI.out.1
      have hok := HX3.out.2.1.keep HI.out.1
      have hyok : TeOk M wr y := by
        have := List.mem_of_getElem? hy
        simp only [List.mem_cons, List.not_mem_nil, or_false] at this
        rcases this with rfl | rfl | rfl
        · exact hok.hV
        · exact hok.hT
        · exact hok.hU
      have HY := Lib.hid hyok
      have HST := Lib.hid hstep
      clear hstep hok hyok hy
      go_wp2_with (with_reducible refine stop_op (o := ⟨_, .store 25 (.tmp 5) (.tmp 51), _, _, _, _⟩) ?_)
      refine Lib.hid ?_
      refine wpList_store_new (o := ⟨none, _, _, _, _, _⟩) rfl 25 (.tmp 5) (.tmp 51) rfl #[.int .i8 y.k, .int .i64 y.n, .string y.s, .string y.u, .slice y.ao y.l.length y.cap] rfl rfl (infoTM' _ rfl) rfl (by simp [Value.oneCell']) ?_
      have hb4 := (Below.refl wr.heap.size wr).alloc (Nat.le_refl _) (.cells #[.int .i8 y.k, .int .i64 y.n, .string y.s, .string y.u, .slice y.ao y.l.length y.cap] 25)
      obtain ⟨z0, z1, z2, z3, z4⟩ := BxS.of (x := y) (heap_new wr (.cells #[.int .i8 y.k, .int .i64 y.n, .string y.s, .string y.u, .slice y.ao y.l.length y.cap] 25))
      have HY4 := Lib.hid (HY.out.keep hb4)
      have HB4 := Lib.hid (HI.out.1.trans (hb4.mono HI.out.1.size))
      clear hb4 y0 y1 y2 y3 y4 HY HI
      generalize wr.alloc (.cells #[.int .i8 y.k, .int .i64 y.n, .string y.s, .string y.u, .slice y.ao y.l.length y.cap] 25) = w4 at *
      generalize wr.heap.size = q at *
      cases b
      · have HF := Lib.hid (show res = false by rw [← HST.out]; rfl)
        clear HST
        go_wp2_with fail
        go_roundw
        case rel => exact ⟨i + 1, false, by omega, rfl, by go_num, Lib.hid ⟨HB4.out, by rw [HF.out]; rfl⟩⟩
        case measure => simp [intOf]; omega
      · have HE := Lib.hid (sempty_any w4 y)
        have HXY := Lib.hid (show (.agg y.cells.toArray : Value) = .agg #[.int .i8 y.k, .int .i64 y.n, .string y.s, .string y.u, .slice y.ao y.l.length y.cap] from rfl)
        rw [HXY.out] at HE
        go_wp2_with fail
        refine HE.out.mono ?_
        clear HE
        rintro e w5 ⟨rfl, hb5⟩
        have HB5 := Lib.hid (HB4.out.trans (hb5.mono HB4.out.size))
        have k0 := keep_cell z0 hb5
        have k1 := keep_cell z1 hb5
        have k2 := keep_cell z2 hb5
        have k3 := keep_cell z3 hb5
        have k4 := keep_cell z4 hb5
        have HCK := Lib.hid (check_any _ _ _ _ (keepCells (keepCells HX3.out.2.2 HB4.out) hb5) (HY4.out.keep hb5).tv.choose_spec)
        rw [HXY.out] at HCK
        clear hb5 z0 z1 z2 z3 z4 HY4 HB4
        have hT : termB y = (emB y || decide (checkN y.t = 0)) := rfl
        have HT := Lib.hid hT
        clear hT
        generalize emB y = em at *
        cases em
        · go_wp2_with fail
          refine HCK.out.mono ?_
          clear HCK
          rintro e w6 ⟨rfl, hb6⟩
          have HB6 := Lib.hid (HB5.out.trans (hb6.mono HB5.out.size))
          clear hb6 k0 k1 k2 k3 k4 HB5
          have HF := Lib.hid (show ((checkN y.t == 0) && allB ([m.V, m.T, m.U].drop (i + 1))) = res by rw [← HST.out, HT.out]; by_cases h : checkN y.t = 0 <;> simp [h])
          generalize checkN y.t = n at *
          clear HST HT
          go_wp2_with fail
          go_roundw
          case rel => exact ⟨i + 1, n == 0, by omega, rfl, by go_num, Lib.hid ⟨HB6.out, HF.out⟩⟩
          case measure => simp [intOf]; omega
        · have HF := Lib.hid (show (true && allB ([m.V, m.T, m.U].drop (i + 1))) = res by rw [← HST.out, HT.out]; simp)
          clear HST HT HCK k0 k1 k2 k3 k4
          go_wp2_with fail
          go_roundw
          case rel => exact ⟨i + 1, true, by omega, rfl, by go_num, Lib.hid ⟨HB5.out, HF.out⟩⟩
          case measure => simp [intOf]; omega
    · have hil : i = 3 := by omega
      subst hil
      have HF := Lib.hid (show res = b by rw [← HI.out.2]; simp [allB])
      go_wp2_with fail
      go_ret
      exact ⟨by rw [HF.out]; rfl, HB3.out.trans (HI.out.1.mono HB3.out.size)⟩
end Go.Proofs.YthpmdeofdlcccaaGreatDoor
namespace Go.Proofs.YthpmdeofdlcccaaGreatDoor
open Go.ChangeShapes Go.WideShapes Go.ChangeAt Go.RowKit
set_option linter.unusedVariables false
set_option linter.unusedSimpArgs false
set_option maxRecDepth 100000
/-- the cells of a frame of nothing -/
def frZ : List Value := [.int .i8 0, .int .i64 0, .int .i64 0, .slice none 0 0, .slice none 0 0, .slice none 0 0, .slice none 0 0, .int .i64 0, .int .i8 0, .int .i64 0, .int .i64 0, .int .i64 0, .int .i64 0, .int .i8 0, .int .i64 0, .string ⟨#[]⟩, .string ⟨#[]⟩, .slice none 0 0, .int .i8 0, .int .i64 0, .string ⟨#[]⟩, .string ⟨#[]⟩, .slice none 0 0, .int .i8 0, .int .i64 0, .string ⟨#[]⟩, .string ⟨#[]⟩, .slice none 0 0, .slice none 0 0, .int .i8 0, .int .i64 0, .int .i64 0, .slice none 0 0, .slice none 0 0, .slice none 0 0]
def chZ : Ch := ⟨numT 0 0, 0, 0, 0, ⟨#[]⟩, ⟨#[]⟩, none, 0, 0, none, 0, 0⟩
/-- an effect -/
structure Ef where
  kd : Int
  rc : Int
  T : TE
  C : Ch
def efL (x : Ef) : List Value := [.int .i8 x.kd, .int .i64 x.rc, .int .i64 0, .int .i8 x.T.k, .int .i64 x.T.n, .string x.T.s, .string x.T.u, .slice x.T.ao x.T.l.length x.T.cap, .int .i8 0, .int .i64 0, .string ⟨#[]⟩, .string ⟨#[]⟩, .slice none 0 0,
  .int .i8 x.C.id.k, .int .i64 x.C.id.n, .string x.C.id.s, .string x.C.id.u, .slice x.C.id.ao x.C.id.l.length x.C.id.cap, .int .i8 x.C.ki, .int .i8 x.C.re, .int .i64 x.C.sh, .string x.C.m, .string x.C.f, .slice x.C.ao x.C.an x.C.ac, .slice x.C.so x.C.sn x.C.sc, .int .i8 0] ++ frZ
theorem efL_len (x : Ef) : (efL x).length = 61 := rfl
theorem efL_one (x : Ef) : ∀ v ∈ efL x, v.oneCell' = true := by
  intro v hv
  simp only [efL, frZ, List.cons_append, List.nil_append, List.mem_cons, List.not_mem_nil, or_false] at hv
  rcases hv with rfl | rfl | rfl | rfl | rfl | rfl | rfl | rfl | rfl | rfl | rfl | rfl | rfl | rfl | rfl | rfl | rfl | rfl | rfl | rfl | rfl | rfl | rfl | rfl | rfl | rfl | rfl | rfl | rfl | rfl | rfl | rfl | rfl | rfl | rfl | rfl | rfl | rfl | rfl | rfl | rfl | rfl | rfl | rfl | rfl | rfl | rfl | rfl | rfl | rfl | rfl | rfl | rfl | rfl | rfl | rfl | rfl | rfl | rfl | rfl | rfl <;> rfl
def efs (E : List Ef) : List Value := E.flatMap efL
theorem efs_len (E : List Ef) : (efs E).length = E.length * 61 := by
  induction E with
  | nil => rfl
  | cons x E ih =>
    have e : efs (x :: E) = efL x ++ efs E := rfl
    rw [e, List.length_append, ih, efL_len, List.length_cons]
    omega
theorem infoEF {cs : Array Value} (h : cs.size = 61) : (Tryz.prog.info? 72).map (·.size) = some cs.size := by
  have : (Tryz.prog.info? 72).map (·.size) = some 61 := by kernel_rfl
  rw [this, h]
theorem infoEF2 : ∃ i z, Tryz.prog.info? 72 = some i ∧ i.zero = some z ∧ i.size = 61 ∧ i.bytes ≤ 1000 ∧ z.cells.size = 61 := by
  have hi : (Tryz.prog.info? 72).map (fun i => (i.zero.map (fun z => z.cells.size), i.size, decide (i.bytes ≤ 1000))) = some (some 61, 61, true) := by kernel_rfl
  cases h : Tryz.prog.info? 72 with
  | none => rw [h] at hi; cases hi
  | some i =>
    rw [h] at hi
    simp only [Option.map_some, Option.some.injEq, Prod.mk.injEq, decide_eq_true_eq] at hi
    obtain ⟨h1, h2, h3⟩ := hi
    cases hz : i.zero with
    | none => rw [hz] at h1; cases h1
    | some z => rw [hz] at h1; exact ⟨i, z, rfl, hz, h2, h3, by simpa using h1⟩
theorem exec_row {P : Program} {op : Oper} {a : Act} {w : World} (ty : TypeId) (x : Operand) (ho : op.op = .load ty x) (b : Nat) (hx : a.eval x = .pointer (some ⟨b, 0, none⟩)) (cs : Array Value) (t : TypeId) (fr : Nat × Nat) (d : TypeDesc)
    (hg : w.heap[b]? = some (.cells cs t fr)) (hu : P.underlying ty = some d) (hd : d.isRow = true) (hi : (P.info? ty).map (·.size) = some cs.size) : (execOp a.eval op).run P w = .ok (.value (.agg cs)) w := by
  have hr : w.rangeAt b 0 cs.toList := fun j v hj => by
    rw [Nat.zero_add]
    simpa [World.cell?, hg] using hj
  have := run_loadVar_mid (P := P) w b 0 ty cs.toList d hr hu hd (by simpa using hi)
  unfold execOp
  simp only [ho, hx, Instr.loadAt, Instr.sureAddr, Sem.run_bind, Sem.run_pure, Result.andThen_ok, this]
theorem foldz : ∀ (l : List Value) (k : Nat) (z : Array Value), k + l.length = z.size → (l.zipIdx k).foldl (fun (a : Array Value) x => a.setIfInBounds x.2 x.1) z = (z.toList.take k ++ l).toArray
  | [], k, z, h => by
    simp only [List.zipIdx_nil, List.foldl_nil, List.append_nil]
    rw [List.take_of_length_le (by simp at h ⊢; omega)]
  | v :: r, k, z, h => by
    rw [List.length_cons] at h
    rw [List.zipIdx_cons, List.foldl_cons, foldz r (k + 1) _ (by simp; omega)]
    have hl : k < z.toList.length := by simp; omega
    have e : (z.setIfInBounds k v).toList.take (k + 1) = z.toList.take k ++ [v] := by
      rw [Array.toList_setIfInBounds, List.take_set, List.take_add_one, List.getElem?_eq_getElem hl, Option.toList_some]
      have hlen : (List.take k z.toList).length = k := by rw [List.length_take]; omega
      rw [List.set_append, if_neg (by omega), hlen, Nat.sub_self]
      rfl
    rw [e, List.append_assoc]
    rfl
theorem foldza (z cs : Array Value) (h : z.size = cs.size) : Array.foldl (fun (a : Array Value) x => a.setIfInBounds x.snd x.fst) z (cs.zipIdx 0) 0 cs.size = cs := by
  obtain ⟨l⟩ := cs
  have h2 := foldz l 0 z (by simpa using h.symm)
  have h3 : (l.toArray.zipIdx 0).size = l.length := by simp
  simp only [List.size_toArray] at *
  rw [← h3, ← Array.foldl_toList]
  simpa using h2
def BoxS (b : Nat) (cs : Array Value) (t : TypeId) (W : World) : Prop := W.heap[b]? = some (.cells cs t (0, 0))
theorem run_build_eff (cs : Array Value) (hs : cs.size = 61) (w : World) : (Instr.buildSlice 67 1 #[(0, .agg cs)]).run Tryz.prog w = .ok (.slice (some ⟨w.heap.size, 0, none⟩) 1 1) (w.alloc (.cells cs 72)) := by
  unfold Instr.buildSlice
  go_simp
  have e := foldza (efL ⟨0, 0, numT 0 0, chZ⟩).toArray cs (by rw [hs]; rfl)
  rw [hs] at e
  exact congrArg (fun c => w.alloc (.cells c 72)) e
theorem op_build_eff {o : Oper} {a : Act} {w : World} {K : Act → World → Prop} {Q : Exit → Act → World → Prop} (x : Operand) (ho : o.op = .buildSlice 67 1 #[(0, x)]) (cs : Array Value) (hx : a.eval x = .agg cs) (hs : cs.size = 61)
    (h : K (a.put o.dst (.slice (some ⟨w.heap.size, 0, none⟩) 1 1)) (w.alloc (.cells cs 72))) : o.wp Tryz.prog a w K Q := by
  unfold Oper.wp execOp
  simp only [ho, List.map_toArray, List.map_cons, List.map_nil, hx, run_build_eff cs hs w, Sem.run_bind, Result.andThen_ok, Sem.run_pure]
  exact h
/-- the unit that is under way: 38 cells, then its effects -/
structure UnOk (w : World) (ub : Nat) (cs : List Value) (ev : Value) (E : List Ef) : Prop where
  hU : w.heap[ub]? = some (.cells (cs ++ [ev]).toArray 88 (0, 0))
  hcs : cs.length = 38
  hown : w.ownsRow (ub + 1) 72 61 ev E.length (efs E)
theorem UnOk.keep {w w' : World} {ub : Nat} {cs : List Value} {ev : Value} {E : List Ef} (h : UnOk w ub cs ev E) (hb : Below w.heap.size w w') : UnOk w' ub cs ev E :=
  ⟨keep_heap h.hU hb, h.hcs, own_keep h.hown hb⟩
theorem UnOk.cell {w : World} {ub : Nat} {cs : List Value} {ev : Value} {E : List Ef} (h : UnOk w ub cs ev E) {i : Nat} {v : Value} (hv : cs[i]? = some v) : w.cell? ⟨ub, i, none⟩ = some v := by
  have hi : i < cs.length := (List.getElem?_eq_some_iff.1 hv).1
  refine (cells_at h.hU i v ?_).1
  rw [List.getElem?_toArray, List.getElem?_append_left hi]
  exact hv
theorem UnOk.ev {w : World} {ub : Nat} {cs : List Value} {ev : Value} {E : List Ef} (h : UnOk w ub cs ev E) : w.cell? ⟨ub, 38, none⟩ = some ev := by
  refine (cells_at h.hU 38 ev ?_).1
  rw [List.getElem?_toArray, List.getElem?_append_right (by rw [h.hcs]; omega), h.hcs]
  rfl
/-- the blocks of a unit -/
def UnB (ub : Nat) (ev : Value) (k : Nat) : Prop := k = ub ∨ ev.ownBlock = some k
def EfS (ub q : Nat) (ev : Value) (cs : Array Value) (W : World) : Prop := W.cell? ⟨ub, 38, none⟩ = some ev ∧ W.heap[q]? = some (.cells cs 72 (0, 0))
def EffP (w : World) (ub : Nat) (cs : List Value) (ev : Value) (E : List Ef) (x : Ef) (e : Ending) (w' : World) : Prop :=
  (∃ v, e = .returned v) ∧ ∃ ev', UnOk w' ub cs ev' (E ++ [x]) ∧ Chg (UnB ub ev) w w' ∧ (∀ k, k < w.heap.size → ev'.ownBlock = some k → ev.ownBlock = some k)
set_option maxHeartbeats 4000000 in
theorem effect_any (w : World) (ub : Nat) (cs : List Value) (ev : Value) (E : List Ef) (x : Ef) (h : UnOk w ub cs ev E) (hn : E.length ≤ 1000) : Calls Tryz.prog 74 #[.pointer (some ⟨ub, 0, none⟩), .agg (efL x).toArray] w (EffP w ub cs ev E x) := by
  have hlt := heap_lt h.hU
  have hb1 := (Below.refl w.heap.size w).alloc (Nat.le_refl _) (.cells (efL x).toArray 72)
  have n1 := heap_new w (.cells (efL x).toArray 72)
  have HH := Lib.hid (And.intro hb1 (And.intro n1 (And.intro (h.keep hb1) (And.intro hlt h))))
  clear hb1 n1 h
  obtain ⟨eo, ec, rfl⟩ := own_slice HH.out.2.2.1.hown
  go_enter Tryz.func74, Tryz.ntmps74
  go_wp2_with fail
  generalize w.alloc (.cells (efL x).toArray 72) = w1 at *
  have hdr : Below w1.heap.size w1 w1.drew := (Below.refl _ _).drew
  have hu := HH.out.2.2.1.keep hdr
  have hS : EfS ub w.heap.size (.slice eo E.length ec) (efL x).toArray w1.drew := ⟨hu.ev, keep_heap HH.out.2.1 hdr⟩
  have hB := HH.out.1.trans (hdr.mono HH.out.1.size)
  refine region_planZ 10 (EfS ub w.heap.size (.slice eo E.length ec) (efL x).toArray) [(0, 0), (1, 0), (2, 0), (3, 0), (4, 0), (5, 0), (6, 1), (7, 1), (8, 1), (9, 0), (10, 1)] (by kernel_rfl) (by kernel_rfl) (by kernel_rfl) hS ?_
  generalize w1.drew = WD at *
  clear hdr
  iterate 5 (first | (refine planZ_skip rfl ?_ ?_; (focus (rfl)); (try simp only [Act.put, List.setIfInBounds_toArray, List.set_cons_zero, List.set_cons_succ])) | (refine planZ_take (v := ?_) rfl ?_ (fun w hSw => ?_) ?_; rotate_left; (focus (rfl)); (focus (unfold EfS at hSw; (go_simp <;> with_reducible rfl))); (try simp only [Act.put, List.setIfInBounds_toArray, List.set_cons_zero, List.set_cons_succ])))
  refine planZ_take rfl ?_ (fun wS hSw => exec_row 72 (.tmp 3) rfl w.heap.size rfl (efL x).toArray 72 (0, 0) _ hSw.2 Tryz.underlying72 rfl (infoEF (by simp [efL_len]))) ?_
  focus (rfl)
  (try simp only [Act.put, List.setIfInBounds_toArray, List.set_cons_zero, List.set_cons_succ])
  obtain ⟨i0, z0, i1, i2, i3, i4, i5⟩ := infoEF2
  have hb2 := (Below.refl WD.heap.size WD).alloc (Nat.le_refl _) (.cells (efL x).toArray 72)
  have n2 := heap_new WD (.cells (efL x).toArray 72)
  have hu2 := hu.keep hb2
  have hB2 := hB.trans (hb2.mono hB.size)
  have hS2 : EfS ub w.heap.size (.slice eo E.length ec) (efL x).toArray (WD.alloc (.cells (efL x).toArray 72)) := ⟨keep_cell hS.1 hb2, keep_heap hS.2 hb2⟩
  refine planZ_run rfl ?_ (fun K hK => ?_)
  focus (rfl)
  refine op_build_eff (.tmp 9) rfl (efL x).toArray rfl (by simp [efL_len]) ?_
  refine hK.out _ _ (fun _ => hS2) ?_
  clear hK K
  (try simp only [Act.put, List.setIfInBounds_toArray, List.set_cons_zero, List.set_cons_succ])
  have hq2 : w.heap.size < (WD.alloc (.cells (efL x).toArray 72)).heap.size := heap_lt hS2.2
  clear hS hu hB hb2
  generalize WD.alloc (.cells (efL x).toArray 72) = W2 at *
  generalize WD.heap.size = g at *
  refine planZ_run rfl ?_ (fun K hK => ?_)
  focus (rfl)
  refine op_append_any (.tmp 8) (.tmp 10) 67 rfl (ub + 1) 72 i0 z0 61 _ Tryz.underlying67 i1 i2 i3 rfl i5 (by decide) (.slice eo E.length ec) E.length (efs E) rfl hu2.hown (some ⟨g, 0, none⟩) 1 1 (efL x) rfl rfl (fun e => by cases e) (fun ad e j u hj => by
    injection e with e
    subst e
    rw [Addr.add_lit, Nat.zero_add]
    exact (cells_at n2 j u (by rw [List.getElem?_toArray]; exact hj)).1) (efL_one x) (by unfold maxLen; omega) (Nat.le_trans (Nat.mul_le_mul (show E.length + 1 ≤ 1001 by omega) i4) (by decide)) (by have := HH.out.2.2.2.1; omega) ?_
  intro v3 W3 hown3 hg3 hwh3
  obtain ⟨uo, uc, rfl⟩ := own_slice hown3
  have hc3 := chg_grown hg3
  have hub3 : ∀ k, Value.ownBlock (.slice eo E.length ec) = some k → k ≠ ub := fun k hk e => by
    have := own_base hu2.hown k hk
    omega
  have hold : ∀ k, Value.ownBlock (.slice eo E.length ec) = some k → k < w.heap.size := own_lt HH.out.2.2.2.2.hown (Nat.le_refl _)
  have hU3 := hc3.heap hu2.hU (fun e => hub3 _ e.symm rfl)
  have hS3 : EfS ub w.heap.size (.slice eo E.length ec) (efL x).toArray W3 := ⟨hc3.cell hS2.1 (fun e => hub3 _ e.symm rfl), hc3.heap hS2.2 (fun e => Nat.lt_irrefl _ (hold _ e.symm))⟩
  refine hK.out _ _ (fun _ => hS3) ?_
  clear hK K
  (try simp only [Act.put, List.setIfInBounds_toArray, List.set_cons_zero, List.set_cons_succ])
  refine planZ_run rfl ?_ (fun K hK => ?_)
  focus (rfl)
  go_simp
  refine hK.out _ _ (fun _ => hS3) ?_
  clear hK K
  (try simp only [Act.put, List.setIfInBounds_toArray, List.set_cons_zero, List.set_cons_succ])
  iterate 1 (first | (refine planZ_skip rfl ?_ ?_; (focus (rfl)); (try simp only [Act.put, List.setIfInBounds_toArray, List.set_cons_zero, List.set_cons_succ])) | (refine planZ_take (v := ?_) rfl ?_ (fun w hSw => ?_) ?_; rotate_left; (focus (rfl)); (focus (unfold EfS at hSw; (go_simp <;> with_reducible rfl))); (try simp only [Act.put, List.setIfInBounds_toArray, List.set_cons_zero, List.set_cons_succ])))
  have c38 := hS3.1
  have hf38 := (cells_at hU3 38 (.slice eo E.length ec) (by rw [List.getElem?_toArray, List.getElem?_append_right (by rw [hu2.hcs]; omega), hu2.hcs]; rfl)).2
  refine planZ_run rfl ?_ (fun K hK => ?_)
  focus (rfl)
  go_simp
  refine hK.out _ _ (fun h => absurd rfl h) ?_
  clear hK K
  (try simp only [Act.put, List.setIfInBounds_toArray, List.set_cons_zero, List.set_cons_succ])
  refine planZ_done ?_
  have hc4 : Chg (fun k => k = ub) W3 (W3.setCell ⟨ub, 38, none⟩ (.slice uo (E.length + 1) uc)) := chg_set (p := ⟨ub, 38, none⟩) _
  have hnew : ∀ k, Value.ownBlock (.slice uo (E.length + 1) uc) = some k → k ≠ ub := fun k hk e => by
    have := own_base hown3 k hk
    omega
  have hfin : UnOk (W3.setCell ⟨ub, 38, none⟩ (.slice uo (E.length + 1) uc)) ub cs (.slice uo (E.length + 1) uc) (E ++ [x]) := by
    refine ⟨?_, hu2.hcs, ?_⟩
    · have := set_at (i := 38) hU3 (.slice uo (E.length + 1) uc)
      rw [this]
      congr 2
      apply Array.ext'
      rw [Array.toList_setIfInBounds]
      show (cs ++ [Value.slice eo E.length ec]).set 38 (.slice uo (E.length + 1) uc) = _
      rw [List.set_append_right _ _ (by rw [hu2.hcs]; omega), hu2.hcs]
      rfl
    · have e1 : (E ++ [x]).length = E.length + 1 := by simp
      have e2 : efs (E ++ [x]) = efs E ++ efL x := by simp [efs]
      rw [e1, e2]
      exact own_chg hown3 hc4 hnew
  have hchg : Chg (UnB ub (.slice eo E.length ec)) w (W3.setCell ⟨ub, 38, none⟩ (.slice uo (E.length + 1) uc)) := by
    have h1 : Chg (UnB ub (.slice eo E.length ec)) w W2 := chg_of_below hB2 _
    refine (h1.trans (hc3.mono fun k _ hk => .inr hk.symm)).trans (hc4.mono fun k _ hk => .inl hk)
  have hnb : ∀ k, k < w.heap.size → Value.ownBlock (.slice uo (E.length + 1) uc) = some k → Value.ownBlock (.slice eo E.length ec) = some k := fun k hk e => by
    rcases hwh3 with h | h
    · rw [← h]; exact e
    · rw [h] at e
      injection e with e
      omega
  have HF := Lib.hid (And.intro hfin (And.intro hchg hnb))
  clear hnb hfin hchg hc4 hnew hown3 hg3 hwh3 hc3 hub3 hold hU3 hS3 c38 hf38 hS2 hu2 hB2 n2
  go_wp2_with fail
  go_end0
  exact ⟨⟨_, rfl⟩, _, HF.out⟩
end Go.Proofs.YthpmdeofdlcccaaGreatDoor
namespace Go.Proofs.YthpmdeofdlcccaaGreatDoor
open Go.ChangeShapes Go.WideShapes Go.ChangeAt Go.RowKit
set_option linter.unusedVariables false
set_option linter.unusedSimpArgs false
set_option maxRecDepth 100000
/-- what a server finds -/
structure Inn where
  now : Int
  self : Int
  mo : Option Addr
  mn : Nat
  mc : Nat
  cls : Int
  some : Bool
  got : TE
def innL (i : Inn) : List Value := [.int .i64 i.now, .int .i64 i.self, .slice i.mo i.mn i.mc, .int .i8 i.cls, .bool i.some, .int .i8 i.got.k, .int .i64 i.got.n, .string i.got.s, .string i.got.u, .slice i.got.ao i.got.l.length i.got.cap, .int .i64 0]
def unL (m : Mc) (i : Inn) : List Value := mcL m ++ innL i
theorem unL_len (m : Mc) (i : Inn) : (unL m i).length = 38 := rfl
/-- a step of the unit -/
def UnP (w : World) (ub : Nat) (ev : Value) (cs' : List Value) (E' : List Ef) (e : Ending) (w' : World) : Prop :=
  (∃ v, e = .returned v) ∧ ∃ ev', UnOk w' ub cs' ev' E' ∧ Chg (UnB ub ev) w w' ∧ (∀ k, k < w.heap.size → ev'.ownBlock = some k → ev.ownBlock = some k)
theorem un_trans {w w1 w2 : World} {ub : Nat} {ev ev1 : Value} (h1 : Chg (UnB ub ev) w w1) (hn : ∀ k, k < w.heap.size → ev1.ownBlock = some k → ev.ownBlock = some k) (h2 : Chg (UnB ub ev1) w1 w2) : Chg (UnB ub ev) w w2 := by
  have a := h1.mono (T := fun k => UnB ub ev k ∨ w.heap.size ≤ k) fun k _ h => .inl h
  have b := h2.mono (T := fun k => UnB ub ev k ∨ w.heap.size ≤ k) fun k _ h => by
    rcases h with h | h
    · exact .inl (.inl h)
    · by_cases hk : k < w.heap.size
      · exact .inl (.inr (hn k hk h))
      · exact .inr (by omega)
  exact (a.trans b).mono fun k hk h => h.resolve_right (by omega)
theorem UnOk.set {w : World} {ub : Nat} {cs : List Value} {ev : Value} {E : List Ef} (h : UnOk w ub cs ev E) (i : Nat) (v : Value) (hi : i < 38) : UnOk (w.setCell ⟨ub, i, none⟩ v) ub (cs.set i v) ev E := by
  refine ⟨?_, by rw [List.length_set]; exact h.hcs, own_chg h.hown (chg_set (p := ⟨ub, i, none⟩) v) fun k hk e => ?_⟩
  · rw [set_at h.hU]
    congr 2
    apply Array.ext'
    rw [Array.toList_setIfInBounds]
    show (cs ++ [ev]).set i v = _
    rw [List.set_append_left _ _ (by rw [h.hcs]; exact hi)]
  · have e : k = ub := e
    have := own_base h.hown k hk
    omega
def setL : List Value → Nat → List Value → List Value
  | cs, _, [] => cs
  | cs, o, v :: r => setL (cs.set o v) (o + 1) r
theorem UnOk.setL {ub : Nat} {ev : Value} {E : List Ef} : ∀ (vs : List Value) (o : Nat) {w : World} {cs : List Value}, UnOk w ub cs ev E → o + vs.length ≤ 38 → UnOk (w.setCells ub o vs) ub (setL cs o vs) ev E
  | [], _, _, _, h, _ => h
  | v :: r, o, w, cs, h, hl => by
    simp only [List.length_cons] at hl
    exact UnOk.setL r (o + 1) (h.set o v (by omega)) (by omega)
theorem chg_cells : ∀ (vs : List Value) (b o : Nat) (w : World), Chg (fun k => k = b) w (w.setCells b o vs)
  | [], _, _, w => Chg.refl _ w
  | v :: r, b, o, w => (chg_set (w := w) (p := ⟨b, o, none⟩) v).trans (chg_cells r b (o + 1) _)
theorem UnOk.there {w : World} {ub : Nat} {cs : List Value} {ev : Value} {E : List Ef} (h : UnOk w ub cs ev E) {o n : Nat} (hn : o + n ≤ 38) : w.there ub o n := fun j hj => by
  have hi : o + j < cs.length := by rw [h.hcs]; omega
  have hv : (cs ++ [ev]).toArray[o + j]? = some (cs[o + j]'hi) := by
    rw [List.getElem?_toArray, List.getElem?_append_left hi, List.getElem?_eq_getElem hi]
  have := cells_at h.hU (o + j) _ hv
  exact ⟨by rw [this.1]; rfl, this.2⟩
theorem UnOk.frozen {w : World} {ub : Nat} {cs : List Value} {ev : Value} {E : List Ef} (h : UnOk w ub cs ev E) {i : Nat} {v : Value} (hv : cs[i]? = some v) : w.frozen? ⟨ub, i, none⟩ = false := by
  have hi : i < cs.length := (List.getElem?_eq_some_iff.1 hv).1
  exact (cells_at h.hU i v (by rw [List.getElem?_toArray, List.getElem?_append_left hi]; exact hv)).2
/-- a step within a step -/
theorem UnP.after {w w1 : World} {ub : Nat} {ev ev1 : Value} {cs' : List Value} {E' : List Ef} {e : Ending} {w' : World} (h : UnP w1 ub ev1 cs' E' e w') (h1 : Chg (UnB ub ev) w w1) (hn : ∀ k, k < w.heap.size → ev1.ownBlock = some k → ev.ownBlock = some k) : UnP w ub ev cs' E' e w' := by
  obtain ⟨hv, ev', hu, hc, hb⟩ := h
  exact ⟨hv, ev', hu, un_trans h1 hn hc, fun k hk e => hn k hk (hb k (Nat.lt_of_lt_of_le hk h1.size) e)⟩
/-- a callback -/
def callE (c : Ch) (f : ByteArray) (ao : Option Addr) (n cap : Nat) : Ef := ⟨10, 0, numT 0 0, { chZ with ki := 1, m := c.m, f := f, ao := ao, an := n, ac := cap }⟩
set_option maxHeartbeats 4000000 in
theorem back_any (w : World) (ub : Nat) (m : Mc) (i : Inn) (c : Ch) (ev : Value) (E : List Ef) (h : UnOk w ub (unL m i) ev E) (hr : w.heap[m.rb]? = some (.cells (rcL c).toArray 64 (0, 0))) (hne : m.rb ≠ ub) (hn : E.length ≤ 100)
    (f : ByteArray) (ph : Int) (ao : Option Addr) (n cap : Nat) : Calls Tryz.prog 70 #[.pointer (some ⟨ub, 0, none⟩), .string f, .int .i8 ph, .slice ao n cap] w (UnP w ub ev (unL { m with ph := ph } i) (E ++ [callE c f ao n cap])) := by
  have x0 : w.cell? ⟨ub, 0, none⟩ = some (.int .i8 m.ph) := h.cell (i := 0) rfl
  have f0 : w.frozen? ⟨ub, 0, none⟩ = false := h.frozen (i := 0) (v := .int .i8 m.ph) rfl
  have HL := Lib.hid (heap_lt h.hU)
  have HH := Lib.hid (And.intro h hr)
  have hs := h.set 0 (.int .i8 ph) (by omega)
  have hc := chg_set (w := w) (p := ⟨ub, 0, none⟩) (.int .i8 ph)
  have hs2 : UnOk (w.setCell ⟨ub, 0, none⟩ (.int .i8 ph)) ub (unL { m with ph := ph } i) ev E := hs
  have hr2 := hc.heap hr hne
  have x20 := hs2.cell (i := 20) (v := .slice (some ⟨m.rb, 0, none⟩) 1 1) rfl
  have r8 : (w.setCell ⟨ub, 0, none⟩ (.int .i8 ph)).cell? ⟨m.rb, 8, none⟩ = some (.string c.m) := (cells_at hr2 8 _ rfl).1
  have HC := Lib.hid (effect_any _ ub _ ev E (callE c f ao n cap) hs2 (by omega))
  have HG := Lib.hid (hc.mono (T := UnB ub ev) fun k _ hk => .inl hk)
  clear h hr hs hc hs2 hr2
  go_enter Tryz.func70, Tryz.ntmps70
  go_wp2_with fail
  refine HC.out.mono ?_
  clear HC
  rintro e w2 hP
  have HP := Lib.hid (UnP.after (w := w) (ev := ev) hP HG.out (fun _ _ h => h))
  obtain ⟨⟨v, rfl⟩, -⟩ := hP
  clear x0 f0 x20 r8
  go_wp2_with fail
  go_end0
  exact ⟨⟨_, rfl⟩, HP.out.2⟩
def iniS : ByteArray := ⟨#[105, 110, 105, 116]⟩
def terS : ByteArray := ⟨#[116, 101, 114, 109, 105, 110, 97, 116, 101]⟩
set_option maxHeartbeats 4000000 in
theorem begin_any (w : World) (ub : Nat) (m : Mc) (i : Inn) (c : Ch) (ev : Value) (E : List Ef) (h : UnOk w ub (unL m i) ev E) (hr : w.heap[m.rb]? = some (.cells (rcL c).toArray 64 (0, 0))) (hne : m.rb ≠ ub) (hn : E.length ≤ 100) :
    Calls Tryz.prog 46 #[.pointer (some ⟨ub, 0, none⟩)] w (UnP w ub ev (unL { m with ph := 1 } i) (E ++ [callE c iniS c.ao c.an c.ac])) := by
  have x20 := h.cell (i := 20) (v := .slice (some ⟨m.rb, 0, none⟩) 1 1) rfl
  have r10 : w.cell? ⟨m.rb, 10, none⟩ = some (.slice c.ao c.an c.ac) := (cells_at hr 10 _ rfl).1
  have HC := Lib.hid (back_any w ub m i c ev E h hr hne hn iniS 1 c.ao c.an c.ac)
  have HL := Lib.hid (heap_lt h.hU)
  clear h hr
  go_enter Tryz.func46, Tryz.ntmps46
  go_wp2_with fail
  refine HC.out.mono ?_
  clear HC
  rintro e w2 hP
  have HP := Lib.hid hP
  obtain ⟨⟨v, rfl⟩, -⟩ := hP
  clear x20 r10
  go_wp2_with fail
  go_end0
  exact ⟨⟨_, rfl⟩, HP.out.2⟩
def endE (x : TE) : Ef := ⟨13, 0, x, chZ⟩
set_option maxHeartbeats 4000000 in
theorem uend_any (w : World) (ub : Nat) (m : Mc) (i : Inn) (ev : Value) (E : List Ef) (h : UnOk w ub (unL m i) ev E) (hn : E.length ≤ 100) :
    Calls Tryz.prog 51 #[.pointer (some ⟨ub, 0, none⟩)] w (UnP w ub ev (unL m i) (E ++ [endE m.U])) := by
  have u0 := h.cell (i := 10) (v := .int .i8 m.U.k) rfl
  have u1 := h.cell (i := 11) (v := .int .i64 m.U.n) rfl
  have u2 := h.cell (i := 12) (v := .string m.U.s) rfl
  have u3 := h.cell (i := 13) (v := .string m.U.u) rfl
  have u4 := h.cell (i := 14) (v := .slice m.U.ao m.U.l.length m.U.cap) rfl
  have HC := Lib.hid (effect_any w ub _ ev E (endE m.U) h (by omega))
  have HL := Lib.hid (heap_lt h.hU)
  clear h
  go_enter Tryz.func51, Tryz.ntmps51
  go_wp2_with fail
  refine HC.out.mono ?_
  clear HC
  rintro e w2 hP
  have HP := Lib.hid hP
  obtain ⟨⟨v, rfl⟩, -⟩ := hP
  clear u0 u1 u2 u3 u4
  go_wp2_with fail
  go_end0
  exact ⟨⟨_, rfl⟩, HP.out.2⟩
def UvS (ub : Nat) (U V : TE) (W : World) : Prop := W.cell? ⟨ub, 10, none⟩ = some (.int .i8 U.k) ∧ W.cell? ⟨ub, 11, none⟩ = some (.int .i64 U.n) ∧ W.cell? ⟨ub, 12, none⟩ = some (.string U.s) ∧ W.cell? ⟨ub, 13, none⟩ = some (.string U.u) ∧ W.cell? ⟨ub, 14, none⟩ = some (.slice U.ao U.l.length U.cap) ∧
  W.cell? ⟨ub, 15, none⟩ = some (.int .i8 V.k) ∧ W.cell? ⟨ub, 16, none⟩ = some (.int .i64 V.n) ∧ W.cell? ⟨ub, 17, none⟩ = some (.string V.s) ∧ W.cell? ⟨ub, 18, none⟩ = some (.string V.u) ∧ W.cell? ⟨ub, 19, none⟩ = some (.slice V.ao V.l.length V.cap)
theorem UvS.of {w : World} {ub : Nat} {m : Mc} {i : Inn} {ev : Value} {E : List Ef} (h : UnOk w ub (unL m i) ev E) : UvS ub m.U m.V w :=
  ⟨h.cell (i := 10) rfl, h.cell (i := 11) rfl, h.cell (i := 12) rfl, h.cell (i := 13) rfl, h.cell (i := 14) rfl, h.cell (i := 15) rfl, h.cell (i := 16) rfl, h.cell (i := 17) rfl, h.cell (i := 18) rfl, h.cell (i := 19) rfl⟩
/-- a row of terms in a new block that is handed to a callback -/
def RowAt (w : World) (g : Nat) (L : List TE) : Prop := w.heap[g]? = some (.cells (tcs L).toArray 25 (0, 0))
/-- a callback's step: where its arguments lie -/
def CbP (w : World) (ub : Nat) (ev : Value) (cs' : List Value) (E : List Ef) (c : Ch) (f : ByteArray) (L : List TE) (e : Ending) (w' : World) : Prop :=
  ∃ g, w.heap.size ≤ g ∧ RowAt w' g L ∧ UnP w ub ev cs' (E ++ [callE c f (some ⟨g, 0, none⟩) L.length L.length]) e w'
set_option maxHeartbeats 4000000 in
theorem terminate_any (w : World) (ub : Nat) (m : Mc) (i : Inn) (c : Ch) (ev : Value) (E : List Ef) (h : UnOk w ub (unL m i) ev E) (hr : w.heap[m.rb]? = some (.cells (rcL c).toArray 64 (0, 0))) (hne : m.rb ≠ ub) (hn : E.length ≤ 100) :
    Calls Tryz.prog 50 #[.pointer (some ⟨ub, 0, none⟩)] w (CbP w ub ev (unL { m with ph := 6 } i) E c terS [m.U, m.V]) := by
  have HL := Lib.hid (heap_lt h.hU)
  have hdr : Below w.heap.size w w.drew := (Below.refl _ _).drew
  have HH := Lib.hid (And.intro (h.keep hdr) (keep_heap hr hdr))
  have hS := UvS.of (h.keep hdr)
  have HB := Lib.hid hdr
  clear h hr hdr
  go_enter Tryz.func50, Tryz.ntmps50
  refine region_plan (UvS ub m.U m.V) [(0, 0), (1, 0), (2, 0), (3, 0), (4, 0), (5, 0), (6, 0), (7, 0), (8, 0), (9, 0), (10, 0), (11, 1), (12, 1)] (by kernel_rfl) (by kernel_rfl) (by kernel_rfl) hS ?_
  generalize w.drew = WD at *
  iterate 11 (first | (refine plan_skip rfl ?_ ?_; (focus (rfl)); (try simp only [Act.put, List.setIfInBounds_toArray, List.set_cons_zero, List.set_cons_succ])) | (refine plan_take (v := ?_) rfl ?_ (fun w hSw => ?_) ?_; rotate_left; (focus (rfl)); (focus (unfold UvS at hSw; (go_simp <;> with_reducible rfl))); (try simp only [Act.put, List.setIfInBounds_toArray, List.set_cons_zero, List.set_cons_succ])))
  have hb2 := (Below.refl WD.heap.size WD).alloc (Nat.le_refl _) (.cells #[.int .i8 m.U.k, .int .i64 m.U.n, .string m.U.s, .string m.U.u, .slice m.U.ao m.U.l.length m.U.cap, .int .i8 m.V.k, .int .i64 m.V.n, .string m.V.s, .string m.V.u, .slice m.V.ao m.V.l.length m.V.cap] 25)
  have hS2 : UvS ub m.U m.V (WD.alloc (.cells #[.int .i8 m.U.k, .int .i64 m.U.n, .string m.U.s, .string m.U.u, .slice m.U.ao m.U.l.length m.U.cap, .int .i8 m.V.k, .int .i64 m.V.n, .string m.V.s, .string m.V.u, .slice m.V.ao m.V.l.length m.V.cap] 25)) := UvS.of ((HH.out.1).keep hb2)
  refine plan_run rfl ?_ (fun K hK => ?_)
  focus (rfl)
  go_simp
  refine hK.out _ _ (hS2) ?_
  clear hK K
  (try simp only [Act.put, List.setIfInBounds_toArray, List.set_cons_zero, List.set_cons_succ])
  have HN := Lib.hid (heap_new WD (.cells #[.int .i8 m.U.k, .int .i64 m.U.n, .string m.U.s, .string m.U.u, .slice m.U.ao m.U.l.length m.U.cap, .int .i8 m.V.k, .int .i64 m.V.n, .string m.V.s, .string m.V.u, .slice m.V.ao m.V.l.length m.V.cap] 25))
  have HC := Lib.hid (back_any _ ub m i c ev E (HH.out.1.keep hb2) (keep_heap HH.out.2 hb2) hne hn terS 6 (some ⟨WD.heap.size, 0, none⟩) 2 2)
  have HB2 := Lib.hid (HB.out.trans (hb2.mono HB.out.size))
  have HL2 := Lib.hid (And.intro (heap_lt HH.out.1.hU) (own_lt HH.out.1.hown (Nat.le_refl _)))
  clear hS hS2 hb2
  have HG := Lib.hid HB.out.size
  have HHs := Lib.hid (HH.out.1.hcs)
  clear HH
  generalize WD.alloc (.cells #[.int .i8 m.U.k, .int .i64 m.U.n, .string m.U.s, .string m.U.u, .slice m.U.ao m.U.l.length m.U.cap, .int .i8 m.V.k, .int .i64 m.V.n, .string m.V.s, .string m.V.u, .slice m.V.ao m.V.l.length m.V.cap] 25) = W2 at *
  generalize WD.heap.size = g at *
  refine plan_run rfl ?_ (fun K hK => ?_)
  focus (rfl)
  go_simp
  refine HC.out.mono ?_
  clear HC
  rintro e W3 hP
  have hrow : W3.heap[g]? = some (.cells #[.int .i8 m.U.k, .int .i64 m.U.n, .string m.U.s, .string m.U.u, .slice m.U.ao m.U.l.length m.U.cap, .int .i8 m.V.k, .int .i64 m.V.n, .string m.V.s, .string m.V.u, .slice m.V.ao m.V.l.length m.V.cap] 25 (0, 0)) := by
    obtain ⟨-, ev', -, hc, -⟩ := hP
    refine hc.heap HN.out fun h => ?_
    rcases h with h | h
    · have := HL2.out.1
      omega
    · exact Nat.lt_irrefl _ (HL2.out.2 _ h)
  have HP := Lib.hid (And.intro hrow (UnP.after (w := w) (ev := ev) hP (chg_of_below HB2.out _) (fun _ _ h => h)))
  obtain ⟨⟨v, rfl⟩, ev', hu', -⟩ := hP
  have hS3 : UvS ub m.U m.V W3 := UvS.of (m := { m with ph := 6 }) hu'
  refine hK.out _ _ (hS3) ?_
  clear hK K
  (try simp only [Act.put, List.setIfInBounds_toArray, List.set_cons_zero, List.set_cons_succ])
  refine plan_done ?_
  clear hS3 hrow hu'
  go_wp2_with fail
  go_end0
  exact ⟨g, HG.out, HP.out.1, ⟨_, rfl⟩, HP.out.2.2⟩
end Go.Proofs.YthpmdeofdlcccaaGreatDoor
