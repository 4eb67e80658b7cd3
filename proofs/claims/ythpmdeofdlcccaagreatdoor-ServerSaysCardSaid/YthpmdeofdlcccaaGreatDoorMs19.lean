/- are a frame, what it finds, too great? (some bool; if not, its records are not too many.) Conditions: they read. -/
/- are a frame, what it finds, too great? (some bool; if not, its records are not too many.) Conditions: they read. -/
import Derived.Test.YthpmdeofdlcccaaGreatDoorMs15
import Derived.Test.YthpmdeofdlcccaaGreatDoorMs11
namespace Go.Proofs.YthpmdeofdlcccaaGreatDoor
open Go.ChangeShapes Go.WideShapes Go.ChangeAt Go.RowKit
set_option linter.unusedVariables false
set_option linter.unusedSimpArgs false
set_option maxRecDepth 100000
theorem great_x {M : Nat → Prop} (w : World) (x : TE) (hx : TeOk M w x) : Calls Tryz.prog 5 #[.agg #[.int .i8 x.k, .int .i64 x.n, .string x.s, .string x.u, .slice x.ao x.l.length x.cap]] w (SomeB w) := by
  obtain ⟨F, hv⟩ := hx.tv
  refine (great_any F x.t _ w hv).mono ?_
  rintro e w' ⟨rfl, hb⟩
  exact ⟨_, rfl, hb⟩
set_option maxHeartbeats 8000000 in
theorem wide_any (M : Nat → Prop) (w : World) (v : Value) (E : List TE) (h : TesOk M w v E) : Calls Tryz.prog 43 #[v] w (SomeB w) := by
  obtain ⟨ao, c, rfl, hc1, hc2⟩ := h.slice
  have HR := Lib.hid h
  clear h
  have hlen : E.length ≤ 9223372036854775807 := by omega
  go_enter Tryz.func43, Tryz.ntmps43
  go_wp2_with fail
  go_loopw [3] (fun iv wr => ∃ i : Nat, i ≤ E.length ∧ iv = .int .i64 i ∧ Hid (Below w.heap.size w wr)) (fun iv _ => E.length - (intOf iv).toNat)
  case atStart => exact ⟨0, Nat.zero_le _, rfl, Lib.hid (Below.refl _ _)⟩
  case round =>
    obtain ⟨i, hi, rfl, HI⟩ := hrel
    by_cases hlt : i < E.length
    · obtain ⟨x, hx⟩ : ∃ x, E[i]? = some x := ⟨E[i], List.getElem?_eq_getElem hlt⟩
      obtain ⟨b, off, cap, e, hxk, c0, c1, c2, c3, c4⟩ := (HR.out.keep HI.out).at hx
      injection e with e1 e2 e3
      subst e1 e3
      have HG := Lib.hid (great_x wr x hxk)
      clear hxk hx e2
      go_wp2_with fail
      refine HG.out.mono ?_
      clear HG
      rintro e w2 ⟨g, rfl, hb2⟩
      have HB2 := Lib.hid (HI.out.trans (hb2.mono HI.out.size))
      clear hb2 c0 c1 c2 c3 c4 HI
      cases g
      · go_wp2_with fail
        go_roundw
        case rel => exact ⟨i + 1, by omega, by go_num, HB2⟩
        case measure => simp [intOf]; omega
      · go_wp2_with fail
        go_ret
        exact ⟨_, rfl, HB2.out⟩
    · obtain rfl : i = E.length := by omega
      go_wp2_with fail
      go_ret
      exact ⟨_, rfl, HI.out⟩
set_option maxHeartbeats 8000000 in
theorem g18_any (M : Nat → Prop) (w : World) (a : Fa) (m : Mm) (RL : List Rc) (h : FrOkA M w a m RL) : Calls Tryz.prog 20 #[.agg (flL a m).toArray] w (SomeB w) := by
  have hb1 := (Below.refl w.heap.size w).alloc (Nat.le_refl _) (.cells (flL a m).toArray 39)
  have n1 := heap_new w (.cells (flL a m).toArray 39)
  have HB := Lib.hid (And.intro hb1 n1)
  have HO := Lib.hid h
  have x3 : (w.alloc (.cells (flL a m).toArray 39)).cell? ⟨w.heap.size, 3, none⟩ = some (.slice a.s3.o a.s3.n a.s3.c) := (cells_at n1 3 _ rfl).1
  have x4 : (w.alloc (.cells (flL a m).toArray 39)).cell? ⟨w.heap.size, 4, none⟩ = some (.slice a.s4.o a.s4.n a.s4.c) := (cells_at n1 4 _ rfl).1
  have x5 : (w.alloc (.cells (flL a m).toArray 39)).cell? ⟨w.heap.size, 5, none⟩ = some (.slice a.s5.o a.s5.n a.s5.c) := (cells_at n1 5 _ rfl).1
  have x6 : (w.alloc (.cells (flL a m).toArray 39)).cell? ⟨w.heap.size, 6, none⟩ = some (.slice a.s6.o a.s6.n a.s6.c) := (cells_at n1 6 _ rfl).1
  clear hb1 n1 h
  go_enter Tryz.func20, Tryz.ntmps20
  by_cases h3 : (100 : Int) < a.s3.n
  · have hd : decide ((100 : Int) < a.s3.n) = true := by simpa using h3
    go_wp2_with fail
    go_ret
    exact ⟨_, rfl, HB.out.1⟩
  have d3 : decide ((100 : Int) < a.s3.n) = false := by simpa using h3
  by_cases h4 : (100 : Int) < a.s4.n
  · have hd : decide ((100 : Int) < a.s4.n) = true := by simpa using h4
    go_wp2_with fail
    go_ret
    exact ⟨_, rfl, HB.out.1⟩
  have d4 : decide ((100 : Int) < a.s4.n) = false := by simpa using h4
  by_cases h6 : (100 : Int) < a.s6.n
  · have hd : decide ((100 : Int) < a.s6.n) = true := by simpa using h6
    go_wp2_with fail
    go_ret
    exact ⟨_, rfl, HB.out.1⟩
  have d6 : decide ((100 : Int) < a.s6.n) = false := by simpa using h6
  by_cases h5 : (2000 : Int) < a.s5.n
  · have hd : decide ((2000 : Int) < a.s5.n) = true := by simpa using h5
    go_wp2_with fail
    go_ret
    exact ⟨_, rfl, HB.out.1⟩
  have d5 : decide ((2000 : Int) < a.s5.n) = false := by simpa using h5
  clear h3 h4 h5 h6
  obtain ⟨E3, hE3⟩ := HO.out.s3
  obtain ⟨E5, hE5⟩ := HO.out.s5
  have HE := Lib.hid (And.intro hE3 hE5)
  clear hE3 hE5
  have HG := Lib.hid (galls_any M (w.alloc (.cells (flL a m).toArray 39)) _ E3 (HE.out.1.keep HB.out.1))
  go_wp2_with fail
  generalize w.alloc (.cells (flL a m).toArray 39) = w1 at *
  refine HG.out.mono ?_
  clear HG
  rintro e w2 ⟨b, rfl, hb⟩
  have HB2 := Lib.hid (And.intro (HB.out.1.trans (hb.mono HB.out.1.size)) (keep_heap HB.out.2 hb))
  clear hb x3 x4 x5 x6 HB
  cases b
  rotate_left
  · go_wp2_with fail
    go_ret
    exact ⟨_, rfl, HB2.out.1⟩
  have x5 : w2.cell? ⟨w.heap.size, 5, none⟩ = some (.slice a.s5.o a.s5.n a.s5.c) := (cells_at HB2.out.2 5 _ rfl).1
  have HG := Lib.hid (wide_any M w2 _ E5 (HE.out.2.keep HB2.out.1))
  go_wp2_with fail
  refine HG.out.mono ?_
  clear HG
  rintro e w3 ⟨b, rfl, hb⟩
  have HB3 := Lib.hid (And.intro (HB2.out.1.trans (hb.mono HB2.out.1.size)) (keep_heap HB2.out.2 hb))
  clear hb x5 HB2
  cases b
  rotate_left
  · go_wp2_with fail
    go_ret
    exact ⟨_, rfl, HB3.out.1⟩
  obtain ⟨F, htv⟩ := (HO.out.T.keep HB3.out.1).tv
  obtain ⟨t0, t1, t2, t3, t4⟩ : PtAt w3 w.heap.size 13 m.T := ⟨(cells_at HB3.out.2 13 _ rfl).1, (cells_at HB3.out.2 14 _ rfl).1, (cells_at HB3.out.2 15 _ rfl).1, (cells_at HB3.out.2 16 _ rfl).1, (cells_at HB3.out.2 17 _ rfl).1⟩
  have HG := Lib.hid (great_x w3 m.T (HO.out.T.keep HB3.out.1))
  clear htv
  go_wp2_with fail
  refine HG.out.mono ?_
  clear HG
  rintro e w4 ⟨b, rfl, hb⟩
  have HB4 := Lib.hid (And.intro (HB3.out.1.trans (hb.mono HB3.out.1.size)) (keep_heap HB3.out.2 hb))
  clear hb t0 t1 t2 t3 t4 HB3
  cases b
  rotate_left
  · go_wp2_with fail
    go_ret
    exact ⟨_, rfl, HB4.out.1⟩
  obtain ⟨F, htv⟩ := (HO.out.U.keep HB4.out.1).tv
  obtain ⟨t0, t1, t2, t3, t4⟩ : PtAt w4 w.heap.size 18 m.U := ⟨(cells_at HB4.out.2 18 _ rfl).1, (cells_at HB4.out.2 19 _ rfl).1, (cells_at HB4.out.2 20 _ rfl).1, (cells_at HB4.out.2 21 _ rfl).1, (cells_at HB4.out.2 22 _ rfl).1⟩
  have HG := Lib.hid (great_x w4 m.U (HO.out.U.keep HB4.out.1))
  clear htv
  go_wp2_with fail
  refine HG.out.mono ?_
  clear HG
  rintro e w5 ⟨b, rfl, hb⟩
  have HB5 := Lib.hid (And.intro (HB4.out.1.trans (hb.mono HB4.out.1.size)) (keep_heap HB4.out.2 hb))
  clear hb t0 t1 t2 t3 t4 HB4
  cases b
  rotate_left
  · go_wp2_with fail
    go_ret
    exact ⟨_, rfl, HB5.out.1⟩
  obtain ⟨F, htv⟩ := (HO.out.V.keep HB5.out.1).tv
  obtain ⟨t0, t1, t2, t3, t4⟩ : PtAt w5 w.heap.size 23 m.V := ⟨(cells_at HB5.out.2 23 _ rfl).1, (cells_at HB5.out.2 24 _ rfl).1, (cells_at HB5.out.2 25 _ rfl).1, (cells_at HB5.out.2 26 _ rfl).1, (cells_at HB5.out.2 27 _ rfl).1⟩
  have HG := Lib.hid (great_x w5 m.V (HO.out.V.keep HB5.out.1))
  clear htv
  go_wp2_with fail
  refine HG.out.mono ?_
  clear HG
  rintro e w6 ⟨b, rfl, hb⟩
  have HB6 := Lib.hid (And.intro (HB5.out.1.trans (hb.mono HB5.out.1.size)) (keep_heap HB5.out.2 hb))
  clear hb t0 t1 t2 t3 t4 HB5
  go_wp2_with fail
  go_ret
  exact ⟨_, rfl, HB6.out.1⟩
end Go.Proofs.YthpmdeofdlcccaaGreatDoor
namespace Go.Proofs.YthpmdeofdlcccaaGreatDoor
open Go.ChangeShapes Go.WideShapes Go.ChangeAt Go.RowKit
set_option linter.unusedVariables false
set_option linter.unusedSimpArgs false
set_option maxRecDepth 100000
/-- it tells something; what it means, if it is false -/
def SomeP (w : World) (F : Prop) (e : Ending) (w' : World) : Prop := ∃ b, e = .returned (.bool b) ∧ Below w.heap.size w w' ∧ (b = false → F)
structure GrW (w W : World) (a : Fa) (m : Mm) (i : Im) : Prop where
  hb : Below w.heap.size w W
  hF : W.heap[w.heap.size]? = some (.cells (flL a m).toArray 39 (0, 0))
  hI : W.heap[w.heap.size + 1]? = some (.cells (imL i).toArray 43 (0, 0))
theorem GrW.keep {w W W' : World} {a : Fa} {m : Mm} {i : Im} (h : GrW w W a m i) (hb : Below W.heap.size W W') : GrW w W' a m i := ⟨h.hb.trans (hb.mono h.hb.size), keep_heap h.hF hb, keep_heap h.hI hb⟩
set_option maxHeartbeats 8000000 in
theorem g24_any (M : Nat → Prop) (w : World) (a : Fa) (m : Mm) (RL : List Rc) (i : Im) (ML : List It) (h : FrOkA M w a m RL) (hml : ItsOk M w (.slice i.ml.o i.ml.n i.ml.c) ML) (hg : TeOk M w i.got) :
    Calls Tryz.prog 4 #[.agg (flL a m).toArray, .agg (imL i).toArray] w (SomeP w (RL.length ≤ 100)) := by
  have hb1 := ((Below.refl w.heap.size w).alloc (Nat.le_refl _) (.cells (flL a m).toArray 39)).alloc (by simp) (.cells (imL i).toArray 43)
  have n1 := heap_old (heap_new w (.cells (flL a m).toArray 39)) (.cells (imL i).toArray 43)
  have n2 := heap_new (w.alloc (.cells (flL a m).toArray 39)) (.cells (imL i).toArray 43)
  rw [World.size_alloc] at n2
  have H1 : Hid (GrW w ((w.alloc (.cells (flL a m).toArray 39)).alloc (.cells (imL i).toArray 43)) a m i) := Lib.hid ⟨hb1, n1, n2⟩
  have HO := Lib.hid (And.intro h (And.intro hml hg))
  have HL := Lib.hid (And.intro h.rs.1 h.rs.2.1)
  clear hb1 n1 n2 h hml hg
  go_enter Tryz.func4, Tryz.ntmps4
  go_wp2_with (with_reducible refine stop_op (o := ⟨_, .load 39 (.tmp 2), _, _, _, _⟩) ?_)
  refine Lib.hid ?_
  generalize (w.alloc (.cells (flL a m).toArray 39)).alloc (.cells (imL i).toArray 43) = w1 at *
  refine wpList_load_row (o := ⟨_, _, _, _, _, _⟩) rfl 39 (.tmp 2) rfl w.heap.size rfl 39 (flL a m).toArray (0, 0) _ H1.out.hF Tryz.underlying39 rfl (infoFR rfl) ?_
  go_wp2_with fail
  refine (g18_any M w1 a m RL (HO.out.1.keep H1.out.hb)).mono ?_
  rintro e w2 ⟨b, rfl, hb⟩
  have H2 := Lib.hid (H1.out.keep hb)
  clear hb H1
  cases b
  rotate_left
  · skip
    go_wp2_with fail
    go_ret
    exact ⟨_, rfl, H2.out.hb, fun h => by cases h⟩
  have i2 : w2.cell? ⟨w.heap.size + 1, 2, none⟩ = some (.slice i.ml.o i.ml.n i.ml.c) := (cells_at H2.out.hI 2 _ rfl).1
  have HG := Lib.hid (g17_any M w2 _ ML (HO.out.2.1.keep H2.out.hb))
  go_wp2_with fail
  refine HG.out.mono ?_
  clear HG
  rintro e w3 ⟨b, rfl, hb⟩
  have H3 := Lib.hid (H2.out.keep hb)
  clear hb i2 H2
  cases b
  rotate_left
  · skip
    go_wp2_with fail
    go_ret
    exact ⟨_, rfl, H3.out.hb, fun h => by cases h⟩
  obtain ⟨t0, t1, t2, t3, t4⟩ : PtAt w3 (w.heap.size + 1) 5 i.got := ⟨(cells_at H3.out.hI 5 _ rfl).1, (cells_at H3.out.hI 6 _ rfl).1, (cells_at H3.out.hI 7 _ rfl).1, (cells_at H3.out.hI 8 _ rfl).1, (cells_at H3.out.hI 9 _ rfl).1⟩
  have HG := Lib.hid (great_x w3 i.got (HO.out.2.2.keep H3.out.hb))
  go_wp2_with fail
  refine HG.out.mono ?_
  clear HG
  rintro e w4 ⟨b, rfl, hb⟩
  have H4 := Lib.hid (H3.out.keep hb)
  clear hb t0 t1 t2 t3 t4 H3
  cases b
  rotate_left
  · skip
    go_wp2_with fail
    go_ret
    exact ⟨_, rfl, H4.out.hb, fun h => by cases h⟩
  have x28 : w4.cell? ⟨w.heap.size, 28, none⟩ = some (.slice m.rs.o m.rs.n m.rs.c) := (cells_at H4.out.hF 28 _ rfl).1
  have x33 : w4.cell? ⟨w.heap.size, 33, none⟩ = some (.slice m.lg.o m.lg.n m.lg.c) := (cells_at H4.out.hF 33 _ rfl).1
  have x34 : w4.cell? ⟨w.heap.size, 34, none⟩ = some (.slice m.td.o m.td.n m.td.c) := (cells_at H4.out.hF 34 _ rfl).1
  by_cases h1 : (100 : Int) < m.rs.n
  · have hd : decide ((100 : Int) < m.rs.n) = true := by simpa using h1
    go_wp2_with fail
    go_ret
    exact ⟨_, rfl, H4.out.hb, fun h => by cases h⟩
  have d1 : decide ((100 : Int) < m.rs.n) = false := by simpa using h1
  by_cases h2 : (300 : Int) < m.lg.n
  · have hd : decide ((300 : Int) < m.lg.n) = true := by simpa using h2
    go_wp2_with fail
    go_ret
    exact ⟨_, rfl, H4.out.hb, fun h => by cases h⟩
  have d2 : decide ((300 : Int) < m.lg.n) = false := by simpa using h2
  by_cases h3 : (300 : Int) < m.td.n
  · have hd : decide ((300 : Int) < m.td.n) = true := by simpa using h3
    go_wp2_with fail
    go_ret
    exact ⟨_, rfl, H4.out.hb, fun h => by cases h⟩
  have d3 : decide ((300 : Int) < m.td.n) = false := by simpa using h3
  have hr100 : RL.length ≤ 100 := by have := HL.out.1; omega
  clear h1 h2 h3
  rw [HL.out.1] at x28 d1
  go_wp2_with fail
  clear x28 x33 x34 d1 d2 d3
  go_loopw [5] (fun iv wr => ∃ k : Nat, k ≤ RL.length ∧ iv = .int .i64 k ∧ Hid (GrW w wr a m i)) (fun iv _ => RL.length - (intOf iv).toNat)
  case atStart => exact ⟨0, Nat.zero_le _, rfl, H4⟩
  case round =>
    clear H4
    obtain ⟨k, hk, rfl, HI⟩ := hrel
    have x28 : wr.cell? ⟨w.heap.size, 28, none⟩ = some (.slice m.rs.o m.rs.n m.rs.c) := (cells_at HI.out.hF 28 _ rfl).1
    rw [HL.out.1] at x28
    by_cases hlt : k < RL.length
    · obtain ⟨r, hr⟩ : ∃ r, RL[k]? = some r := ⟨RL[k], List.getElem?_eq_getElem hlt⟩
      obtain ⟨b, off, e, -, hcl⟩ := (HO.out.1.rs.keep HI.out.hb).at hr
      have hrg : wr.rangeAt b (off + k * 13) (#[.int .i8 r.c.id.k, .int .i64 r.c.id.n, .string r.c.id.s, .string r.c.id.u, .slice r.c.id.ao r.c.id.l.length r.c.id.cap, .int .i8 r.c.ki, .int .i8 r.c.re, .int .i64 r.c.sh, .string r.c.m, .string r.c.f, .slice r.c.ao r.c.an r.c.ac, .slice r.c.so r.c.sn r.c.sc] : Array Value).toList := fun j v hj => hcl j v (by
        have hj12 : j < 12 := (List.getElem?_eq_some_iff.1 hj).1
        have e : r.cells = (#[.int .i8 r.c.id.k, .int .i64 r.c.id.n, .string r.c.id.s, .string r.c.id.u, .slice r.c.id.ao r.c.id.l.length r.c.id.cap, .int .i8 r.c.ki, .int .i8 r.c.re, .int .i64 r.c.sh, .string r.c.m, .string r.c.f, .slice r.c.ao r.c.an r.c.ac, .slice r.c.so r.c.sn r.c.sc] : Array Value).toList ++ [.int .i64 r.pid] := rfl
        rw [e, List.getElem?_append_left (by show j < 12; exact hj12)]
        exact hj)
      have HR := Lib.hid (And.intro hrg (HO.out.1.rc r (List.mem_of_getElem? hr)))
      rw [e] at x28
      clear hcl hrg hr e
      go_wp2_with (with_reducible refine stop_op (o := ⟨_, .load 28 (.tmp 53), _, _, _, _⟩) ?_)
      refine Lib.hid ?_
      refine wpList_load_mid (op := ⟨_, _, _, _, _, _⟩) rfl 28 (.tmp 53) rfl b (off + k * 13) rfl (#[.int .i8 r.c.id.k, .int .i64 r.c.id.n, .string r.c.id.s, .string r.c.id.u, .slice r.c.id.ao r.c.id.l.length r.c.id.cap, .int .i8 r.c.ki, .int .i8 r.c.re, .int .i64 r.c.sh, .string r.c.m, .string r.c.f, .slice r.c.ao r.c.an r.c.ac, .slice r.c.so r.c.sn r.c.sc] : Array Value).toList _ HR.out.1 Tryz.underlying28 rfl (infoCH rfl) ?_
      go_wp2_with (with_reducible refine stop_op (o := ⟨_, .store 28 (.tmp 6) (.tmp 54), _, _, _, _⟩) ?_)
      refine Lib.hid ?_
      refine wpList_store_new (o := ⟨none, _, _, _, _, _⟩) rfl 28 (.tmp 6) (.tmp 54) rfl #[.int .i8 r.c.id.k, .int .i64 r.c.id.n, .string r.c.id.s, .string r.c.id.u, .slice r.c.id.ao r.c.id.l.length r.c.id.cap, .int .i8 r.c.ki, .int .i8 r.c.re, .int .i64 r.c.sh, .string r.c.m, .string r.c.f, .slice r.c.ao r.c.an r.c.ac, .slice r.c.so r.c.sn r.c.sc] rfl rfl (infoCH rfl) rfl (by simp [Value.oneCell']) ?_
      have hb2 := (Below.refl wr.heap.size wr).alloc (Nat.le_refl _) (.cells #[.int .i8 r.c.id.k, .int .i64 r.c.id.n, .string r.c.id.s, .string r.c.id.u, .slice r.c.id.ao r.c.id.l.length r.c.id.cap, .int .i8 r.c.ki, .int .i8 r.c.re, .int .i64 r.c.sh, .string r.c.m, .string r.c.f, .slice r.c.ao r.c.an r.c.ac, .slice r.c.so r.c.sn r.c.sc] 28)
      have HI2 := Lib.hid (And.intro (HI.out.keep hb2) (heap_new wr (.cells #[.int .i8 r.c.id.k, .int .i64 r.c.id.n, .string r.c.id.s, .string r.c.id.u, .slice r.c.id.ao r.c.id.l.length r.c.id.cap, .int .i8 r.c.ki, .int .i8 r.c.re, .int .i64 r.c.sh, .string r.c.m, .string r.c.f, .slice r.c.ao r.c.an r.c.ac, .slice r.c.so r.c.sn r.c.sc] 28)))
      clear hb2 HI x28
      generalize wr.alloc (.cells #[.int .i8 r.c.id.k, .int .i64 r.c.id.n, .string r.c.id.s, .string r.c.id.u, .slice r.c.id.ao r.c.id.l.length r.c.id.cap, .int .i8 r.c.ki, .int .i8 r.c.re, .int .i64 r.c.sh, .string r.c.m, .string r.c.f, .slice r.c.ao r.c.an r.c.ac, .slice r.c.so r.c.sn r.c.sc] 28) = w5 at *
      generalize wr.heap.size = q at *
      obtain ⟨t0, t1, t2, t3, t4⟩ : PtAt w5 q 0 r.c.id := ⟨(cells_at HI2.out.2 0 _ rfl).1, (cells_at HI2.out.2 1 _ rfl).1, (cells_at HI2.out.2 2 _ rfl).1, (cells_at HI2.out.2 3 _ rfl).1, (cells_at HI2.out.2 4 _ rfl).1⟩
      simp only [Nat.zero_add] at t1 t2 t3 t4
      have HG := Lib.hid (great_x w5 r.c.id (HR.out.2.id.keep HI2.out.1.hb))
      go_wp2_with fail
      refine HG.out.mono ?_
      clear HG
      rintro e w6 ⟨g, rfl, hb⟩
      have HI3 := Lib.hid (And.intro (HI2.out.1.keep hb) (keep_heap HI2.out.2 hb))
      have HI3' := Lib.hid HI3.out.1
      clear hb t0 t1 t2 t3 t4 HI2
      cases g
      rotate_left
      · skip
        go_wp2_with fail
        go_ret
        exact ⟨_, rfl, HI3'.out.hb, fun h => by cases h⟩
      have a10 : w6.cell? ⟨q, 10, none⟩ = some (.slice r.c.ao r.c.an r.c.ac) := (cells_at HI3.out.2 10 _ rfl).1
      by_cases h20 : (20 : Int) < r.c.an
      · have hd : decide ((20 : Int) < r.c.an) = true := by simpa using h20
        go_wp2_with fail
        go_ret
        exact ⟨_, rfl, HI3'.out.hb, fun h => by cases h⟩
      have d20 : decide ((20 : Int) < r.c.an) = false := by simpa using h20
      obtain ⟨EA, hEA⟩ := HR.out.2.ar
      have HG := Lib.hid (galls_any M w6 _ EA (hEA.keep HI3.out.1.hb))
      change Hid (Calls Tryz.prog 6 #[.slice r.c.ao r.c.an r.c.ac] w6 _) at HG
      clear hEA h20
      go_wp2_with fail
      refine HG.out.mono ?_
      clear HG
      rintro e w7 ⟨g, rfl, hb⟩
      have HI4 := Lib.hid (And.intro (HI3.out.1.keep hb) (keep_heap HI3.out.2 hb))
      have HI4' := Lib.hid HI4.out.1
      clear hb a10 d20 HI3 HI3'
      cases g
      rotate_left
      · skip
        go_wp2_with fail
        go_ret
        exact ⟨_, rfl, HI4'.out.hb, fun h => by cases h⟩
      have a11 : w7.cell? ⟨q, 11, none⟩ = some (.slice r.c.so r.c.sn r.c.sc) := (cells_at HI4.out.2 11 _ rfl).1
      obtain ⟨hs1, hs2⟩ := (HR.out.2.keep HI4.out.1.hb).sup
      by_cases h0 : (0 : Int) < r.c.sn
      · have d0 : decide ((0 : Int) < r.c.sn) = true := by simpa using h0
        rcases hs2 with hs2 | ⟨sb, so, e, -, o, n, cc, hcs⟩
        · omega
        · rw [e] at a11
          clear hs1 e
          by_cases hn : (20 : Int) < n
          · have d5 : decide ((20 : Int) < n) = true := by simpa using hn
            go_wp2_with fail
            go_ret
            exact ⟨_, rfl, HI4'.out.hb, fun h => by cases h⟩
          · have d5 : decide ((20 : Int) < n) = false := by simpa using hn
            go_wp2_with fail
            go_roundw
            case rel => exact ⟨k + 1, by omega, by go_num, HI4'⟩
            case measure => simp [intOf]; omega
      · have d0 : decide ((0 : Int) < r.c.sn) = false := by simpa using h0
        clear hs1 hs2
        go_wp2_with fail
        go_roundw
        case rel => exact ⟨k + 1, by omega, by go_num, HI4'⟩
        case measure => simp [intOf]; omega
    · obtain rfl : k = RL.length := by omega
      go_wp2_with fail
      go_ret
      exact ⟨_, rfl, HI.out.hb, fun _ => hr100⟩
end Go.Proofs.YthpmdeofdlcccaaGreatDoor
