/- the reference's comparisons of rows of nothing, of children, of records. Conditions: what they hold reads. -/
import Derived.Test.YthpmdeofdlcccaaGreatDoorMs15
namespace Go.Proofs.YthpmdeofdlcccaaGreatDoor
open Go.ChangeShapes Go.WideShapes Go.ChangeAt Go.RowKit
set_option linter.unusedVariables false
set_option linter.unusedSimpArgs false
set_option maxRecDepth 100000
theorem sameall_nil (w : World) : Calls Tryz.prog 61 #[.slice none 0 0, .slice none 0 0] w (IsPost w true) := by
  go_enter Tryz.func61, Tryz.ntmps61
  go_wp2_with fail
  go_loopw [4, 5] (fun rv iv wr => rv = .bool false ∧ iv = .int .i64 0 ∧ wr = w) (fun _ _ _ => 0)
  case atStart => exact ⟨rfl, rfl, rfl⟩
  case round =>
    obtain ⟨rfl, rfl, rfl⟩ := hrel
    go_wp2_with fail
    go_ret
    exact ⟨rfl, Below.refl _ _⟩
theorem bound_nil (w : World) : Calls Tryz.prog 62 #[.slice none 0 0, .slice none 0 0] w (IsPost w true) := by
  go_enter Tryz.func62, Tryz.ntmps62
  go_wp2_with fail
  go_loopw [4, 5] (fun rv iv wr => rv = .bool false ∧ iv = .int .i64 0 ∧ wr = w) (fun _ _ _ => 0)
  case atStart => exact ⟨rfl, rfl, rfl⟩
  case round =>
    obtain ⟨rfl, rfl, rfl⟩ := hrel
    go_wp2_with fail
    go_ret
    exact ⟨rfl, Below.refl _ _⟩
theorem tries_nil (w : World) : Calls Tryz.prog 63 #[.slice none 0 0, .slice none 0 0] w (IsPost w true) := by
  go_enter Tryz.func63, Tryz.ntmps63
  go_wp2_with fail
  go_loopw [4, 5] (fun rv iv wr => rv = .bool false ∧ iv = .int .i64 0 ∧ wr = w) (fun _ _ _ => 0)
  case atStart => exact ⟨rfl, rfl, rfl⟩
  case round =>
    obtain ⟨rfl, rfl, rfl⟩ := hrel
    go_wp2_with fail
    go_ret
    exact ⟨rfl, Below.refl _ _⟩
theorem ints_nil (w : World) : Calls Tryz.prog 66 #[.slice none 0 0, .slice none 0 0] w (IsPost w true) := by
  go_enter Tryz.func66, Tryz.ntmps66
  go_wp2_with fail
  go_loopw [4, 5] (fun rv iv wr => rv = .bool false ∧ iv = .int .i64 0 ∧ wr = w) (fun _ _ _ => 0)
  case atStart => exact ⟨rfl, rfl, rfl⟩
  case round =>
    obtain ⟨rfl, rfl, rfl⟩ := hrel
    go_wp2_with fail
    go_ret
    exact ⟨rfl, Below.refl _ _⟩
theorem recs_nil (w : World) : Calls Tryz.prog 64 #[.slice none 0 0, .slice none 0 0] w (IsPost w true) := by
  go_enter Tryz.func64, Tryz.ntmps64
  go_wp2_with fail
  go_loopw [4, 5] (fun rv iv wr => rv = .bool false ∧ iv = .int .i64 0 ∧ wr = w) (fun _ _ _ => 0)
  case atStart => exact ⟨rfl, rfl, rfl⟩
  case round =>
    obtain ⟨rfl, rfl, rfl⟩ := hrel
    go_wp2_with fail
    go_ret
    exact ⟨rfl, Below.refl _ _⟩
theorem sup_zero (w : World) : Calls Tryz.prog 65 #[.agg #[.int .i8 0, .int .i64 0, .int .i64 0, .slice none 0 0], .agg #[.int .i8 0, .int .i64 0, .int .i64 0, .slice none 0 0]] w (IsPost w true) := by
  have hb2 := ((Below.refl w.heap.size w).alloc (Nat.le_refl _) (.cells #[.int .i8 0, .int .i64 0, .int .i64 0, .slice none 0 0] 34)).alloc (by simp) (.cells #[.int .i8 0, .int .i64 0, .int .i64 0, .slice none 0 0] 34)
  have n1 := heap_old (heap_new w (.cells #[.int .i8 0, .int .i64 0, .int .i64 0, .slice none 0 0] 34)) (.cells #[.int .i8 0, .int .i64 0, .int .i64 0, .slice none 0 0] 34)
  have n2 := heap_new (w.alloc (.cells #[.int .i8 0, .int .i64 0, .int .i64 0, .slice none 0 0] 34)) (.cells #[.int .i8 0, .int .i64 0, .int .i64 0, .slice none 0 0] 34)
  rw [World.size_alloc] at n2
  have HB := Lib.hid hb2
  obtain ⟨x0, -⟩ := cells_at n1 0 _ rfl
  obtain ⟨x1, -⟩ := cells_at n1 1 _ rfl
  obtain ⟨x2, -⟩ := cells_at n1 2 _ rfl
  obtain ⟨x3, -⟩ := cells_at n1 3 _ rfl
  obtain ⟨y0, -⟩ := cells_at n2 0 _ rfl
  obtain ⟨y1, -⟩ := cells_at n2 1 _ rfl
  obtain ⟨y2, -⟩ := cells_at n2 2 _ rfl
  obtain ⟨y3, -⟩ := cells_at n2 3 _ rfl
  clear hb2 n1 n2
  go_enter Tryz.func65, Tryz.ntmps65
  go_wp2_with fail
  generalize (w.alloc (.cells #[.int .i8 0, .int .i64 0, .int .i64 0, .slice none 0 0] 34)).alloc (.cells #[.int .i8 0, .int .i64 0, .int .i64 0, .slice none 0 0] 34) = w2 at *
  go_loopw [4, 5] (fun rv iv wr => rv = .bool false ∧ iv = .int .i64 0 ∧ wr = w2) (fun _ _ _ => 0)
  case atStart => exact ⟨rfl, rfl, rfl⟩
  case round =>
    obtain ⟨rfl, rfl, rfl⟩ := hrel
    go_wp2_with fail
    go_ret
    exact ⟨rfl, HB.out⟩
def SaS (b o : Nat) (x : TE) (W : World) : Prop := W.cell? ⟨b, o, none⟩ = some (.int .i8 x.k) ∧ W.cell? ⟨b, o + 1, none⟩ = some (.int .i64 x.n) ∧ W.cell? ⟨b, o + 2, none⟩ = some (.string x.s) ∧ W.cell? ⟨b, o + 3, none⟩ = some (.string x.u) ∧ W.cell? ⟨b, o + 4, none⟩ = some (.slice x.ao x.l.length x.cap)
theorem SaS.keep {b o : Nat} {x : TE} {W W' : World} (h : SaS b o x W) (hb : Below W.heap.size W W') : SaS b o x W' := ⟨keep_cell h.1 hb, keep_cell h.2.1 hb, keep_cell h.2.2.1 hb, keep_cell h.2.2.2.1 hb, keep_cell h.2.2.2.2 hb⟩
set_option maxHeartbeats 2000000 in
theorem sameall_tes (M : Nat → Prop) (w : World) (v : Value) (E : List TE) (h : TesOk M w v E) (hl : E.length ≤ 100000) : Calls Tryz.prog 61 #[v, v] w (IsPost w true) := by
  obtain ⟨ao, cap, rfl, h1, h2⟩ := h.slice
  have HR := Lib.hid h
  clear h
  go_enter Tryz.func61, Tryz.ntmps61
  go_wp2_with fail
  go_loopw [4, 5] (fun rv iv wr => ∃ i : Nat, i ≤ E.length ∧ rv = .bool false ∧ iv = .int .i64 i ∧ Hid (Below w.heap.size w wr)) (fun _ iv _ => E.length - (intOf iv).toNat)
  case atStart => exact ⟨0, by omega, rfl, rfl, Lib.hid (Below.refl _ _)⟩
  case round =>
    obtain ⟨i, hi, rfl, rfl, HI⟩ := hrel
    by_cases hlt : i < E.length
    · obtain ⟨x, hx⟩ : ∃ x, E[i]? = some x := ⟨E[i], List.getElem?_eq_getElem hlt⟩
      have hdr : Below wr.heap.size wr wr.drew := (Below.refl _ _).drew
      have HB := Lib.hid (HI.out.trans (hdr.mono HI.out.size))
      obtain ⟨b, off, cap', e, hxo, c0, c1, c2, c3, c4⟩ := (HR.out.keep HB.out).at hx
      injection e with e _ ecap
      subst e ecap
      have hS : SaS b (off + i * 5) x wr.drew := ⟨c0, c1, c2, c3, c4⟩
      obtain ⟨F, htv⟩ := hxo.tv
      have HT : Hid (Calls Tryz.prog 15 #[.agg #[.int .i8 x.k, .int .i64 x.n, .string x.s, .string x.u, .slice x.ao x.l.length x.cap], .agg #[.int .i8 x.k, .int .i64 x.n, .string x.s, .string x.u, .slice x.ao x.l.length x.cap]] wr.drew (IsPost wr.drew (eqT x.t x.t))) := Lib.hid (rsame_any F F _ _ _ _ wr.drew htv htv)
      rw [eqT_refl] at HT
      clear hdr HI hxo hx htv c0 c1 c2 c3 c4
      go_upto_region 6 with fail
      refine region_plan (SaS b (off + i * 5) x) [(0, 0), (1, 0), (2, 0), (3, 0), (4, 0), (5, 0), (6, 0), (7, 0), (8, 1), (9, 0)] (by kernel_rfl) (by kernel_rfl) (by kernel_rfl) hS ?_
      generalize wr.drew = WD at *
      iterate 8 (first | (refine plan_skip rfl ?_ ?_; (focus (rfl)); (try simp only [Act.put, List.setIfInBounds_toArray, List.set_cons_zero, List.set_cons_succ])) | (refine plan_take (v := ?_) rfl ?_ (fun w hSw => ?_) ?_; rotate_left; (focus (rfl)); (focus (unfold SaS at hSw; (go_simp <;> with_reducible rfl))); (try simp only [Act.put, List.setIfInBounds_toArray, List.set_cons_zero, List.set_cons_succ])))
      refine plan_run rfl ?_ (fun K hK => ?_)
      focus (rfl)
      go_simp
      refine (HT.out).mono ?_
      rintro e W1 ⟨rfl, hb1⟩
      have hS1 := hS.keep hb1
      have HB1 := Lib.hid (HB.out.trans (hb1.mono HB.out.size))
      refine hK.out _ _ hS1 ?_
      clear hK K 
      (try simp only [Act.put, List.setIfInBounds_toArray, List.set_cons_zero, List.set_cons_succ])
      iterate 1 (first | (refine plan_skip rfl ?_ ?_; (focus (rfl)); (try simp only [Act.put, List.setIfInBounds_toArray, List.set_cons_zero, List.set_cons_succ])) | (refine plan_take (v := ?_) rfl ?_ (fun w hSw => ?_) ?_; rotate_left; (focus (rfl)); (focus (unfold SaS at hSw; (go_simp <;> with_reducible rfl))); (try simp only [Act.put, List.setIfInBounds_toArray, List.set_cons_zero, List.set_cons_succ])))
      refine plan_done ?_
      clear hS hS1 hb1 HB HT
      go_wp2_with fail
      go_roundw
      case rel => exact ⟨i + 1, by omega, rfl, by go_num, HB1⟩
      case measure => simp [intOf]; omega
    · obtain rfl : i = E.length := by omega
      go_wp2_with fail
      go_ret
      exact ⟨rfl, HI.out⟩
/-- two boxes of the same child -/
structure C2 (w W : World) (c : Ch) : Prop where
  hb : Below w.heap.size w W
  h1 : W.heap[w.heap.size]? = some (.cells #[.int .i8 c.id.k, .int .i64 c.id.n, .string c.id.s, .string c.id.u, .slice c.id.ao c.id.l.length c.id.cap, .int .i8 c.ki, .int .i8 c.re, .int .i64 c.sh, .string c.m, .string c.f, .slice c.ao c.an c.ac, .slice c.so 0 c.sc] 28 (0, 0))
  h2 : W.heap[w.heap.size + 1]? = some (.cells #[.int .i8 c.id.k, .int .i64 c.id.n, .string c.id.s, .string c.id.u, .slice c.id.ao c.id.l.length c.id.cap, .int .i8 c.ki, .int .i8 c.re, .int .i64 c.sh, .string c.m, .string c.f, .slice c.ao c.an c.ac, .slice c.so 0 c.sc] 28 (0, 0))
theorem C2.keep {w W W' : World} {c : Ch} (h : C2 w W c) (hb : Below W.heap.size W W') : C2 w W' c := ⟨h.hb.trans (hb.mono h.hb.size), keep_heap h.h1 hb, keep_heap h.h2 hb⟩
set_option maxHeartbeats 4000000 in
theorem samechild_one (M : Nat → Prop) (w : World) (c : Ch) (E : List TE) (hid : TeOk M w c.id) (hE : TesOk M w c.ar E) (hl : E.length ≤ 100000) : Calls Tryz.prog 85 #[.agg #[.int .i8 c.id.k, .int .i64 c.id.n, .string c.id.s, .string c.id.u, .slice c.id.ao c.id.l.length c.id.cap, .int .i8 c.ki, .int .i8 c.re, .int .i64 c.sh, .string c.m, .string c.f, .slice c.ao c.an c.ac, .slice c.so 0 c.sc], .agg #[.int .i8 c.id.k, .int .i64 c.id.n, .string c.id.s, .string c.id.u, .slice c.id.ao c.id.l.length c.id.cap, .int .i8 c.ki, .int .i8 c.re, .int .i64 c.sh, .string c.m, .string c.f, .slice c.ao c.an c.ac, .slice c.so 0 c.sc]] w (IsPost w true) := by
  have hb2 := ((Below.refl w.heap.size w).alloc (Nat.le_refl _) (.cells #[.int .i8 c.id.k, .int .i64 c.id.n, .string c.id.s, .string c.id.u, .slice c.id.ao c.id.l.length c.id.cap, .int .i8 c.ki, .int .i8 c.re, .int .i64 c.sh, .string c.m, .string c.f, .slice c.ao c.an c.ac, .slice c.so 0 c.sc] 28)).alloc (by simp) (.cells #[.int .i8 c.id.k, .int .i64 c.id.n, .string c.id.s, .string c.id.u, .slice c.id.ao c.id.l.length c.id.cap, .int .i8 c.ki, .int .i8 c.re, .int .i64 c.sh, .string c.m, .string c.f, .slice c.ao c.an c.ac, .slice c.so 0 c.sc] 28)
  have n1 := heap_old (heap_new w (.cells #[.int .i8 c.id.k, .int .i64 c.id.n, .string c.id.s, .string c.id.u, .slice c.id.ao c.id.l.length c.id.cap, .int .i8 c.ki, .int .i8 c.re, .int .i64 c.sh, .string c.m, .string c.f, .slice c.ao c.an c.ac, .slice c.so 0 c.sc] 28)) (.cells #[.int .i8 c.id.k, .int .i64 c.id.n, .string c.id.s, .string c.id.u, .slice c.id.ao c.id.l.length c.id.cap, .int .i8 c.ki, .int .i8 c.re, .int .i64 c.sh, .string c.m, .string c.f, .slice c.ao c.an c.ac, .slice c.so 0 c.sc] 28)
  have n2 := heap_new (w.alloc (.cells #[.int .i8 c.id.k, .int .i64 c.id.n, .string c.id.s, .string c.id.u, .slice c.id.ao c.id.l.length c.id.cap, .int .i8 c.ki, .int .i8 c.re, .int .i64 c.sh, .string c.m, .string c.f, .slice c.ao c.an c.ac, .slice c.so 0 c.sc] 28)) (.cells #[.int .i8 c.id.k, .int .i64 c.id.n, .string c.id.s, .string c.id.u, .slice c.id.ao c.id.l.length c.id.cap, .int .i8 c.ki, .int .i8 c.re, .int .i64 c.sh, .string c.m, .string c.f, .slice c.ao c.an c.ac, .slice c.so 0 c.sc] 28)
  rw [World.size_alloc] at n2
  have H2 : Hid (C2 w ((w.alloc (.cells #[.int .i8 c.id.k, .int .i64 c.id.n, .string c.id.s, .string c.id.u, .slice c.id.ao c.id.l.length c.id.cap, .int .i8 c.ki, .int .i8 c.re, .int .i64 c.sh, .string c.m, .string c.f, .slice c.ao c.an c.ac, .slice c.so 0 c.sc] 28)).alloc (.cells #[.int .i8 c.id.k, .int .i64 c.id.n, .string c.id.s, .string c.id.u, .slice c.id.ao c.id.l.length c.id.cap, .int .i8 c.ki, .int .i8 c.re, .int .i64 c.sh, .string c.m, .string c.f, .slice c.ao c.an c.ac, .slice c.so 0 c.sc] 28)) c) := Lib.hid ⟨hb2, n1, n2⟩
  have HX := Lib.hid (And.intro hid (And.intro hE hl))
  clear hb2 n1 n2 hid hE hl
  go_enter Tryz.func85, Tryz.ntmps85
  generalize hw2 : (w.alloc (.cells #[.int .i8 c.id.k, .int .i64 c.id.n, .string c.id.s, .string c.id.u, .slice c.id.ao c.id.l.length c.id.cap, .int .i8 c.ki, .int .i8 c.re, .int .i64 c.sh, .string c.m, .string c.f, .slice c.ao c.an c.ac, .slice c.so 0 c.sc] 28)).alloc (.cells #[.int .i8 c.id.k, .int .i64 c.id.n, .string c.id.s, .string c.id.u, .slice c.id.ao c.id.l.length c.id.cap, .int .i8 c.ki, .int .i8 c.re, .int .i64 c.sh, .string c.m, .string c.f, .slice c.ao c.an c.ac, .slice c.so 0 c.sc] 28) = w2 at *
  have HW2 := Lib.hid hw2
  clear hw2
  obtain ⟨x0, -⟩ := cells_at H2.out.h1 0 _ rfl
  obtain ⟨x1, -⟩ := cells_at H2.out.h1 1 _ rfl
  obtain ⟨x2, -⟩ := cells_at H2.out.h1 2 _ rfl
  obtain ⟨x3, -⟩ := cells_at H2.out.h1 3 _ rfl
  obtain ⟨x4, -⟩ := cells_at H2.out.h1 4 _ rfl
  obtain ⟨x5, -⟩ := cells_at H2.out.h1 5 _ rfl
  obtain ⟨x6, -⟩ := cells_at H2.out.h1 6 _ rfl
  obtain ⟨x7, -⟩ := cells_at H2.out.h1 7 _ rfl
  obtain ⟨x8, -⟩ := cells_at H2.out.h1 8 _ rfl
  obtain ⟨x9, -⟩ := cells_at H2.out.h1 9 _ rfl
  obtain ⟨y0, -⟩ := cells_at H2.out.h2 0 _ rfl
  obtain ⟨y1, -⟩ := cells_at H2.out.h2 1 _ rfl
  obtain ⟨y2, -⟩ := cells_at H2.out.h2 2 _ rfl
  obtain ⟨y3, -⟩ := cells_at H2.out.h2 3 _ rfl
  obtain ⟨y4, -⟩ := cells_at H2.out.h2 4 _ rfl
  obtain ⟨y5, -⟩ := cells_at H2.out.h2 5 _ rfl
  obtain ⟨y6, -⟩ := cells_at H2.out.h2 6 _ rfl
  obtain ⟨y7, -⟩ := cells_at H2.out.h2 7 _ rfl
  obtain ⟨y8, -⟩ := cells_at H2.out.h2 8 _ rfl
  obtain ⟨y9, -⟩ := cells_at H2.out.h2 9 _ rfl
  rw [← HW2.out] at x0 x1 x2 x3 x4 x5 x6 x7 x8 x9 y0 y1 y2 y3 y4 y5 y6 y7 y8 y9
  go_wp2_with fail
  clear x0 x1 x2 x3 x4 x5 x6 x7 x8 x9 y0 y1 y2 y3 y4 y5 y6 y7 y8 y9
  rw [HW2.out]
  clear HW2
  obtain ⟨F, htv⟩ := (HX.out.1.keep H2.out.hb).tv
  have HT : Hid (Calls Tryz.prog 15 #[.agg #[.int .i8 c.id.k, .int .i64 c.id.n, .string c.id.s, .string c.id.u, .slice c.id.ao c.id.l.length c.id.cap], .agg #[.int .i8 c.id.k, .int .i64 c.id.n, .string c.id.s, .string c.id.u, .slice c.id.ao c.id.l.length c.id.cap]] w2 (IsPost w2 (eqT c.id.t c.id.t))) := Lib.hid (rsame_any F F _ _ _ _ w2 htv htv)
  rw [eqT_refl] at HT
  refine HT.out.mono ?_
  clear HT htv
  rintro e w3 ⟨rfl, hb3⟩
  have H3 := Lib.hid (H2.out.keep hb3)
  clear hb3 H2
  have x10 : w3.cell? ⟨w.heap.size, 10, none⟩ = some (.slice c.ao c.an c.ac) := (cells_at H3.out.h1 10 _ rfl).1
  have y10 : w3.cell? ⟨w.heap.size + 1, 10, none⟩ = some (.slice c.ao c.an c.ac) := (cells_at H3.out.h2 10 _ rfl).1
  go_wp2_with fail
  clear x10 y10
  have HA := Lib.hid (sameall_tes M w3 _ E (HX.out.2.1.keep H3.out.hb) HX.out.2.2)
  change Hid (Calls Tryz.prog 61 #[.slice c.ao c.an c.ac, .slice c.ao c.an c.ac] w3 (IsPost w3 true)) at HA
  refine HA.out.mono ?_
  clear HA
  rintro e w4 ⟨rfl, hb4⟩
  have H4 := Lib.hid (H3.out.keep hb4)
  clear hb4 H3
  have x11 : w4.cell? ⟨w.heap.size, 11, none⟩ = some (.slice c.so 0 c.sc) := (cells_at H4.out.h1 11 _ rfl).1
  have y11 : w4.cell? ⟨w.heap.size + 1, 11, none⟩ = some (.slice c.so 0 c.sc) := (cells_at H4.out.h2 11 _ rfl).1
  go_wp2_with fail
  go_loopw [4, 5] (fun rv iv wr => rv = .bool false ∧ iv = .int .i64 0 ∧ wr = w4) (fun _ _ _ => 0)
  case atStart => exact ⟨rfl, rfl, rfl⟩
  case round =>
    obtain ⟨rfl, rfl, rfl⟩ := hrel
    go_wp2_with fail
    go_ret
    exact ⟨rfl, H4.out.hb⟩
theorem mid_rangex {w : World} {q o : Nat} {pre cs post : List Value} {t : TypeId} (h : w.heap[q]? = some (.cells (pre ++ (cs ++ post)).toArray t (0, 0))) (ho : pre.length = o) : w.rangeAt q o cs := fun j v hj => by
  have hl : j < cs.length := (List.getElem?_eq_some_iff.1 hj).1
  refine (cells_at h (o + j) v ?_).1
  rw [List.getElem?_toArray, List.getElem?_append_right (by omega), ho, Nat.add_sub_cancel_left, List.getElem?_append_left hl]
  exact hj
theorem exec_load_mid {P : Program} {op : Oper} {a : Act} {w : World} (ty : TypeId) (x : Operand) (ho : op.op = .load ty x) (b o : Nat) (hx : a.eval x = .pointer (some ⟨b, o, none⟩)) (cs : List Value) (d : TypeDesc) (hc : w.rangeAt b o cs)
    (hu : P.underlying ty = some d) (hd : d.isRow = true) (hi : (P.info? ty).map (·.size) = some cs.length) : (execOp a.eval op).run P w = .ok (.value (.agg cs.toArray)) w := by
  unfold execOp
  simp only [ho, hx, Instr.loadAt, Instr.sureAddr, Sem.run_bind, Sem.run_pure, Result.andThen_ok, run_loadVar_mid w b o ty cs d hc hu hd hi]
theorem infoCHl {cs : List Value} (h : cs.length = 12) : (Tryz.prog.info? 28).map (·.size) = some cs.length := by
  have : (Tryz.prog.info? 28).map (·.size) = some 12 := by kernel_rfl
  rw [this, h]
def SrS (p q : Nat) (c : Ch) (W : World) : Prop := (W.rangeAt p 0 [.int .i8 c.id.k, .int .i64 c.id.n, .string c.id.s, .string c.id.u, .slice c.id.ao c.id.l.length c.id.cap, .int .i8 c.ki, .int .i8 c.re, .int .i64 c.sh, .string c.m, .string c.f, .slice c.ao c.an c.ac, .slice c.so 0 c.sc] ∧ W.rangeAt q 0 [.int .i8 c.id.k, .int .i64 c.id.n, .string c.id.s, .string c.id.u, .slice c.id.ao c.id.l.length c.id.cap, .int .i8 c.ki, .int .i8 c.re, .int .i64 c.sh, .string c.m, .string c.f, .slice c.ao c.an c.ac, .slice c.so 0 c.sc]) ∧ W.cell? ⟨p, 12, none⟩ = some (.int .i64 0) ∧ W.cell? ⟨q, 12, none⟩ = some (.int .i64 0)
set_option maxHeartbeats 4000000 in
theorem recs_one (M : Nat → Prop) (w : World) (p q : Nat) (c : Ch) (E : List TE) (hp : w.heap[p]? = some (.cells #[.int .i8 c.id.k, .int .i64 c.id.n, .string c.id.s, .string c.id.u, .slice c.id.ao c.id.l.length c.id.cap, .int .i8 c.ki, .int .i8 c.re, .int .i64 c.sh, .string c.m, .string c.f, .slice c.ao c.an c.ac, .slice c.so 0 c.sc, .int .i64 0] 64 (0, 0))) (hq : w.heap[q]? = some (.cells #[.int .i8 c.id.k, .int .i64 c.id.n, .string c.id.s, .string c.id.u, .slice c.id.ao c.id.l.length c.id.cap, .int .i8 c.ki, .int .i8 c.re, .int .i64 c.sh, .string c.m, .string c.f, .slice c.ao c.an c.ac, .slice c.so 0 c.sc, .int .i64 0] 64 (0, 0))) (hid : TeOk M w c.id) (hE : TesOk M w c.ar E) (hl : E.length ≤ 100000) :
    Calls Tryz.prog 64 #[.slice (some ⟨p, 0, none⟩) 1 1, .slice (some ⟨q, 0, none⟩) 1 1] w (IsPost w true) := by
  have HX := Lib.hid (And.intro (And.intro hp hq) (And.intro hid (And.intro hE hl)))
  clear hp hq hid hE hl
  go_enter Tryz.func64, Tryz.ntmps64
  go_wp2_with fail
  go_loopw [4, 5] (fun rv iv wr => ∃ i : Nat, i ≤ 1 ∧ rv = .bool false ∧ iv = .int .i64 i ∧ Hid (Below w.heap.size w wr)) (fun _ iv _ => 1 - (intOf iv).toNat)
  case atStart => exact ⟨0, by omega, rfl, rfl, Lib.hid (Below.refl _ _)⟩
  case round =>
    obtain ⟨i, hi, rfl, rfl, HI⟩ := hrel
    by_cases hlt : i = 0
    · subst hlt
      have hdr : Below wr.heap.size wr wr.drew := (Below.refl _ _).drew
      have HB := Lib.hid (HI.out.trans (hdr.mono HI.out.size))
      have h1 := keep_heap HX.out.1.1 HB.out
      have h2 := keep_heap HX.out.1.2 HB.out
      have hS : SrS p q c wr.drew := ⟨⟨mid_rangex (pre := []) (post := [.int .i64 0]) h1 rfl, mid_rangex (pre := []) (post := [.int .i64 0]) h2 rfl⟩, (cells_at h1 12 _ rfl).1, (cells_at h2 12 _ rfl).1⟩
      have HC := Lib.hid (samechild_one M wr.drew c E (HX.out.2.1.keep HB.out) (HX.out.2.2.1.keep HB.out) HX.out.2.2.2)
      clear hdr HI h1 h2
      go_upto_region 6 with fail
      refine region_plan (SrS p q c) [(0, 0), (1, 0), (2, 0), (3, 0), (4, 0), (5, 0), (6, 0), (7, 0), (8, 0), (9, 0), (10, 0), (11, 0), (12, 0), (13, 0), (14, 0), (15, 0), (16, 0), (17, 0), (18, 0), (19, 0), (20, 0), (21, 0), (22, 1), (23, 0), (24, 0)] (by kernel_rfl) (by kernel_rfl) (by kernel_rfl) hS ?_
      generalize wr.drew = WD at *
      iterate 16 (first | (refine plan_skip rfl ?_ ?_; (focus (rfl)); (try simp only [Act.put, List.setIfInBounds_toArray, List.set_cons_zero, List.set_cons_succ])) | (refine plan_take (v := ?_) rfl ?_ (fun w hSw => ?_) ?_; rotate_left; (focus (rfl)); (focus (unfold SrS at hSw; (go_simp <;> with_reducible rfl))); (try simp only [Act.put, List.setIfInBounds_toArray, List.set_cons_zero, List.set_cons_succ])))
      refine plan_take rfl ?_ (fun wS hSw => exec_load_mid 28 (.tmp 32) rfl p 0 rfl [.int .i8 c.id.k, .int .i64 c.id.n, .string c.id.s, .string c.id.u, .slice c.id.ao c.id.l.length c.id.cap, .int .i8 c.ki, .int .i8 c.re, .int .i64 c.sh, .string c.m, .string c.f, .slice c.ao c.an c.ac, .slice c.so 0 c.sc] _ hSw.1.1 Tryz.underlying28 rfl (infoCHl rfl)) ?_
      focus (rfl)
      (try simp only [Act.put, List.setIfInBounds_toArray, List.set_cons_zero, List.set_cons_succ])
      iterate 4 (first | (refine plan_skip rfl ?_ ?_; (focus (rfl)); (try simp only [Act.put, List.setIfInBounds_toArray, List.set_cons_zero, List.set_cons_succ])) | (refine plan_take (v := ?_) rfl ?_ (fun w hSw => ?_) ?_; rotate_left; (focus (rfl)); (focus (unfold SrS at hSw; (go_simp <;> with_reducible rfl))); (try simp only [Act.put, List.setIfInBounds_toArray, List.set_cons_zero, List.set_cons_succ])))
      refine plan_take rfl ?_ (fun wS hSw => exec_load_mid 28 (.tmp 37) rfl q 0 rfl [.int .i8 c.id.k, .int .i64 c.id.n, .string c.id.s, .string c.id.u, .slice c.id.ao c.id.l.length c.id.cap, .int .i8 c.ki, .int .i8 c.re, .int .i64 c.sh, .string c.m, .string c.f, .slice c.ao c.an c.ac, .slice c.so 0 c.sc] _ hSw.1.2 Tryz.underlying28 rfl (infoCHl rfl)) ?_
      focus (rfl)
      (try simp only [Act.put, List.setIfInBounds_toArray, List.set_cons_zero, List.set_cons_succ])
      refine plan_run rfl ?_ (fun K hK => ?_)
      focus (rfl)
      go_simp
      refine (HC.out).mono ?_
      rintro e W1 ⟨rfl, hb1⟩
      have hS1 : SrS p q c W1 := ⟨⟨fun j v hj => keep_cell (hS.1.1 j v hj) hb1, fun j v hj => keep_cell (hS.1.2 j v hj) hb1⟩, keep_cell hS.2.1 hb1, keep_cell hS.2.2 hb1⟩
      have HB1 := Lib.hid (HB.out.trans (hb1.mono HB.out.size))
      refine hK.out _ _ hS1 ?_
      clear hK K 
      (try simp only [Act.put, List.setIfInBounds_toArray, List.set_cons_zero, List.set_cons_succ])
      iterate 2 (first | (refine plan_skip rfl ?_ ?_; (focus (rfl)); (try simp only [Act.put, List.setIfInBounds_toArray, List.set_cons_zero, List.set_cons_succ])) | (refine plan_take (v := ?_) rfl ?_ (fun w hSw => ?_) ?_; rotate_left; (focus (rfl)); (focus (unfold SrS at hSw; (go_simp <;> with_reducible rfl))); (try simp only [Act.put, List.setIfInBounds_toArray, List.set_cons_zero, List.set_cons_succ])))
      refine plan_done ?_
      clear hS hS1 hb1 HB HC
      go_wp2_with fail
      go_roundw
      case rel => exact ⟨1, by omega, rfl, rfl, HB1⟩
      case measure => simp [intOf]
    · obtain rfl : i = 1 := by omega
      go_wp2_with fail
      go_ret
      exact ⟨rfl, HI.out⟩
end Go.Proofs.YthpmdeofdlcccaaGreatDoor
