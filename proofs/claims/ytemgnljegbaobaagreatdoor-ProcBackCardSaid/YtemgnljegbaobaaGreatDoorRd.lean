/- are a stack, a process too great? (what is told: if not, their rows are not too long). Conditions: they read and are no greater than memory. -/
import Derived.Test.YtemgnljegbaobaaGreatDoorRb
import Derived.Test.YtemgnljegbaobaaGreatDoorTy
namespace Go.Proofs.YtemgnljegbaobaaGreatDoor
open Go.ChangeShapes Go.WideShapes Go.ChangeAt Go.RowKit
set_option linter.unusedVariables false
set_option linter.unusedSimpArgs false
set_option maxRecDepth 100000
/-- it tells something; what it means, if it is false -/
def SomePost (w : World) (F : Prop) (e : Ending) (w' : World) : Prop := ∃ b, e = .returned (.bool b) ∧ Below w.heap.size w w' ∧ (b = false → F)
set_option maxHeartbeats 8000000 in
theorem greatall_any (w : World) (v : Value) (n : Nat) (xs : List Value) (h : Rw w v n 5 xs) (ht : TsOk w xs n) : Calls Tryz.prog 45 #[v] w (SomePost w True) := by
  obtain ⟨ao, c, rfl, hc1, hc2⟩ := h.slice
  have HR := Lib.hid (And.intro h ht)
  clear h ht
  go_enter Tryz.func45, Tryz.ntmps45
  go_wp2_with fail
  go_loopw [3, 4] (fun nv iv wr => ∃ (i : Nat) (m : Int), i ≤ n ∧ iv = .int .i64 i ∧ nv = .int .i64 m ∧ 0 ≤ m ∧ m ≤ 9223372036854775807 ∧ Hid (Below w.heap.size w wr)) (fun _ iv _ => n - (intOf iv).toNat)
  case atStart => exact ⟨0, n, by omega, rfl, rfl, by omega, by omega, Lib.hid (Below.refl _ _)⟩
  case round =>
    obtain ⟨i, m, hi, rfl, rfl, hn0, hn1, HI⟩ := hrel
    by_cases hlt : i < n
    · by_cases hbig : m < 4000
      · have hd : decide (m < 4000) = true := by simpa using hbig
        obtain ⟨b, off, d1, e1, a1⟩ := rw_piece (HR.out.1.keep HI.out) hlt
        injection e1 with e1 _ e3
        subst e1 e3
        obtain ⟨f, t, lv, ep, htv⟩ := HR.out.2 i hlt
        rw [ep] at a1
        have c0 : wr.cell? ⟨b, off + i * 5, none⟩ = some (.int .i8 t.k) := a1 0 _ rfl
        have c1 : wr.cell? ⟨b, off + i * 5 + 1, none⟩ = some (.int .i64 t.n) := a1 1 _ rfl
        have c2 : wr.cell? ⟨b, off + i * 5 + 2, none⟩ = some (.string t.s) := a1 2 _ rfl
        have c3 : wr.cell? ⟨b, off + i * 5 + 3, none⟩ = some (.string t.u) := a1 3 _ rfl
        have c4 : wr.cell? ⟨b, off + i * 5 + 4, none⟩ = some (lv) := a1 4 _ rfl
        have hsz := siz_le t 4000 (by omega)
        have HCALL := Lib.hid (size_any f t _ wr 4000 (htv.keep HI.out) (by omega) (by omega))
        have hwr : IntKind.i64.wrap (m + siz t 4000) = m + siz t 4000 := IntWalk.i64_in _ (by omega)
        clear a1 ep htv
        go_wp2_with fail
        refine HCALL.out.mono ?_
        rintro e w2 ⟨rfl, hb2⟩
        have HB2 := Lib.hid (HI.out.trans (hb2.mono HI.out.size))
        clear HCALL hb2 c0 c1 c2 c3 c4 HI
        go_wp2_with fail
        go_roundw
        case rel => exact ⟨i + 1, m + siz t 4000, by omega, by go_num, rfl, by omega, by omega, HB2⟩
        case measure => simp [intOf]; omega
      · have hd : decide (m < 4000) = false := by simpa using hbig
        go_wp2_with fail
        go_ret
        exact ⟨_, rfl, HI.out, fun _ => trivial⟩
    · obtain rfl : i = n := by omega
      go_wp2_with fail
      go_ret
      exact ⟨_, rfl, HI.out, fun _ => trivial⟩
theorem FrOk.keep {W W' : World} {Z : Prop} {cs : Array Value} {X : Fx} (h : FrOk W Z cs X) (hb : Below W.heap.size W W') : FrOk W' Z cs X := by
  obtain ⟨h1, ⟨s, h2, h3⟩, h4⟩ := h
  exact ⟨h1.keep hb, ⟨s, h2, h3.keep hb⟩, h4⟩
/-- what a stack's being great rules out -/
def SmallSt (L : List Fm) : Prop := L.length ≤ 120 ∧ ∀ f ∈ L, f.X.ok
set_option maxHeartbeats 16000000 in
theorem great15_any (w : World) (v : Value) (L : List Fm) (h : St w v L) (ht : ∀ f ∈ L, FrOk w True f.cs f.X) : Calls Tryz.prog 17 #[v] w (SomePost w (SmallSt L)) := by
  obtain ⟨ao, c, rfl, hc1, hc2⟩ := h.row.slice
  have HR := Lib.hid (And.intro h ht)
  clear h ht
  go_enter Tryz.func17, Tryz.ntmps17
  go_wp2_with fail
  go_loopw [3, 8] (fun nv iv wr => ∃ (i : Nat) (m : Int), i ≤ L.length ∧ iv = .int .i64 i ∧ nv = .int .i64 m ∧ 10 * (i : Int) ≤ m ∧ m ≤ 1200 ∧ Hid (Below w.heap.size w wr ∧ ∀ f ∈ L.take i, f.X.ok)) (fun _ iv _ => L.length - (intOf iv).toNat)
  case atStart => exact ⟨0, 0, by omega, rfl, rfl, by omega, by omega, Lib.hid ⟨Below.refl _ _, by simp⟩⟩
  case round =>
    obtain ⟨i, m, hi, rfl, rfl, hn0, hn1, HI⟩ := hrel
    by_cases hlt : i < L.length
    · obtain ⟨f, hf⟩ : ∃ f, L[i]? = some f := ⟨L[i], List.getElem?_eq_getElem hlt⟩
      obtain ⟨b, off, c', he, hr, hsz, hfr⟩ := (HR.out.1.keep HI.out.1).range hf
      injection he with e1 e2 e3
      subst e1 e3
      clear e2
      obtain ⟨-, ⟨s, ⟨r3, r4, r5, r6, r28, r33, r34, hcs⟩, hft⟩, hbd⟩ := HR.out.2 f (List.mem_of_getElem? hf)
      have HF := Lib.hid (And.intro hf (And.intro hr (And.intro hsz (And.intro hfr hcs))))
      have HT := Lib.hid hft
      obtain ⟨b3, b4, b5, b6, b28, b33, b34⟩ := hbd trivial
      clear hr hfr hft hbd hf hcs
      go_wp2_with (with_reducible refine stop_op (o := ⟨_, .load 65 (.tmp 13), _, _, _, _⟩) ?_)
      refine Lib.hid ?_
      refine wpList_load_mid (op := ⟨_, _, _, _, _, _⟩) rfl 65 (.tmp 13) rfl b (off + i * 35) rfl f.cs.toList _ HF.out.2.1 Tryz.underlying65 rfl ((infoFR HF.out.2.2.1).trans (by simp)) ?_
      rw [show f.cs.toList.toArray = f.cs from rfl]
      go_wp2_with (with_reducible refine stop_op (o := ⟨_, .store 65 (.tmp 5) (.tmp 14), _, _, _, _⟩) ?_)
      refine Lib.hid ?_
      refine wpList_store_new (o := ⟨none, _, _, _, _, _⟩) rfl 65 (.tmp 5) (.tmp 14) rfl f.cs rfl rfl (infoFR hsz) hsz.symm HF.out.2.2.2.1.one ?_
      have hb1 := (Below.refl wr.heap.size wr).alloc (Nat.le_refl _) (.cells f.cs 65)
      have hx1 := heap_new wr (.cells f.cs 65)
      have HC := Lib.hid hx1
      have HB := Lib.hid hb1
      have HA := Lib.hid (HI.out.1.trans (hb1.mono HI.out.1.size))
      generalize wr.alloc (.cells f.cs 65) = w1 at *
      obtain ⟨q3, q4, q5, q6, q28, q33, q34⟩ := And.intro (HF.out.2.2.2.1.keep hb1).r3 (And.intro (HF.out.2.2.2.1.keep hb1).r4 (And.intro (HF.out.2.2.2.1.keep hb1).r5 (And.intro (HF.out.2.2.2.1.keep hb1).r6 (And.intro (HF.out.2.2.2.1.keep hb1).r28 (And.intro (HF.out.2.2.2.1.keep hb1).r33 (HF.out.2.2.2.1.keep hb1).r34)))))
      obtain ⟨v3, g3, p3⟩ := q3
      obtain ⟨v4, g4, p4⟩ := q4
      obtain ⟨v5, g5, p5⟩ := q5
      obtain ⟨v6, g6, p6⟩ := q6
      obtain ⟨v28, g28, p28⟩ := q28
      obtain ⟨v33, g33, p33⟩ := q33
      obtain ⟨v34, g34, p34⟩ := q34
      obtain ⟨a3, c3, rfl, -⟩ := p3.slice
      obtain ⟨a4, c4, rfl, -⟩ := p4.slice
      obtain ⟨a5, c5, rfl, -⟩ := p5.slice
      obtain ⟨a6, c6, rfl, -⟩ := p6.slice
      obtain ⟨a28, c28, rfl, -⟩ := p28.slice
      obtain ⟨a33, c33, rfl, -⟩ := p33.slice
      obtain ⟨a34, c34, rfl, -⟩ := p34.slice
      obtain ⟨x3, -⟩ := cells_at hx1 3 _ g3
      obtain ⟨x4, -⟩ := cells_at hx1 4 _ g4
      obtain ⟨x5, -⟩ := cells_at hx1 5 _ g5
      obtain ⟨x6, -⟩ := cells_at hx1 6 _ g6
      obtain ⟨x28, -⟩ := cells_at hx1 28 _ g28
      obtain ⟨x33, -⟩ := cells_at hx1 33 _ g33
      obtain ⟨x34, -⟩ := cells_at hx1 34 _ g34
      have HP3 := Lib.hid (And.intro p3 p5)
      have HG := Lib.hid (And.intro g3 g5)
      clear p3 p4 p5 p6 p28 p33 p34 g3 g4 g5 g6 g28 g33 g34 hx1 hb1
      obtain ⟨N3, hN3⟩ : ∃ N : Int, (f.X.n3 : Int) = N := ⟨_, rfl⟩
      obtain ⟨N4, hN4⟩ : ∃ N : Int, (f.X.n4 : Int) = N := ⟨_, rfl⟩
      obtain ⟨N5, hN5⟩ : ∃ N : Int, (f.X.n5 : Int) = N := ⟨_, rfl⟩
      obtain ⟨N6, hN6⟩ : ∃ N : Int, (f.X.n6 : Int) = N := ⟨_, rfl⟩
      obtain ⟨N28, hN28⟩ : ∃ N : Int, (f.X.n28 : Int) = N := ⟨_, rfl⟩
      obtain ⟨N33, hN33⟩ : ∃ N : Int, (f.X.n33 : Int) = N := ⟨_, rfl⟩
      obtain ⟨N34, hN34⟩ : ∃ N : Int, (f.X.n34 : Int) = N := ⟨_, rfl⟩
      have u1 : IntKind.i64.wrap (10 + N3) = 10 + N3 := IntWalk.i64_in _ (by omega)
      have u2 : IntKind.i64.wrap (10 + N3 + N4) = 10 + N3 + N4 := IntWalk.i64_in _ (by omega)
      have u3 : IntKind.i64.wrap (10 + N3 + N4 + N5) = 10 + N3 + N4 + N5 := IntWalk.i64_in _ (by omega)
      have u4 : IntKind.i64.wrap (10 + N3 + N4 + N5 + N6) = 10 + N3 + N4 + N5 + N6 := IntWalk.i64_in _ (by omega)
      have u5 : IntKind.i64.wrap (10 + N3 + N4 + N5 + N6 + N28) = 10 + N3 + N4 + N5 + N6 + N28 := IntWalk.i64_in _ (by omega)
      have u6 : IntKind.i64.wrap (10 + N3 + N4 + N5 + N6 + N28 + N33) = 10 + N3 + N4 + N5 + N6 + N28 + N33 := IntWalk.i64_in _ (by omega)
      have u7 : IntKind.i64.wrap (10 + N3 + N4 + N5 + N6 + N28 + N33 + N34) = 10 + N3 + N4 + N5 + N6 + N28 + N33 + N34 := IntWalk.i64_in _ (by omega)
      obtain ⟨T, hT⟩ : ∃ T : Int, m + (10 + N3 + N4 + N5 + N6 + N28 + N33 + N34) = T := ⟨_, rfl⟩
      have u8 : IntKind.i64.wrap (m + (10 + N3 + N4 + N5 + N6 + N28 + N33 + N34)) = T := (IntWalk.i64_in _ (by omega)).trans hT
      by_cases hbig : 1200 < T
      · have hd : decide (1200 < T) = true := decide_eq_true hbig
        clear hT
        go_wp2_with fail
        go_ret
        exact ⟨true, rfl, HA.out, fun h => by cases h⟩
      · have hd : decide (1200 < T) = false := decide_eq_false hbig
        have hok : f.X.ok := ⟨by omega, by omega, by omega, by omega, by omega, by omega, by omega⟩
        have HOK := Lib.hid (show (10 * ((i : Int) + 1) ≤ T ∧ T ≤ 1200) ∧ f.X.ok from ⟨⟨by omega, by omega⟩, hok⟩)
        clear hT hok
        go_wp2_with fail
        clear u1 u2 u3 u4 u5 u6 u7 u8 hd hbig x3 x4 x5 x6 x28 x33 x34
        refine (greatall_any w1 _ _ _ HP3.out.1 (HT.out.x3.keep HA.out)).mono ?_
        rintro e w2 ⟨bb, rfl, hb2, -⟩
        have HB2 := Lib.hid (HB.out.trans (hb2.mono HB.out.size))
        have HC2 := Lib.hid hb2
        clear hb2
        cases bb
        rotate_left
        · go_wp2_with fail
          go_ret
          exact ⟨true, rfl, HA.out.trans (HC2.out.mono HA.out.size), fun h => by cases h⟩
        obtain ⟨x5, -⟩ := cells_at (keep_heap HC.out HC2.out) 5 _ HG.out.2
        go_wp2_with fail
        refine (greatall_any w2 _ _ _ (HP3.out.2.keep HC2.out) (HT.out.x5.keep (HA.out.trans (HC2.out.mono HA.out.size)))).mono ?_
        rintro e w3 ⟨bb, rfl, hb3, -⟩
        have HC3 := Lib.hid (HC2.out.trans (hb3.mono HC2.out.size))
        clear hb3 x5 HB2
        cases bb
        rotate_left
        · go_wp2_with fail
          go_ret
          exact ⟨true, rfl, HA.out.trans (HC3.out.mono HA.out.size), fun h => by cases h⟩
        obtain ⟨g4, t4, ht4⟩ := (HT.out.t1.keep (HA.out.trans (HC3.out.mono HA.out.size))).term
        have HG4 := Lib.hid (great_any g4 t4 _ w3 ht4)
        have y0 : w3.cell? ⟨wr.heap.size, 13, none⟩ = some (.int .i8 s.tk) := (cells_at (keep_heap HC.out HC3.out) 13 _ (by rw [HF.out.2.2.2.2]; rfl)).1
        have y1 : w3.cell? ⟨wr.heap.size, 14, none⟩ = some (.int .i64 s.tn) := (cells_at (keep_heap HC.out HC3.out) 14 _ (by rw [HF.out.2.2.2.2]; rfl)).1
        have y2 : w3.cell? ⟨wr.heap.size, 15, none⟩ = some (.string s.ts) := (cells_at (keep_heap HC.out HC3.out) 15 _ (by rw [HF.out.2.2.2.2]; rfl)).1
        have y3 : w3.cell? ⟨wr.heap.size, 16, none⟩ = some (.string s.tu) := (cells_at (keep_heap HC.out HC3.out) 16 _ (by rw [HF.out.2.2.2.2]; rfl)).1
        have y4 : w3.cell? ⟨wr.heap.size, 17, none⟩ = some (s.tl) := (cells_at (keep_heap HC.out HC3.out) 17 _ (by rw [HF.out.2.2.2.2]; rfl)).1
        clear ht4
        go_wp2_with fail
        refine HG4.out.mono ?_
        rintro e w4 ⟨rfl, hbq⟩
        have HC4 := Lib.hid (HC3.out.trans (hbq.mono HC3.out.size))
        clear hbq y0 y1 y2 y3 y4 HG4
        generalize greatB t4 = bb at *
        cases bb
        rotate_left
        · go_wp2_with fail
          go_ret
          exact ⟨true, rfl, HA.out.trans (HC4.out.mono HA.out.size), fun h => by cases h⟩
        obtain ⟨g5, t5, ht5⟩ := (HT.out.t2.keep (HA.out.trans (HC4.out.mono HA.out.size))).term
        have HG5 := Lib.hid (great_any g5 t5 _ w4 ht5)
        have y0 : w4.cell? ⟨wr.heap.size, 18, none⟩ = some (.int .i8 s.uk) := (cells_at (keep_heap HC.out HC4.out) 18 _ (by rw [HF.out.2.2.2.2]; rfl)).1
        have y1 : w4.cell? ⟨wr.heap.size, 19, none⟩ = some (.int .i64 s.un) := (cells_at (keep_heap HC.out HC4.out) 19 _ (by rw [HF.out.2.2.2.2]; rfl)).1
        have y2 : w4.cell? ⟨wr.heap.size, 20, none⟩ = some (.string s.us) := (cells_at (keep_heap HC.out HC4.out) 20 _ (by rw [HF.out.2.2.2.2]; rfl)).1
        have y3 : w4.cell? ⟨wr.heap.size, 21, none⟩ = some (.string s.uu) := (cells_at (keep_heap HC.out HC4.out) 21 _ (by rw [HF.out.2.2.2.2]; rfl)).1
        have y4 : w4.cell? ⟨wr.heap.size, 22, none⟩ = some (s.ul) := (cells_at (keep_heap HC.out HC4.out) 22 _ (by rw [HF.out.2.2.2.2]; rfl)).1
        clear ht5
        go_wp2_with fail
        refine HG5.out.mono ?_
        rintro e w5 ⟨rfl, hbq⟩
        have HC5 := Lib.hid (HC4.out.trans (hbq.mono HC4.out.size))
        clear hbq y0 y1 y2 y3 y4 HG5
        generalize greatB t5 = bb at *
        cases bb
        rotate_left
        · go_wp2_with fail
          go_ret
          exact ⟨true, rfl, HA.out.trans (HC5.out.mono HA.out.size), fun h => by cases h⟩
        obtain ⟨g6, t6, ht6⟩ := (HT.out.t3.keep (HA.out.trans (HC5.out.mono HA.out.size))).term
        have HG6 := Lib.hid (great_any g6 t6 _ w5 ht6)
        have y0 : w5.cell? ⟨wr.heap.size, 23, none⟩ = some (.int .i8 s.vk) := (cells_at (keep_heap HC.out HC5.out) 23 _ (by rw [HF.out.2.2.2.2]; rfl)).1
        have y1 : w5.cell? ⟨wr.heap.size, 24, none⟩ = some (.int .i64 s.vn) := (cells_at (keep_heap HC.out HC5.out) 24 _ (by rw [HF.out.2.2.2.2]; rfl)).1
        have y2 : w5.cell? ⟨wr.heap.size, 25, none⟩ = some (.string s.vs) := (cells_at (keep_heap HC.out HC5.out) 25 _ (by rw [HF.out.2.2.2.2]; rfl)).1
        have y3 : w5.cell? ⟨wr.heap.size, 26, none⟩ = some (.string s.vu) := (cells_at (keep_heap HC.out HC5.out) 26 _ (by rw [HF.out.2.2.2.2]; rfl)).1
        have y4 : w5.cell? ⟨wr.heap.size, 27, none⟩ = some (s.vl) := (cells_at (keep_heap HC.out HC5.out) 27 _ (by rw [HF.out.2.2.2.2]; rfl)).1
        clear ht6
        go_wp2_with fail
        refine HG6.out.mono ?_
        rintro e w6 ⟨rfl, hbq⟩
        have HC6 := Lib.hid (HC5.out.trans (hbq.mono HC5.out.size))
        clear hbq y0 y1 y2 y3 y4 HG6
        generalize greatB t6 = bb at *
        cases bb
        rotate_left
        · go_wp2_with fail
          go_ret
          exact ⟨true, rfl, HA.out.trans (HC6.out.mono HA.out.size), fun h => by cases h⟩
        have HZ := Lib.hid (HA.out.trans (HC6.out.mono HA.out.size))
        have HOKs := Lib.hid (show ∀ g ∈ L.take (i + 1), g.X.ok from fun g hg => by
          rw [List.take_add_one, HF.out.1] at hg
          rcases List.mem_append.1 hg with hg | hg
          · exact HI.out.2 g hg
          · obtain rfl : g = f := by simpa using hg
            exact HOK.out.2)
        clear HI HA HC6 HC5 HC4 HC3 HC2 HB HC HF HT HP3 HG
        go_wp2_with fail
        go_roundw
        case rel => exact ⟨i + 1, T, by omega, by go_num, rfl, by have := HOK.out.1.1; omega, HOK.out.1.2, Lib.hid ⟨HZ.out, HOKs.out⟩⟩
        case measure => simp [intOf]; omega
    · obtain rfl : i = L.length := by omega
      go_wp2_with fail
      go_ret
      exact ⟨_, rfl, HI.out.1, fun _ => ⟨by omega, fun f hf => HI.out.2 f (by rw [List.take_length]; exact hf)⟩⟩
/-- a process that reads: its frames, its items -/
structure PdOk (w : World) (D : Pd) (ml : List Im) : Prop where
  fr : ∀ f ∈ D.L, FrOk w True f.cs f.X
  xm : D.xm = mvs ml
  nm : D.nm = ml.length
  im : ∀ x ∈ ml, ImOk w x
  bm : D.nm ≤ 140737488355328
  bl : D.lk.length ≤ 140737488355328
  bw : D.ws.length ≤ 140737488355328
theorem PdOk.keep {w w' : World} {D : Pd} {ml : List Im} (h : PdOk w D ml) (hb : Below w.heap.size w w') : PdOk w' D ml :=
  ⟨fun f hf => (h.fr f hf).keep hb, h.xm, h.nm, fun x hx => (h.im x hx).keep hb, h.bm, h.bl, h.bw⟩
set_option maxHeartbeats 16000000 in
theorem great19_any (w : World) (p : Pv) (D : Pd) (ml : List Im) (h : PrX w p D.X) (hk : PdOk w D ml) : Calls Tryz.prog 4 #[.agg p.cells] w (SomePost w (D.ok ∧ D.nm ≤ 100)) := by
  obtain ⟨pid, par, sv, mv, name, trap, wait, lv, wv0⟩ := p
  have HP := Lib.hid h
  obtain ⟨h2, h3, h7, h8⟩ := h
  simp only [Pd.X] at h2 h3 h7 h8
  obtain ⟨so, sc, rfl, -, -⟩ := h2.row.slice
  obtain ⟨mo, mc, rfl, hm1, hm2⟩ := h3.slice
  obtain ⟨lo, lc, rfl, -, -⟩ := h7.slice
  obtain ⟨wo, wc, rfl, -, -⟩ := h8.slice
  clear h2 h3 h7 h8
  have bl := hk.bl
  have bw := hk.bw
  have HK := Lib.hid hk
  clear hk
  have hb1 := (Below.refl w.heap.size w).alloc (Nat.le_refl _) (.cells #[.int .i64 pid, .int .i64 par, .slice so D.L.length sc, .slice mo D.nm mc, .string name, .bool trap, .bool wait, .slice lo D.lk.length lc, .slice wo D.ws.length wc] 27)
  have hx1 := heap_new w (.cells #[.int .i64 pid, .int .i64 par, .slice so D.L.length sc, .slice mo D.nm mc, .string name, .bool trap, .bool wait, .slice lo D.lk.length lc, .slice wo D.ws.length wc] 27)
  have HB := Lib.hid (And.intro hb1 hx1)
  obtain ⟨x7, -⟩ := cells_at hx1 7 _ rfl
  obtain ⟨x8, -⟩ := cells_at hx1 8 _ rfl
  obtain ⟨x3, -⟩ := cells_at hx1 3 _ rfl
  obtain ⟨x2, -⟩ := cells_at hx1 2 _ rfl
  clear hb1 hx1
  have u1 : IntKind.i64.wrap ((D.lk.length : Int) + (D.ws.length : Int)) = (D.lk.length : Int) + (D.ws.length : Int) := IntWalk.i64_in _ (by omega)
  go_enter Tryz.func4, Tryz.ntmps4
  by_cases hbig : (200 : Int) < (D.lk.length : Int) + (D.ws.length : Int)
  · have hd : decide ((200 : Int) < (D.lk.length : Int) + (D.ws.length : Int)) = true := decide_eq_true hbig
    go_wp2_with fail
    go_ret
    exact ⟨true, rfl, HB.out.1, fun h => by cases h⟩
  · have hd : decide ((200 : Int) < (D.lk.length : Int) + (D.ws.length : Int)) = false := decide_eq_false hbig
    by_cases hbm : (100 : Int) < (D.nm : Int)
    · have hd2 : decide ((100 : Int) < (D.nm : Int)) = true := decide_eq_true hbm
      go_wp2_with fail
      go_ret
      exact ⟨true, rfl, HB.out.1, fun h => by cases h⟩
    · have hd2 : decide ((100 : Int) < (D.nm : Int)) = false := decide_eq_false hbm
      go_wp2_with fail
      generalize w.alloc (.cells #[.int .i64 pid, .int .i64 par, .slice so D.L.length sc, .slice mo D.nm mc, .string name, .bool trap, .bool wait, .slice lo D.lk.length lc, .slice wo D.ws.length wc] 27) = w1 at *
      refine (great15_any w1 _ D.L (HP.out.st.keep HB.out.1) (HK.out.keep HB.out.1).fr).mono ?_
      rintro e w2 ⟨bb, rfl, hb2, hsm⟩
      have HB2 := Lib.hid hb2
      have HBB := Lib.hid (HB.out.1.trans (hb2.mono HB.out.1.size))
      clear hb2 x7 x8 x2 u1 hd hd2
      cases bb
      rotate_left
      · go_wp2_with fail
        go_ret
        exact ⟨true, rfl, HBB.out, fun h => by cases h⟩
      have hsm2 := hsm rfl
      have HOK := Lib.hid (show D.ok ∧ D.nm ≤ 100 from ⟨⟨by have := hsm2.1; omega, hsm2.2, by omega, by omega, by omega⟩, by omega⟩)
      clear hsm hsm2
      have hx2 := keep_heap HB.out.2 HB2.out
      clear x3
      obtain ⟨x3, -⟩ := cells_at hx2 3 _ rfl
      clear hx2
      go_wp2_with fail
      clear x3
      go_loopw [26] (fun iv wr => ∃ i : Nat, i ≤ D.nm ∧ iv = .int .i64 i ∧ Hid (Below w1.heap.size w1 wr)) (fun iv _ => D.nm - (intOf iv).toNat)
      case atStart => exact ⟨0, by omega, rfl, HB2⟩
      case round =>
        obtain ⟨i, hi, rfl, HI⟩ := hrel
        have hx3 := keep_heap HB.out.2 HI.out
        obtain ⟨x3, -⟩ := cells_at hx3 3 _ rfl
        clear hx3
        by_cases hlt : i < D.nm
        · obtain ⟨y, hy⟩ : ∃ y, ml[i]? = some y := ⟨_, List.getElem?_eq_getElem (by rw [← HK.out.nm]; exact hlt)⟩
          have hml := HP.out.ml
          simp only [Pd.X] at hml
          rw [HK.out.xm, HK.out.nm] at hml
          obtain ⟨b, off, c, e, hat⟩ := im_at ((hml.keep HB.out.1).keep HI.out) hy
          injection e with e1 e2 e3
          subst e1 e3
          obtain ⟨f, t, hT⟩ := HK.out.im y (List.mem_of_getElem? hy)
          have HG := Lib.hid (great_any f t _ wr ((hT.keep HB.out.1).keep HI.out))
          obtain ⟨y0, y1, y2, y3, y4, -⟩ := hat
          clear hT e2 hml hy
          go_wp2_with fail
          refine HG.out.mono ?_
          rintro e w3 ⟨rfl, hbq⟩
          have HI2 := Lib.hid (HI.out.trans (hbq.mono HI.out.size))
          clear hbq y0 y1 y2 y3 y4 HG x3
          generalize greatB t = bb at *
          cases bb
          · go_wp2_with fail
            go_roundw
            case rel => exact ⟨i + 1, hlt, by go_num, HI2⟩
            case measure => simp [intOf]; omega
          · go_wp2_with fail
            go_ret
            exact ⟨true, rfl, HB.out.1.trans (HI2.out.mono HB.out.1.size), fun h => by cases h⟩
        · have hlt' : ¬ ((i : Int) < (D.nm : Int)) := by omega
          go_wp2_with fail
          go_ret
          exact ⟨false, rfl, HB.out.1.trans (HI.out.mono HB.out.1.size), fun _ => HOK.out⟩
end Go.Proofs.YtemgnljegbaobaaGreatDoor
