/- terms, specifications, records, frames: what can be read as data (printed by genrb.py). No conditions. -/
import Derived.Test.YtemgnljegbaobaaGreatDoorRa
import Derived.Test.YtemgnljegbaobaaGreatDoorTr
import Derived.Test.YtemgnljegbaobaaGreatDoorOj
namespace Go.Proofs.YtemgnljegbaobaaGreatDoor
open Go.ChangeShapes Go.WideShapes Go.ChangeAt Go.RowKit
set_option linter.unusedVariables false
set_option maxRecDepth 100000
theorem cells_I8 : Tryz.prog.cellsOf 28 = 1 := by kernel_rfl
theorem cells_I : Tryz.prog.cellsOf 3 = 1 := by kernel_rfl
theorem cells_S : Tryz.prog.cellsOf 9 = 1 := by kernel_rfl
theorem cells_BO : Tryz.prog.cellsOf 4 = 1 := by kernel_rfl
theorem cells_TM : Tryz.prog.cellsOf 31 = 5 := by kernel_rfl
theorem cells_LT : Tryz.prog.cellsOf 29 = 1 := by kernel_rfl
theorem cells_LB : Tryz.prog.cellsOf 56 = 1 := by kernel_rfl
theorem cells_LY : Tryz.prog.cellsOf 57 = 1 := by kernel_rfl
theorem cells_LR : Tryz.prog.cellsOf 58 = 1 := by kernel_rfl
theorem cells_LI : Tryz.prog.cellsOf 24 = 1 := by kernel_rfl
theorem cells_LC : Tryz.prog.cellsOf 59 = 1 := by kernel_rfl
theorem cells_LSP : Tryz.prog.cellsOf 172 = 1 := by kernel_rfl
theorem cells_YT : Tryz.prog.cellsOf 101 = 2 := by kernel_rfl
theorem cells_RC : Tryz.prog.cellsOf 176 = 13 := by kernel_rfl
theorem cells_CH : Tryz.prog.cellsOf 174 = 12 := by kernel_rfl
theorem cells_SP : Tryz.prog.cellsOf 61 = 4 := by kernel_rfl
theorem cells_FR : Tryz.prog.cellsOf 65 = 35 := by kernel_rfl
theorem cells_MA : Tryz.prog.cellsOf 63 = 27 := by kernel_rfl
theorem list_2 {cs : List Value} (h : cs.length = 2) : ∃ c0 c1, cs = [c0, c1] := by
  match cs, h with
  | c0 :: c1 :: [], _ => exact ⟨c0, c1, rfl⟩
theorem list_4 {cs : List Value} (h : cs.length = 4) : ∃ c0 c1 c2 c3, cs = [c0, c1, c2, c3] := by
  match cs, h with
  | c0 :: c1 :: c2 :: c3 :: [], _ => exact ⟨c0, c1, c2, c3, rfl⟩
theorem list_12 {cs : List Value} (h : cs.length = 12) : ∃ c0 c1 c2 c3 c4 c5 c6 c7 c8 c9 c10 c11, cs = [c0, c1, c2, c3, c4, c5, c6, c7, c8, c9, c10, c11] := by
  match cs, h with
  | c0 :: c1 :: c2 :: c3 :: c4 :: c5 :: c6 :: c7 :: c8 :: c9 :: c10 :: c11 :: [], _ => exact ⟨c0, c1, c2, c3, c4, c5, c6, c7, c8, c9, c10, c11, rfl⟩
theorem list_35 {cs : List Value} (h : cs.length = 35) : ∃ c0 c1 c2 c3 c4 c5 c6 c7 c8 c9 c10 c11 c12 c13 c14 c15 c16 c17 c18 c19 c20 c21 c22 c23 c24 c25 c26 c27 c28 c29 c30 c31 c32 c33 c34, cs = [c0, c1, c2, c3, c4, c5, c6, c7, c8, c9, c10, c11, c12, c13, c14, c15, c16, c17, c18, c19, c20, c21, c22, c23, c24, c25, c26, c27, c28, c29, c30, c31, c32, c33, c34] := by
  match cs, h with
  | c0 :: c1 :: c2 :: c3 :: c4 :: c5 :: c6 :: c7 :: c8 :: c9 :: c10 :: c11 :: c12 :: c13 :: c14 :: c15 :: c16 :: c17 :: c18 :: c19 :: c20 :: c21 :: c22 :: c23 :: c24 :: c25 :: c26 :: c27 :: c28 :: c29 :: c30 :: c31 :: c32 :: c33 :: c34 :: [], _ => exact ⟨c0, c1, c2, c3, c4, c5, c6, c7, c8, c9, c10, c11, c12, c13, c14, c15, c16, c17, c18, c19, c20, c21, c22, c23, c24, c25, c26, c27, c28, c29, c30, c31, c32, c33, c34, rfl⟩
theorem map_flat {α : Type} (f : α → Value) : ∀ l : List α, l.flatMap (fun b => [f b]) = l.map f
  | [] => rfl
  | x :: l => by rw [List.flatMap_cons, map_flat f l]; rfl
section
variable {H : Type} {enc : TypeId × Value → H} {W : World}
theorem tm_rd {n : Nat} {cs : List Value} {Z : Prop} (h : RdS enc Tryz.prog W n 31 cs Z) : ∃ k m s u lv, cs = [.int .i8 k, .int .i64 m, .string s, .string u, lv] ∧ lv.oneCell' = true ∧ TmOk W [.int .i8 k, .int .i64 m, .string s, .string u, lv] := by
  obtain ⟨x, h, -⟩ := h
  obtain ⟨t, lv, rfl, hf, hr⟩ := tm_of_trod n _ _ h
  refine ⟨_, _, _, _, lv, rfl, ?_, n, t, lv, rfl, hf, lv, rfl, hr⟩
  obtain ⟨ao, cap, rfl, -⟩ := hr
  rfl
/-- a slice that reads is a row -/
theorem row_rd {t e : TypeId} {z fuel : Nat} {v : Value} {Z : Prop} (hu : Tryz.prog.underlying t = some (.slice e)) (hz : Tryz.prog.cellsOf e = z) (h0 : 0 < z) (hb : 1 ≤ Tryz.prog.bytesOf e) (h : RdS enc Tryz.prog W fuel t [v] Z)
    (h1 : ∀ m cs, m < fuel → RdS enc Tryz.prog W m e cs Z → ∀ u ∈ cs, u.oneCell' = true) :
    ∃ ao len cap xs, v = .slice ao len cap ∧ Rw W (.slice ao len cap) len z xs ∧ (Z → len ≤ 140737488355328) ∧ ∀ i, i < len → (piece xs i z).length = z ∧ ∃ m, m < fuel ∧ RdS enc Tryz.prog W m e (piece xs i z) Z := by
  obtain ⟨ao, len, cap, xs, rfl, g1, g2, g3, g4, g5, g6, g7⟩ := rd_row hu hz h0 hb h
  refine ⟨ao, len, cap, xs, rfl, ⟨g5, fun u hu => ?_, ao, cap, rfl, g1, g2, g6⟩, g3, g7⟩
  obtain ⟨j, hj⟩ := List.getElem?_of_mem hu
  have hjl := (List.getElem?_eq_some_iff.1 hj).1
  have hi : j / z < len := by rw [Nat.div_lt_iff_lt_mul h0]; omega
  have hm : j % z < z := Nat.mod_lt _ h0
  obtain ⟨q1, m, q2, q3⟩ := g7 _ hi
  refine h1 m _ q2 q3 u (List.mem_of_getElem? (i := j % z) ?_)
  rw [pc_at hm]
  have hdm : j / z * z + j % z = j := by rw [Nat.mul_comm]; exact Nat.div_add_mod j z
  rw [hdm]
  exact hj
theorem one_tm {m : Nat} {cs : List Value} {Z : Prop} (h : RdS enc Tryz.prog W m 31 cs Z) : ∀ u ∈ cs, u.oneCell' = true := by
  obtain ⟨k, n, s, u, lv, rfl, h1, -⟩ := tm_rd h
  intro u hu
  simp only [List.mem_cons, List.not_mem_nil, or_false] at hu
  rcases hu with rfl | rfl | rfl | rfl | rfl
  · rfl
  · rfl
  · rfl
  · rfl
  · exact h1
theorem ts_rd {n : Nat} {v : Value} {Z : Prop} (h : RdS enc Tryz.prog W n 29 [v] Z) : ∃ ao len cap xs, v = .slice ao len cap ∧ Rw W (.slice ao len cap) len 5 xs ∧ TsOk W xs len ∧ (Z → len ≤ 140737488355328) := by
  obtain ⟨ao, len, cap, xs, rfl, h1, h2, h3⟩ := row_rd Tryz.underlying29 cells_TM (by decide) (of_decide_eq_true (by kernel_rfl)) h (fun m cs _ hr => one_tm hr)
  refine ⟨ao, len, cap, xs, rfl, h1, fun i hi => ?_, h2⟩
  obtain ⟨-, m, -, hr⟩ := h3 i hi
  obtain ⟨k, m, s, u, lv, e, -, ht⟩ := tm_rd hr
  rw [e]
  exact ht
theorem bools_rd {n : Nat} {v : Value} {Z : Prop} (h : RdS enc Tryz.prog W n 56 [v] Z) : ∃ ao cap, ∃ ps : List Bool, v = .slice ao ps.length cap ∧ Rw W (.slice ao ps.length cap) ps.length 1 (bvs ps) ∧ (Z → ps.length ≤ 140737488355328) := by
  obtain ⟨ao, len, cap, xs, rfl, h1, h2, h3⟩ := row_rd Tryz.underlying56 cells_BO (by decide) (of_decide_eq_true (by kernel_rfl)) h (fun m cs _ hr u hu => by
    obtain ⟨x, hx, -⟩ := hr
    obtain ⟨b, rfl, -⟩ := DataW.trod_bool Tryz.underlying4 hx
    obtain rfl := List.mem_singleton.1 hu
    rfl)
  obtain ⟨ps, e1, e2, -⟩ := rows_code (code := fun b => [Value.bool b]) (Q := fun _ _ => True) h1.1 (fun i hi => by
    obtain ⟨-, m, -, x, hx, -⟩ := h3 i hi
    obtain ⟨b, e, -⟩ := DataW.trod_bool Tryz.underlying4 hx
    exact ⟨b, e, trivial⟩)
  subst e1
  refine ⟨ao, cap, ps, rfl, ?_, h2⟩
  rw [show bvs ps = xs by rw [e2, map_flat]; rfl]
  exact h1
theorem ints_rd {n : Nat} {v : Value} {Z : Prop} (h : RdS enc Tryz.prog W n 24 [v] Z) : ∃ ao cap, ∃ ps : List Int, v = .slice ao ps.length cap ∧ Rw W (.slice ao ps.length cap) ps.length 1 (iv ps) ∧ (Z → ps.length ≤ 140737488355328) := by
  obtain ⟨ao, len, cap, xs, rfl, h1, h2, h3⟩ := row_rd Tryz.underlying24 cells_I (by decide) (of_decide_eq_true (by kernel_rfl)) h (fun m cs _ hr u hu => by
    obtain ⟨x, hx, -⟩ := hr
    obtain ⟨b, rfl, -⟩ := DataW.trod_int Tryz.underlying3 hx
    obtain rfl := List.mem_singleton.1 hu
    rfl)
  obtain ⟨ps, e1, e2, -⟩ := rows_code (code := fun b => [Value.int .i64 b]) (Q := fun _ _ => True) h1.1 (fun i hi => by
    obtain ⟨-, m, -, x, hx, -⟩ := h3 i hi
    obtain ⟨b, e, -⟩ := DataW.trod_int Tryz.underlying3 hx
    exact ⟨b, e, trivial⟩)
  subst e1
  refine ⟨ao, cap, ps, rfl, ?_, h2⟩
  rw [show iv ps = xs by rw [e2, map_flat]; rfl]
  exact h1
/-- a thing of two numbers -/
theorem two_rd {t : TypeId} {fs : Array Field} {f g : Field} {n : Nat} {cs : List Value} {Z : Prop} (hu : Tryz.prog.underlying t = some (.struct fs)) (hc : Tryz.prog.cellsOf t = 2) (hf : fs[0]? = some f) (hg : fs[1]? = some g) (f0 : f.offset = 0) (g0 : g.offset = 1) (ft : f.type = 3) (gt : g.type = 3) (h : RdS enc Tryz.prog W n t cs Z) :
    ∃ x : Int × Int, cs = [.int .i64 x.1, .int .i64 x.2] := by
  obtain ⟨hl, m, -, r0⟩ := rd_field hu h 0 f hf 0 1 f0 (by rw [ft]; exact cells_I)
  obtain ⟨-, m', -, r1⟩ := rd_field hu h 1 g hg 1 1 g0 (by rw [gt]; exact cells_I)
  rw [hc] at hl
  obtain ⟨c0, c1, rfl⟩ := list_2 hl
  rw [ft] at r0
  rw [gt] at r1
  obtain ⟨a, rfl, -⟩ := rd_int Tryz.underlying3 (show RdS enc Tryz.prog W m 3 [c0] Z from r0)
  obtain ⟨b, rfl, -⟩ := rd_int Tryz.underlying3 (show RdS enc Tryz.prog W m' 3 [c1] Z from r1)
  exact ⟨(a, b), rfl⟩
theorem pairs_rd {t e : TypeId} {n : Nat} {v : Value} {Z : Prop} (hu : Tryz.prog.underlying t = some (.slice e)) (hc : Tryz.prog.cellsOf e = 2) (hb : 1 ≤ Tryz.prog.bytesOf e) (hp : ∀ m cs, RdS enc Tryz.prog W m e cs Z → ∃ x : Int × Int, cs = [.int .i64 x.1, .int .i64 x.2]) (h : RdS enc Tryz.prog W n t [v] Z) :
    ∃ ao cap, ∃ ps : List (Int × Int), v = .slice ao ps.length cap ∧ Rw W (.slice ao ps.length cap) ps.length 2 (wv ps) ∧ (Z → ps.length ≤ 140737488355328) := by
  obtain ⟨ao, len, cap, xs, rfl, h1, h2, h3⟩ := row_rd hu hc (by decide) hb h (fun m cs _ hr u hu => by
    obtain ⟨x, rfl⟩ := hp m cs hr
    simp only [List.mem_cons, List.not_mem_nil, or_false] at hu
    rcases hu with rfl | rfl <;> rfl)
  obtain ⟨ps, e1, e2, -⟩ := rows_code (code := fun x : Int × Int => [Value.int .i64 x.1, Value.int .i64 x.2]) (Q := fun _ _ => True) h1.1 (fun i hi => by
    obtain ⟨-, m, -, hr⟩ := h3 i hi
    obtain ⟨x, e⟩ := hp m _ hr
    exact ⟨x, e, trivial⟩)
  subst e1
  refine ⟨ao, cap, ps, rfl, ?_, h2⟩
  rw [show wv ps = xs from e2.symm]
  exact h1
theorem tries_rd {n : Nat} {v : Value} {Z : Prop} (h : RdS enc Tryz.prog W n 57 [v] Z) : ∃ ao cap, ∃ ps : List (Int × Int), v = .slice ao ps.length cap ∧ Rw W (.slice ao ps.length cap) ps.length 2 (wv ps) ∧ (Z → ps.length ≤ 140737488355328) :=
  pairs_rd Tryz.underlying57 cells_YT (of_decide_eq_true (by kernel_rfl)) (fun m cs hr => two_rd Tryz.underlying101 cells_YT rfl rfl rfl rfl rfl rfl hr) h
theorem CdOk.more {w : World} : ∀ {f : Nat} {cs : List Value}, CdOk f w cs → CdOk (f + 1) w cs := by
  intro f
  induction f with
  | zero => intro cs h; exact h.elim
  | succ f ih =>
    intro cs h
    obtain ⟨k, n, s, u, lv, kd, rs, sh, m, fn, ga, gn, gc, ua, un, uc, xa, xu, e, h1, h2, h3, h4, h5⟩ := h
    refine ⟨k, n, s, u, lv, kd, rs, sh, m, fn, ga, gn, gc, ua, un, uc, xa, xu, e, h1, h2, h3, h4, fun i hi => ?_⟩
    obtain ⟨st, mr, mt, ca, cn, cc, xc, e', g1, g2⟩ := h5 i hi
    exact ⟨st, mr, mt, ca, cn, cc, xc, e', g1, fun j hj => ih (g2 j hj)⟩
theorem CdOk.le {w : World} {f g : Nat} {cs : List Value} (h : CdOk f w cs) (hg : f ≤ g) : CdOk g w cs := by
  induction hg with
  | refl => exact h
  | step _ ih => exact ih.more
theorem sup_of {C : List Value → Prop} {n : Nat} {cs : List Value} {Z : Prop} (hC : ∀ m c, m < n → RdS enc Tryz.prog W m 174 c Z → C c ∧ ∀ u ∈ c, u.oneCell' = true) (h : RdS enc Tryz.prog W n 61 cs Z) :
    ∃ st mr mt sa sn sc, cs = [.int .i8 st, .int .i64 mr, .int .i64 mt, .slice sa sn sc] ∧ SpOk C W [.int .i8 st, .int .i64 mr, .int .i64 mt, .slice sa sn sc] ∧ (Z → sn ≤ 140737488355328) := by
  obtain ⟨hl, m0, -, r0⟩ := rd_field Tryz.underlying61 h 0 _ rfl 0 1 rfl cells_I8
  obtain ⟨-, m1, -, r1⟩ := rd_field Tryz.underlying61 h 1 _ rfl 1 1 rfl cells_I
  obtain ⟨-, m2, -, r2⟩ := rd_field Tryz.underlying61 h 2 _ rfl 2 1 rfl cells_I
  obtain ⟨-, m3, hm3, r3⟩ := rd_field Tryz.underlying61 h 3 _ rfl 3 1 rfl cells_LC
  rw [cells_SP] at hl
  obtain ⟨c0, c1, c2, c3, rfl⟩ := list_4 hl
  obtain ⟨st, rfl, -⟩ := rd_int Tryz.underlying28 (show RdS enc Tryz.prog W m0 28 [c0] Z from r0)
  obtain ⟨mr, rfl, -⟩ := rd_int Tryz.underlying3 (show RdS enc Tryz.prog W m1 3 [c1] Z from r1)
  obtain ⟨mt, rfl, -⟩ := rd_int Tryz.underlying3 (show RdS enc Tryz.prog W m2 3 [c2] Z from r2)
  obtain ⟨sa, sn, sc, xs, rfl, g1, g2, g3⟩ := row_rd Tryz.underlying59 cells_CH (by decide) (of_decide_eq_true (by kernel_rfl)) (show RdS enc Tryz.prog W m3 59 [c3] Z from r3) (fun m cs hm hr => (hC m cs (by omega) hr).2)
  refine ⟨st, mr, mt, sa, sn, sc, rfl, ⟨st, mr, mt, sa, sn, sc, xs, rfl, g1, fun i hi => ?_⟩, g2⟩
  obtain ⟨-, m, hm, hr⟩ := g3 i hi
  exact (hC m _ (by omega) hr).1
theorem child_rd {Z : Prop} : ∀ (n : Nat) (cs : List Value), RdS enc Tryz.prog W n 174 cs Z → cs.length = 12 ∧ CdOk (n + 1) W cs ∧ ∀ u ∈ cs, u.oneCell' = true := by
  intro n
  induction n using Nat.strongRecOn with
  | ind n ih =>
    intro cs h
    obtain ⟨hl, m0, hm0, r0⟩ := rd_field Tryz.underlying174 h 0 _ rfl 0 5 rfl cells_TM
    obtain ⟨-, m1, -, r1⟩ := rd_field Tryz.underlying174 h 1 _ rfl 5 1 rfl cells_I8
    obtain ⟨-, m2, -, r2⟩ := rd_field Tryz.underlying174 h 2 _ rfl 6 1 rfl cells_I8
    obtain ⟨-, m3, -, r3⟩ := rd_field Tryz.underlying174 h 3 _ rfl 7 1 rfl cells_I
    obtain ⟨-, m4, -, r4⟩ := rd_field Tryz.underlying174 h 4 _ rfl 8 1 rfl cells_S
    obtain ⟨-, m5, -, r5⟩ := rd_field Tryz.underlying174 h 5 _ rfl 9 1 rfl cells_S
    obtain ⟨-, m6, -, r6⟩ := rd_field Tryz.underlying174 h 6 _ rfl 10 1 rfl cells_LT
    obtain ⟨-, m7, hm7, r7⟩ := rd_field Tryz.underlying174 h 7 _ rfl 11 1 rfl cells_LSP
    rw [cells_CH] at hl
    refine ⟨hl, ?_⟩
    obtain ⟨c0, c1, c2, c3, c4, c5, c6, c7, c8, c9, c10, c11, rfl⟩ := list_12 hl
    obtain ⟨k, tn, s, u, lv, e0, h1, ht⟩ := tm_rd (show RdS enc Tryz.prog W m0 31 [c0, c1, c2, c3, c4] Z from r0)
    simp only [List.cons.injEq, and_true] at e0
    obtain ⟨rfl, rfl, rfl, rfl, rfl⟩ := e0
    obtain ⟨kd, rfl, -⟩ := rd_int Tryz.underlying28 (show RdS enc Tryz.prog W m1 28 [c5] Z from r1)
    obtain ⟨rs, rfl, -⟩ := rd_int Tryz.underlying28 (show RdS enc Tryz.prog W m2 28 [c6] Z from r2)
    obtain ⟨sh, rfl, -⟩ := rd_int Tryz.underlying3 (show RdS enc Tryz.prog W m3 3 [c7] Z from r3)
    obtain ⟨mm, rfl, -⟩ := rd_str Tryz.underlying9 (show RdS enc Tryz.prog W m4 9 [c8] Z from r4)
    obtain ⟨fn, rfl, -⟩ := rd_str Tryz.underlying9 (show RdS enc Tryz.prog W m5 9 [c9] Z from r5)
    obtain ⟨ga, gn, gc, xa, rfl, q1, q2, -⟩ := ts_rd (show RdS enc Tryz.prog W m6 29 [c10] Z from r6)
    have hC : ∀ m c, m < n → RdS enc Tryz.prog W m 174 c Z → CdOk n W c ∧ ∀ u ∈ c, u.oneCell' = true := fun m c hm hr => by
      obtain ⟨-, g1, g2⟩ := ih m hm c hr
      exact ⟨g1.le (by omega), g2⟩
    obtain ⟨ua, un, uc, xu, rfl, p1, p2, p3⟩ := row_rd Tryz.underlying172 cells_SP (by decide) (of_decide_eq_true (by kernel_rfl)) (show RdS enc Tryz.prog W m7 172 [c11] Z from r7) (fun m cs hm hr u hu => by
      obtain ⟨st, mr, mt, sa, sn, sc, rfl, -⟩ := sup_of (fun m' c hm' hr' => hC m' c (by omega) hr') hr
      simp only [List.mem_cons, List.not_mem_nil, or_false] at hu
      rcases hu with rfl | rfl | rfl | rfl <;> rfl)
    refine ⟨⟨k, tn, s, u, c4, kd, rs, sh, mm, fn, ga, gn, gc, ua, un, uc, xa, xu, rfl, ht, q1, q2, p1, fun i hi => ?_⟩, fun x hx => ?_⟩
    · obtain ⟨-, m, hm, hr⟩ := p3 i hi
      obtain ⟨st, mr, mt, sa, sn, sc, e, hsp, -⟩ := sup_of (fun m' c hm' hr' => hC m' c (by omega) hr') hr
      rw [e]
      exact hsp
    · simp only [List.mem_cons, List.not_mem_nil, or_false] at hx
      rcases hx with rfl | rfl | rfl | rfl | rfl | rfl | rfl | rfl | rfl | rfl | rfl | rfl
      · rfl
      · rfl
      · rfl
      · rfl
      · exact h1
      · rfl
      · rfl
      · rfl
      · rfl
      · rfl
      · rfl
      · rfl
theorem sup_rd {n : Nat} {cs : List Value} {Z : Prop} (h : RdS enc Tryz.prog W n 61 cs Z) : ∃ st mr mt sa sn sc, cs = [.int .i8 st, .int .i64 mr, .int .i64 mt, .slice sa sn sc] ∧ SpOk (fun c => ∃ f, CdOk f W c) W [.int .i8 st, .int .i64 mr, .int .i64 mt, .slice sa sn sc] ∧ (Z → sn ≤ 140737488355328) :=
  sup_of (fun m c _ hr => ⟨⟨_, (child_rd m c hr).2.1⟩, (child_rd m c hr).2.2⟩) h
theorem rec_rd {n : Nat} {cs : List Value} {Z : Prop} (h : RdS enc Tryz.prog W n 176 cs Z) : (∃ f ch p, cs = ch ++ [.int .i64 p] ∧ ch.length = 12 ∧ CdOk f W ch) ∧ ∀ u ∈ cs, u.oneCell' = true := by
  obtain ⟨hl, m0, -, r0⟩ := rd_field Tryz.underlying176 h 0 _ rfl 0 12 rfl cells_CH
  obtain ⟨-, m1, -, r1⟩ := rd_field Tryz.underlying176 h 1 _ rfl 12 1 rfl cells_I
  rw [cells_RC] at hl
  rw [List.drop_zero] at r0
  obtain ⟨g1, g2, g3⟩ := child_rd m0 _ (show RdS enc Tryz.prog W m0 174 (cs.take 12) Z from r0)
  obtain ⟨v, hv⟩ : ∃ v, cs.drop 12 = [v] := by
    have : (cs.drop 12).length = 1 := by rw [List.length_drop]; omega
    match cs.drop 12, this with
    | [v], _ => exact ⟨v, rfl⟩
  rw [hv] at r1
  obtain ⟨p, rfl, -⟩ := rd_int Tryz.underlying3 (show RdS enc Tryz.prog W m1 3 [v] Z from r1)
  have e : cs = cs.take 12 ++ [.int .i64 p] := by rw [← hv, List.take_append_drop]
  refine ⟨⟨_, _, p, e, g1, g2⟩, fun u hu => ?_⟩
  rw [e] at hu
  rcases List.mem_append.1 hu with hu | hu
  · exact g3 u hu
  · obtain rfl := List.mem_singleton.1 hu
    rfl
theorem recs_rd {n : Nat} {v : Value} {Z : Prop} (h : RdS enc Tryz.prog W n 58 [v] Z) : ∃ ao len cap xs, v = .slice ao len cap ∧ Rw W (.slice ao len cap) len 13 xs ∧ RsOk W xs len ∧ (Z → len ≤ 140737488355328) := by
  obtain ⟨ao, len, cap, xs, rfl, h1, h2, h3⟩ := row_rd Tryz.underlying58 cells_RC (by decide) (of_decide_eq_true (by kernel_rfl)) h (fun m cs _ hr => (rec_rd hr).2)
  refine ⟨ao, len, cap, xs, rfl, h1, fun i hi => ?_, h2⟩
  obtain ⟨-, m, -, hr⟩ := h3 i hi
  exact (rec_rd hr).1
/-- a frame's rows are not greater than memory -/
structure Fx.bd (X : Fx) : Prop where
  h3 : X.n3 ≤ 140737488355328
  h4 : X.n4 ≤ 140737488355328
  h5 : X.n5 ≤ 140737488355328
  h6 : X.n6 ≤ 140737488355328
  h28 : X.n28 ≤ 140737488355328
  h33 : X.n33 ≤ 140737488355328
  h34 : X.n34 ≤ 140737488355328
/-- a frame that reads -/
def FrOk (W : World) (Z : Prop) (cs : Array Value) (X : Fx) : Prop := FrX W cs X ∧ (∃ s, FEq s cs ∧ FrT W s X) ∧ (Z → X.bd)
set_option maxHeartbeats 4000000 in
theorem fr_rd {n : Nat} {cs : List Value} {Z : Prop} (h : RdS enc Tryz.prog W n 65 cs Z) : ∃ X, FrOk W Z cs.toArray X := by
  obtain ⟨hl, m0, hm0, r0⟩ := rd_field Tryz.underlying65 h 0 _ rfl 0 1 rfl cells_I8
  obtain ⟨-, m1, hm1, r1⟩ := rd_field Tryz.underlying65 h 1 _ rfl 1 1 rfl cells_I
  obtain ⟨-, m2, hm2, r2⟩ := rd_field Tryz.underlying65 h 2 _ rfl 2 1 rfl cells_I
  obtain ⟨-, m3, hm3, r3⟩ := rd_field Tryz.underlying65 h 3 _ rfl 3 1 rfl cells_LT
  obtain ⟨-, m4, hm4, r4⟩ := rd_field Tryz.underlying65 h 4 _ rfl 4 1 rfl cells_LB
  obtain ⟨-, m5, hm5, r5⟩ := rd_field Tryz.underlying65 h 5 _ rfl 5 1 rfl cells_LT
  obtain ⟨-, m6, hm6, r6⟩ := rd_field Tryz.underlying65 h 6 _ rfl 6 1 rfl cells_LY
  obtain ⟨-, m7, hm7, r7⟩ := rd_field Tryz.underlying65 h 7 _ rfl 7 1 rfl cells_I
  obtain ⟨-, m8, hm8, r8⟩ := rd_field Tryz.underlying65 h 8 _ rfl 8 27 rfl cells_MA
  rw [cells_FR] at hl
  obtain ⟨c0, c1, c2, c3, c4, c5, c6, c7, c8, c9, c10, c11, c12, c13, c14, c15, c16, c17, c18, c19, c20, c21, c22, c23, c24, c25, c26, c27, c28, c29, c30, c31, c32, c33, c34, rfl⟩ := list_35 hl
  have hM : RdS enc Tryz.prog W m8 63 [c8, c9, c10, c11, c12, c13, c14, c15, c16, c17, c18, c19, c20, c21, c22, c23, c24, c25, c26, c27, c28, c29, c30, c31, c32, c33, c34] Z := r8
  clear r8 hl h
  obtain ⟨-, k0, hk0, q0⟩ := rd_field Tryz.underlying63 hM 0 _ rfl 0 1 rfl cells_I8
  obtain ⟨-, k1, hk1, q1⟩ := rd_field Tryz.underlying63 hM 1 _ rfl 1 1 rfl cells_I
  obtain ⟨-, k2, hk2, q2⟩ := rd_field Tryz.underlying63 hM 2 _ rfl 2 1 rfl cells_I
  obtain ⟨-, k3, hk3, q3⟩ := rd_field Tryz.underlying63 hM 3 _ rfl 3 1 rfl cells_I
  obtain ⟨-, k4, hk4, q4⟩ := rd_field Tryz.underlying63 hM 4 _ rfl 4 1 rfl cells_I
  obtain ⟨-, k5, hk5, q5⟩ := rd_field Tryz.underlying63 hM 5 _ rfl 5 5 rfl cells_TM
  obtain ⟨-, k6, hk6, q6⟩ := rd_field Tryz.underlying63 hM 6 _ rfl 10 5 rfl cells_TM
  obtain ⟨-, k7, hk7, q7⟩ := rd_field Tryz.underlying63 hM 7 _ rfl 15 5 rfl cells_TM
  obtain ⟨-, k8, hk8, q8⟩ := rd_field Tryz.underlying63 hM 8 _ rfl 20 1 rfl cells_LR
  obtain ⟨-, k9, hk9, q9⟩ := rd_field Tryz.underlying63 hM 9 _ rfl 21 4 rfl cells_SP
  obtain ⟨-, k10, hk10, q10⟩ := rd_field Tryz.underlying63 hM 10 _ rfl 25 1 rfl cells_LI
  obtain ⟨-, k11, hk11, q11⟩ := rd_field Tryz.underlying63 hM 11 _ rfl 26 1 rfl cells_LI
  clear hM
  obtain ⟨fk, rfl, -⟩ := rd_int Tryz.underlying28 (show RdS enc Tryz.prog W m0 28 [c0] Z from r0)
  obtain ⟨fn, rfl, -⟩ := rd_int Tryz.underlying3 (show RdS enc Tryz.prog W m1 3 [c1] Z from r1)
  obtain ⟨fp, rfl, -⟩ := rd_int Tryz.underlying3 (show RdS enc Tryz.prog W m2 3 [c2] Z from r2)
  obtain ⟨a3, n3, p3, x3, rfl, w3, t3, b3⟩ := ts_rd (show RdS enc Tryz.prog W m3 29 [c3] Z from r3)
  obtain ⟨a4, p4, x4, rfl, w4, b4⟩ := bools_rd (show RdS enc Tryz.prog W m4 56 [c4] Z from r4)
  obtain ⟨a5, n5, p5, x5, rfl, w5, t5, b5⟩ := ts_rd (show RdS enc Tryz.prog W m5 29 [c5] Z from r5)
  obtain ⟨a6, p6, x6, rfl, w6, b6⟩ := tries_rd (show RdS enc Tryz.prog W m6 57 [c6] Z from r6)
  obtain ⟨fw, rfl, -⟩ := rd_int Tryz.underlying3 (show RdS enc Tryz.prog W m7 3 [c7] Z from r7)
  obtain ⟨ph, rfl, -⟩ := rd_int Tryz.underlying28 (show RdS enc Tryz.prog W k0 28 [c8] Z from q0)
  obtain ⟨pid, rfl, -⟩ := rd_int Tryz.underlying3 (show RdS enc Tryz.prog W k1 3 [c9] Z from q1)
  obtain ⟨ref, rfl, -⟩ := rd_int Tryz.underlying3 (show RdS enc Tryz.prog W k2 3 [c10] Z from q2)
  obtain ⟨at_, rfl, -⟩ := rd_int Tryz.underlying3 (show RdS enc Tryz.prog W k3 3 [c11] Z from q3)
  obtain ⟨nn, rfl, -⟩ := rd_int Tryz.underlying3 (show RdS enc Tryz.prog W k4 3 [c12] Z from q4)
  obtain ⟨yk, yn, ys, yu, yl, ey, oy, ty⟩ := tm_rd (show RdS enc Tryz.prog W k5 31 [c13, c14, c15, c16, c17] Z from q5)
  simp only [List.cons.injEq, and_true] at ey
  obtain ⟨rfl, rfl, rfl, rfl, rfl⟩ := ey
  obtain ⟨vk, vn, vs, vu, vl, ev, ov, tv⟩ := tm_rd (show RdS enc Tryz.prog W k6 31 [c18, c19, c20, c21, c22] Z from q6)
  simp only [List.cons.injEq, and_true] at ev
  obtain ⟨rfl, rfl, rfl, rfl, rfl⟩ := ev
  obtain ⟨zk, zn, zs, zu, zl, ez, oz, tz⟩ := tm_rd (show RdS enc Tryz.prog W k7 31 [c23, c24, c25, c26, c27] Z from q7)
  simp only [List.cons.injEq, and_true] at ez
  obtain ⟨rfl, rfl, rfl, rfl, rfl⟩ := ez
  obtain ⟨a28, n28, p28, x28, rfl, w28, t28, b28⟩ := recs_rd (show RdS enc Tryz.prog W k8 58 [c28] Z from q8)
  obtain ⟨st, mr, mt, sa, sn, sc, es, hsp, -⟩ := sup_rd (show RdS enc Tryz.prog W k9 61 [c29, c30, c31, c32] Z from q9)
  simp only [List.cons.injEq, and_true] at es
  obtain ⟨rfl, rfl, rfl, rfl⟩ := es
  obtain ⟨a33, p33, x33, rfl, w33, b33⟩ := ints_rd (show RdS enc Tryz.prog W k10 24 [c33] Z from q10)
  obtain ⟨a34, p34, x34, rfl, w34, b34⟩ := ints_rd (show RdS enc Tryz.prog W k11 24 [c34] Z from q11)
  refine ⟨⟨n3, x4.length, n5, x6.length, n28, x33.length, x34.length, x3, bvs x4, x5, wv x6, x28, iv x33, iv x34⟩, ⟨rfl, ?_, ⟨_, rfl, w3⟩, ⟨_, rfl, w4⟩, ⟨_, rfl, w5⟩, ⟨_, rfl, w6⟩, ⟨_, rfl, w28⟩, ⟨_, rfl, w33⟩, ⟨_, rfl, w34⟩⟩, ⟨⟨fk, fn, fp, fw, ph, pid, ref, at_, nn, yk, yn, ys, yu, c17, vk, vn, vs, vu, c22, zk, zn, zs, zu, c27, st, mr, mt, sa, sn, sc⟩, ⟨_, _, _, _, _, _, _, rfl⟩, ⟨ty, tv, tz, hsp, t3, t5, t28, ⟨x4, rfl, rfl⟩, ⟨x6, rfl, rfl⟩, ⟨x33, rfl, rfl⟩, ⟨x34, rfl, rfl⟩⟩⟩, fun hZ => ⟨b3 hZ, b4 hZ, b5 hZ, b6 hZ, b28 hZ, b33 hZ, b34 hZ⟩⟩
  simp [Value.oneCell']
  exact ⟨oy, ov, oz⟩
/-- a row of frames -/
theorem frs_rd {n : Nat} {v : Value} {Z : Prop} (h : RdS enc Tryz.prog W n 22 [v] Z) : ∃ ao cap, ∃ L : List Fm, v = .slice ao L.length cap ∧ St W (.slice ao L.length cap) L ∧ (∀ f ∈ L, FrOk W Z f.cs f.X) ∧ (Z → L.length ≤ 140737488355328) := by
  obtain ⟨ao, len, cap, xs, rfl, h1, h2, h3⟩ := row_rd Tryz.underlying22 cells_FR (by decide) (of_decide_eq_true (by kernel_rfl)) h (fun m cs _ hr u hu => by
    obtain ⟨X, hX, -⟩ := fr_rd hr
    have h1 := hX.one
    rw [Array.all_eq_true_iff_forall_mem] at h1
    exact h1 u (by simpa using hu))
  obtain ⟨L, e1, e2, e3⟩ := rows_code (code := fun f : Fm => f.cs.toList) (Q := fun _ f => FrOk W Z f.cs f.X) h1.1 (fun i hi => by
    obtain ⟨-, m, -, hr⟩ := h3 i hi
    obtain ⟨X, hX⟩ := fr_rd hr
    exact ⟨⟨_, X⟩, rfl, hX⟩)
  subst e1
  have hall : ∀ f ∈ L, FrOk W Z f.cs f.X := fun f hf => by
    obtain ⟨i, hi⟩ := List.getElem?_of_mem hf
    exact e3 i f hi
  refine ⟨ao, cap, L, rfl, ⟨?_, fun f hf => (hall f hf).1⟩, hall, h2⟩
  rw [show frs L = xs from e2.symm]
  exact h1
end
end Go.Proofs.YtemgnljegbaobaaGreatDoor
