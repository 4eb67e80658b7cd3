/- items, processes read as data. No conditions. -/
import Derived.Test.YtemgnljegbaobaaGreatDoorRd
namespace Go.Proofs.YtemgnljegbaobaaGreatDoor
open Go.ChangeShapes Go.WideShapes Go.ChangeAt Go.RowKit
set_option linter.unusedVariables false
set_option maxRecDepth 100000
theorem cells_IT : Tryz.prog.cellsOf 33 = 6 := by kernel_rfl
theorem cells_LM : Tryz.prog.cellsOf 23 = 1 := by kernel_rfl
theorem cells_WT : Tryz.prog.cellsOf 81 = 2 := by kernel_rfl
theorem cells_LW : Tryz.prog.cellsOf 25 = 1 := by kernel_rfl
theorem cells_LF : Tryz.prog.cellsOf 22 = 1 := by kernel_rfl
theorem cells_PT : Tryz.prog.cellsOf 27 = 9 := by kernel_rfl
theorem list_6 {cs : List Value} (h : cs.length = 6) : ∃ c0 c1 c2 c3 c4 c5, cs = [c0, c1, c2, c3, c4, c5] := by
  match cs, h with
  | c0 :: c1 :: c2 :: c3 :: c4 :: c5 :: [], _ => exact ⟨c0, c1, c2, c3, c4, c5, rfl⟩
theorem list_9 {cs : List Value} (h : cs.length = 9) : ∃ c0 c1 c2 c3 c4 c5 c6 c7 c8, cs = [c0, c1, c2, c3, c4, c5, c6, c7, c8] := by
  match cs, h with
  | c0 :: c1 :: c2 :: c3 :: c4 :: c5 :: c6 :: c7 :: c8 :: [], _ => exact ⟨c0, c1, c2, c3, c4, c5, c6, c7, c8, rfl⟩
section
variable {H : Type} {enc : TypeId × Value → H} {W : World}
theorem im_rd {n : Nat} {cs : List Value} {Z : Prop} (h : RdS enc Tryz.prog W n 33 cs Z) : ∃ x : Im, cs = x.cells ∧ ImOk W x := by
  obtain ⟨hl, m0, -, r0⟩ := rd_field Tryz.underlying33 h 0 _ rfl 0 5 rfl cells_TM
  obtain ⟨-, m1, -, r1⟩ := rd_field Tryz.underlying33 h 1 _ rfl 5 1 rfl cells_BO
  rw [cells_IT] at hl
  obtain ⟨c0, c1, c2, c3, c4, c5, rfl⟩ := list_6 hl
  obtain ⟨k, tn, s, u, lv, e0, h1, f, t, lv', e1, ht⟩ := tm_rd (show RdS enc Tryz.prog W m0 31 [c0, c1, c2, c3, c4] Z from r0)
  obtain ⟨b, rfl⟩ := rd_bool Tryz.underlying4 (show RdS enc Tryz.prog W m1 4 [c5] Z from r1)
  simp only [List.cons.injEq, and_true] at e0
  obtain ⟨rfl, rfl, rfl, rfl, rfl⟩ := e0
  rw [← e1] at ht
  obtain ⟨k', n', s', u', l, ao, cap, rfl, e2, -⟩ := ht.mk'
  have e3 : c4 = .slice ao l.length cap := by
    injection e2 with e2
    have : (#[Value.int .i8 k, .int .i64 tn, .string s, .string u, c4] : Array Value)[4]? = (#[Value.int .i8 k', .int .i64 n', .string s', .string u', .slice ao l.length cap] : Array Value)[4]? := by rw [e2]
    simpa using this
  subst e3
  exact ⟨⟨k, tn, s, u, ao, l.length, cap, b⟩, rfl, f, _, ht⟩
theorem mail_rd {n : Nat} {v : Value} {Z : Prop} (h : RdS enc Tryz.prog W n 23 [v] Z) : ∃ ao cap, ∃ ml : List Im, v = .slice ao ml.length cap ∧ Rw W (.slice ao ml.length cap) ml.length 6 (mvs ml) ∧ (∀ x ∈ ml, ImOk W x) ∧ (Z → ml.length ≤ 140737488355328) := by
  obtain ⟨ao, len, cap, xs, rfl, h1, h2, h3⟩ := row_rd Tryz.underlying23 cells_IT (by decide) (of_decide_eq_true (by kernel_rfl)) h (fun m cs _ hr u hu => by
    obtain ⟨x, rfl, -⟩ := im_rd hr
    exact Im.one x u hu)
  obtain ⟨ml, e1, e2, e3⟩ := rows_code (code := Im.cells) (Q := fun _ x => ImOk W x) h1.1 (fun i hi => by
    obtain ⟨-, m, -, hr⟩ := h3 i hi
    exact im_rd hr)
  subst e1
  refine ⟨ao, cap, ml, rfl, ?_, fun x hx => ?_, h2⟩
  · rw [show mvs ml = xs from e2.symm]
    exact h1
  · obtain ⟨i, hi⟩ := List.getElem?_of_mem hx
    exact e3 i x hi
theorem watches_rd {n : Nat} {v : Value} {Z : Prop} (h : RdS enc Tryz.prog W n 25 [v] Z) : ∃ ao cap, ∃ ps : List (Int × Int), v = .slice ao ps.length cap ∧ Rw W (.slice ao ps.length cap) ps.length 2 (wv ps) ∧ (Z → ps.length ≤ 140737488355328) :=
  pairs_rd Tryz.underlying25 cells_WT (of_decide_eq_true (by kernel_rfl)) (fun m cs hr => two_rd Tryz.underlying81 cells_WT rfl rfl rfl rfl rfl rfl hr) h
theorem proc_rd {n : Nat} {cs : List Value} (h : RdS enc Tryz.prog W n 27 cs True) : ∃ (p : Pv) (D : Pd) (ml : List Im), cs = p.cells.toList ∧ PrX W p D.X ∧ PdOk W D ml ∧ p.name.size ≤ 9223372036854775807 := by
  obtain ⟨hl, m0, -, r0⟩ := rd_field Tryz.underlying27 h 0 _ rfl 0 1 rfl cells_I
  obtain ⟨-, m1, -, r1⟩ := rd_field Tryz.underlying27 h 1 _ rfl 1 1 rfl cells_I
  obtain ⟨-, m2, -, r2⟩ := rd_field Tryz.underlying27 h 2 _ rfl 2 1 rfl cells_LF
  obtain ⟨-, m3, -, r3⟩ := rd_field Tryz.underlying27 h 3 _ rfl 3 1 rfl cells_LM
  obtain ⟨-, m4, -, r4⟩ := rd_field Tryz.underlying27 h 4 _ rfl 4 1 rfl cells_S
  obtain ⟨-, m5, -, r5⟩ := rd_field Tryz.underlying27 h 5 _ rfl 5 1 rfl cells_BO
  obtain ⟨-, m6, -, r6⟩ := rd_field Tryz.underlying27 h 6 _ rfl 6 1 rfl cells_BO
  obtain ⟨-, m7, -, r7⟩ := rd_field Tryz.underlying27 h 7 _ rfl 7 1 rfl cells_LI
  obtain ⟨-, m8, -, r8⟩ := rd_field Tryz.underlying27 h 8 _ rfl 8 1 rfl cells_LW
  rw [cells_PT] at hl
  obtain ⟨c0, c1, c2, c3, c4, c5, c6, c7, c8, rfl⟩ := list_9 hl
  obtain ⟨pid, rfl, -⟩ := rd_int Tryz.underlying3 (show RdS enc Tryz.prog W m0 3 [c0] True from r0)
  obtain ⟨par, rfl, -⟩ := rd_int Tryz.underlying3 (show RdS enc Tryz.prog W m1 3 [c1] True from r1)
  obtain ⟨a2, k2, L, rfl, q2, f2, -⟩ := frs_rd (show RdS enc Tryz.prog W m2 22 [c2] True from r2)
  obtain ⟨a3, k3, ml, rfl, q3, f3, b3⟩ := mail_rd (show RdS enc Tryz.prog W m3 23 [c3] True from r3)
  obtain ⟨name, rfl, nsz⟩ := rd_str Tryz.underlying9 (show RdS enc Tryz.prog W m4 9 [c4] True from r4)
  obtain ⟨trap, rfl⟩ := rd_bool Tryz.underlying4 (show RdS enc Tryz.prog W m5 4 [c5] True from r5)
  obtain ⟨wait, rfl⟩ := rd_bool Tryz.underlying4 (show RdS enc Tryz.prog W m6 4 [c6] True from r6)
  obtain ⟨a7, k7, lk, rfl, q7, b7⟩ := ints_rd (show RdS enc Tryz.prog W m7 24 [c7] True from r7)
  obtain ⟨a8, k8, ws, rfl, q8, b8⟩ := watches_rd (show RdS enc Tryz.prog W m8 25 [c8] True from r8)
  exact ⟨⟨pid, par, .slice a2 L.length k2, .slice a3 ml.length k3, name, trap, wait, .slice a7 lk.length k7, .slice a8 ws.length k8⟩, ⟨L, ml.length, mvs ml, lk, ws⟩, ml, rfl, ⟨q2, q3, q7, q8⟩, ⟨f2, rfl, rfl, f3, b3 trivial, b7 trivial, b8 trivial⟩, nsz⟩
/-- an argument that is a process -/
theorem proc_of {base : Nat} {v0 : Value} {d0 : DataW H} {p0 : List MemPlace} (hv0 : Value.okWide Tryz.prog W .any base 27 v0) (h0 : DataW.Trod enc Tryz.prog W 0 (fun _ => true) true 27 v0 d0 p0) (hz : Sz Tryz.prog 27 d0) :
    ∃ (p : Pv) (D : Pd) (ml : List Im), v0 = .agg p.cells ∧ PrX W p D.X ∧ PdOk W D ml ∧ p.name.size ≤ 9223372036854775807 := by
  obtain ⟨cs, rfl, hsz⟩ := okWide_struct Tryz.underlying27 hv0
  obtain ⟨fuel, hf⟩ := h0
  obtain ⟨p, D, ml, e, h1, h2⟩ := proc_rd (n := fuel) (cs := (Value.agg cs).cells.toList) ⟨_, hf, fun _ => hz⟩
  exact ⟨p, D, ml, congrArg Value.agg (Array.toList_inj.1 e), h1, h2⟩
theorem item_of {base : Nat} {v0 : Value} {d0 : DataW H} {p0 : List MemPlace} (hv0 : Value.okWide Tryz.prog W .any base 33 v0) (h0 : DataW.Trod enc Tryz.prog W 0 (fun _ => true) true 33 v0 d0 p0) :
    ∃ x : Im, v0 = .agg x.cells.toArray ∧ ImOk W x := by
  obtain ⟨cs, rfl, hsz⟩ := okWide_struct Tryz.underlying33 hv0
  obtain ⟨fuel, hf⟩ := h0
  obtain ⟨x, e, h1⟩ := im_rd (n := fuel) (cs := (Value.agg cs).cells.toList) (Z := False) ⟨_, hf, fun h => h.elim⟩
  refine ⟨x, ?_, h1⟩
  obtain ⟨l⟩ := cs
  simp [Value.cells] at e
  rw [e]
end
end Go.Proofs.YtemgnljegbaobaaGreatDoor
