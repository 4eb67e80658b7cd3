/- the reference's comparisons of rows of terms of the same cells, and of a specification with itself. Conditions: what is compared reads. -/
import Derived.Test.YtemgnljegbaobaaGreatDoorOa
namespace Go.Proofs.YtemgnljegbaobaaGreatDoor
open Go.ChangeShapes Go.WideShapes Go.ChangeAt Go.RowKit
set_option linter.unusedVariables false
set_option linter.unusedSimpArgs false
set_option maxRecDepth 100000
/-- a term's five cells -/
def TmOk (w : World) (cs : List Value) : Prop := ∃ f t lv, cs = [.int .i8 t.k, .int .i64 t.n, .string t.s, .string t.u, lv] ∧ TermV f w (.agg #[.int .i8 t.k, .int .i64 t.n, .string t.s, .string t.u, lv]) t
theorem TmOk.keep {w w' : World} {cs : List Value} (h : TmOk w cs) (hb : Below w.heap.size w w') : TmOk w' cs := by
  obtain ⟨f, t, lv, e, h⟩ := h
  exact ⟨f, t, lv, e, h.keep hb⟩
/-- cells of a row's thing -/
def piece (xs : List Value) (i z : Nat) : List Value := (xs.drop (i * z)).take z
theorem piece_at {xs : List Value} {i z j : Nat} (hj : j < z) : (piece xs i z)[j]? = xs[i * z + j]? := by
  unfold piece
  rw [List.getElem?_take, if_pos hj, List.getElem?_drop]
def TsOk (w : World) (xs : List Value) (n : Nat) : Prop := ∀ i, i < n → TmOk w (piece xs i 5)
theorem TsOk.keep {w w' : World} {xs : List Value} {n : Nat} (h : TsOk w xs n) (hb : Below w.heap.size w w') : TsOk w' xs n := fun i hi => (h i hi).keep hb
def T2 (b o b2 o2 : Nat) (k n : Int) (s u : ByteArray) (lv : Value) (W : World) : Prop := W.cell? ⟨b, o, none⟩ = some (.int .i8 k) ∧ W.cell? ⟨b, o + 1, none⟩ = some (.int .i64 n) ∧ W.cell? ⟨b, o + 2, none⟩ = some (.string s) ∧ W.cell? ⟨b, o + 3, none⟩ = some (.string u) ∧ W.cell? ⟨b, o + 4, none⟩ = some lv ∧
  W.cell? ⟨b2, o2, none⟩ = some (.int .i8 k) ∧ W.cell? ⟨b2, o2 + 1, none⟩ = some (.int .i64 n) ∧ W.cell? ⟨b2, o2 + 2, none⟩ = some (.string s) ∧ W.cell? ⟨b2, o2 + 3, none⟩ = some (.string u) ∧ W.cell? ⟨b2, o2 + 4, none⟩ = some lv
theorem T2.keep {b o b2 o2 : Nat} {k n : Int} {s u : ByteArray} {lv : Value} {W W' : World} (h : T2 b o b2 o2 k n s u lv W) (hb : Below W.heap.size W W') : T2 b o b2 o2 k n s u lv W' := by
  obtain ⟨h1, h2, h3, h4, h5, h6, h7, h8, h9, h10⟩ := h
  exact ⟨keep_cell h1 hb, keep_cell h2 hb, keep_cell h3 hb, keep_cell h4 hb, keep_cell h5 hb, keep_cell h6 hb, keep_cell h7 hb, keep_cell h8 hb, keep_cell h9 hb, keep_cell h10 hb⟩
/-- where a row's thing lies -/
theorem rw_piece {w : World} {v : Value} {n z : Nat} {xs : List Value} (h : Rw w v n z xs) {i : Nat} (hi : i < n) : ∃ b off c, v = .slice (some ⟨b, off, none⟩) n c ∧ ∀ (j : Nat) (u : Value), (piece xs i z)[j]? = some u → w.cell? ⟨b, off + i * z + j, none⟩ = some u := by
  obtain ⟨ao, c, rfl, -, -⟩ := h.slice
  obtain ⟨-, b, off, rfl, hc⟩ := h.at (by omega)
  refine ⟨b, off, c, rfl, fun j u hj => ?_⟩
  have hjz : j < z := by
    have := (List.getElem?_eq_some_iff.1 hj).1
    unfold piece at this
    rw [List.length_take] at this
    omega
  rw [piece_at hjz] at hj
  rw [Nat.add_assoc]
  exact hc _ _ hj
set_option maxHeartbeats 8000000 in
theorem sameall_any (w : World) (v v' : Value) (n : Nat) (xs : List Value) (h : Rw w v n 5 xs) (h' : Rw w v' n 5 xs) (ht : TsOk w xs n) : Calls Tryz.prog 104 #[v, v'] w (IsPost w true) := by
  obtain ⟨ao, c, rfl, hc1, hc2⟩ := h.slice
  obtain ⟨ao', c', rfl, hc1', hc2'⟩ := h'.slice
  have HR := Lib.hid (And.intro h (And.intro h' ht))
  clear h h' ht
  go_enter Tryz.func104, Tryz.ntmps104
  go_wp2_with fail
  go_loopw [5] (fun jw wr => ∃ i : Nat, i ≤ n ∧ jw = .int .i64 i ∧ Hid (Below w.heap.size w wr)) (fun jw _ => n - (intOf jw).toNat)
  case atStart => exact ⟨0, Nat.zero_le _, rfl, Lib.hid (Below.refl _ _)⟩
  case round =>
    obtain ⟨i, hi, rfl, HI⟩ := hrel
    by_cases hlt : i < n
    · obtain ⟨b, off, d1, e1, a1⟩ := rw_piece (HR.out.1.keep HI.out) hlt
      obtain ⟨b2, off2, d2, e2, a2⟩ := rw_piece (HR.out.2.1.keep HI.out) hlt
      injection e1 with e1 _ e3
      injection e2 with e2 _ e4
      subst e1 e2 e3 e4
      obtain ⟨f, ⟨k, n0, s, u, l⟩, lv, ep, htv⟩ := HR.out.2.2 i hlt
      rw [ep] at a1 a2
      have hd := (Below.refl wr.heap.size wr).drew
      have hS : T2 b (off + i * 5) b2 (off2 + i * 5) k n0 s u lv wr := ⟨a1 0 _ rfl, a1 1 _ rfl, a1 2 _ rfl, a1 3 _ rfl, a1 4 _ rfl, a2 0 _ rfl, a2 1 _ rfl, a2 2 _ rfl, a2 3 _ rfl, a2 4 _ rfl⟩
      have hi0 : (0 : Int) ≤ (i : Int) := by omega
      have HI1 := Lib.hid (HI.out.trans (hd.mono HI.out.size))
      have HT := Lib.hid (htv.keep HI1.out)
      have hS1 := hS.keep hd
      clear a1 a2 hd hS htv ep
      go_wp2_with fail
      refine region_plan (T2 b (off + i * 5) b2 (off2 + i * 5) k n0 s u lv) [(0, 0), (1, 0), (2, 0), (3, 0), (4, 0), (5, 0), (6, 0), (7, 0), (8, 1), (9, 0)] (by kernel_rfl) (by kernel_rfl) (by kernel_rfl) hS1 ?_
      generalize wr.drew = w1 at *
      iterate 8 (first | (refine plan_skip rfl ?_ ?_; (focus (rfl)); (try simp only [Act.put, List.setIfInBounds_toArray, List.set_cons_zero, List.set_cons_succ])) | (refine plan_take (v := ?_) rfl ?_ (fun w hSw => ?_) ?_; rotate_left; (focus (rfl)); (focus (unfold T2 at hSw; (go_simp <;> with_reducible rfl))); (try simp only [Act.put, List.setIfInBounds_toArray, List.set_cons_zero, List.set_cons_succ])))
      refine plan_run rfl ?_ (fun K hK => ?_)
      focus (rfl)
      go_simp
      refine (rsame_any f f _ _ _ _ _ HT.out HT.out).mono ?_
      rintro e w2 ⟨rfl, hb2⟩
      have hS2 := hS1.keep hb2
      have HI2 := Lib.hid (HI1.out.trans (hb2.mono HI1.out.size))
      refine hK.out _ _ hS2 ?_
      clear hK K 
      (try simp only [Act.put, List.setIfInBounds_toArray, List.set_cons_zero, List.set_cons_succ])
      rw [eqT_refl]
      clear hS1 hb2
      iterate 1 (first | (refine plan_skip rfl ?_ ?_; (focus (rfl)); (try simp only [Act.put, List.setIfInBounds_toArray, List.set_cons_zero, List.set_cons_succ])) | (refine plan_take (v := ?_) rfl ?_ (fun w hSw => ?_) ?_; rotate_left; (focus (rfl)); (focus (unfold T2 at hSw; (go_simp <;> with_reducible rfl))); (try simp only [Act.put, List.setIfInBounds_toArray, List.set_cons_zero, List.set_cons_succ])))
      refine plan_done ?_
      clear hS2 HT HI1
      go_wp2_with fail
      go_roundw
      case rel => exact ⟨i + 1, hlt, by go_num, HI2⟩
      case measure => simp [intOf]; omega
    · have hlt' : ¬ ((i : Int) < (n : Int)) := by omega
      go_wp2_with fail
      go_ret
      exact ⟨rfl, HI.out⟩
/-- a specification of a supervisor: its four cells -/
def SpOk (C : List Value → Prop) (w : World) (cs : List Value) : Prop := ∃ st mr mt ca cn cc xc, cs = [.int .i8 st, .int .i64 mr, .int .i64 mt, .slice ca cn cc] ∧ Rw w (.slice ca cn cc) cn 12 xc ∧ ∀ i, i < cn → C (piece xc i 12)
/-- a specification of a child: its twelve cells -/
def CdOk : Nat → World → List Value → Prop
  | 0, _, _ => False
  | f + 1, w, cs => ∃ k n s u lv kd rs sh m fn ga gn gc ua un uc xa xu, cs = [.int .i8 k, .int .i64 n, .string s, .string u, lv, .int .i8 kd, .int .i8 rs, .int .i64 sh, .string m, .string fn, .slice ga gn gc, .slice ua un uc] ∧
      TmOk w [.int .i8 k, .int .i64 n, .string s, .string u, lv] ∧ Rw w (.slice ga gn gc) gn 5 xa ∧ TsOk w xa gn ∧ Rw w (.slice ua un uc) un 4 xu ∧ ∀ i, i < un → SpOk (CdOk f w) w (piece xu i 4)
theorem SpOk.keep {C C' : List Value → Prop} {w w' : World} {cs : List Value} (h : SpOk C w cs) (hb : Below w.heap.size w w') (hC : ∀ c, C c → C' c) : SpOk C' w' cs := by
  obtain ⟨st, mr, mt, ca, cn, cc, xc, e, h1, h2⟩ := h
  exact ⟨st, mr, mt, ca, cn, cc, xc, e, h1.keep hb, fun i hi => hC _ (h2 i hi)⟩
theorem CdOk.keep {w w' : World} (hb : Below w.heap.size w w') : ∀ {f : Nat} {cs : List Value}, CdOk f w cs → CdOk f w' cs := by
  intro f
  induction f with
  | zero => intro cs h; exact h.elim
  | succ f ih =>
    intro cs h
    obtain ⟨k, n, s, u, lv, kd, rs, sh, m, fn, ga, gn, gc, ua, un, uc, xa, xu, e, h1, h2, h3, h4, h5⟩ := h
    exact ⟨k, n, s, u, lv, kd, rs, sh, m, fn, ga, gn, gc, ua, un, uc, xa, xu, e, h1.keep hb, h2.keep hb, h3.keep hb, h4.keep hb, fun i hi => (h5 i hi).keep hb fun c hc => ih hc⟩
theorem exec_load_mid {P : Program} {op : Oper} {a : Act} {w : World} (ty : TypeId) (x : Operand) (ho : op.op = .load ty x) (b o : Nat) (hx : a.eval x = .pointer (some ⟨b, o, none⟩)) (cs : List Value) (d : TypeDesc) (hc : w.rangeAt b o cs)
    (hu : P.underlying ty = some d) (hd : d.isRow = true) (hi : (P.info? ty).map (·.size) = some cs.length) : (execOp a.eval op).run P w = .ok (.value (.agg cs.toArray)) w := by
  unfold execOp
  simp only [ho, hx, Instr.loadAt, Instr.sureAddr, Sem.run_bind, Sem.run_pure, Result.andThen_ok, run_loadVar_mid w b o ty cs d hc hu hd hi]
theorem piece_len {xs : List Value} {n z i : Nat} (h : xs.length = n * z) (hi : i < n) : (piece xs i z).length = z := by
  unfold piece
  rw [List.length_take, List.length_drop, h]
  have : (i + 1) * z ≤ n * z := Nat.mul_le_mul_right z hi
  rw [Nat.add_mul] at this
  omega
theorem infoCH {cs : List Value} (h : cs.length = 12) : (Tryz.prog.info? 174).map (·.size) = some cs.length := by
  have : (Tryz.prog.info? 174).map (·.size) = some 12 := by kernel_rfl
  rw [this, h]
theorem infoSP {cs : List Value} (h : cs.length = 4) : (Tryz.prog.info? 61).map (·.size) = some cs.length := by
  have : (Tryz.prog.info? 61).map (·.size) = some 4 := by kernel_rfl
  rw [this, h]
/-- what a round reads: two boxes' slice, a thing's cells -/
def SupS (x j b o : Nat) (lv : Value) (cs : List Value) (W : World) : Prop := W.cell? ⟨x, j, none⟩ = some lv ∧ W.cell? ⟨x + 1, j, none⟩ = some lv ∧ W.rangeAt b o cs
theorem SupS.keep {x j b o : Nat} {lv : Value} {cs : List Value} {W W' : World} (h : SupS x j b o lv cs W) (hb : Below W.heap.size W W') : SupS x j b o lv cs W' := ⟨keep_cell h.1 hb, keep_cell h.2.1 hb, fun j v hj => keep_cell (h.2.2 j v hj) hb⟩
theorem slice_fits {w : World} {ca : Option Addr} {cn cc n size : Nat} {xs : List Value} (h : Rw w (.slice ca cn cc) n size xs) : cn ≤ cc ∧ cc ≤ 9223372036854775807 := by
  obtain ⟨ao, c, e, h1, h2⟩ := h.slice
  cases e
  exact ⟨h1, h2⟩
set_option maxHeartbeats 8000000 in
theorem samesup_of (C : List Value → Prop) (w : World) (cs : List Value) (h : SpOk C w cs) (hC : ∀ c, C c → ∀ W, Below w.heap.size w W → Calls Tryz.prog 124 #[.agg c.toArray, .agg c.toArray] W (IsPost W true)) :
    Calls Tryz.prog 108 #[.agg cs.toArray, .agg cs.toArray] w (IsPost w true) := by
  obtain ⟨st, mr, mt, ca, cn, cc, xc, rfl, h1, h2⟩ := h
  obtain ⟨b1, b2, hb, -⟩ := two_boxes w (.cells #[.int .i8 st, .int .i64 mr, .int .i64 mt, .slice ca cn cc] 61) (.cells #[.int .i8 st, .int .i64 mr, .int .i64 mt, .slice ca cn cc] 61)
  have HB := Lib.hid (And.intro hb (And.intro b1 b2))
  have HR := Lib.hid (And.intro (h1.keep hb) (And.intro h2 hC))
  obtain ⟨x0, -⟩ := cells_at b1 0 _ rfl
  obtain ⟨x1, -⟩ := cells_at b1 1 _ rfl
  obtain ⟨x2, -⟩ := cells_at b1 2 _ rfl
  obtain ⟨x3, -⟩ := cells_at b1 3 _ rfl
  obtain ⟨y0, -⟩ := cells_at b2 0 _ rfl
  obtain ⟨y1, -⟩ := cells_at b2 1 _ rfl
  obtain ⟨y2, -⟩ := cells_at b2 2 _ rfl
  obtain ⟨y3, -⟩ := cells_at b2 3 _ rfl
  obtain ⟨hc1, hc2⟩ := slice_fits h1
  clear h1 h2 hC hb b1 b2
  go_enter Tryz.func108, Tryz.ntmps108
  go_wp2_with fail
  generalize (w.alloc (.cells #[.int .i8 st, .int .i64 mr, .int .i64 mt, .slice ca cn cc] 61)).alloc (.cells #[.int .i8 st, .int .i64 mr, .int .i64 mt, .slice ca cn cc] 61) = w1 at *
  clear x0 x1 x2 x3 y0 y1 y2 y3
  go_loopw [5] (fun jw wr => ∃ i : Nat, i ≤ cn ∧ jw = .int .i64 i ∧ Hid (Below w1.heap.size w1 wr)) (fun jw _ => cn - (intOf jw).toNat)
  case atStart => exact ⟨0, Nat.zero_le _, rfl, Lib.hid (Below.refl _ _)⟩
  case round =>
    obtain ⟨i, hi, rfl, HI⟩ := hrel
    obtain ⟨x3, -⟩ := cells_at (keep_heap HB.out.2.1 HI.out) 3 _ rfl
    by_cases hlt : i < cn
    · obtain ⟨b, off, d1, e1, a1⟩ := rw_piece (HR.out.1.keep HI.out) hlt
      injection e1 with e1 _ e3
      subst e1 e3
      have hlen := piece_len HR.out.1.1 hlt
      have hd := (Below.refl wr.heap.size wr).drew
      have hS : SupS w.heap.size 3 b (off + i * 12) (.slice (some ⟨b, off, none⟩) cn cc) (piece xc i 12) wr := ⟨x3, (cells_at (keep_heap HB.out.2.2 HI.out) 3 _ rfl).1, a1⟩
      have hi0 : (0 : Int) ≤ (i : Int) := by omega
      have HI1 := Lib.hid (HI.out.trans (hd.mono HI.out.size))
      have hS1 := hS.keep hd
      have HC := Lib.hid (HR.out.2.2 _ (HR.out.2.1 i hlt) wr.drew (HB.out.1.trans (HI1.out.mono HB.out.1.size)))
      have HL := Lib.hid hlen
      clear a1 hd hS hlen
      go_wp2_with fail
      clear x3
      refine region_plan (SupS w.heap.size 3 b (off + i * 12) (.slice (some ⟨b, off, none⟩) cn cc) (piece xc i 12)) [(0, 0), (1, 0), (2, 0), (3, 0), (4, 0), (5, 0), (6, 0), (7, 0), (8, 0), (9, 0), (10, 1), (11, 0)] (by kernel_rfl) (by kernel_rfl) (by kernel_rfl) hS1 ?_
      generalize wr.drew = w2 at *
      iterate 4 (first | (refine plan_skip rfl ?_ ?_; (focus (rfl)); (try simp only [Act.put, List.setIfInBounds_toArray, List.set_cons_zero, List.set_cons_succ])) | (refine plan_take (v := ?_) rfl ?_ (fun w hSw => ?_) ?_; rotate_left; (focus (rfl)); (focus (unfold SupS at hSw; (go_simp <;> with_reducible rfl))); (try simp only [Act.put, List.setIfInBounds_toArray, List.set_cons_zero, List.set_cons_succ])))
      refine plan_take rfl ?_ (fun wS hSw => exec_load_mid 174 (.tmp 44) rfl b (off + i * 12) rfl (piece xc i 12) _ hSw.2.2 Tryz.underlying174 rfl (infoCH HL.out)) ?_
      focus (rfl)
      (try simp only [Act.put, List.setIfInBounds_toArray, List.set_cons_zero, List.set_cons_succ])
      iterate 4 (first | (refine plan_skip rfl ?_ ?_; (focus (rfl)); (try simp only [Act.put, List.setIfInBounds_toArray, List.set_cons_zero, List.set_cons_succ])) | (refine plan_take (v := ?_) rfl ?_ (fun w hSw => ?_) ?_; rotate_left; (focus (rfl)); (focus (unfold SupS at hSw; (go_simp <;> with_reducible rfl))); (try simp only [Act.put, List.setIfInBounds_toArray, List.set_cons_zero, List.set_cons_succ])))
      refine plan_take rfl ?_ (fun wS hSw => exec_load_mid 174 (.tmp 49) rfl b (off + i * 12) rfl (piece xc i 12) _ hSw.2.2 Tryz.underlying174 rfl (infoCH HL.out)) ?_
      focus (rfl)
      (try simp only [Act.put, List.setIfInBounds_toArray, List.set_cons_zero, List.set_cons_succ])
      refine plan_run rfl ?_ (fun K hK => ?_)
      focus (rfl)
      go_simp
      refine (HC.out).mono ?_
      rintro e w3 ⟨rfl, hb3⟩
      have hS3 := hS1.keep hb3
      have HI3 := Lib.hid (HI1.out.trans (hb3.mono HI1.out.size))
      refine hK.out _ _ hS3 ?_
      clear hK K 
      (try simp only [Act.put, List.setIfInBounds_toArray, List.set_cons_zero, List.set_cons_succ])
      clear hS1 hb3
      iterate 1 (first | (refine plan_skip rfl ?_ ?_; (focus (rfl)); (try simp only [Act.put, List.setIfInBounds_toArray, List.set_cons_zero, List.set_cons_succ])) | (refine plan_take (v := ?_) rfl ?_ (fun w hSw => ?_) ?_; rotate_left; (focus (rfl)); (focus (unfold SupS at hSw; (go_simp <;> with_reducible rfl))); (try simp only [Act.put, List.setIfInBounds_toArray, List.set_cons_zero, List.set_cons_succ])))
      refine plan_done ?_
      clear hS3 HC HI1
      go_wp2_with fail
      go_roundw
      case rel => exact ⟨i + 1, hlt, by go_num, HI3⟩
      case measure => simp [intOf]; omega
    · have hlt' : ¬ ((i : Int) < (cn : Int)) := by omega
      go_wp2_with fail
      go_ret
      exact ⟨rfl, HB.out.1.trans (HI.out.mono HB.out.1.size)⟩
end Go.Proofs.YtemgnljegbaobaaGreatDoor
