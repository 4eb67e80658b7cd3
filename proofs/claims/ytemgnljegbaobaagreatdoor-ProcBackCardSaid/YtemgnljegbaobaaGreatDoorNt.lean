/- pleachref19.SameMail at two rows of the same cells. Conditions: the rows read; their terms read. -/
import Derived.Test.YtemgnljegbaobaaGreatDoorNs
namespace Go.Proofs.YtemgnljegbaobaaGreatDoor
open Go.ChangeShapes Go.WideShapes Go.ChangeAt Go.RowKit
set_option linter.unusedVariables false
set_option linter.unusedSimpArgs false
set_option maxRecDepth 100000
def ImOk (w : World) (x : Im) : Prop := ∃ f t, TermV f w (.agg #[.int .i8 x.k, .int .i64 x.n, .string x.s, .string x.u, .slice x.ao x.ln x.lc]) t
theorem ImOk.keep {w w' : World} {x : Im} (h : ImOk w x) (hb : Below w.heap.size w w') : ImOk w' x := by
  obtain ⟨f, t, h⟩ := h
  exact ⟨f, t, h.keep hb⟩
/-- an item's cells at a place -/
def ImAt (b o : Nat) (x : Im) (W : World) : Prop := W.cell? ⟨b, o, none⟩ = some (.int .i8 x.k) ∧ W.cell? ⟨b, o + 1, none⟩ = some (.int .i64 x.n) ∧ W.cell? ⟨b, o + 2, none⟩ = some (.string x.s) ∧ W.cell? ⟨b, o + 3, none⟩ = some (.string x.u) ∧ W.cell? ⟨b, o + 4, none⟩ = some (.slice x.ao x.ln x.lc) ∧ W.cell? ⟨b, o + 5, none⟩ = some (.bool x.ours)
theorem im_at {w : World} {v : Value} {ml : List Im} {i : Nat} {x : Im} (h : Rw w v ml.length 6 (mvs ml)) (hx : ml[i]? = some x) : ∃ b off c, v = .slice (some ⟨b, off, none⟩) ml.length c ∧ ImAt b (off + i * 6) x w := by
  have hlt := (List.getElem?_eq_some_iff.1 hx).1
  obtain ⟨ao, c, rfl, -, -⟩ := h.slice
  obtain ⟨-, b, off, rfl, hc⟩ := h.at (by omega)
  have hcell : ∀ j u, j < 6 → x.cells[j]? = some u → w.cell? ⟨b, off + i * 6 + j, none⟩ = some u := fun j u hj hu => by
    rw [Nat.add_assoc]
    exact hc _ _ (by rw [mvs_at hx hj]; exact hu)
  exact ⟨b, off, c, rfl, by simpa using hcell 0 _ (by decide) rfl, hcell 1 _ (by decide) rfl, hcell 2 _ (by decide) rfl, hcell 3 _ (by decide) rfl, hcell 4 _ (by decide) rfl, hcell 5 _ (by decide) rfl⟩
theorem ImAt.keep {b o : Nat} {x : Im} {W W' : World} (h : ImAt b o x W) (hb : Below W.heap.size W W') : ImAt b o x W' := ⟨keep_cell h.1 hb, keep_cell h.2.1 hb, keep_cell h.2.2.1 hb, keep_cell h.2.2.2.1 hb, keep_cell h.2.2.2.2.1 hb, keep_cell h.2.2.2.2.2 hb⟩
def Im2 (b o b2 o2 : Nat) (x : Im) (W : World) : Prop := W.cell? ⟨b, o, none⟩ = some (.int .i8 x.k) ∧ W.cell? ⟨b, o + 1, none⟩ = some (.int .i64 x.n) ∧ W.cell? ⟨b, o + 2, none⟩ = some (.string x.s) ∧ W.cell? ⟨b, o + 3, none⟩ = some (.string x.u) ∧ W.cell? ⟨b, o + 4, none⟩ = some (.slice x.ao x.ln x.lc) ∧ W.cell? ⟨b, o + 5, none⟩ = some (.bool x.ours) ∧
  W.cell? ⟨b2, o2, none⟩ = some (.int .i8 x.k) ∧ W.cell? ⟨b2, o2 + 1, none⟩ = some (.int .i64 x.n) ∧ W.cell? ⟨b2, o2 + 2, none⟩ = some (.string x.s) ∧ W.cell? ⟨b2, o2 + 3, none⟩ = some (.string x.u) ∧ W.cell? ⟨b2, o2 + 4, none⟩ = some (.slice x.ao x.ln x.lc) ∧ W.cell? ⟨b2, o2 + 5, none⟩ = some (.bool x.ours)
theorem Im2.of {b o b2 o2 : Nat} {x : Im} {W : World} (h : ImAt b o x W) (k : ImAt b2 o2 x W) : Im2 b o b2 o2 x W := ⟨h.1, h.2.1, h.2.2.1, h.2.2.2.1, h.2.2.2.2.1, h.2.2.2.2.2, k.1, k.2.1, k.2.2.1, k.2.2.2.1, k.2.2.2.2.1, k.2.2.2.2.2⟩
theorem Im2.keep {b o b2 o2 : Nat} {x : Im} {W W' : World} (h : Im2 b o b2 o2 x W) (hb : Below W.heap.size W W') : Im2 b o b2 o2 x W' := by
  obtain ⟨h1, h2, h3, h4, h5, h6, h7, h8, h9, h10, h11, h12⟩ := h
  exact ⟨keep_cell h1 hb, keep_cell h2 hb, keep_cell h3 hb, keep_cell h4 hb, keep_cell h5 hb, keep_cell h6 hb, keep_cell h7 hb, keep_cell h8 hb, keep_cell h9 hb, keep_cell h10 hb, keep_cell h11 hb, keep_cell h12 hb⟩
set_option maxHeartbeats 16000000 in
theorem samemail_any (w : World) (v v' : Value) (ml : List Im) (h : Rw w v ml.length 6 (mvs ml)) (h' : Rw w v' ml.length 6 (mvs ml)) (hok : ∀ x ∈ ml, ImOk w x) (hn : ml.length ≤ 1000) :
    Calls Tryz.prog 37 #[v, v'] w (IsPost w true) := by
  obtain ⟨ao, c, rfl, hc1, hc2⟩ := h.slice
  obtain ⟨ao', c', rfl, hc1', hc2'⟩ := h'.slice
  have HR := Lib.hid (And.intro h (And.intro h' hok))
  clear h h' hok
  go_enter Tryz.func37, Tryz.ntmps37
  go_wp2_with fail
  go_loopw [5] (fun jw wr => ∃ i : Nat, i ≤ ml.length ∧ jw = .int .i64 i ∧ Hid (Below w.heap.size w wr)) (fun jw _ => ml.length - (intOf jw).toNat)
  case atStart => exact ⟨0, Nat.zero_le _, rfl, Lib.hid (Below.refl _ _)⟩
  case round =>
    obtain ⟨i, hi, rfl, HI⟩ := hrel
    by_cases hlt : i < ml.length
    · obtain ⟨x, hx⟩ : ∃ x, ml[i]? = some x := ⟨ml[i], List.getElem?_eq_getElem hlt⟩
      obtain ⟨b, off, d, e1, a1⟩ := im_at (HR.out.1.keep HI.out) hx
      obtain ⟨b2, off2, d2, e2, a2⟩ := im_at (HR.out.2.1.keep HI.out) hx
      injection e1 with e1 _ e3
      injection e2 with e2 _ e4
      subst e1 e2 e3 e4
      obtain ⟨f, t, htv⟩ := HR.out.2.2 x (List.mem_of_getElem? hx)
      have HT := Lib.hid (htv.keep HI.out)
      have hi0 : (0 : Int) ≤ (i : Int) := by omega
      have H2 := Lib.hid (Im2.of a1 a2)
      clear hx a1 a2 htv
      go_wp2_with fail
      have hd := (Below.refl wr.heap.size wr).drew
      have hS : Im2 b (off + i * 6) b2 (off2 + i * 6) x wr.drew := H2.out.keep hd
      have HT1 := Lib.hid (HT.out.keep hd)
      have HI1 := Lib.hid (HI.out.trans (hd.mono HI.out.size))
      clear hd H2 HT
      refine region_plan (Im2 b (off + i * 6) b2 (off2 + i * 6) x) [(0, 0), (1, 0), (2, 0), (3, 0), (4, 0), (5, 0), (6, 0), (7, 0), (8, 0), (9, 0), (10, 0), (11, 0), (12, 0), (13, 0), (14, 0), (15, 0), (16, 0), (17, 0), (18, 0), (19, 0), (20, 0), (21, 0), (22, 1), (23, 0), (24, 0)] (by kernel_rfl) (by kernel_rfl) (by kernel_rfl) hS ?_
      generalize wr.drew = w1 at *
      iterate 22 (first | (refine plan_skip rfl ?_ ?_; (focus (rfl)); (try simp only [Act.put, List.setIfInBounds_toArray, List.set_cons_zero, List.set_cons_succ])) | (refine plan_take (v := ?_) rfl ?_ (fun w hSw => ?_) ?_; rotate_left; (focus (rfl)); (focus (unfold Im2 at hSw; (go_simp <;> with_reducible rfl))); (try simp only [Act.put, List.setIfInBounds_toArray, List.set_cons_zero, List.set_cons_succ])))
      refine plan_run rfl ?_ (fun K hK => ?_)
      focus (rfl)
      go_simp
      refine (rsame_any f f t t _ _ _ HT1.out HT1.out).mono ?_
      rintro e w2 ⟨rfl, hb2⟩
      have hS2 := hS.keep hb2
      have HI2 := Lib.hid (HI1.out.trans (hb2.mono HI1.out.size))
      refine hK.out _ _ hS2 ?_
      clear hK K 
      (try simp only [Act.put, List.setIfInBounds_toArray, List.set_cons_zero, List.set_cons_succ])
      rw [eqT_refl]
      clear hS hb2
      iterate 2 (first | (refine plan_skip rfl ?_ ?_; (focus (rfl)); (try simp only [Act.put, List.setIfInBounds_toArray, List.set_cons_zero, List.set_cons_succ])) | (refine plan_take (v := ?_) rfl ?_ (fun w hSw => ?_) ?_; rotate_left; (focus (rfl)); (focus (unfold Im2 at hSw; (go_simp <;> with_reducible rfl))); (try simp only [Act.put, List.setIfInBounds_toArray, List.set_cons_zero, List.set_cons_succ])))
      refine plan_done ?_
      clear hS2 HT1 HI1
      go_wp2_with fail
      go_roundw
      case rel => exact ⟨i + 1, hlt, by go_num, HI2⟩
      case measure => simp [intOf]; omega
    · have hlt' : ¬ ((i : Int) < (ml.length : Int)) := by omega
      go_wp2_with fail
      go_ret
      exact ⟨rfl, HI.out⟩
end Go.Proofs.YtemgnljegbaobaaGreatDoor
