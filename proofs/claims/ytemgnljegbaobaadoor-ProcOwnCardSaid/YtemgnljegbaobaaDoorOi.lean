/- the reference's Copy of any process (printed by genoi.py). Conditions: its rows read and are not too long. -/
import Derived.Test.YtemgnljegbaobaaDoorOh
namespace Go.Proofs.YtemgnljegbaobaaDoor
open Go.ChangeShapes Go.WideShapes Go.ChangeAt Go.RowKit
set_option linter.unusedVariables false
set_option linter.unusedSimpArgs false
set_option maxRecDepth 100000
def PCopyP (w : World) (p : Pv) (X : Px) (e : Ending) (w' : World) : Prop :=
  ∃ (q : Pv) (L' : List Fm), e = .returned (.agg q.cells) ∧ SamePv p q ∧ Below w.heap.size w w' ∧ Cp X.L L' ∧ PrX w' q ⟨L', X.nm, X.nl, X.nw, X.xm, X.xl, X.xw⟩ ∧ ∀ k, k < w.heap.size → PrN k q L'
set_option maxHeartbeats 16000000 in
theorem pcopy_any (w : World) (p : Pv) (X : Px) (h : PrX w p X) (hX : X.ok) : Calls Tryd.prog 11 #[.agg p.cells] w (PCopyP w p X) := by
  obtain ⟨pid, par, sv, mv, name, trap, wait, lv, wv⟩ := p
  obtain ⟨h2, h3, h7, h8⟩ := h
  simp only at h2 h3 h7 h8
  obtain ⟨so, sc, rfl, -, -⟩ := h2.row.slice
  obtain ⟨mo, mc, rfl, -, -⟩ := h3.slice
  obtain ⟨lo, lc, rfl, -, -⟩ := h7.slice
  obtain ⟨wo, wc, rfl, -, -⟩ := h8.slice
  have HR := Lib.hid (And.intro h2 (And.intro h3 (And.intro h7 h8)))
  clear h2 h3 h7 h8
  have HX0 := Lib.hid (heap_old (heap_new w (.cells #[.int .i64 pid, .int .i64 par, .slice so X.L.length sc, .slice mo X.nm mc, .string name, .bool trap, .bool wait, .slice lo X.nl lc, .slice wo X.nw wc] 29)) (.cells zeroP 29))
  have H0 := Lib.hid (Fr3.start 29 zeroP w #[.int .i64 pid, .int .i64 par, .slice so X.L.length sc, .slice mo X.nm mc, .string name, .bool trap, .bool wait, .slice lo X.nl lc, .slice wo X.nw wc])
  go_enter Tryd.func11, Tryd.ntmps11
  go_wp2_with (with_reducible refine stop_op (o := ⟨_, .load 29 (.tmp 1), _, _, _, _⟩) ?_)
  refine Lib.hid ?_
  refine wpList_load_row (o := ⟨_, _, _, _, _, _⟩) rfl 29 (.tmp 1) rfl w.heap.size rfl 29 #[.int .i64 pid, .int .i64 par, .slice so X.L.length sc, .slice mo X.nm mc, .string name, .bool trap, .bool wait, .slice lo X.nl lc, .slice wo X.nw wc] (0, 0) _ HX0.out Tryd.underlying29 rfl (infoPT rfl) ?_
  clear HX0
  go_wp2_with (with_reducible refine stop_op (o := ⟨_, .store 29 (.tmp 3) (.tmp 4), _, _, _, _⟩) ?_)
  refine Lib.hid ?_
  refine wpList_store_new (o := ⟨none, _, _, _, _, _⟩) rfl 29 (.tmp 3) (.tmp 4) rfl #[.int .i64 pid, .int .i64 par, .slice so X.L.length sc, .slice mo X.nm mc, .string name, .bool trap, .bool wait, .slice lo X.nl lc, .slice wo X.nw wc] (by rw [show ((w.alloc (.cells #[.int .i64 pid, .int .i64 par, .slice so X.L.length sc, .slice mo X.nm mc, .string name, .bool trap, .bool wait, .slice lo X.nl lc, .slice wo X.nw wc] 29)).alloc (.cells zeroP 29)).heap.size = w.heap.size + 1 + 1 by simp]; rfl) rfl (infoPT rfl) rfl (by simp [Value.oneCell']) ?_
  generalize ((w.alloc (.cells #[.int .i64 pid, .int .i64 par, .slice so X.L.length sc, .slice mo X.nm mc, .string name, .bool trap, .bool wait, .slice lo X.nl lc, .slice wo X.nw wc] 29)).alloc (.cells zeroP 29)).alloc (.cells #[.int .i64 pid, .int .i64 par, .slice so X.L.length sc, .slice mo X.nm mc, .string name, .bool trap, .bool wait, .slice lo X.nl lc, .slice wo X.nw wc] 29) = W0 at *
  obtain ⟨c2, -⟩ := cells_at H0.out.hX 2 _ rfl
  go_wp2_with fail
  clear c2
  refine (copies_any W0 _ _ (HR.out.1.keep H0.out.hb) hX.hL hX.hX).mono ?_
  rintro e w2 ⟨v2, L', rfl, O2, cp2, f2, hb2⟩
  obtain ⟨a2, k2, rfl⟩ := own_slice O2
  have HF := Lib.hid (And.intro cp2 (And.intro f2 (And.intro H0.out.hb.size H0.out.hs)))
  have CH0 := Lib.hid (Chg.refl (fun k => k = w.heap.size + 1 ∨ k = w.heap.size + 1 + 1) w2)
  have M2 := Lib.hid ((H0.out.keep hb2).more ⟨_, _, _, _, _⟩ (own_lower O2 H0.out.hs))
  clear H0 O2 cp2 f2 hb2
  obtain ⟨d2, d2f⟩ := cells_at M2.out.hZ 2 _ rfl
  have N2 := Lib.hid (M2.out.set 2 (.slice a2 X.L.length k2))
  have C2 := Lib.hid (CH0.out.grow (chg_set (w := w2) (p := ⟨w.heap.size + 1 + 1, 2, none⟩) (.slice a2 X.L.length k2)) (fun i _ e => .inr e))
  clear M2 CH0
  obtain ⟨c3, -⟩ := cells_at N2.out.hX 3 _ rfl
  go_wp2_with (with_reducible refine stop_op (o := ⟨_, .call { callee := .builtin .append, args := #[.const (.slice none 0 0), .tmp 10], argTypes := #[25, 25] }, _, _, _, _⟩) ?_)
  generalize w2.setCell ⟨w.heap.size + 1 + 1, 2, none⟩ (.slice a2 X.L.length k2) = W2 at *
  clear d2 d2f c3
  refine Lib.hid ?_
  refine wpList_append_rw (o := ⟨_, _, _, _, _, _⟩) rfl (.const (.slice none 0 0)) (.tmp 10) 25 rfl 47 6 Tryd.underlying25 (by kernel_rfl) (by decide) _ _ _ rfl rfl (HR.out.2.1.keep N2.out.hb) hX.hm ?_
  intro q3 w3 O3 hb3
  obtain ⟨a3, k3, rfl⟩ := own_slice O3
  have M3 := Lib.hid ((N2.out.keep hb3).more ⟨_, _, _, _, _⟩ (own_lower O3 N2.out.hs))
  obtain ⟨d3, d3f⟩ := cells_at M3.out.hZ 3 _ rfl
  have N3 := Lib.hid (M3.out.set 3 (.slice a3 X.nm k3))
  have C3 := Lib.hid ((C2.out.grow (chg_of_below hb3 (fun _ => False)) (fun i _ e => e.elim)).grow (chg_set (w := w3) (p := ⟨w.heap.size + 1 + 1, 3, none⟩) (.slice a3 X.nm k3)) (fun i _ e => .inr e))
  clear M3 N2 O3 hb3 C2
  obtain ⟨c7, -⟩ := cells_at N3.out.hX 7 _ rfl
  go_wp2_with (with_reducible refine stop_op (o := ⟨_, .call { callee := .builtin .append, args := #[.const (.slice none 0 0), .tmp 14], argTypes := #[26, 26] }, _, _, _, _⟩) ?_)
  generalize w3.setCell ⟨w.heap.size + 1 + 1, 3, none⟩ (.slice a3 X.nm k3) = W3 at *
  clear d3 d3f c7
  refine Lib.hid ?_
  refine wpList_append_rw (o := ⟨_, _, _, _, _, _⟩) rfl (.const (.slice none 0 0)) (.tmp 14) 26 rfl 3 1 Tryd.underlying26 (by kernel_rfl) (by decide) _ _ _ rfl rfl (HR.out.2.2.1.keep N3.out.hb) hX.hl ?_
  intro q7 w7 O7 hb7
  obtain ⟨a7, k7, rfl⟩ := own_slice O7
  have M7 := Lib.hid ((N3.out.keep hb7).more ⟨_, _, _, _, _⟩ (own_lower O7 N3.out.hs))
  obtain ⟨d7, d7f⟩ := cells_at M7.out.hZ 7 _ rfl
  have N7 := Lib.hid (M7.out.set 7 (.slice a7 X.nl k7))
  have C7 := Lib.hid ((C3.out.grow (chg_of_below hb7 (fun _ => False)) (fun i _ e => e.elim)).grow (chg_set (w := w7) (p := ⟨w.heap.size + 1 + 1, 7, none⟩) (.slice a7 X.nl k7)) (fun i _ e => .inr e))
  clear M7 N3 O7 hb7 C3
  obtain ⟨c8, -⟩ := cells_at N7.out.hX 8 _ rfl
  go_wp2_with (with_reducible refine stop_op (o := ⟨_, .call { callee := .builtin .append, args := #[.const (.slice none 0 0), .tmp 18], argTypes := #[27, 27] }, _, _, _, _⟩) ?_)
  generalize w7.setCell ⟨w.heap.size + 1 + 1, 7, none⟩ (.slice a7 X.nl k7) = W7 at *
  clear d7 d7f c8
  refine Lib.hid ?_
  refine wpList_append_rw (o := ⟨_, _, _, _, _, _⟩) rfl (.const (.slice none 0 0)) (.tmp 18) 27 rfl 56 2 Tryd.underlying27 (by kernel_rfl) (by decide) _ _ _ rfl rfl (HR.out.2.2.2.keep N7.out.hb) hX.hw ?_
  intro q8 w8 O8 hb8
  obtain ⟨a8, k8, rfl⟩ := own_slice O8
  have M8 := Lib.hid ((N7.out.keep hb8).more ⟨_, _, _, _, _⟩ (own_lower O8 N7.out.hs))
  obtain ⟨d8, d8f⟩ := cells_at M8.out.hZ 8 _ rfl
  have N8 := Lib.hid (M8.out.set 8 (.slice a8 X.nw k8))
  have C8 := Lib.hid ((C7.out.grow (chg_of_below hb8 (fun _ => False)) (fun i _ e => e.elim)).grow (chg_set (w := w8) (p := ⟨w.heap.size + 1 + 1, 8, none⟩) (.slice a8 X.nw k8)) (fun i _ e => .inr e))
  clear M8 N7 O8 hb8 C7
  go_wp2_with (with_reducible refine stop_op (o := ⟨_, .load 29 (.tmp 3), _, _, _, _⟩) ?_)
  generalize w8.setCell ⟨w.heap.size + 1 + 1, 8, none⟩ (.slice a8 X.nw k8) = W8 at *
  clear d8 d8f
  obtain ⟨q, hq⟩ : ∃ q : Pv, q = ⟨pid, par, .slice a2 X.L.length k2, .slice a3 X.nm k3, name, trap, wait, .slice a7 X.nl k7, .slice a8 X.nw k8⟩ := ⟨_, rfl⟩
  have hZ : W8.heap[w.heap.size + 1 + 1]? = some (.cells q.cells 29 (0, 0)) := by rw [hq]; exact N8.out.hZ
  have HZ := Lib.hid hZ
  have HQ := Lib.hid hq
  have h1q : q.cells.all (·.oneCell') = true := by rw [hq]; simp [Value.oneCell']
  have H1 := Lib.hid h1q
  clear hZ hq h1q
  refine Lib.hid ?_
  refine wpList_load_row (o := ⟨_, _, _, _, _, _⟩) rfl 29 (.tmp 3) rfl (w.heap.size + 1 + 1) rfl 29 q.cells (0, 0) _ HZ.out Tryd.underlying29 rfl (infoPT rfl) ?_
  go_wp2_with (with_reducible refine stop_op (o := ⟨_, .store 29 (.tmp 2) (.tmp 21), _, _, _, _⟩) ?_)
  refine Lib.hid ?_
  refine wpList_store_row (o := ⟨none, _, _, _, _, _⟩) rfl 29 (.tmp 2) (.tmp 21) rfl (w.heap.size + 1) q.cells rfl rfl 29 zeroP N8.out.hY (infoPT rfl) rfl H1.out ?_
  have HE := Lib.hid (N8.out.shut q.cells)
  have CE := Lib.hid (C8.out.grow (chg_setRow W8 (w.heap.size + 1) q.cells) (fun i _ e => .inl e))
  generalize W8.setRow (w.heap.size + 1) q.cells = W9 at *
  clear N8 HZ C8
  go_wp2_with fail
  obtain ⟨hY, hB, hO⟩ := HE.out
  obtain ⟨cp2, f2, s1, s2⟩ := HF.out
  have ow : ∀ (o : Ow), o ∈ _ → W9.ownsRow (w.heap.size + 3) o.e o.size o.v o.n o.xs := hO
  have o8 := ow _ (List.mem_cons_self)
  have o7 := ow _ (List.mem_cons_of_mem _ List.mem_cons_self)
  have o3 := ow _ (List.mem_cons_of_mem _ (List.mem_cons_of_mem _ List.mem_cons_self))
  have o2 := ow _ (List.mem_cons_of_mem _ (List.mem_cons_of_mem _ (List.mem_cons_of_mem _ List.mem_cons_self)))
  simp only at o8 o7 o3 o2
  have hfr : ∀ f ∈ L', FrX W9 f.cs f.X := fun f hf => (f2 f hf).1.chg CE.out fun k hk => (f2 f hf).2 k (.inl (by rcases hk with rfl | rfl <;> omega))
  have hpx : PrX W9 q ⟨L', X.nm, X.nl, X.nw, X.xm, X.xl, X.xw⟩ := by
    rw [HQ.out]
    exact ⟨St.own o2 cp2.1.symm hfr, Rw_own o3 HR.out.2.1.2.1, Rw_own o7 HR.out.2.2.1.2.1, Rw_own o8 HR.out.2.2.2.2.1⟩
  have hpn : ∀ k, k < w.heap.size → PrN k q L' := by
    intro k hk
    rw [HQ.out]
    exact ⟨fun e => by have := own_base o2 _ e; omega, fun e => by have := own_base o3 _ e; omega, fun e => by have := own_base o7 _ e; omega, fun e => by have := own_base o8 _ e; omega, fun f hf => (f2 f hf).2 k (.inl (by omega))⟩
  have hsp : SamePv ⟨pid, par, .slice so X.L.length sc, .slice mo X.nm mc, name, trap, wait, .slice lo X.nl lc, .slice wo X.nw wc⟩ q := by
    rw [HQ.out]
    exact ⟨rfl, rfl, rfl, rfl, rfl⟩
  exact ret_cell hY rfl Tryd.underlying29 rfl (infoPT rfl) rfl ⟨q, L', rfl, hsp, hB, cp2, hpx, hpn⟩
end Go.Proofs.YtemgnljegbaobaaDoor
