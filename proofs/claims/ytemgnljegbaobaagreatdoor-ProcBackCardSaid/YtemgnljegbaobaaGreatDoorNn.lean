/- proc.New at pid 1, no parent. Conditions: the frame reads; its rows are not too long. -/
import Derived.Test.YtemgnljegbaobaaGreatDoorNm
namespace Go.Proofs.YtemgnljegbaobaaGreatDoor
open Go.ChangeShapes Go.WideShapes Go.ChangeAt Go.RowKit
set_option linter.unusedVariables false
set_option linter.unusedSimpArgs false
set_option maxRecDepth 100000
theorem run_build_frame (cs : Array Value) (hs : cs.size = 35) (w : World) : (Instr.buildSlice 22 1 #[(0, .agg cs)]).run Tryz.prog w = .ok (.slice (some ⟨w.heap.size, 0, none⟩) 1 1) (w.alloc (.cells cs 65)) := by
  unfold Instr.buildSlice
  go_simp
  have e := fold_zip fr0L cs (by rw [hs]; rfl)
  rw [hs] at e
  rw [show Array.foldl (fun (a : Array Value) x => a.setIfInBounds x.snd x.fst) _ (cs.zipIdx 0) 0 35 = cs from e]
theorem op_build_frame {o : Oper} {a : Act} {w : World} {K : Act → World → Prop} {Q : Exit → Act → World → Prop} (x : Operand) (ho : o.op = .buildSlice 22 1 #[(0, x)]) (cs : Array Value) (hx : a.eval x = .agg cs) (hs : cs.size = 35)
    (h : K (a.put o.dst (.slice (some ⟨w.heap.size, 0, none⟩) 1 1)) (w.alloc (.cells cs 65))) : o.wp Tryz.prog a w K Q := by
  unfold Oper.wp execOp
  simp only [ho, List.map_toArray, List.map_cons, List.map_nil, hx, run_build_frame cs hs w, Sem.run_bind, Result.andThen_ok, Sem.run_pure]
  exact h
def NewP (w : World) (f : Fm) (e : Ending) (w' : World) : Prop :=
  ∃ q D', e = .returned (.tuple #[.agg q.cells, .int .i64 0]) ∧ SamePv ⟨1, 0, .slice none 0 0, .slice none 0 0, ⟨#[]⟩, false, false, .slice none 0 0, .slice none 0 0⟩ q ∧ PrR w ⟨[f], 0, [], [], []⟩ w' q D' ∧ D'.nm = 0 ∧ D'.xm = [] ∧ D'.lk = [] ∧ D'.ws = []
set_option maxHeartbeats 16000000 in
theorem new_any (w : World) (f : Fm) (h : FrX w f.cs f.X) (hX : f.X.ok) : Calls Tryz.prog 31 #[.int .i64 1, .int .i64 0, .agg f.cs] w (NewP w f) := by
  obtain ⟨b1, b2, hb, hbs⟩ := two_boxes w (.cells f.cs 65) (.cells zeroP 27)
  have HB := Lib.hid (And.intro hb (And.intro b1 (And.intro b2 hbs)))
  have HF := Lib.hid h
  clear b1 b2 hb hbs h
  go_enter Tryz.func31, Tryz.ntmps31
  go_wp2_with (with_reducible refine stop_op (o := ⟨_, .load 65 (.tmp 5), _, _, _, _⟩) ?_)
  generalize (w.alloc (.cells f.cs 65)).alloc (.cells zeroP 27) = w1 at *
  refine Lib.hid ?_
  refine wpList_load_row (o := ⟨_, _, _, _, _, _⟩) rfl 65 (.tmp 5) rfl w.heap.size rfl 65 f.cs (0, 0) _ HB.out.2.1 Tryz.underlying65 rfl (infoFR HF.out.size) ?_
  refine wpList_plain rfl fun K hK => ?_
  refine op_build_frame (o := ⟨_, _, _, _, _, _⟩) (.tmp 18) rfl f.cs rfl HF.out.size ?_
  refine hK _ _ ?_
  have hb2 := (Below.refl w1.heap.size w1).alloc (Nat.le_refl _) (.cells f.cs 65)
  have hn2 := heap_new w1 (.cells f.cs 65)
  have HB2 := Lib.hid (And.intro (HB.out.1.trans (hb2.mono HB.out.1.size)) (And.intro (keep_heap HB.out.2.2.1 hb2) hb2.size))
  have hst : St (w1.alloc (.cells f.cs 65)) (.slice (some ⟨w1.heap.size, 0, none⟩) 1 1) [f] := by
    refine ⟨⟨by simp [frs, HF.out.size], fun u hu => ?_, _, _, rfl, Nat.le_refl _, by omega, .inr ⟨w1.heap.size, 0, rfl, fun j u hj => ?_⟩⟩, fun g hg => ?_⟩
    · have := HF.out.one
      rw [Array.all_eq_true_iff_forall_mem] at this
      exact this u (by simpa [frs] using hu)
    · rw [Nat.zero_add]
      exact (cells_at hn2 j u (by simpa [frs] using hj)).1
    · obtain rfl := List.mem_singleton.1 hg
      exact HF.out.keep HB2.out.1
  have HST := Lib.hid hst
  clear hb2 hn2 hst
  generalize w1.alloc (.cells f.cs 65) = w2 at *
  go_wp2_with fail
  refine (frames_any _ _ [f] HST.out (by simp) (fun g hg => by obtain rfl := List.mem_singleton.1 hg; exact hX)).mono ?_
  rintro e w3 ⟨v3, L', rfl, st3, cp3, hb3, ob3, ap3⟩
  obtain ⟨a3, c3, rfl, -, -⟩ := st3.row.slice
  have H3 := Lib.hid (And.intro st3 (And.intro cp3 (And.intro hb3 (And.intro ob3 ap3))))
  have HB3 := Lib.hid (And.intro (HB2.out.1.trans (hb3.mono HB2.out.1.size)) (keep_heap HB2.out.2.1 hb3))
  have hS3 := Lib.hid (Nat.le_trans HB2.out.2.2 hb3.size)
  clear st3 cp3 hb3 ob3 ap3
  go_wp2_with (with_reducible refine stop_op (o := ⟨_, .store 27 (.tmp 8) (.tmp 21), _, _, _, _⟩) ?_)
  refine Lib.hid ?_
  refine wpList_store_new (o := ⟨none, _, _, _, _, _⟩) rfl 27 (.tmp 8) (.tmp 21) rfl #[.int .i64 1, .int .i64 0, .slice a3 L'.length c3, .slice none 0 0, .string ⟨#[]⟩, .bool false, .bool false, .slice none 0 0, .slice none 0 0] rfl rfl (infoPT rfl) rfl (by simp [Value.oneCell']) ?_
  have hb4 := (Below.refl w3.heap.size w3).alloc (Nat.le_refl _) (.cells #[.int .i64 1, .int .i64 0, .slice a3 L'.length c3, .slice none 0 0, .string ⟨#[]⟩, .bool false, .bool false, .slice none 0 0, .slice none 0 0] 27)
  have HN4 := Lib.hid (heap_new w3 (.cells #[.int .i64 1, .int .i64 0, .slice a3 L'.length c3, .slice none 0 0, .string ⟨#[]⟩, .bool false, .bool false, .slice none 0 0, .slice none 0 0] 27))
  have HB4 := Lib.hid (And.intro (HB3.out.1.trans (hb4.mono HB3.out.1.size)) (And.intro (keep_heap HB3.out.2 hb4) hb4))
  clear hb4
  generalize w3.alloc (.cells #[.int .i64 1, .int .i64 0, .slice a3 L'.length c3, .slice none 0 0, .string ⟨#[]⟩, .bool false, .bool false, .slice none 0 0, .slice none 0 0] 27) = w4 at *
  go_wp2_with (with_reducible refine stop_op (o := ⟨_, .load 27 (.tmp 8), _, _, _, _⟩) ?_)
  refine Lib.hid ?_
  refine wpList_load_row (o := ⟨_, _, _, _, _, _⟩) rfl 27 (.tmp 8) rfl w3.heap.size rfl 27 #[.int .i64 1, .int .i64 0, .slice a3 L'.length c3, .slice none 0 0, .string ⟨#[]⟩, .bool false, .bool false, .slice none 0 0, .slice none 0 0] (0, 0) _ HN4.out Tryz.underlying27 rfl (infoPT rfl) ?_
  go_wp2_with (with_reducible refine stop_op (o := ⟨_, .store 27 (.tmp 6) (.tmp 32), _, _, _, _⟩) ?_)
  refine Lib.hid ?_
  refine wpList_store_row (o := ⟨none, _, _, _, _, _⟩) rfl 27 (.tmp 6) (.tmp 32) rfl (w.heap.size + 1) #[.int .i64 1, .int .i64 0, .slice a3 L'.length c3, .slice none 0 0, .string ⟨#[]⟩, .bool false, .bool false, .slice none 0 0, .slice none 0 0] rfl rfl 27 zeroP HB4.out.2.1 (infoPT rfl) rfl (by simp [Value.oneCell']) ?_
  have hy := setRow_heap w4 (w.heap.size + 1) zeroP #[.int .i64 1, .int .i64 0, .slice a3 L'.length c3, .slice none 0 0, .string ⟨#[]⟩, .bool false, .bool false, .slice none 0 0, .slice none 0 0] 27 (0, 0) HB4.out.2.1
  have hc := chg_setRow w4 (w.heap.size + 1) #[.int .i64 1, .int .i64 0, .slice a3 L'.length c3, .slice none 0 0, .string ⟨#[]⟩, .bool false, .bool false, .slice none 0 0, .slice none 0 0]
  have hS2 : w.heap.size + 2 ≤ w1.heap.size := Nat.le_of_eq HB.out.2.2.2.symm
  have HF5 := Lib.hid (And.intro hy (And.intro hc hS2))
  generalize w4.setRow (w.heap.size + 1) #[.int .i64 1, .int .i64 0, .slice a3 L'.length c3, .slice none 0 0, .string ⟨#[]⟩, .bool false, .bool false, .slice none 0 0, .slice none 0 0] = w5 at *
  clear hy hc hS2
  go_wp2_with fail
  refine ret_cell_tmp HF5.out.1 rfl Tryz.underlying27 rfl (infoPT rfl) rfl rfl ?_
  obtain ⟨st3, cp3, hb3, ob3, ap3⟩ := H3.out
  have h2 := HB2.out.2.2
  have h3 := HF5.out.2.2
  have hy : w.heap.size + 1 < w2.heap.size := by omega
  refine ⟨⟨1, 0, .slice a3 L'.length c3, .slice none 0 0, ⟨#[]⟩, false, false, .slice none 0 0, .slice none 0 0⟩, ⟨L', 0, [], [], []⟩, rfl, ⟨rfl, rfl, rfl, rfl, rfl⟩, ⟨?_, cp3, ⟨?_, Rw.nil _ _, Rw.nil _ _, Rw.nil _ _⟩, ?_⟩, rfl, rfl, rfl, rfl⟩
  · exact HB4.out.1.trans (HF5.out.2.1.below HB4.out.1.size fun k e => by have e : k = w.heap.size + 1 := e; omega)
  · refine (st3.keep HB4.out.2.2).chg HF5.out.2.1 (fun k hk e => ?_) (fun k e g hg => ap3 k ?_ (fun x hx => ?_) g hg)
    · have e : k = w.heap.size + 1 := e
      have := ob3 k hk
      omega
    · have e : k = w.heap.size + 1 := e
      omega
    · obtain rfl := List.mem_singleton.1 hx
      have e : k = w.heap.size + 1 := e
      exact HF.out.old (by omega)
  · intro k hk hf
    refine ⟨fun e => ?_, (fun e => by cases e), (fun e => by cases e), (fun e => by cases e), ap3 k (by omega) hf⟩
    have := ob3 k e
    omega
end Go.Proofs.YtemgnljegbaobaaGreatDoor
