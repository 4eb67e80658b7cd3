/- stop: Step of a machine that is new; Left of no machine. Conditions: at most 40 records. -/
import Derived.Test.YtjepiimggaiejaaPf
namespace Go.Proofs.Ytjepiimggaiejaa
open Go.ChangeShapes Go.WideShapes Go.ChangeAt Go.RowKit
set_option linter.unusedVariables false
theorem left_none (w : World) : Calls Try.prog 8 #[frV 0 0 0 nS] w fun e w' => e = .returned nS ∧ Below w.heap.size w w' := by
  simp only [frV, frC]
  go_enter Try.func8, Try.ntmps8
  go_wp2_with fail
  go_ret
  exact ⟨rfl, (Below.refl _ _).alloc (Nat.le_refl _) _⟩
def Told (w : World) (R : List Rc) (v : Value) (g : Nat) (ph n : Int) (w' : World) : Prop :=
  ∃ ef, w'.heap[g]? = some (.cells ef 56 (0, 0)) ∧ ((dn (pidsL R) R.length = [] ∧ ph = 0 ∧ n = 0 ∧ ef = efC 11 0 1 ⟨#[111, 107]⟩) ∨ (∃ k t, dn (pidsL R) R.length = k :: t ∧ ph = 1 ∧ n = (k : Int) + 1 ∧ ef = efC 6 ((pidsL R).getD k 0) 0 ⟨#[]⟩))
def StepP (w : World) (R : List Rc) (v : Value) (e : Ending) (w' : World) : Prop :=
  ∃ g ph n, e = .returned (.tuple #[frV 3 ph n v, .slice (some ⟨g, 0, none⟩) 1 1]) ∧ Below w.heap.size w w' ∧ Told w R v g ph n w'
set_option maxRecDepth 100000 in
set_option maxHeartbeats 4000000 in
theorem step_any (w : World) (ao : Option Addr) (cap : Nat) (x0 x1 x2 x3 x4 x5 x6 x7 x8 x9 x10 : Value) (R : List Rc) (hR : R.length ≤ 40) (hok : ∀ r ∈ R, r.ok) (hr : RRow w ao R) (hao : ∀ ad, ao = some ad → ad.block < w.heap.size) :
    Calls Try.prog 10 #[frV 3 0 0 (.slice ao R.length cap), .agg #[x0, x1, x2, x3, x4, x5, x6, x7, x8, x9, x10]] w (StepP w R (.slice ao R.length cap)) := by
  have HR := Lib.hid hr
  have HK := Lib.hid hok
  have HA := Lib.hid hao
  clear hr hok hao
  simp only [frV, frC]
  go_enter Try.func10, Try.ntmps10
  go_wp2_with (with_reducible refine stop_op (o := ⟨_, .store 73 (.tmp 6) (.tmp 9), _, _, _, _⟩) ?_)
  refine Lib.hid ?_
  have z0 := heap_new w (.cells (frC 3 0 0 (.slice ao R.length cap)) 38)
  have z1 := heap_new (w.alloc (.cells (frC 3 0 0 (.slice ao R.length cap)) 38)) (.cells #[x0, x1, x2, x3, x4, x5, x6, x7, x8, x9, x10] 50)
  have z2 := heap_new ((w.alloc (.cells (frC 3 0 0 (.slice ao R.length cap)) 38)).alloc (.cells #[x0, x1, x2, x3, x4, x5, x6, x7, x8, x9, x10] 50)) (.cells (frC 0 0 0 nS) 38)
  have z3 := heap_new (((w.alloc (.cells (frC 3 0 0 (.slice ao R.length cap)) 38)).alloc (.cells #[x0, x1, x2, x3, x4, x5, x6, x7, x8, x9, x10] 50)).alloc (.cells (frC 0 0 0 nS) 38)) (.cells #[.nilFunc, .nilFunc, .nilFunc] 73)
  simp only [World.size_alloc] at z0 z1 z2 z3
  have y0 := heap_old (heap_old (heap_old z0 (.cells #[x0, x1, x2, x3, x4, x5, x6, x7, x8, x9, x10] 50)) (.cells (frC 0 0 0 nS) 38)) (.cells #[.nilFunc, .nilFunc, .nilFunc] 73)
  have y2 := heap_old z2 (.cells #[.nilFunc, .nilFunc, .nilFunc] 73)
  have hB0 : Below w.heap.size w ((((w.alloc (.cells (frC 3 0 0 (.slice ao R.length cap)) 38)).alloc (.cells #[x0, x1, x2, x3, x4, x5, x6, x7, x8, x9, x10] 50)).alloc (.cells (frC 0 0 0 nS) 38)).alloc (.cells #[.nilFunc, .nilFunc, .nilFunc] 73)) :=
    (((((Below.refl _ w).alloc (Nat.le_refl _) _).alloc (by simp) _).alloc (by simp; omega) _).alloc (by simp; omega) _)
  have hS0 : ((((w.alloc (.cells (frC 3 0 0 (.slice ao R.length cap)) 38)).alloc (.cells #[x0, x1, x2, x3, x4, x5, x6, x7, x8, x9, x10] 50)).alloc (.cells (frC 0 0 0 nS) 38)).alloc (.cells #[.nilFunc, .nilFunc, .nilFunc] 73)).heap.size = w.heap.size + 4 := by simp
  clear z0 z1 z2
  show wpList Try.prog _ _ _ _ ((((w.alloc (.cells (frC 3 0 0 (.slice ao R.length cap)) 38)).alloc (.cells #[x0, x1, x2, x3, x4, x5, x6, x7, x8, x9, x10] 50)).alloc (.cells (frC 0 0 0 nS) 38)).alloc (.cells #[.nilFunc, .nilFunc, .nilFunc] 73))
  generalize ((((w.alloc (.cells (frC 3 0 0 (.slice ao R.length cap)) 38)).alloc (.cells #[x0, x1, x2, x3, x4, x5, x6, x7, x8, x9, x10] 50)).alloc (.cells (frC 0 0 0 nS) 38)).alloc (.cells #[.nilFunc, .nilFunc, .nilFunc] 73)) = W0 at *
  refine wpList_store_row (o := ⟨none, _, _, _, _, _⟩) rfl 73 (.tmp 6) (.tmp 9) rfl (w.heap.size + 1 + 1 + 1) #[.func (.func 16) #[] #[], .func (.func 17) #[] #[], .func (.func 18) #[] #[]] rfl rfl 73 #[.nilFunc, .nilFunc, .nilFunc] z3 (by kernel_rfl) rfl (by simp [Value.oneCell']) ?_
  have hc := chg_setRow W0 (w.heap.size + 1 + 1 + 1) #[.func (.func 16) #[] #[], .func (.func 17) #[] #[], .func (.func 18) #[] #[]]
  have y3 := setRow_heap W0 (w.heap.size + 1 + 1 + 1) _ #[.func (.func 16) #[] #[], .func (.func 17) #[] #[], .func (.func 18) #[] #[]] _ _ z3
  have v0 := hc.heap y0 (by omega)
  have v2 := hc.heap y2 (by omega)
  have hB1 := hB0.trans (hc.below hB0.size (fun k e => by omega))
  have hS1 : (W0.setRow (w.heap.size + 1 + 1 + 1) #[.func (.func 16) #[] #[], .func (.func 17) #[] #[], .func (.func 18) #[] #[]]).heap.size = w.heap.size + 4 := by simp; omega
  clear hc y0 y2 z3 hB0 hS0
  generalize (W0.setRow (w.heap.size + 1 + 1 + 1) #[.func (.func 16) #[] #[], .func (.func 17) #[] #[], .func (.func 18) #[] #[]]) = W1 at *
  have c0 : W1.cell? ⟨w.heap.size, 0, none⟩ = some (.int .i8 3) := (cells_at v0 0 _ rfl).1
  have c8 : W1.cell? ⟨w.heap.size, 8, none⟩ = some (.int .i8 0) := (cells_at v0 8 _ rfl).1
  have c12 : W1.cell? ⟨w.heap.size, 12, none⟩ = some (.int .i64 0) := (cells_at v0 12 _ rfl).1
  have c28 : W1.cell? ⟨w.heap.size, 28, none⟩ = some (.slice ao R.length cap) := (cells_at v0 28 _ rfl).1
  have HFI := Lib.hid (fits_any W1 w.heap.size R.length cap 0 ao c12 c28 (by omega) (by omega) (by omega))
  have V0 := Lib.hid v0
  have V2 := Lib.hid v2
  have Y3 := Lib.hid y3
  have HB := Lib.hid hB1
  clear v0 v2 y3 hB1
  go_wp2_with fail
  refine HFI.out.mono ?_
  rintro e w' ⟨rfl, kd, rfl⟩
  have hdr := below_drewN (Below.refl W1.heap.size W1) kd
  have v0 := keep_heap V0.out hdr
  have v2 := keep_heap V2.out hdr
  have y3 := keep_heap Y3.out hdr
  have hB1 := HB.out.trans (hdr.mono HB.out.size)
  have hS2 : (W1.drewN kd).heap.size = w.heap.size + 4 := hS1
  clear c0 c8 c12 c28 HFI V0 V2 Y3 HB hdr hS1
  generalize (W1.drewN kd) = W2 at *
  have c8 : W2.cell? ⟨w.heap.size, 8, none⟩ = some (.int .i8 0) := (cells_at v0 8 _ rfl).1
  have V0 := Lib.hid v0
  have V2 := Lib.hid v2
  have Y3 := Lib.hid y3
  have HB := Lib.hid hB1
  clear v0 v2 y3 hB1
  go_wp2_with (with_reducible refine stop_op (o := ⟨_, .load 38 (.tmp 2), _, _, _, _⟩) ?_)
  refine Lib.hid ?_
  refine wpList_load_row (o := ⟨_, _, _, _, _, _⟩) rfl 38 (.tmp 2) rfl w.heap.size rfl 38 (frC 3 0 0 (.slice ao R.length cap)) (0, 0) _ V0.out Try.underlying38 rfl (infoFR _ _ _ _) ?_
  go_wp2_with (with_reducible refine stop_op (o := ⟨_, .store 63 (.tmp 7) (.tmp 44), _, _, _, _⟩) ?_)
  refine Lib.hid ?_
  have z4 := heap_new W2 (.cells (frC 0 0 0 nS) 63)
  rw [hS2] at z4
  have v0 := heap_old V0.out (.cells (frC 0 0 0 nS) 63)
  have v2 := heap_old V2.out (.cells (frC 0 0 0 nS) 63)
  have y3 := heap_old Y3.out (.cells (frC 0 0 0 nS) 63)
  have hB1 := HB.out.alloc HB.out.size (.cells (frC 0 0 0 nS) 63)
  have hS3 : (W2.alloc (.cells (frC 0 0 0 nS) 63)).heap.size = w.heap.size + 5 := by simp; omega
  clear V0 V2 Y3 HB c8
  show wpList Try.prog _ _ _ _ (W2.alloc (.cells (frC 0 0 0 nS) 63))
  generalize (W2.alloc (.cells (frC 0 0 0 nS) 63)) = W3 at *
  refine wpList_store_row (o := ⟨none, _, _, _, _, _⟩) rfl 63 (.tmp 7) (.tmp 44) rfl (w.heap.size + 4) (frC 3 0 0 (.slice ao R.length cap)) (by simp [go_sem, hS2]) rfl 63 (frC 0 0 0 nS) z4 (infoROW _ _ _ _) rfl (frC_one _ _ _ rfl) ?_
  have hc := chg_setRow W3 (w.heap.size + 4) (frC 3 0 0 (.slice ao R.length cap))
  have x4 := setRow_heap W3 (w.heap.size + 4) _ (frC 3 0 0 (.slice ao R.length cap)) _ _ z4
  have v0' := hc.heap v0 (by omega)
  have v2' := hc.heap v2 (by omega)
  have y3' := hc.heap y3 (by omega)
  have hB2 := hB1.trans (hc.below hB1.size (fun k e => by omega))
  have hS4 : (W3.setRow (w.heap.size + 4) (frC 3 0 0 (.slice ao R.length cap))).heap.size = w.heap.size + 5 := by simp; omega
  clear hc v0 v2 y3 z4 hB1
  generalize (W3.setRow (w.heap.size + 4) (frC 3 0 0 (.slice ao R.length cap))) = W4 at *
  have c8 : W4.cell? ⟨w.heap.size, 8, none⟩ = some (.int .i8 0) := (cells_at v0' 8 _ rfl).1
  have cf : W4.cell? ⟨w.heap.size + 1 + 1 + 1, 0, none⟩ = some (.func (.func 16) #[] #[]) := (cells_at y3' 0 _ rfl).1
  have HN := Lib.hid (next_any W4 ao cap (w.heap.size + 4) (.pointer (some ⟨w.heap.size + 1, 0, none⟩)) R hR HK.out (HR.out.keep hB2) (fun ad e => by have := HA.out ad e; omega) x4)
  have V2 := Lib.hid v2'
  have HB := Lib.hid hB2
  clear v0' v2' y3' x4 hB2
  go_wp2_with fail
  refine HN.out.mono ?_
  rintro e W5 ⟨g, ph, n, ef, rfl, hg, hge, hq, hch, hcase⟩
  have v2 := hch.heap V2.out (by omega)
  have hB5 := HB.out.trans (hch.below HB.out.size (fun k e => by omega))
  have hgs : w.heap.size + 5 ≤ g := by omega
  have HQ := Lib.hid hq
  have HGE := Lib.hid hge
  have HCASE := Lib.hid hcase
  have HV2 := Lib.hid v2
  have HB5 := Lib.hid hB5
  clear HB V2 HN c8 cf hq hge hcase hch v2 hB5
  go_wp2_with (with_reducible refine stop_op (o := ⟨_, .load 63 (.tmp 7), _, _, _, _⟩) ?_)
  refine Lib.hid ?_
  refine wpList_load_row (o := ⟨_, _, _, _, _, _⟩) rfl 63 (.tmp 7) rfl (w.heap.size + 4) rfl 63 (frC 3 ph n (.slice ao R.length cap)) (0, 0) _ HQ.out Try.underlying63 rfl (infoROW _ _ _ _) ?_
  go_wp2_with (with_reducible refine stop_op (o := ⟨_, .store 38 (.tmp 4) (.tmp 51), _, _, _, _⟩) ?_)
  refine Lib.hid ?_
  refine wpList_store_row (o := ⟨none, _, _, _, _, _⟩) rfl 38 (.tmp 4) (.tmp 51) rfl (w.heap.size + 1 + 1) (frC 3 ph n (.slice ao R.length cap)) rfl rfl 38 (frC 0 0 0 nS) HV2.out (infoFR _ _ _ _) rfl (frC_one _ _ _ rfl) ?_
  have hc := chg_setRow W5 (w.heap.size + 1 + 1) (frC 3 ph n (.slice ao R.length cap))
  have HX := Lib.hid (setRow_heap W5 (w.heap.size + 1 + 1) _ (frC 3 ph n (.slice ao R.length cap)) _ _ HV2.out)
  have HP : Hid (StepP w R (.slice ao R.length cap) (.returned (.tuple #[frV 3 ph n (.slice ao R.length cap), .slice (some ⟨g, 0, none⟩) 1 1])) (W5.setRow (w.heap.size + 1 + 1) (frC 3 ph n (.slice ao R.length cap)))) := Lib.hid
    ⟨g, ph, n, rfl, HB5.out.trans (hc.below HB5.out.size (fun k e => by omega)), ef, hc.heap HGE.out (by omega), HCASE.out⟩
  clear hc
  generalize (W5.setRow (w.heap.size + 1 + 1) (frC 3 ph n (.slice ao R.length cap))) = W6 at *
  go_wp2_with fail
  exact ret_fr HX.out rfl rfl rfl HP.out
end Go.Proofs.Ytjepiimggaiejaa
