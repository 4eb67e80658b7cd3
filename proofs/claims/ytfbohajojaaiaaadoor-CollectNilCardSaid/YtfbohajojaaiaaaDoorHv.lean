/- the law CollectNil, walked. Conditions: the table of letters reads as laid; what comes reads. -/
import Derived.Test.YtfbohajojaaiaaaDoorHr
import Derived.Test.YtfbohajojaaiaaaDoorHs
import Derived.Test.YtfbohajojaaiaaaDoorHu
import Derived.Test.YtfbohajojaaiaaaDoorLt
namespace Go.Proofs.YtfbohajojaaiaaaDoor
open Go.ChangeShapes Go.WideShapes Go.ChangeAt Go.RowKit Go.Shelf
set_option linter.unusedVariables false
set_option maxRecDepth 100000
attribute [local go_sem] Oper.semAt_some
/-- what stands while it goes over no cells -/
structure NilI (w : World) (q : Nat) (W : World) : Prop where
  hr : W.heap[w.heap.size]? = some (.cells #[.bool false] 4 (0, 0))
  hn : W.heap[q]? = some (.cells #[.int .i64 0] 3 (0, 0))
  hb : Below w.heap.size w W
theorem NilI.keep {w : World} {q : Nat} {W W' : World} (h : NilI w q W) (hb : Below W.heap.size W W') : NilI w q W' := ⟨keep_heap h.hr hb, keep_heap h.hn hb, h.hb.trans (hb.mono h.hb.size)⟩
theorem cells1_nil (l bn bh : Nat) (W : World) (hn : W.heap[bn]? = some (.cells #[.int .i64 0] 3 (0, 0))) :
    CallsIn Fence.wide 8 Tryd.prog 34 #[.func (.yield l) #[] #[], .pointer (some ⟨bn, 0, none⟩), .pointer (some ⟨bh, 0, none⟩)] W fun e W' => (∃ v, e = .returned v) ∧ W' = W := by
  obtain ⟨c0, c0f⟩ := cells_at hn 0 _ rfl
  have hl := heap_lt hn
  clear hn
  refine callsIn_of_wp Tryd.func34 rfl trivial ?_ rfl
  simp only [Tryd.ntmps34, List.size_toArray, List.length_cons, List.length_nil, Nat.reduceAdd, Nat.reduceSub, Array.replicate_succ, Array.replicate_zero, List.push_toArray, List.append_toArray, List.nil_append, List.cons_append]
  gi_wp2
  gi_loopw [8] (fun iv wr => iv = .int .i64 0 ∧ wr = W) (fun _ _ => 0)
  case atStart => exact ⟨rfl, rfl⟩
  case round =>
    obtain ⟨rfl, rfl⟩ := hrel
    gi_wp2
    go_end0
    exact ⟨⟨_, rfl⟩, rfl⟩
theorem seq_nil (w : World) (u v : Value) : (binOp .eql 35 (.func (.func 34) #[] #[u, v]) .nilFunc).run Tryd.prog w = .ok (.bool false) w := by kernel_rfl
set_option maxHeartbeats 4000000 in
theorem nil_law (w : World) (f : Nat) (R : List Wd) (ro : Option Addr) (rc : Nat) (hL : Cells w 0 letL) (hR : WRow w ro R) (hRo : ∀ x ∈ R, WOk f w x) (h2 : R.length ≤ 140737488355328) :
    Calls Tryd.prog 3 #[.slice ro R.length rc] w (IsPost w true) := by
  have hb := (Below.refl w.heap.size w).alloc (Nat.le_refl _) (.cells #[.bool false] 4)
  have hbx := heap_new w (.cells #[.bool false] 4)
  have HG := Lib.hid (greatr_any _ f [] R none ro 0 rc (fun i m h => by simp at h) (hR.keep hb) (fun x hx => (hRo x hx).keep hb) (by simp) h2 (by simp))
  have HR := Lib.hid hR
  have HL := Lib.hid hL
  have HB := Lib.hid hb
  have HX := Lib.hid hbx
  clear hR hL hb hbx hRo
  refine (callsIn_wide (n := 9)).1 ?_
  refine callsIn_of_wp_marks Tryd.func3 rfl trivial ?_ rfl
  simp only [Tryd.ntmps3, List.size_toArray, List.length_cons, List.length_nil, Nat.reduceAdd, Nat.reduceSub, Array.replicate_succ, Array.replicate_zero, List.push_toArray, List.append_toArray, List.nil_append, List.cons_append]
  gi_wp2
  refine ⟨trivial, (callsIn_wide.2 HG.out).mono ?_⟩
  rintro e w1 ⟨b, rfl, hb1, hF⟩
  have HB1 := Lib.hid (HB.out.trans (hb1.mono HB.out.size))
  have HX1 := Lib.hid (keep_heap HX.out hb1)
  have HF := Lib.hid hF
  clear hb1 HG HX HB hF
  cases b
  · have hlen : R.length < 400 := by have := (HF.out rfl).1; simp [wide] at this; omega
    gi_wp2
    refine ⟨trivial, (callsIn_wide.2 (words_any w1 R ro rc (HR.out.keep HB1.out) (by omega))).mono ?_⟩
    rintro e w2 ⟨hb2, ao2, cap2, rfl, -⟩
    have HB2 := Lib.hid (HB1.out.trans (hb2.mono HB1.out.size))
    have HX2 := Lib.hid (keep_heap HX1.out hb2)
    clear hb2 HB1 HX1
    gi_wp2
    refine ⟨trivial, (callsIn_wide.2 (run_nil w2 ao2 R.length cap2)).mono ?_⟩
    rintro e w3 ⟨rfl, hb3⟩
    have HB3 := Lib.hid (HB2.out.trans (hb3.mono HB2.out.size))
    have HX3 := Lib.hid (keep_heap HX2.out hb3)
    clear hb3 HB2 HX2
    gi_wp2
    refine ⟨trivial, (callsIn_wide.2 (words_any w3 R ro rc (HR.out.keep HB3.out) (by omega))).mono ?_⟩
    rintro e w4 ⟨hb4, ao4, cap4, rfl, -⟩
    have HB4 := Lib.hid (HB3.out.trans (hb4.mono HB3.out.size))
    have HX4 := Lib.hid (keep_heap HX3.out hb4)
    clear hb4 HB3 HX3
    gi_wp2
    refine ⟨trivial, (callsIn_wide.2 (reached_nil w4 ao4 R.length cap4)).mono ?_⟩
    rintro e w5 ⟨rfl, hb5⟩
    have HB5 := Lib.hid (HB4.out.trans (hb5.mono HB4.out.size))
    have HX5 := Lib.hid (keep_heap HX4.out hb5)
    clear hb5 HB4 HX4
    gi_wp2
    refine ⟨trivial, (callsIn_wide.2 (cells_nil w5)).mono ?_⟩
    rintro e w6 ⟨rfl, rfl⟩
    have z1 := heap_new (w5.alloc (.cells #[.pointer none] 25)) (.cells #[.int .i64 0] 3)
    simp only [World.size_alloc] at z1
    have hbz := (HB5.out.alloc HB5.out.size (.cells #[.pointer none] 25))
    have hN : NilI w (w5.heap.size + 1) ((w5.alloc (.cells #[.pointer none] 25)).alloc (.cells #[.int .i64 0] 3)) := ⟨heap_old (heap_old HX5.out _) _, z1, hbz.alloc hbz.size _⟩
    have hws := HB5.out.size
    have hx := heap_lt HX5.out
    have hsz : ((w5.alloc (.cells #[.pointer none] 25)).alloc (.cells #[.int .i64 0] 3)).heap.size = w5.heap.size + 2 := by simp
    generalize (w5.alloc (.cells #[.pointer none] 25)).alloc (.cells #[.int .i64 0] 3) = w6 at *
    clear z1 hbz HX5 HB5
    have hsn := @seq_nil
    gi_wp2
    refine rf_frame (α := Value × Value) (encs := fun x => #[x.1, x.2]) rfl (by omega) (gf := 34) (lb := #[.pointer (some ⟨w5.heap.size + 1, 0, none⟩), .pointer (some ⟨w5.heap.size, 0, none⟩)]) rfl trivial (enters_of Tryd.func34 (by kernel_rfl) rfl) (fun _ => rfl)
        (fun T _ => T) (w5.heap.size + 2) hsz (fun _ => NilI w (w5.heap.size + 1)) (fun _ => True) 0
        ?firm (fun _ _ _ h hb => h.keep hb) hN ?assign ?body ?iter ?done
    case firm =>
      rintro pre W l o o' hl ho hc ⟨h1, h2, h3⟩
      have c := chg_put W l o'
      exact ⟨c.heap h1 (by omega), c.heap h2 (by omega), h3.trans (c.below h3.size (fun k e => by omega))⟩
    case assign => exact fun l pre x W K hI hlen _ => absurd hlen (by omega)
    case body => exact fun l pre x W hI hlen => absurd hlen (by omega)
    case iter =>
      intro l J Jx T h1 h2 h3 h4 W h0
      refine (cells1_nil l (w5.heap.size + 1) w5.heap.size W (h1 _ _ h0).hn).mono ?_
      rintro e W' ⟨hv, rfl⟩
      exact ⟨hv, .inl ⟨[], ⟨trivial, h0⟩, h3 _ _ h0⟩⟩
    case done =>
      rintro D xs W hD - hI hK
      have HI := Lib.hid hI
      have HW := Lib.hid (wakes_any W (keep_letters HL.out hI.hb))
      clear hI
      gi_wp2
      refine ⟨trivial, (callsIn_wide.2 HW.out).mono ?_⟩
      rintro e w7 ⟨rfl, hb7⟩
      obtain ⟨h1, h2, h3⟩ := HI.out.keep hb7
      have hK7 := keep_heap hK hb7
      obtain ⟨x0, x0f⟩ := cells_at h1 0 _ rfl
      have hxl := heap_lt h1
      have hs := set_at (i := 0) h1 (.bool true)
      have hD0 := heap_lt hK
      have hne : ¬ D = w.heap.size := by omega
      have hK8 := (chg_set (w := w7) (p := ⟨w.heap.size, 0, none⟩) (.bool true)).heap hK7 (fun e => hne e)
      have HS := Lib.hid hs
      have HK := Lib.hid hK8
      have HB := Lib.hid (h3.setCell (p := ⟨w.heap.size, 0, none⟩) (Nat.le_refl _) (.bool true))
      clear h1 h2 h3 hK7 hs hK8 hK hb7
      gi_wp2
      refine ⟨by simp, .inl ⟨_, _, rfl, run_takeDeferred HK.out, ?_⟩⟩
      have hc := chg_put (w7.setCell ⟨w.heap.size, 0, none⟩ (.bool true)) D (.deferred none)
      have hc5 := (cells_at (hc.heap HS.out (fun e => hne e.symm)) 0 _ rfl).1
      refine ⟨.bool true, ?_, rfl, HB.out.trans (hc.below HB.out.size (fun k e => by omega))⟩
      simp [results, Tryd.f3, go_sem, hc5]
  · gi_wp2
    refine ⟨trivial, (callsIn_wide.2 (wakes_any w1 (keep_letters HL.out HB1.out))).mono ?_⟩
    rintro e w2 ⟨rfl, hb2⟩
    have HB2 := Lib.hid (HB1.out.trans (hb2.mono HB1.out.size))
    have hx2 := keep_heap HX1.out hb2
    obtain ⟨x0, x0f⟩ := cells_at hx2 0 _ rfl
    have hxl := heap_lt hx2
    have hs := set_at (i := 0) hx2 (.bool true)
    have HS := Lib.hid hs
    clear hb2 hx2 hs
    gi_wp2
    have hc5 := (cells_at HS.out 0 _ rfl).1
    refine ⟨.bool true, ?_, rfl, HB2.out.setCell (p := ⟨w.heap.size, 0, none⟩) (Nat.le_refl _) (.bool true)⟩
    simp [results, Tryd.f3, go_sem, hc5]
theorem nil_row {H : Type} {enc : TypeId × Value → H} (W : World) {base : Nat} {v0 : Value} {d0 : DataW H} {p0 : List MemPlace} (hv0 : Value.okWide Tryd.prog W .any base 22 v0) (h0 : DataW.Trod enc Tryd.prog W 0 (fun _ => true) true 22 v0 d0 p0) (hz0 : Sz Tryd.prog 22 d0)
    (hL : laidMetH Tryd.prog [("pleach/atoms.letters", letD)] W) : Calls Tryd.prog 3 #[v0] W (IsPost W true) := by
  obtain ⟨ao0, n0, cap0, rfl⟩ := okWide_slice Tryd.underlying22 hv0
  obtain ⟨fuel, hf⟩ := h0
  obtain ⟨ao, cap, L, e, h1, h2, h3, h4, h5⟩ := parts_of_trod hf
  rw [e]
  exact nil_law W fuel L ao cap (letters_of W hL) h3 h4 (h5 hz0)
end Go.Proofs.YtfbohajojaaiaaaDoor
