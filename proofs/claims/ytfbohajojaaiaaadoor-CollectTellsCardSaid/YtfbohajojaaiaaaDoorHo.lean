/- the law's words: words. Conditions: what comes reads. -/
import Derived.Test.YtfbohajojaaiaaaDoorHn
namespace Go.Proofs.YtfbohajojaaiaaaDoor
open Go.ChangeShapes Go.WideShapes Go.ChangeAt Go.RowKit
set_option linter.unusedVariables false
set_option maxRecDepth 100000
def WordsP (w : World) (L : List Wd) (e : Ending) (w' : World) : Prop :=
  Below w.heap.size w w' ∧ ∃ ao cap, e = .returned (.slice ao L.length cap) ∧ w'.ownsRow w.heap.size 58 7 (.slice ao L.length cap) L.length (wcs (L.map Wd.w))
set_option maxHeartbeats 4000000 in
theorem words_any (w : World) (L : List Wd) (ao : Option Addr) (cap : Nat) (hr : WRow w ao L) (hn : L.length ≤ 1099511627776) : Calls Tryd.prog 10 #[.slice ao L.length cap] w (WordsP w L) := by
  obtain ⟨i0, z0, hi, hz0, hz1, hz2, hz3⟩ := infoWD2
  have HR := Lib.hid hr
  clear hr
  go_enter Tryd.func10, Tryd.ntmps10
  go_wp2_with fail
  go_loopw [3, 7] (fun ov iv wr => ∃ (i : Nat), i ≤ L.length ∧ iv = .int .i64 i ∧ Hid (Below w.heap.size w wr ∧ wr.ownsRow w.heap.size 58 7 ov i (wcs ((L.take i).map Wd.w))))
    (fun _ iv _ => L.length - (intOf iv).toNat)
  case atStart => exact ⟨0, by omega, rfl, Lib.hid ⟨Below.refl _ _, World.ownsRow_nil _ _ _ _⟩⟩
  case round =>
    obtain ⟨i, hi', rfl, HI⟩ := hrel
    by_cases hlt : i < L.length
    · obtain ⟨x, hx⟩ : ∃ x, L[i]? = some x := ⟨L[i], by simp [hlt]⟩
      have HIX := Lib.hid hx
      have HWD := Lib.hid (word_any wr x)
      obtain ⟨b', off, rfl, hbs, hcx⟩ := HR.out.keep HI.out.1 i x hx
      have c0 := hcx 0 _ rfl
      have c1 := hcx 1 _ rfl
      have c2 := hcx 2 _ rfl
      have c3 := hcx 3 _ rfl
      have c4 := hcx 4 _ rfl
      have c5 := hcx 5 _ rfl
      have c6 := hcx 6 _ rfl
      simp only [Nat.add_zero] at c0
      clear hcx hx
      obtain ⟨xc, xa, xk, xn, xs, xu, xao, xcap, xl⟩ := x
      dsimp only at c0 c1 c2 c3 c4 c5 c6
      simp only [Wd.V] at HWD
      go_wp2_with fail
      refine HWD.out.mono ?_
      rintro e w2 ⟨rfl, hb2⟩
      have HB2 := Lib.hid hb2
      have hw2 := (HI.out.1.trans (hb2.mono HI.out.1.size)).size
      clear hb2 HWD c0 c1 c2 c3 c4 c5 c6
      obtain ⟨y, hy⟩ : ∃ y : Wd, y = (⟨xc, xa, xk, xn, xs, xu, xao, xcap, xl⟩ : Wd).w := ⟨_, rfl⟩
      rw [← hy]
      have HY := Lib.hid hy
      clear hy
      obtain ⟨yc, ya, yk, yn, ys, yu, yao, ycap, yl⟩ := y
      simp only [Wd.cells]
      go_wp2_with (at_builtin; refine stop_here ?_)
      refine Lib.hid ?_
      refine wpList_append_own2 rfl (.tmp 10) (.tmp 16) 26 rfl w.heap.size 58 i0 z0 7 88 Tryd.underlying26 hi hz0 hz1 hz2 hz3 (by decide) _ i (wcs ((L.take i).map Wd.w)) rfl ((own_keep HI.out.2 HB2.out).alloc _) ⟨w2.heap.size, 0, none⟩ 1 1 [.bool yc, .int .i64 ya, .int .i8 yk, .int .i64 yn, .string ys, .string yu, .slice yao yl.length ycap] rfl rfl (fun j u hj => by
        rw [Addr.add_lit, Nat.zero_add]
        exact (cells_at (heap_new w2 (.cells #[.bool yc, .int .i64 ya, .int .i8 yk, .int .i64 yn, .string ys, .string yu, .slice yao yl.length ycap] 58)) j u (by simpa using hj)).1) (by simp [Value.oneCell']) (by unfold maxLen; omega) (by omega) (by simp; omega) ?_
      intro v3 W3 hown3 hg3 hwh3
      obtain ⟨vo, vc, rfl⟩ := own_slice hown3
      have HFIN : Hid (Below w.heap.size w W3 ∧ W3.ownsRow w.heap.size 58 7 (.slice vo (i + 1) vc) (i + 1) (wcs ((L.take (i + 1)).map Wd.w))) := Lib.hid (by
        have hb1 := HI.out.1.trans (HB2.out.mono HI.out.1.size)
        have hb2 := hb1.alloc hb1.size (.cells #[.bool yc, .int .i64 ya, .int .i8 yk, .int .i64 yn, .string ys, .string yu, .slice yao yl.length ycap] 58)
        refine ⟨hb2.trans ((chg_grown hg3).below hb2.size (fun k h => own_base HI.out.2 k h.symm)), ?_⟩
        rw [List.take_add_one, HIX.out, List.map_append, wcs, List.flatMap_append]
        have e : List.flatMap Wd.cells (List.map Wd.w (some (⟨xc, xa, xk, xn, xs, xu, xao, xcap, xl⟩ : Wd)).toList) = [.bool yc, .int .i64 ya, .int .i8 yk, .int .i64 yn, .string ys, .string yu, .slice yao yl.length ycap] := by
          simp [← HY.out, Wd.cells]
        rw [e]
        exact hown3)
      clear hown3 hg3 hwh3
      go_wp2_with fail
      go_roundw
      case rel => exact ⟨i + 1, by omega, by go_num, HFIN⟩
      case measure => simp [intOf]; omega
    · have hil : i = L.length := by omega
      subst hil
      obtain ⟨ao', cap', rfl⟩ := own_slice HI.out.2
      rw [List.take_length] at HI
      go_wp2_with fail
      go_ret
      exact ⟨HI.out.1, _, _, rfl, HI.out.2⟩
end Go.Proofs.YtfbohajojaaiaaaDoor
