/- The laws AtomsMay and AtomsBack, walked. Conditions: the table of letters reads as laid; lengths fit. -/
import Derived.Test.YtaldnommgjnnkaaDoorAd
namespace Go.Proofs.YtaldnommgjnnkaaDoor
open Go.ChangeShapes Go.WideShapes Go.ChangeAt Go.RowKit
set_option linter.unusedVariables false
theorem law_may (s : ByteArray) (hs : s.size ≤ 9223372036854775807) (w : World) (hw : Cells w 0 letL) : Calls Tryd.prog 3 #[.string s] w (IsPost w true) := by
  have k0 : ∀ W, Below w.heap.size w W → Cells W 0 letL := fun W hb => keepCells hw hb
  have HK := Lib.hid k0
  clear k0
  generalize hm : mayS s = m
  generalize hn : nameS s = n
  generalize hp : preN s.data.toList = p
  have HM := Lib.hid hm
  have HN := Lib.hid hn
  have HP := Lib.hid hp
  clear hm hn hp
  go_enter Tryd.func3, Tryd.ntmps3
  go_wp2_with fail
  refine (may7 s hs w hw).mono ?_
  rw [HM.out]
  rintro e w1 ⟨rfl, hb1⟩
  clear hw
  go_wp2_with fail
  refine (refmay8 s hs w1).mono ?_
  rw [HM.out]
  rintro e w2 ⟨rfl, hb⟩
  have hb2 := hb1.trans (hb.mono hb1.size)
  clear hb hb1
  go_wp2_with fail
  refine (name9 s hs w2 (HK.out _ hb2)).mono ?_
  rw [HN.out]
  rintro e w3 ⟨rfl, hb⟩
  have hb3 := hb2.trans (hb.mono hb2.size)
  clear hb hb2
  go_wp2_with fail
  refine (refname10 s hs w3).mono ?_
  rw [HN.out]
  rintro e w4 ⟨rfl, hb⟩
  have hb4 := hb3.trans (hb.mono hb3.size)
  clear hb hb3
  go_wp2_with fail
  refine (prefix_any s hs w4 (HK.out _ hb4)).mono ?_
  rw [HP.out]
  rintro e w5 ⟨rfl, hb⟩
  have hb5 := hb4.trans (hb.mono hb4.size)
  clear hb hb4
  go_wp2_with fail
  refine (refprefix_any s hs w5).mono ?_
  rw [HP.out]
  rintro e w6 ⟨rfl, hb⟩
  have hb6 := hb5.trans (hb.mono hb5.size)
  clear hb hb5
  go_wp2_with fail
  refine (wakes_any w6 (HK.out _ hb6)).mono ?_
  rintro e w7 ⟨rfl, hb⟩
  have hb7 := hb6.trans (hb.mono hb6.size)
  clear hb hb6
  go_wp2_with fail
  go_ret
  exact ⟨rfl, hb7⟩
end Go.Proofs.YtaldnommgjnnkaaDoor
