/- scan: the law ScanJoin, walked. Conditions: lengths fit; the tables read as laid. -/
import Derived.Test.YtnhhihmifbjkkaaDoorSp
namespace Go.Proofs.YtnhhihmifbjkkaaDoor
open Go.ChangeShapes Go.WideShapes Go.ChangeAt Go.RowKit
set_option linter.unusedVariables false
set_option maxHeartbeats 4000000 in
theorem law_join (a b : ByteArray) (ha : a.size ≤ 9223372036854775807) (hb : b.size ≤ 9223372036854775807) (w : World) (hT : Tabs w) : Calls Tryd.prog 5 #[.string a, .string b] w (IsPost w true) := by
  have HT := Lib.hid hT
  clear hT
  by_cases hbig : 3000 < a.size ∨ 3000 < b.size
  · rcases Decidable.em (3000 < a.size) with h1 | h1
    · clear hbig
      go_enter Tryd.func5, Tryd.ntmps5
      go_wp2_with fail
      refine (wakes_any w HT.out).mono ?_
      rintro e w1 ⟨rfl, hb1⟩
      go_wp2_with fail
      go_ret
      exact ⟨rfl, hb1⟩
    · have h2 : 3000 < b.size := by omega
      clear hbig
      go_enter Tryd.func5, Tryd.ntmps5
      go_wp2_with fail
      refine (wakes_any w HT.out).mono ?_
      rintro e w1 ⟨rfl, hb1⟩
      go_wp2_with fail
      go_ret
      exact ⟨rfl, hb1⟩
  · have h1 : a.size ≤ 3000 := by omega
    have h2 : b.size ≤ 3000 := by omega
    obtain ⟨l1, l2, l3⟩ := join_law a b h1 h2
    have hja : (joinS a b).size = a.size + 1 + b.size := by simp [joinS, ByteArray.size_append]; rfl
    have HA := Lib.hid (fun W hW => scan_q a (by omega) W hW)
    have HBB := Lib.hid (fun W hW => scan_q b (by omega) W hW)
    have HJ := Lib.hid (fun W hW => scan_q (joinS a b) (by omega) W hW)
    have HOA := Lib.hid (okT_bound h1)
    have HOB := Lib.hid (okT_bound h2)
    unfold joinS at HJ l1 l2 l3
    generalize okT (a ++ ⟨#[10]⟩ ++ b) = Lj at *
    generalize scanR (a ++ ⟨#[10]⟩ ++ b) = pj at *
    generalize okT a = La at *
    generalize okT b = Lb at *
    generalize scanR a = pa at *
    generalize scanR b = pb at *
    obtain ⟨_, ea, fa⟩ := pa
    obtain ⟨_, eb, fb⟩ := pb
    obtain ⟨_, ej, fj⟩ := pj
    dsimp only at l1 l2 l3 HA HBB HJ
    clear hbig hja
    by_cases he : ea = 0
    · by_cases he2 : eb = 0
      · obtain ⟨rfl, hL⟩ := l3 he he2
        subst he he2
        have HL := Lib.hid hL
        have hlen := congrArg List.length hL
        rw [List.length_append, List.length_map] at hlen
        have hn1 := HOA.out.1
        have hn2 := HOB.out.1
        clear l1 l2 l3 hL
        go_enter Tryd.func5, Tryd.ntmps5
        go_wp2_with fail
        refine (HA.out w HT.out).mono ?_
        rintro e w1 ⟨ao, ca, rfl, hb1, hra⟩
        have HB1 := Lib.hid (hb1.alloc hb1.size (.cells #[.int .i64 0, .int .i64 fa] 28))
        have HRA := Lib.hid (hra.keep ((Below.refl _ w1).alloc (Nat.le_refl _) (.cells #[.int .i64 0, .int .i64 fa] 28)))
        have hfa := heap_new w1 (.cells #[.int .i64 0, .int .i64 fa] 28)
        clear hb1 hra
        go_wp2_with fail
        refine (HBB.out _ (HT.out.keep HB1.out)).mono ?_
        rintro e w2 ⟨bo, cb, rfl, hb2, hrb⟩
        generalize hpa : w1.heap.size = pa at *
        generalize (w1.alloc (.cells #[.int .i64 0, .int .i64 fa] 28)) = W1 at *
        have HB2 := Lib.hid ((HB1.out.trans (hb2.mono HB1.out.size)).alloc (HB1.out.trans (hb2.mono HB1.out.size)).size (.cells #[.int .i64 0, .int .i64 fb] 28))
        have hb2' : Below W1.heap.size W1 (w2.alloc (.cells #[.int .i64 0, .int .i64 fb] 28)) := hb2.alloc hb2.size _
        have HRA2 := Lib.hid (HRA.out.keep hb2')
        have HRB2 := Lib.hid (hrb.keep ((Below.refl _ w2).alloc (Nat.le_refl _) (.cells #[.int .i64 0, .int .i64 fb] 28)))
        have hfa2 := keep_heap hfa hb2'
        have hfb2 := heap_new w2 (.cells #[.int .i64 0, .int .i64 fb] 28)
        clear hb2 hrb hfa HRA hb2'
        go_wp2_with fail
        refine (HJ.out _ (HT.out.keep HB2.out)).mono ?_
        rintro e w3 ⟨jo, cj, rfl, hb3, hrj⟩
        generalize hpb : w2.heap.size = pb at *
        generalize (w2.alloc (.cells #[.int .i64 0, .int .i64 fb] 28)) = W2 at *
        have HB3 := Lib.hid ((HB2.out.trans (hb3.mono HB2.out.size)).alloc (HB2.out.trans (hb3.mono HB2.out.size)).size (.cells #[.int .i64 0, .int .i64 fj] 28))
        have hb3' : Below W2.heap.size W2 (w3.alloc (.cells #[.int .i64 0, .int .i64 fj] 28)) := hb3.alloc hb3.size _
        have HRA3 := Lib.hid (HRA2.out.keep hb3')
        have HRB3 := Lib.hid (HRB2.out.keep hb3')
        have HRJ3 := Lib.hid (hrj.keep ((Below.refl _ w3).alloc (Nat.le_refl _) (.cells #[.int .i64 0, .int .i64 fj] 28)))
        have hfa3 := keep_heap hfa2 hb3'
        have hfb3 := keep_heap hfb2 hb3'
        have hfj3 := heap_new w3 (.cells #[.int .i64 0, .int .i64 fj] 28)
        obtain ⟨a0, _⟩ := cells_at hfa3 0 _ rfl
        obtain ⟨a1, _⟩ := cells_at hfa3 1 _ rfl
        obtain ⟨b0, _⟩ := cells_at hfb3 0 _ rfl
        obtain ⟨b1, _⟩ := cells_at hfb3 1 _ rfl
        obtain ⟨j0, _⟩ := cells_at hfj3 0 _ rfl
        obtain ⟨j1, _⟩ := cells_at hfj3 1 _ rfl
        clear hb3 hrj hfa2 hfb2 HRA2 HRB2 hb3' hfa3 hfb3 hfj3 hpa hpb
        go_wp2_with fail
        have HB4 := Lib.hid HB3.out
        generalize (w3.alloc (.cells #[.int .i64 0, .int .i64 fj] 28)) = W3 at *
        clear a0 a1 b0 b1 j0 j1
        go_loopw [11] (fun iv wr => ∃ k : Nat, k ≤ Lj.length ∧ iv = .int .i64 k ∧ Below W3.heap.size W3 wr) (fun iv wr => Lj.length - (intOf iv).toNat)
        case atStart => exact ⟨0, by omega, rfl, Below.refl _ _⟩
        case round =>
          obtain ⟨k, hk, rfl, hbr⟩ := hrel
          have HBR := Lib.hid hbr
          have hra := HRA3.out.keep hbr
          have hrb := HRB3.out.keep hbr
          have hrj := HRJ3.out.keep hbr
          clear hbr
          by_cases hlt : k < Lj.length
          · by_cases hka : k < La.length
            · obtain ⟨t, ht⟩ : ∃ t, La[k]? = some t := ⟨La[k], by simp [hka]⟩
              have htj : Lj[k]? = some t := by rw [HL.out, List.getElem?_append_left hka]; exact ht
              obtain ⟨ba, oa, rfl, hba, ta0, ta1, ta2, ta3⟩ := hra k t ht
              obtain ⟨bj, oj, rfl, hbj, tj0, tj1, tj2, tj3⟩ := hrj k t htj
              obtain ⟨t0, t1, t2, t3⟩ := t
              dsimp only at ta0 ta1 ta2 ta3 tj0 tj1 tj2 tj3
              clear hra hrb hrj ht htj
              go_wp2_with fail
              go_region
              go_wp2_with fail
              go_roundw
              case rel => exact ⟨k + 1, by omega, by go_num, (HBR.out.alloc HBR.out.size _).drew⟩
              case measure => simp [intOf]; omega
            · obtain ⟨j, rfl⟩ : ∃ j, k = La.length + j := ⟨k - La.length, by omega⟩
              obtain ⟨t, ht⟩ : ∃ t, Lb[j]? = some t := ⟨Lb[j]'(by omega), by simp⟩
              have htj : Lj[La.length + j]? = some (shT (a.size + 1) t) := by rw [HL.out, List.getElem?_append_right (by omega), Nat.add_sub_cancel_left, List.getElem?_map, ht]; rfl
              have hin := HOB.out.2 t (List.mem_of_getElem? ht)
              obtain ⟨bb, ob, rfl, hbb, tb0, tb1, tb2, tb3⟩ := hrb j t ht
              obtain ⟨bj, oj, rfl, hbj, tj0, tj1, tj2, tj3⟩ := hrj (La.length + j) _ htj
              obtain ⟨t0, t1, t2, t3⟩ := t
              dsimp only [shT] at tb0 tb1 tb2 tb3 tj0 tj1 tj2 tj3 hin
              clear hra hrb hrj ht htj
              go_wp2_with fail
              go_region
              go_wp2_with fail
              go_roundw
              case rel => exact ⟨La.length + j + 1, by omega, by go_num, (HBR.out.alloc HBR.out.size _).drew⟩
              case measure => simp [intOf]; omega
          · go_wp2_with fail
            refine (wakes_any _ (HT.out.keep (HB4.out.trans (HBR.out.mono HB4.out.size)))).mono ?_
            rintro e w4 ⟨rfl, hb4⟩
            go_wp2_with fail
            go_ret
            exact ⟨rfl, (HB4.out.trans (HBR.out.mono HB4.out.size)).trans (hb4.mono (Nat.le_trans HB4.out.size HBR.out.size))⟩
      · obtain ⟨hej, hfj, hfb⟩ := l2 he he2
        subst he hej
        have HFI : Hid ((fj : Int) = (fb : Int) + a.size + 1) := Lib.hid (by omega)
        have hq : ((fj : Int) == (fb : Int) + a.size + 1) = true := by rw [HFI.out]; simp
        clear hfj
        have hx : ((ej : Int) == 0) = false := by simpa using he2
        clear l1 l2 l3 he2
        go_enter Tryd.func5, Tryd.ntmps5
        go_wp2_with fail
        refine (HA.out w HT.out).mono ?_
        rintro e w1 ⟨ao, ca, rfl, hb1, hra⟩
        have HB1 := Lib.hid (hb1.alloc hb1.size (.cells #[.int .i64 0, .int .i64 fa] 28))
        have HRA := Lib.hid (hra.keep ((Below.refl _ w1).alloc (Nat.le_refl _) (.cells #[.int .i64 0, .int .i64 fa] 28)))
        have hfa := heap_new w1 (.cells #[.int .i64 0, .int .i64 fa] 28)
        clear hb1 hra
        go_wp2_with fail
        refine (HBB.out _ (HT.out.keep HB1.out)).mono ?_
        rintro e w2 ⟨bo, cb, rfl, hb2, hrb⟩
        generalize hpa : w1.heap.size = pa at *
        generalize (w1.alloc (.cells #[.int .i64 0, .int .i64 fa] 28)) = W1 at *
        have HB2 := Lib.hid ((HB1.out.trans (hb2.mono HB1.out.size)).alloc (HB1.out.trans (hb2.mono HB1.out.size)).size (.cells #[.int .i64 ej, .int .i64 fb] 28))
        have hb2' : Below W1.heap.size W1 (w2.alloc (.cells #[.int .i64 ej, .int .i64 fb] 28)) := hb2.alloc hb2.size _
        have HRA2 := Lib.hid (HRA.out.keep hb2')
        have HRB2 := Lib.hid (hrb.keep ((Below.refl _ w2).alloc (Nat.le_refl _) (.cells #[.int .i64 ej, .int .i64 fb] 28)))
        have hfa2 := keep_heap hfa hb2'
        have hfb2 := heap_new w2 (.cells #[.int .i64 ej, .int .i64 fb] 28)
        clear hb2 hrb hfa HRA hb2'
        go_wp2_with fail
        refine (HJ.out _ (HT.out.keep HB2.out)).mono ?_
        rintro e w3 ⟨jo, cj, rfl, hb3, hrj⟩
        generalize hpb : w2.heap.size = pb at *
        generalize (w2.alloc (.cells #[.int .i64 ej, .int .i64 fb] 28)) = W2 at *
        have HB3 := Lib.hid ((HB2.out.trans (hb3.mono HB2.out.size)).alloc (HB2.out.trans (hb3.mono HB2.out.size)).size (.cells #[.int .i64 ej, .int .i64 fj] 28))
        have hb3' : Below W2.heap.size W2 (w3.alloc (.cells #[.int .i64 ej, .int .i64 fj] 28)) := hb3.alloc hb3.size _
        have HRA3 := Lib.hid (HRA2.out.keep hb3')
        have HRB3 := Lib.hid (HRB2.out.keep hb3')
        have HRJ3 := Lib.hid (hrj.keep ((Below.refl _ w3).alloc (Nat.le_refl _) (.cells #[.int .i64 ej, .int .i64 fj] 28)))
        have hfa3 := keep_heap hfa2 hb3'
        have hfb3 := keep_heap hfb2 hb3'
        have hfj3 := heap_new w3 (.cells #[.int .i64 ej, .int .i64 fj] 28)
        obtain ⟨a0, _⟩ := cells_at hfa3 0 _ rfl
        obtain ⟨a1, _⟩ := cells_at hfa3 1 _ rfl
        obtain ⟨b0, _⟩ := cells_at hfb3 0 _ rfl
        obtain ⟨b1, _⟩ := cells_at hfb3 1 _ rfl
        obtain ⟨j0, _⟩ := cells_at hfj3 0 _ rfl
        obtain ⟨j1, _⟩ := cells_at hfj3 1 _ rfl
        clear hb3 hrj hfa2 hfb2 HRA2 HRB2 hb3' hfa3 hfb3 hfj3 hpa hpb
        go_wp2_with fail
        refine (wakes_any _ (HT.out.keep HB3.out)).mono ?_
        rintro e w4 ⟨rfl, hb4⟩
        go_wp2_with fail
        go_ret
        exact ⟨rfl, HB3.out.trans (hb4.mono HB3.out.size)⟩
    · have hp := l1 he
      injection hp with hp1 hp2
      subst hp1 hp2
      have hx : ((ej : Int) == 0) = false := by simpa using he
      clear l1 l2 l3 he
      go_enter Tryd.func5, Tryd.ntmps5
      go_wp2_with fail
      refine (HA.out w HT.out).mono ?_
      rintro e w1 ⟨ao, ca, rfl, hb1, hra⟩
      have HB1 := Lib.hid (hb1.alloc hb1.size (.cells #[.int .i64 ej, .int .i64 fj] 28))
      have HRA := Lib.hid (hra.keep ((Below.refl _ w1).alloc (Nat.le_refl _) (.cells #[.int .i64 ej, .int .i64 fj] 28)))
      have hfa := heap_new w1 (.cells #[.int .i64 ej, .int .i64 fj] 28)
      clear hb1 hra
      go_wp2_with fail
      refine (HBB.out _ (HT.out.keep HB1.out)).mono ?_
      rintro e w2 ⟨bo, cb, rfl, hb2, hrb⟩
      generalize hpa : w1.heap.size = pa at *
      generalize (w1.alloc (.cells #[.int .i64 ej, .int .i64 fj] 28)) = W1 at *
      have HB2 := Lib.hid ((HB1.out.trans (hb2.mono HB1.out.size)).alloc (HB1.out.trans (hb2.mono HB1.out.size)).size (.cells #[.int .i64 eb, .int .i64 fb] 28))
      have hb2' : Below W1.heap.size W1 (w2.alloc (.cells #[.int .i64 eb, .int .i64 fb] 28)) := hb2.alloc hb2.size _
      have HRA2 := Lib.hid (HRA.out.keep hb2')
      have HRB2 := Lib.hid (hrb.keep ((Below.refl _ w2).alloc (Nat.le_refl _) (.cells #[.int .i64 eb, .int .i64 fb] 28)))
      have hfa2 := keep_heap hfa hb2'
      have hfb2 := heap_new w2 (.cells #[.int .i64 eb, .int .i64 fb] 28)
      clear hb2 hrb hfa HRA hb2'
      go_wp2_with fail
      refine (HJ.out _ (HT.out.keep HB2.out)).mono ?_
      rintro e w3 ⟨jo, cj, rfl, hb3, hrj⟩
      generalize hpb : w2.heap.size = pb at *
      generalize (w2.alloc (.cells #[.int .i64 eb, .int .i64 fb] 28)) = W2 at *
      have HB3 := Lib.hid ((HB2.out.trans (hb3.mono HB2.out.size)).alloc (HB2.out.trans (hb3.mono HB2.out.size)).size (.cells #[.int .i64 ej, .int .i64 fj] 28))
      have hb3' : Below W2.heap.size W2 (w3.alloc (.cells #[.int .i64 ej, .int .i64 fj] 28)) := hb3.alloc hb3.size _
      have HRA3 := Lib.hid (HRA2.out.keep hb3')
      have HRB3 := Lib.hid (HRB2.out.keep hb3')
      have HRJ3 := Lib.hid (hrj.keep ((Below.refl _ w3).alloc (Nat.le_refl _) (.cells #[.int .i64 ej, .int .i64 fj] 28)))
      have hfa3 := keep_heap hfa2 hb3'
      have hfb3 := keep_heap hfb2 hb3'
      have hfj3 := heap_new w3 (.cells #[.int .i64 ej, .int .i64 fj] 28)
      obtain ⟨a0, _⟩ := cells_at hfa3 0 _ rfl
      obtain ⟨a1, _⟩ := cells_at hfa3 1 _ rfl
      obtain ⟨b0, _⟩ := cells_at hfb3 0 _ rfl
      obtain ⟨b1, _⟩ := cells_at hfb3 1 _ rfl
      obtain ⟨j0, _⟩ := cells_at hfj3 0 _ rfl
      obtain ⟨j1, _⟩ := cells_at hfj3 1 _ rfl
      clear hb3 hrj hfa2 hfb2 HRA2 HRB2 hb3' hfa3 hfb3 hfj3 hpa hpb
      go_wp2_with fail
      refine (wakes_any _ (HT.out.keep HB3.out)).mono ?_
      rintro e w4 ⟨rfl, hb4⟩
      go_wp2_with fail
      go_ret
      exact ⟨rfl, HB3.out.trans (hb4.mono HB3.out.size)⟩
end Go.Proofs.YtnhhihmifbjkkaaDoor
