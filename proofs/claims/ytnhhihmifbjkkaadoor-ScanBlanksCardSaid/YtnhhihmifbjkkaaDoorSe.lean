/- scan: the reference's number and Blank; words, HasPrefix, walked. Conditions: lengths fit; the tables read as laid. -/
import Derived.Test.YtnhhihmifbjkkaaDoorSd
namespace Go.Proofs.YtnhhihmifbjkkaaDoor
open Go.ChangeShapes Go.WideShapes Go.ChangeAt Go.RowKit
set_option linter.unusedVariables false
set_option maxHeartbeats 2000000 in
theorem number_any (s : ByteArray) (hs : s.size ≤ 1099511627776) (a : Int) (ha : 0 ≤ a) (ha2 : a ≤ 1099511627776) (w : World) : Calls Tryd.prog 19 #[.string s, .int .i64 a] w (NextP w (digV s.data.toList a)) := by
  have HB := Lib.hid (fun (o1 o2 : Obj) => two_allocs w o1 o2)
  go_enter Tryd.func19, Tryd.ntmps19
  go_wp2_with fail
  go_loop [7, 8] (fun nv iv => ∃ (k : Nat) (v : Int), k ≤ s.size ∧ iv = .int .i64 k ∧ nv = .int .i64 v ∧ 0 ≤ v ∧ v ≤ 5764607523034234889 ∧ Hid (Dgs s k ∧ (v ≤ 576460752303423488 → v = decV (s.data.toList.take k)) ∧ (576460752303423488 < v → 576460752303423488 < decV (s.data.toList.take k)))) (fun _ iv => s.size - (intOf iv).toNat)
  case atStart => exact ⟨0, 0, by omega, rfl, rfl, by omega, by omega, Lib.hid ⟨⟨by omega, by simp⟩, by simp [decV], by omega⟩⟩
  case round =>
    obtain ⟨k, v, hk, rfl, rfl, hv0, hv1, HA⟩ := hrel
    by_cases hlt : k < s.size
    · by_cases hd : isDg s[k] = true
      · have hdd := (dg_iff s[k]).1 hd
        obtain ⟨h1, h2⟩ := hdd
        have HD := Lib.hid (HA.out.1.next hlt hd)
        by_cases hbig : v ≤ 576460752303423488
        · have HR : Hid (Dgs s (k + 1) ∧ (v * 10 + ((s[k].toNat : Int) - 48) ≤ 576460752303423488 → v * 10 + ((s[k].toNat : Int) - 48) = decV (s.data.toList.take (k + 1))) ∧ (576460752303423488 < v * 10 + ((s[k].toNat : Int) - 48) → 576460752303423488 < decV (s.data.toList.take (k + 1)))) := Lib.hid ⟨HD.out, by
            have := HA.out.2.1
            rw [dec_take hlt]
            omega⟩
          clear hd
          go_wp2_with fail
          go_round
          case rel => exact ⟨k + 1, _, by omega, by go_num, rfl, by omega, by omega, HR⟩
          case measure => simp [intOf]; omega
        · have HR : Hid (Dgs s (k + 1) ∧ (v ≤ 576460752303423488 → v = decV (s.data.toList.take (k + 1))) ∧ (576460752303423488 < v → 576460752303423488 < decV (s.data.toList.take (k + 1)))) := Lib.hid ⟨HD.out, by omega, by
            have := HA.out.2.2
            rw [dec_take hlt]
            omega⟩
          clear hd
          go_wp2_with fail
          go_round
          case rel => exact ⟨k + 1, _, by omega, by go_num, rfl, by omega, by omega, HR⟩
          case measure => simp [intOf]; omega
      · have hl := HA.out.1.last (.inr ⟨hlt, by simpa using hd⟩)
        have HL := Lib.hid hl
        have hdd : ¬ (48 ≤ (s[k].toNat : Int) ∧ (s[k].toNat : Int) ≤ 57) := fun h => hd ((dg_iff _).2 h)
        clear hd hl
        by_cases h1 : 48 ≤ (s[k].toNat : Int)
        · have h2 : ¬ (s[k].toNat : Int) ≤ 57 := fun h => hdd ⟨h1, h⟩
          clear hdd
          by_cases hbig : 576460752303423488 < v
          ·
            have HE : Hid (digV s.data.toList a = (noT, a, (11, a))) := Lib.hid (by
              rw [digV, if_pos]
              rw [HL.out.1]
              have := HA.out.2
              unfold most59
              omega)
            go_wp2_with fail
            refine (flaw_any 11 a _).mono ?_
            rintro e w1 ⟨rfl, hb1⟩
            have hR := (Res.new w (.int .i8 0) (.int .i64 0) (.string ⟨#[]⟩) (.int .i64 0) (.int .i64 0) (.int .i64 0)).keep hb1
            have HS := Lib.hid (hR.set (.int .i8 0) (.int .i64 0) (.string ⟨#[]⟩) (.int .i64 0) (.int .i64 11) (.int .i64 a))
            obtain ⟨⟨x0, x1, x2, x3, u0, u1⟩, y0, y1, y2, y3, v0, v1⟩ := hR.cells
            clear hb1 hR
            go_wp2_with fail
            exact ret_res HS.out rfl rfl rfl rfl ⟨by rw [HE.out]; rfl, HS.out.1⟩
          ·
            have HE : Hid (digV s.data.toList a = ((2, v, eS, a), a + k, (0, 0))) := Lib.hid (by
              have := HA.out.2
              rw [digV, if_neg, HL.out.1, HL.out.2]
              · congr 2
                simp
                omega
              · rw [HL.out.1]
                unfold most59
                omega)
            go_wp2_with fail
            refine bodyPost_ret (v := .tuple #[.agg #[.int .i8 2, .int .i64 v, .string ⟨#[]⟩, .int .i64 a], .int .i64 (a + k), .agg #[.int .i64 0, .int .i64 0]]) (by simp [results, Tryd.results19, go_sem]) rfl ⟨by rw [HE.out], ?_⟩
            exact HB.out _ _
        · clear hdd
          by_cases hbig : 576460752303423488 < v
          ·
            have HE : Hid (digV s.data.toList a = (noT, a, (11, a))) := Lib.hid (by
              rw [digV, if_pos]
              rw [HL.out.1]
              have := HA.out.2
              unfold most59
              omega)
            go_wp2_with fail
            refine (flaw_any 11 a _).mono ?_
            rintro e w1 ⟨rfl, hb1⟩
            have hR := (Res.new w (.int .i8 0) (.int .i64 0) (.string ⟨#[]⟩) (.int .i64 0) (.int .i64 0) (.int .i64 0)).keep hb1
            have HS := Lib.hid (hR.set (.int .i8 0) (.int .i64 0) (.string ⟨#[]⟩) (.int .i64 0) (.int .i64 11) (.int .i64 a))
            obtain ⟨⟨x0, x1, x2, x3, u0, u1⟩, y0, y1, y2, y3, v0, v1⟩ := hR.cells
            clear hb1 hR
            go_wp2_with fail
            exact ret_res HS.out rfl rfl rfl rfl ⟨by rw [HE.out]; rfl, HS.out.1⟩
          ·
            have HE : Hid (digV s.data.toList a = ((2, v, eS, a), a + k, (0, 0))) := Lib.hid (by
              have := HA.out.2
              rw [digV, if_neg, HL.out.1, HL.out.2]
              · congr 2
                simp
                omega
              · rw [HL.out.1]
                unfold most59
                omega)
            go_wp2_with fail
            refine bodyPost_ret (v := .tuple #[.agg #[.int .i8 2, .int .i64 v, .string ⟨#[]⟩, .int .i64 a], .int .i64 (a + k), .agg #[.int .i64 0, .int .i64 0]]) (by simp [results, Tryd.results19, go_sem]) rfl ⟨by rw [HE.out], ?_⟩
            exact HB.out _ _
    · obtain rfl : k = s.size := by omega
      have HL := Lib.hid (HA.out.1.last (.inl rfl))
      by_cases hbig : 576460752303423488 < v
      ·
        have HE : Hid (digV s.data.toList a = (noT, a, (11, a))) := Lib.hid (by
          rw [digV, if_pos]
          rw [HL.out.1]
          have := HA.out.2
          unfold most59
          omega)
        go_wp2_with fail
        refine (flaw_any 11 a _).mono ?_
        rintro e w1 ⟨rfl, hb1⟩
        have hR := (Res.new w (.int .i8 0) (.int .i64 0) (.string ⟨#[]⟩) (.int .i64 0) (.int .i64 0) (.int .i64 0)).keep hb1
        have HS := Lib.hid (hR.set (.int .i8 0) (.int .i64 0) (.string ⟨#[]⟩) (.int .i64 0) (.int .i64 11) (.int .i64 a))
        obtain ⟨⟨x0, x1, x2, x3, u0, u1⟩, y0, y1, y2, y3, v0, v1⟩ := hR.cells
        clear hb1 hR
        go_wp2_with fail
        exact ret_res HS.out rfl rfl rfl rfl ⟨by rw [HE.out]; rfl, HS.out.1⟩
      ·
        have HE : Hid (digV s.data.toList a = ((2, v, eS, a), a + s.size, (0, 0))) := Lib.hid (by
          have := HA.out.2
          rw [digV, if_neg, HL.out.1, HL.out.2]
          · congr 2
            simp
            omega
          · rw [HL.out.1]
            unfold most59
            omega)
        go_wp2_with fail
        refine bodyPost_ret (v := .tuple #[.agg #[.int .i8 2, .int .i64 v, .string ⟨#[]⟩, .int .i64 a], .int .i64 (a + s.size), .agg #[.int .i64 0, .int .i64 0]]) (by simp [results, Tryd.results19, go_sem]) rfl ⟨by rw [HE.out], ?_⟩
        exact HB.out _ _
end Go.Proofs.YtnhhihmifbjkkaaDoor
