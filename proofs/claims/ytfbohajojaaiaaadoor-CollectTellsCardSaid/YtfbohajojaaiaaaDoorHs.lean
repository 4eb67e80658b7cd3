/- the law's great. Conditions: what comes reads. -/
import Derived.Test.YtfbohajojaaiaaaDoorHa
import Derived.Test.YtfbohajojaaiaaaDoorTy
namespace Go.Proofs.YtfbohajojaaiaaaDoor
open Go.ChangeShapes Go.WideShapes Go.ChangeAt Go.RowKit
set_option linter.unusedVariables false
set_option maxRecDepth 100000
/-- a cell that is made: what its cells hold -/
structure Mk where
  k : Int
  lo : Option Addr
  lc : Nat
  l : List Wd
def MRow (f : Nat) (w : World) (ao : Option Addr) (M : List Mk) : Prop := ∀ i m, M[i]? = some m → ∃ b off, ao = some ⟨b, off, none⟩ ∧ b < w.heap.size ∧ w.cell? ⟨b, off + i * 2, none⟩ = some (.int .i8 m.k) ∧ w.cell? ⟨b, off + i * 2 + 1, none⟩ = some (.slice m.lo m.l.length m.lc) ∧ WRow w m.lo m.l ∧ ∀ x ∈ m.l, WOk f w x
theorem MRow.keep {f : Nat} {w w' : World} {ao : Option Addr} {M : List Mk} (h : MRow f w ao M) (hb : Below w.heap.size w w') : MRow f w' ao M := by
  intro i m hi
  obtain ⟨b, off, e, h1, h2, h3, h4, h5⟩ := h i m hi
  exact ⟨b, off, e, Nat.lt_of_lt_of_le h1 hb.size, keep_cell h2 hb, keep_cell h3 hb, h4.keep hb, fun x hx => (h5 x hx).keep hb⟩
/-- how many parts the first cells have -/
def sumL (M : List Mk) (i : Nat) : Nat := ((M.take i).map fun m => m.l.length).sum
theorem sumL_next {M : List Mk} {i : Nat} {m : Mk} (h : M[i]? = some m) : sumL M (i + 1) = sumL M i + m.l.length := by
  rw [sumL, List.take_add_one, h]
  simp [sumL]
/-- how many cells, parts and roots -/
def wide (M : List Mk) (R : List Wd) : Nat := M.length + R.length + sumL M M.length
/-- what is not great -/
def Fair (M : List Mk) (R : List Wd) : Prop := wide M R < 400 ∧ (∀ m ∈ M, ∀ x ∈ m.l, greatB x.t = false) ∧ ∀ x ∈ R, greatB x.t = false
def GreatP (w : World) (M : List Mk) (R : List Wd) (e : Ending) (w' : World) : Prop := ∃ b, e = .returned (.bool b) ∧ Below w.heap.size w w' ∧ (b = false → Fair M R)
def Mild (M : List Mk) (i : Nat) : Prop := ∀ (j : Nat) (m : Mk), j < i → M[j]? = some m → ∀ x ∈ m.l, greatB x.t = false
theorem WOk.term {f : Nat} {w : World} {x : Wd} (h : WOk f w x) : TermV f w (.agg #[.int .i8 x.k, .int .i64 x.n, .string x.s, .string x.u, .slice x.ao x.l.length x.cap]) x.t := ⟨h.2.1, _, rfl, h.2.2⟩
set_option maxHeartbeats 4000000 in
theorem greatr_any (w : World) (f : Nat) (M : List Mk) (R : List Wd) (mo ro : Option Addr) (mc rc : Nat) (hM : MRow f w mo M) (hR : WRow w ro R) (hRo : ∀ x ∈ R, WOk f w x) (h1 : M.length ≤ 140737488355328) (h2 : R.length ≤ 140737488355328) (h3 : ∀ m ∈ M, m.l.length ≤ 140737488355328) :
    Calls Tryd.prog 7 #[.slice mo M.length mc, .slice ro R.length rc] w (GreatP w M R) := by
  have HM := Lib.hid hM
  have HR := Lib.hid hR
  have HRo := Lib.hid hRo
  have H3 := Lib.hid h3
  clear hM hR hRo h3
  go_enter Tryd.func7, Tryd.ntmps7
  go_wp2_with fail
  go_loopw [5, 6, 7] (fun nv iv _ wr => ∃ (i : Nat) (n : Nat), i ≤ M.length ∧ iv = .int .i64 i ∧ nv = .int .i64 n ∧ n ≤ 562949953421312 ∧ Hid (Below w.heap.size w wr ∧ n = M.length + R.length + sumL M i ∧ (n < 400 → Mild M i)))
    (fun _ iv _ _ => M.length - (intOf iv).toNat)
  case atStart => exact ⟨0, M.length + R.length, by omega, rfl, by simp, by omega, Lib.hid ⟨Below.refl _ _, by simp [sumL], fun _ j m hj => by omega⟩⟩
  case round =>
    obtain ⟨i, n, hi', rfl, rfl, hn, HI⟩ := hrel
    by_cases hlt : i < M.length
    · by_cases hn4 : n < 400
      · obtain ⟨m, hm⟩ : ∃ m, M[i]? = some m := ⟨M[i], by simp [hlt]⟩
        have hml := H3.out m (List.mem_of_getElem? hm)
        have HMX := Lib.hid hm
        obtain ⟨b, off, rfl, hbl, d0, d1, hwr, hwo⟩ := HM.out.keep HI.out.1 i m hm
        have HD := Lib.hid d1
        have HWR := Lib.hid hwr
        have HWO := Lib.hid hwo
        obtain ⟨mk, mlo, mlc, ml⟩ := m
        dsimp only at d0 d1 hml
        clear hwr hwo hm hbl
        have hsum := sumL_next (M := M) HMX.out
        dsimp only at hsum
        have HSUM := Lib.hid hsum
        have hmono : sumL M i ≤ 562949953421312 := by have := HI.out.2.1; omega
        clear hsum
        go_wp2_with fail
        generalize wr = wo at *
        go_loopw [7] (fun jv wr => ∃ (j : Nat), j ≤ ml.length ∧ jv = .int .i64 j ∧ Hid (Below wo.heap.size wo wr ∧ (n + ml.length < 400 → ∀ (k : Nat) x, k < j → ml[k]? = some x → greatB x.t = false)))
          (fun jv _ => ml.length - (intOf jv).toNat)
        case atStart => exact ⟨0, by omega, rfl, Lib.hid ⟨Below.refl _ _, fun _ k x h => by omega⟩⟩
        case round =>
          clear d0 d1
          obtain ⟨j, hj', rfl, HJ⟩ := hrel
          have d1 := keep_cell HD.out HJ.out.1
          by_cases hjl : j < ml.length
          · by_cases hq : n + ml.length < 400
            · obtain ⟨x, hx⟩ : ∃ x, ml[j]? = some x := ⟨ml[j], by simp [hjl]⟩
              have HXX := Lib.hid hx
              have HGC := Lib.hid (great_any f x.t _ wr (((HWO.out x (List.mem_of_getElem? hx)).keep HJ.out.1).term))
              obtain ⟨b', off', rfl, hbs, hcx⟩ := HWR.out.keep HJ.out.1 j x hx
              have c2 := hcx 2 _ rfl
              have c3 := hcx 3 _ rfl
              have c4 := hcx 4 _ rfl
              have c5 := hcx 5 _ rfl
              have c6 := hcx 6 _ rfl
              clear hcx hx
              obtain ⟨gb, hgb⟩ : ∃ gb, greatB x.t = gb := ⟨_, rfl⟩
              rw [hgb] at HGC
              have HGB := Lib.hid hgb
              clear hgb
              obtain ⟨xc, xa, xk, xn, xs, xu, xao, xcap, xl⟩ := x
              dsimp only at c2 c3 c4 c5 c6 HGC
              go_wp2_with fail
              refine HGC.out.mono ?_
              rintro e w2 ⟨rfl, hb2⟩
              have HB2 := Lib.hid (HJ.out.1.trans (hb2.mono HJ.out.1.size))
              clear hb2 HGC c2 c3 c4 c5 c6 d1
              cases gb
              · have HFIN : Hid (Below wo.heap.size wo w2 ∧ (n + ml.length < 400 → ∀ (k : Nat) x, k < j + 1 → ml[k]? = some x → greatB x.t = false)) := Lib.hid ⟨HB2.out, fun h k x hk hx => by
                  rcases Nat.lt_or_ge k j with hkj | hkj
                  · exact HJ.out.2 h k x hkj hx
                  · obtain rfl : k = j := by omega
                    rw [HXX.out] at hx
                    injection hx with hx
                    subst hx
                    exact HGB.out⟩
                go_wp2_with fail
                go_roundw
                case rel => exact ⟨j + 1, by omega, by go_num, HFIN⟩
                case measure => simp [intOf]; omega
              · go_wp2_with fail
                go_ret
                exact ⟨_, rfl, HI.out.1.trans (HB2.out.mono HI.out.1.size), fun h => by cases h⟩
            · have hfin := HI.out.1.trans (HJ.out.1.mono HI.out.1.size)
              have HFIN : Hid (Below w.heap.size w wr ∧ n + ml.length = M.length + R.length + sumL M (i + 1) ∧ (n + ml.length < 400 → Mild M (i + 1))) := Lib.hid ⟨hfin, by have := HI.out.2.1; have := HSUM.out; omega, fun h => absurd h hq⟩
              clear hfin
              go_wp2_with fail
              go_roundw
              case rel => exact ⟨i + 1, n + ml.length, by omega, by go_num, by go_num, by omega, HFIN⟩
              case measure => simp [intOf]; omega
          · obtain rfl : j = ml.length := by omega
            have hfin := HI.out.1.trans (HJ.out.1.mono HI.out.1.size)
            have HFIN : Hid (Below w.heap.size w wr ∧ n + ml.length = M.length + R.length + sumL M (i + 1) ∧ (n + ml.length < 400 → Mild M (i + 1))) := Lib.hid ⟨hfin, by have := HI.out.2.1; have := HSUM.out; omega, fun h k m hk hm x hx => by
              rcases Nat.lt_or_ge k i with hki | hki
              · exact HI.out.2.2 (by omega) k m hki hm x hx
              · obtain rfl : k = i := by omega
                rw [HMX.out] at hm
                injection hm with hm
                subst hm
                obtain ⟨q, hq⟩ := List.getElem?_of_mem hx
                exact HJ.out.2 h q x (List.getElem?_eq_some_iff.1 hq).1 hq⟩
            clear hfin
            go_wp2_with fail
            go_roundw
            case rel => exact ⟨i + 1, n + ml.length, by omega, by go_num, by go_num, by omega, HFIN⟩
            case measure => simp [intOf]; omega
      · go_wp2_with fail
        go_loopw [8] (fun kv wr => Hid (Below w.heap.size w wr) ∧ kv = .int .i64 0) (fun _ _ => 0)
        case atStart => exact ⟨Lib.hid HI.out.1, rfl⟩
        case round =>
          obtain ⟨HB, rfl⟩ := hrel
          by_cases hrl : 0 < R.length
          · go_wp2_with fail
            go_ret
            exact ⟨_, rfl, HB.out, fun h => by simp at h <;> omega⟩
          · go_wp2_with fail
            go_ret
            exact ⟨_, rfl, HB.out, fun h => by simp at h <;> omega⟩
    · obtain rfl : i = M.length := by omega
      go_wp2_with fail
      go_loopw [8] (fun kv wr => ∃ (k : Nat), k ≤ R.length ∧ kv = .int .i64 k ∧ Hid (Below w.heap.size w wr ∧ ∀ (q : Nat) x, q < k → R[q]? = some x → greatB x.t = false)) (fun kv _ => R.length - (intOf kv).toNat)
      case atStart => exact ⟨0, by omega, rfl, Lib.hid ⟨HI.out.1, fun q x h => by omega⟩⟩
      case round =>
        obtain ⟨k, hk', rfl, HJ⟩ := hrel
        by_cases hkl : k < R.length
        · by_cases hq : n < 400
          · obtain ⟨x, hx⟩ : ∃ x, R[k]? = some x := ⟨R[k], by simp [hkl]⟩
            have HXX := Lib.hid hx
            have HGC := Lib.hid (great_any f x.t _ wr (((HRo.out x (List.mem_of_getElem? hx)).keep HJ.out.1).term))
            obtain ⟨b', off', rfl, hbs, hcx⟩ := HR.out.keep HJ.out.1 k x hx
            have c2 := hcx 2 _ rfl
            have c3 := hcx 3 _ rfl
            have c4 := hcx 4 _ rfl
            have c5 := hcx 5 _ rfl
            have c6 := hcx 6 _ rfl
            clear hcx hx
            obtain ⟨gb, hgb⟩ : ∃ gb, greatB x.t = gb := ⟨_, rfl⟩
            rw [hgb] at HGC
            have HGB := Lib.hid hgb
            clear hgb
            obtain ⟨xc, xa, xk, xn, xs, xu, xao, xcap, xl⟩ := x
            dsimp only at c2 c3 c4 c5 c6 HGC
            go_wp2_with fail
            refine HGC.out.mono ?_
            rintro e w2 ⟨rfl, hb2⟩
            have HB2 := Lib.hid (HJ.out.1.trans (hb2.mono HJ.out.1.size))
            clear hb2 HGC c2 c3 c4 c5 c6
            cases gb
            · have HFIN : Hid (Below w.heap.size w w2 ∧ ∀ (q : Nat) x, q < k + 1 → R[q]? = some x → greatB x.t = false) := Lib.hid ⟨HB2.out, fun q x hqk hx => by
                rcases Nat.lt_or_ge q k with hkj | hkj
                · exact HJ.out.2 q x hkj hx
                · obtain rfl : q = k := by omega
                  rw [HXX.out] at hx
                  injection hx with hx
                  subst hx
                  exact HGB.out⟩
              go_wp2_with fail
              go_roundw
              case rel => exact ⟨k + 1, by omega, by go_num, HFIN⟩
              case measure => simp [intOf]; omega
            · go_wp2_with fail
              go_ret
              exact ⟨_, rfl, HB2.out, fun h => by cases h⟩
          · go_wp2_with fail
            go_ret
            exact ⟨_, rfl, HJ.out.1, fun h => by simp at h <;> omega⟩
        · obtain rfl : k = R.length := by omega
          go_wp2_with fail
          go_ret
          exact ⟨_, rfl, HJ.out.1, fun h => by
            have hn4 : n < 400 := by
              have : (n : Int) < 400 := by simpa using h
              omega
            refine ⟨by rw [wide, ← HI.out.2.1]; exact hn4, fun m hm x hx => ?_, fun x hx => ?_⟩
            · obtain ⟨q, hq⟩ := List.getElem?_of_mem hm
              exact HI.out.2.2 hn4 q m (List.getElem?_eq_some_iff.1 hq).1 hq x hx
            · obtain ⟨q, hq⟩ := List.getElem?_of_mem hx
              exact HJ.out.2 q x (List.getElem?_eq_some_iff.1 hq).1 hq⟩
end Go.Proofs.YtfbohajojaaiaaaDoor
