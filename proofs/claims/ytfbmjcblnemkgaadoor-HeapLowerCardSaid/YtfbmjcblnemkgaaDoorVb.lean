/- which acts are too great, walked. Conditions: they read. -/
import Derived.Test.YtfbmjcblnemkgaaDoorVa
namespace Go.Proofs.YtfbmjcblnemkgaaDoor
open Go.ChangeShapes Go.WideShapes Go.ChangeAt Go.RowKit
set_option linter.unusedVariables false
set_option maxRecDepth 100000
def GrA (w : World) (M : List Ac) (e : Ending) (w' : World) : Prop := ∃ b, e = .returned (.bool b) ∧ Below w.heap.size w w' ∧ (b = false → M.length ≤ 300 ∧ ∀ a ∈ M, a.L.length ≤ 400)
theorem AOk.term {f : Nat} {W : World} {a : Ac} (h : AOk f W a) : TermV f W (.agg #[.int .i8 a.t.k, .int .i64 a.t.n, .string a.t.s, .string a.t.u, .slice a.t.ao a.t.l.length a.t.cap]) a.t.t := ⟨h.1, _, rfl, h.2.1⟩
/-- an act's cells -/
structure AcC (b o : Nat) (a : Ac) (W : World) : Prop where
  c0 : W.cell? ⟨b, o, none⟩ = some (.int .i64 a.d)
  c1 : W.cell? ⟨b, o + 1, none⟩ = some (.int .i8 a.t.k)
  c2 : W.cell? ⟨b, o + 2, none⟩ = some (.int .i64 a.t.n)
  c3 : W.cell? ⟨b, o + 3, none⟩ = some (.string a.t.s)
  c4 : W.cell? ⟨b, o + 4, none⟩ = some (.string a.t.u)
  c5 : W.cell? ⟨b, o + 5, none⟩ = some (.slice a.t.ao a.t.l.length a.t.cap)
  c6 : W.cell? ⟨b, o + 6, none⟩ = some (.int .i8 a.k)
  c7 : W.cell? ⟨b, o + 7, none⟩ = some (.slice a.lo a.L.length a.lc)
  d2 : W.cell? ⟨b, o + 10, none⟩ = some (.int .i8 a.w.k)
  d3 : W.cell? ⟨b, o + 11, none⟩ = some (.int .i64 a.w.n)
  d4 : W.cell? ⟨b, o + 12, none⟩ = some (.string a.w.s)
  d5 : W.cell? ⟨b, o + 13, none⟩ = some (.string a.w.u)
  d6 : W.cell? ⟨b, o + 14, none⟩ = some (.slice a.w.ao a.w.l.length a.w.cap)
theorem AcC.keep {b o : Nat} {a : Ac} {W W' : World} (h : AcC b o a W) (hb : Below W.heap.size W W') : AcC b o a W' :=
  ⟨keep_cell h.c0 hb, keep_cell h.c1 hb, keep_cell h.c2 hb, keep_cell h.c3 hb, keep_cell h.c4 hb, keep_cell h.c5 hb, keep_cell h.c6 hb, keep_cell h.c7 hb, keep_cell h.d2 hb, keep_cell h.d3 hb, keep_cell h.d4 hb, keep_cell h.d5 hb, keep_cell h.d6 hb⟩
theorem ARow.elem {f : Nat} {W : World} {ao : Option Addr} {M : List Ac} (h : ARow f W ao M) {i : Nat} {a : Ac} (hi : M[i]? = some a) : AOk f W a ∧ ∃ b off, ao = some ⟨b, off, none⟩ ∧ AcC b (off + i * 16) a W := by
  obtain ⟨h1, b, off, e, -, hc⟩ := h i a hi
  exact ⟨h1, b, off, e, hc 0 _ rfl, hc 1 _ rfl, hc 2 _ rfl, hc 3 _ rfl, hc 4 _ rfl, hc 5 _ rfl, hc 6 _ rfl, hc 7 _ rfl, hc 10 _ rfl, hc 11 _ rfl, hc 12 _ rfl, hc 13 _ rfl, hc 14 _ rfl⟩
set_option maxHeartbeats 16000000 in
theorem greata_any (f : Nat) (w : World) (M : List Ac) (ao : Option Addr) (cap : Nat) (hr : ARow f w ao M) (hn : M.length ≤ 9223372036854775807) : Calls Tryd.prog 20 #[.slice ao M.length cap] w (GrA w M) := by
  have HR := Lib.hid hr
  clear hr
  go_enter Tryd.func20, Tryd.ntmps20
  go_wp2_with fail
  go_loopw [3, 4, 5] (fun nv iv _ wr => ∃ (i : Nat) (c : Int), i ≤ M.length ∧ iv = .int .i64 i ∧ nv = .int .i64 c ∧ 0 ≤ c ∧ c ≤ 9223372036854775807 ∧ Hid (Below w.heap.size w wr ∧ (M.length : Int) ≤ c ∧ ∀ j a, j < i → M[j]? = some a → a.L.length ≤ 400))
    (fun _ iv _ _ => M.length - (intOf iv).toNat)
  case atStart => exact ⟨0, _, by omega, rfl, rfl, by omega, by omega, Lib.hid ⟨Below.refl _ _, by omega, fun j a hj => absurd hj (by omega)⟩⟩
  case round =>
    obtain ⟨i, c, hi, rfl, rfl, hc0, hc1, HI⟩ := hrel
    by_cases hlt : i < M.length
    · by_cases hc3 : c ≤ 300
      · have hd : decide (c ≤ 300) = true := by simpa using hc3
        obtain ⟨a, ha⟩ : ∃ a, M[i]? = some a := ⟨M[i], by simp [hlt]⟩
        obtain ⟨hok, b, off, rfl, hcl⟩ := (HR.out.keep HI.out.1).elem ha
        have HCL := Lib.hid hcl
        have HOK := Lib.hid hok
        have hl9 := hok.2.2.2.2.2.1
        have HG1 := Lib.hid (great_any f a.t.t _ wr hok.term)
        obtain ⟨c0, c1, c2, c3, c4, c5, c6, c7, d2, d3, d4, d5, d6⟩ := hcl
        clear hok c0 c6 d2 d3 d4 d5 d6
        have hq1 : c + (a.L.length : Int) / 4 ≤ 9223372036854775807 := by omega
        have hq0 : 0 ≤ c + (a.L.length : Int) / 4 := by omega
        have hqc : c ≤ c + (a.L.length : Int) / 4 := by omega
        have HHA := Lib.hid ha
        clear ha
        go_wp2_with fail
        refine HG1.out.mono ?_
        rintro e w2 ⟨rfl, hb2⟩
        have HB2 := Lib.hid (HI.out.1.trans (hb2.mono HI.out.1.size))
        have HCL2 := Lib.hid (HCL.out.keep hb2)
        have HOK2 := Lib.hid (HOK.out.keep hb2)
        clear hb2 HCL HG1 c1 c2 c3 c4 c5 c7
        cases hg : greatB a.t.t
        · clear hg
          have HG2 := Lib.hid (great_any f a.w.t _ w2 HOK2.out.2.2.2.2.2.2.2.term)
          obtain ⟨c0, c1, c2, c3, c4, c5, c6, c7, d2, d3, d4, d5, d6⟩ := HCL2.out
          clear c0 c1 c2 c3 c4 c5 c6 c7
          go_wp2_with fail
          refine HG2.out.mono ?_
          rintro e w3 ⟨rfl, hb3⟩
          have HB3 := Lib.hid (HB2.out.trans (hb3.mono HB2.out.size))
          have HCL3 := Lib.hid (HCL2.out.keep hb3)
          have HOK3 := Lib.hid (HOK2.out.keep hb3)
          clear hb3 HCL2 HOK2 HG2 d2 d3 d4 d5 d6
          cases hg : greatB a.w.t
          · clear hg
            have c7 := HCL3.out.c7
            by_cases h4 : 400 < a.L.length
            · have hd4 : decide (400 < a.L.length) = true := by simpa using h4
              go_wp2_with fail
              go_ret
              exact ⟨true, rfl, HB3.out, fun h => by cases h⟩
            · have hd4 : decide (400 < a.L.length) = false := by simpa using h4
              have HH4 : Hid (a.L.length ≤ 400) := Lib.hid (by omega)
              go_wp2_with fail
              go_loopw [5] (fun kv wr2 => ∃ (k : Nat), k ≤ a.L.length ∧ kv = .int .i64 k ∧ Hid (Below w3.heap.size w3 wr2))
                (fun kv _ => a.L.length - (intOf kv).toNat)
              case atStart => exact ⟨0, by omega, rfl, Lib.hid (Below.refl _ _)⟩
              case round =>
                clear c7
                obtain ⟨k, hk, rfl, HK⟩ := hrel
                have c7 := keep_cell HCL3.out.c7 HK.out
                by_cases hkl : k < a.L.length
                · obtain ⟨x, hx⟩ : ∃ x, a.L[k]? = some x := ⟨a.L[k], by simp [hkl]⟩
                  have hxo := (HOK3.out.2.2.2.2.1 x (List.mem_of_getElem? hx)).keep HK.out
                  obtain ⟨b1, o1, e1, -, hc⟩ := (HOK3.out.2.2.2.1.keep HK.out) k x hx
                  rw [e1] at c7
                  have x2 := hc 2 _ rfl
                  have x3 := hc 3 _ rfl
                  have x4 := hc 4 _ rfl
                  have x5 := hc 5 _ rfl
                  have x6 := hc 6 _ rfl
                  have HG3 := Lib.hid (great_any f x.t _ _ hxo.term)
                  clear hxo hc hx e1
                  go_wp2_with fail
                  refine HG3.out.mono ?_
                  rintro e w5 ⟨rfl, hb5⟩
                  have HK5 := Lib.hid (HK.out.trans (hb5.mono HK.out.size))
                  clear hb5 c7 x2 x3 x4 x5 x6 HG3
                  cases hg : greatB x.t
                  · clear hg
                    go_wp2_with fail
                    go_roundw
                    case rel => exact ⟨k + 1, by omega, by go_num, HK5⟩
                    case measure => simp [intOf]; omega
                  · clear hg
                    go_wp2_with fail
                    go_ret
                    exact ⟨true, rfl, HB3.out.trans (HK5.out.mono HB3.out.size), fun h => by cases h⟩
                · obtain rfl : k = a.L.length := by omega
                  have HF : Hid (Below w.heap.size w _ ∧ (M.length : Int) ≤ c + (a.L.length : Int) / 4 ∧ ∀ j a, j < i + 1 → M[j]? = some a → a.L.length ≤ 400) := Lib.hid ⟨HB3.out.trans (HK.out.mono HB3.out.size), by have := HI.out.2.1; omega, fun j a2 hj ha2 => by
                    by_cases hji : j = i
                    · subst hji
                      obtain rfl : a2 = a := Option.some.inj (ha2.symm.trans HHA.out)
                      exact HH4.out
                    · exact HI.out.2.2 j a2 (by omega) ha2⟩
                  go_wp2_with fail
                  go_roundw
                  case rel => exact ⟨i + 1, _, by omega, by go_num, rfl, hq0, hq1, HF⟩
                  case measure => simp [intOf]; omega
          · clear hg
            go_wp2_with fail
            go_ret
            exact ⟨true, rfl, HB3.out, fun h => by cases h⟩
        · clear hg
          go_wp2_with fail
          go_ret
          exact ⟨true, rfl, HB2.out, fun h => by cases h⟩
      · have hd : decide (c ≤ 300) = false := by simpa using hc3
        have hd2 : decide (300 < c) = true := by simp; omega
        go_wp2_with fail
        go_ret
        exact ⟨true, rfl, HI.out.1, fun h => by cases h⟩
    · obtain rfl : i = M.length := by omega
      have HF : Hid (M.length ≤ c ∧ ∀ a ∈ M, a.L.length ≤ 400) := Lib.hid ⟨HI.out.2.1, fun a ha => by
        obtain ⟨j, hj⟩ := List.getElem?_of_mem ha
        exact HI.out.2.2 j a (List.getElem?_eq_some_iff.1 hj).1 hj⟩
      go_wp2_with fail
      go_ret
      exact ⟨_, rfl, HI.out.1, fun h => ⟨by have := HF.out.1; simp at h; omega, HF.out.2⟩⟩
end Go.Proofs.YtfbmjcblnemkgaaDoor
