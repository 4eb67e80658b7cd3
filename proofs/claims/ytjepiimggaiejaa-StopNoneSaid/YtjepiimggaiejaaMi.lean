/- what a machine finds: its mail in memory; GreatIn. Conditions: it reads. -/
import Derived.Test.YtjepiimggaiejaaTy
import Derived.Test.YtjepiimggaiejaaTr
namespace Go.Proofs.Ytjepiimggaiejaa
open Go.ChangeShapes Go.WideShapes Go.ChangeAt Go.RowKit
set_option linter.unusedVariables false
abbrev It := Tm × Bool
/-- mail in memory -/
def Mail (f : Nat) (w : World) (ao : Option Addr) (M : List It) : Prop :=
  ∀ i x, M[i]? = some x → ∃ b off, ao = some ⟨b, off, none⟩ ∧ At f w b (off + i * 6) x.1 ∧ w.cell? ⟨b, off + i * 6 + 5, none⟩ = some (.bool x.2)
theorem Mail.keep {f : Nat} {w w' : World} {ao : Option Addr} {M : List It} (h : Mail f w ao M) (hb : Below w.heap.size w w') : Mail f w' ao M := by
  intro i x hi
  obtain ⟨b, off, e, h1, h2⟩ := h i x hi
  exact ⟨b, off, e, h1.keep hb, keep_cell h2 hb⟩
theorem Mail.elem {f : Nat} {w : World} {ao : Option Addr} {M : List It} (h : Mail f w ao M) {i : Nat} {x : It} (hi : M[i]? = some x) :
    ∃ b off f' lv, ao = some ⟨b, off, none⟩ ∧ f = f' + 1 ∧ Node w b (off + i * 6) x.1.k x.1.n x.1.s x.1.u lv ∧ TermV f' w (.agg #[.int .i8 x.1.k, .int .i64 x.1.n, .string x.1.s, .string x.1.u, lv]) x.1 ∧ w.cell? ⟨b, off + i * 6 + 5, none⟩ = some (.bool x.2) := by
  obtain ⟨b', off, e, hat, hc⟩ := h i x hi
  cases f with
  | zero => exact hat.elim
  | succ f =>
    obtain ⟨⟨k, n, s, u, l'⟩, o⟩ := x
    obtain ⟨h1, lv, h2, h3⟩ := hat.open
    exact ⟨b', off, f, lv, e, rfl, h2, ⟨h1, lv, rfl, h3⟩, hc⟩
/-- what a machine finds, by value -/
structure InV (f : Nat) (w : World) (v : Value) (now self : Int) (M : List It) (cl : Int) (so : Bool) (got : Tm) (hv : Int) : Prop where
  form : ∃ ao cap lv, v = .agg #[.int .i64 now, .int .i64 self, .slice ao M.length cap, .int .i8 cl, .bool so, .int .i8 got.k, .int .i64 got.n, .string got.s, .string got.u, lv, .int .i64 hv] ∧ M.length ≤ 9223372036854775807 ∧ Mail f w ao M ∧ Row f w lv got.l
  got : fields got.k got.n got.s got.u
  ints : (-9223372036854775808 ≤ now ∧ now ≤ 9223372036854775807) ∧ (-9223372036854775808 ≤ self ∧ self ≤ 9223372036854775807) ∧ (-9223372036854775808 ≤ hv ∧ hv ≤ 9223372036854775807)
theorem InV.keep {f : Nat} {w w' : World} {v : Value} {now self cl hv : Int} {M : List It} {so : Bool} {got : Tm} (h : InV f w v now self M cl so got hv) (hb : Below w.heap.size w w') : InV f w' v now self M cl so got hv := by
  obtain ⟨⟨ao, cap, lv, h1, h2, h3, h4⟩, h5, h6⟩ := h
  exact ⟨⟨ao, cap, lv, h1, h2, h3.keep hb, h4.keep hb⟩, h5, h6⟩
def greatIn (M : List It) (got : Tm) : Bool := decide (60 < M.length) || greatB got || M.any fun x => greatB x.1
set_option maxHeartbeats 4000000 in
theorem greatin_any (f : Nat) (w : World) (v : Value) (now self cl hv : Int) (M : List It) (so : Bool) (got : Tm) (h : InV f w v now self M cl so got hv) : Calls Try.prog 9 #[v] w (IsPost w (greatIn M got)) := by
  obtain ⟨⟨ao, cap, lv, rfl, hm, hM, hrow⟩, hgf, -⟩ := h
  have hB0 := (Below.refl w.heap.size w).alloc (Nat.le_refl _) (.cells #[.int .i64 now, .int .i64 self, .slice ao M.length cap, .int .i8 cl, .bool so, .int .i8 got.k, .int .i64 got.n, .string got.s, .string got.u, lv, .int .i64 hv] 50)
  have hF0 := heap_new w (.cells #[.int .i64 now, .int .i64 self, .slice ao M.length cap, .int .i8 cl, .bool so, .int .i8 got.k, .int .i64 got.n, .string got.s, .string got.u, lv, .int .i64 hv] 50)
  have hG : TermV f (w.alloc (.cells #[.int .i64 now, .int .i64 self, .slice ao M.length cap, .int .i8 cl, .bool so, .int .i8 got.k, .int .i64 got.n, .string got.s, .string got.u, lv, .int .i64 hv] 50)) (.agg #[.int .i8 got.k, .int .i64 got.n, .string got.s, .string got.u, lv]) got := ⟨hgf, lv, rfl, hrow.keep hB0⟩
  have HG := Lib.hid (great_any f got _ _ hG)
  have HM := Lib.hid (hM.keep hB0)
  clear hM hrow hgf hG
  by_cases h60 : 60 < M.length
  · have e : greatIn M got = true := by simp [greatIn, h60]
    rw [e]
    have d : decide (60 < (M.length : Int)) = true := by simp; omega
    clear HM HG e hF0 h60
    go_enter Try.func9, Try.ntmps9
    go_wp2_with fail
    go_ret
    exact ⟨rfl, hB0⟩
  · have d : decide (60 < (M.length : Int)) = false := by simp; omega
    have HF := Lib.hid hF0
    have HB := Lib.hid hB0
    by_cases hgot : greatB got = true
    · have e : greatIn M got = true := by simp [greatIn, hgot]
      rw [e]
      rw [hgot] at HG
      clear hgot e HM hF0 hB0
      go_enter Try.func9, Try.ntmps9
      go_wp2_with fail
      refine HG.out.mono ?_
      rintro e w1 ⟨rfl, hb1⟩
      have HB1 := Lib.hid (HB.out.trans (hb1.mono HB.out.size))
      clear hb1
      go_wp2_with fail
      go_ret
      exact ⟨rfl, HB1.out⟩
    · rw [Bool.not_eq_true] at hgot
      have HE : Hid (greatIn M got = M.any fun x => greatB x.1) := Lib.hid (by simp [greatIn, hgot, h60])
      rw [hgot] at HG
      have hm60 : M.length ≤ 60 := by omega
      clear hgot hF0 hB0 h60
      go_enter Try.func9, Try.ntmps9
      go_wp2_with fail
      refine HG.out.mono ?_
      rintro e w1 ⟨rfl, hb1⟩
      have hf1 := keep_heap HF.out hb1
      have c2 := (cells_at hf1 2 _ rfl).1
      have HF1 := Lib.hid hf1
      have HB1 := Lib.hid (HB.out.trans (hb1.mono HB.out.size))
      have HM1 := Lib.hid (HM.out.keep hb1)
      clear hb1 hf1 HG HF HB HM
      go_wp2_with fail
      go_loopw [16] (fun iv wr => ∃ i : Nat, i ≤ M.length ∧ iv = .int .i64 i ∧ Below w1.heap.size w1 wr ∧ Hid ((M.any fun x => greatB x.1) = (M.drop i).any fun x => greatB x.1))
        (fun iv _ => M.length - (intOf iv).toNat)
      case atStart => exact ⟨0, by omega, rfl, Below.refl _ _, Lib.hid rfl⟩
      case round =>
        clear c2
        obtain ⟨i, hi, rfl, hb, HA⟩ := hrel
        have c2 := (cells_at (keep_heap HF1.out hb) 2 _ rfl).1
        have HBW := Lib.hid hb
        clear hb
        by_cases hlt : i < M.length
        · obtain ⟨x, hx⟩ : ∃ x, M[i]? = some x := ⟨M[i], by simp [hlt]⟩
          obtain ⟨b, off, f', lv', rfl, rfl, hn, ht, -⟩ := (HM1.out.keep HBW.out).elem hx
          have HD := Lib.hid (drop_cons hx)
          have HG := Lib.hid (great_any f' x.1 _ _ ht)
          obtain ⟨c3, c4, c5, c6, c7⟩ := hn
          clear hx ht
          cases hg : greatB x.1
          · have HS : Hid ((M.drop i).any (fun x => greatB x.1) = (M.drop (i + 1)).any fun x => greatB x.1) := Lib.hid (by rw [HD.out, List.any_cons, hg]; rfl)
            rw [hg] at HG
            clear hg
            go_wp2_with fail
            refine HG.out.mono ?_
            rintro e w2 ⟨rfl, hb2⟩
            have HB2 := Lib.hid (HBW.out.trans (hb2.mono HBW.out.size))
            clear hb2 c2 c3 c4 c5 c6 c7
            go_wp2_with fail
            go_roundw
            case rel => exact ⟨i + 1, by omega, by go_num, HB2.out, Lib.hid (HA.out.trans HS.out)⟩
            case measure => simp [intOf]; omega
          · have HS : Hid (greatIn M got = true) := Lib.hid (by rw [HE.out, HA.out, HD.out, List.any_cons, hg]; rfl)
            rw [hg] at HG
            clear hg
            go_wp2_with fail
            refine HG.out.mono ?_
            rintro e w2 ⟨rfl, hb2⟩
            have HB2 := Lib.hid (HB1.out.trans ((HBW.out.trans (hb2.mono HBW.out.size)).mono HB1.out.size))
            clear hb2 c2 c3 c4 c5 c6 c7
            go_wp2_with fail
            go_ret
            exact ⟨by rw [HS.out]; rfl, HB2.out⟩
        · have HS : Hid (greatIn M got = false) := Lib.hid (by rw [HE.out, HA.out, List.drop_eq_nil_of_le (by omega)]; rfl)
          go_wp2_with fail
          go_ret
          exact ⟨by rw [HS.out]; rfl, HB1.out.trans (HBW.out.mono HB1.out.size)⟩
def inL : List TypeId := [3, 3, 48, 25, 4, 25, 3, 9, 9, 26, 3]
def itL : List TypeId := [25, 3, 9, 9, 26, 4]
theorem flat_IN : flat Try.prog 4 50 = some inL := by kernel_rfl
theorem flat_IT : flat Try.prog 4 69 = some itL := by kernel_rfl
theorem cells_IT : Try.prog.cellsOf 69 = 6 := by kernel_rfl
section
variable {H : Type} {enc : TypeId × Value → H} {W : World}
theorem mail_of {n : Nat} {v : Value} {y : DataW H × List MemPlace} (h : Rd enc Try.prog W n 48 [v] y) : ∃ ao cap M, v = .slice ao M.length cap ∧ M.length ≤ 9223372036854775807 ∧ Mail n W ao M := by
  obtain ⟨ao, len, cap, rfl, h1, h2, h3, h4⟩ := elems_trod (k := 4) (L := itL) Try.underlying48 flat_IT cells_IT (by decide) h
  obtain ⟨M, hl, hM⟩ := list_choose (Q := fun i (x : It) => ∃ b off, ao = some ⟨b, off, none⟩ ∧ At n W b (off + i * 6) x.1 ∧ W.cell? ⟨b, off + i * 6 + 5, none⟩ = some (.bool x.2)) len (fun i hi => by
    obtain ⟨b, off, e, hb, hj⟩ := h4 i hi
    obtain ⟨u0, n0, y0, c0, -, r0⟩ := hj 0 _ rfl
    obtain ⟨u1, n1, y1, c1, -, r1⟩ := hj 1 _ rfl
    obtain ⟨u2, n2, y2, c2, -, r2⟩ := hj 2 _ rfl
    obtain ⟨u3, n3, y3, c3, -, r3⟩ := hj 3 _ rfl
    obtain ⟨u4, n4, y4, c4, l4, r4⟩ := hj 4 _ rfl
    obtain ⟨u5, n5, y5, c5, -, r5⟩ := hj 5 _ rfl
    obtain ⟨a0, rfl, w0⟩ := leaf_int Try.underlying25 r0
    obtain ⟨a1, rfl, w1⟩ := leaf_int Try.underlying3 r1
    obtain ⟨a2, rfl, w2⟩ := leaf_str Try.underlying9 r2
    obtain ⟨a3, rfl, w3⟩ := leaf_str Try.underlying9 r3
    obtain ⟨l, hl⟩ := row_of_trod r4
    obtain ⟨a5, rfl⟩ := leaf_bool Try.underlying4 r5
    exact ⟨(.mk a0 a1 a2 a3 l, a5), b, off, e, (At.shut ⟨i8_bd w0, bd w1, w2, w3⟩ ⟨c0, c1, c2, c3, c4⟩ hl).le (by omega), c5⟩)
  exact ⟨ao, cap, M, by rw [hl], by omega, hM⟩
theorem in_of {base : Nat} {v0 : Value} {d0 : DataW H} {p0 : List MemPlace} (hv0 : Value.okWide Try.prog W .any base 50 v0) (h0 : DataW.Trod enc Try.prog W 0 (fun _ => true) true 50 v0 d0 p0) :
    ∃ f now self M cl so got hv, InV f W v0 now self M cl so got hv := by
  obtain ⟨cs, rfl, hsz⟩ := okWide_struct Try.underlying50 hv0
  obtain ⟨fuel, hf⟩ := h0
  obtain ⟨h1, hj⟩ := flat_trod 4 50 inL _ _ _ flat_IN hf
  obtain ⟨u0, n0, y0, c0, -, r0⟩ := hj 0 _ rfl
  obtain ⟨u1, n1, y1, c1, -, r1⟩ := hj 1 _ rfl
  obtain ⟨u2, n2, y2, c2, l2, r2⟩ := hj 2 _ rfl
  obtain ⟨u3, n3, y3, c3, -, r3⟩ := hj 3 _ rfl
  obtain ⟨u4, n4, y4, c4, -, r4⟩ := hj 4 _ rfl
  obtain ⟨u5, n5, y5, c5, -, r5⟩ := hj 5 _ rfl
  obtain ⟨u6, n6, y6, c6, -, r6⟩ := hj 6 _ rfl
  obtain ⟨u7, n7, y7, c7, -, r7⟩ := hj 7 _ rfl
  obtain ⟨u8, n8, y8, c8, -, r8⟩ := hj 8 _ rfl
  obtain ⟨u9, n9, y9, c9, l9, r9⟩ := hj 9 _ rfl
  obtain ⟨u10, n10, y10, c10, -, r10⟩ := hj 10 _ rfl
  obtain ⟨a0, rfl, w0⟩ := leaf_int Try.underlying3 r0
  obtain ⟨a1, rfl, w1⟩ := leaf_int Try.underlying3 r1
  obtain ⟨ao, cap, M, rfl, hm, hM⟩ := mail_of r2
  obtain ⟨a3, rfl, w3⟩ := leaf_int Try.underlying25 r3
  obtain ⟨a4, rfl⟩ := leaf_bool Try.underlying4 r4
  obtain ⟨a5, rfl, w5⟩ := leaf_int Try.underlying25 r5
  obtain ⟨a6, rfl, w6⟩ := leaf_int Try.underlying3 r6
  obtain ⟨a7, rfl, w7⟩ := leaf_str Try.underlying9 r7
  obtain ⟨a8, rfl, w8⟩ := leaf_str Try.underlying9 r8
  obtain ⟨l, hl⟩ := row_of_trod r9
  obtain ⟨a10, rfl, w10⟩ := leaf_int Try.underlying3 r10
  refine ⟨n2 + n9, a0, a1, M, a3, a4, .mk a5 a6 a7 a8 l, a10, ⟨ao, cap, u9, ?_, hm, fun i x hi => ?_, hl.le (by omega)⟩, ⟨i8_bd w5, bd w6, w7, w8⟩, bd w0, bd w1, bd w10⟩
  · obtain ⟨cs⟩ := cs
    simp only [Value.cells] at h1 c0 c1 c2 c3 c4 c5 c6 c7 c8 c9 c10
    match cs, h1, c0, c1, c2, c3, c4, c5, c6, c7, c8, c9, c10 with
    | [e0, e1, e2, e3, e4, e5, e6, e7, e8, e9, e10], _, c0, c1, c2, c3, c4, c5, c6, c7, c8, c9, c10 =>
      simp at c0 c1 c2 c3 c4 c5 c6 c7 c8 c9 c10
      subst c0 c1 c2 c3 c4 c5 c6 c7 c8 c9 c10
      rfl
  · obtain ⟨b, off, e, h2, h3⟩ := hM i x hi
    exact ⟨b, off, e, h2.le (by omega), h3⟩
end
end Go.Proofs.Ytjepiimggaiejaa
