/- collect: may all roots be. Conditions: the table of letters reads as laid; what comes reads. -/
import Derived.Test.YtfbohajojaaiaaaDoorHh
namespace Go.Proofs.YtfbohajojaaiaaaDoor
open Go.ChangeShapes Go.WideShapes Go.ChangeAt Go.RowKit
set_option linter.unusedVariables false
set_option maxRecDepth 100000
theorem keep_letters {w w' : World} (h : Cells w 0 letL) (hb : Below w.heap.size w w') : Cells w' 0 letL := fun j r hj => ⟨keep_cell (h j r hj).1 hb, keep_cell (h j r hj).2 hb⟩
theorem r1_any (f : Nat) (w : World) (base p bh : Nat) (v : Value) (C : List HC) (x : Wd) (hH : Hp w base p v C) (hL : Cells w 0 letL) (hx : WOk f w x) (hb : w.cell? ⟨bh, 0, none⟩ = some (.pointer (some ⟨p, 0, none⟩))) :
    Calls Tryd.prog 31 #[x.V, .pointer (some ⟨bh, 0, none⟩)] w (IsPost w (!mayW C.length x)) := by
  obtain ⟨xc, xa, xk, xn, xs, xu, xao, xcap, xl⟩ := x
  have hbx := (Below.refl w.heap.size w).alloc (Nat.le_refl _) (.cells #[.bool xc, .int .i64 xa, .int .i8 xk, .int .i64 xn, .string xs, .string xu, .slice xao xl.length xcap] 58)
  have HB := Lib.hid hbx
  have HM := Lib.hid (may_any f (w.alloc (.cells #[.bool xc, .int .i64 xa, .int .i8 xk, .int .i64 xn, .string xs, .string xu, .slice xao xl.length xcap] 58)) base p v C ⟨xc, xa, xk, xn, xs, xu, xao, xcap, xl⟩ (hH.keep hbx) (keep_letters hL hbx) (hx.keep hbx))
  have hbl := World.block_lt_of_cell? w _ hb
  clear hH hL hx hbx
  generalize mayW C.length ⟨xc, xa, xk, xn, xs, xu, xao, xcap, xl⟩ = mb at *
  go_enter Tryd.func31, Tryd.ntmps31
  simp only [Wd.V]
  go_wp2_with fail
  refine HM.out.mono ?_
  rintro e w2 ⟨rfl, hb2⟩
  have HB2 := Lib.hid (HB.out.trans (hb2.mono HB.out.size))
  clear hb2
  go_wp2_with fail
  go_ret
  exact ⟨rfl, HB2.out⟩
/-- what stands while roots are gone through -/
structure RootsW (w : World) (f base p bh : Nat) (v : Value) (C : List HC) (ao : Option Addr) (L : List Wd) : Prop where
  hH : Hp w base p v C
  hL : Cells w 0 letL
  hr : WRow w ao L
  ho : ∀ x ∈ L, WOk f w x
  hb : w.cell? ⟨bh, 0, none⟩ = some (.pointer (some ⟨p, 0, none⟩))
theorem RootsW.keep {w w' : World} {f base p bh : Nat} {v : Value} {C : List HC} {ao : Option Addr} {L : List Wd} (h : RootsW w f base p bh v C ao L) (hb : Below w.heap.size w w') : RootsW w' f base p bh v C ao L :=
  ⟨h.hH.keep hb, keep_letters h.hL hb, h.hr.keep hb, fun x hx => (h.ho x hx).keep hb, keep_cell h.hb hb⟩
def IndexP (w : World) (C : List HC) (L : List Wd) (e : Ending) (w' : World) : Prop := ∃ r : Int, e = .returned (.int .i64 r) ∧ decide (0 ≤ r) = (L.any fun x => !mayW C.length x) ∧ -1 ≤ r ∧ Below w.heap.size w w'
set_option maxHeartbeats 4000000 in
theorem index_any (w : World) (f base p bh : Nat) (v : Value) (C : List HC) (ao : Option Addr) (cap : Nat) (L : List Wd) (h : RootsW w f base p bh v C ao L) (hn : L.length ≤ 1099511627776) :
    Calls Tryd.prog 48 #[.slice ao L.length cap, .func (.func 31) #[] #[.pointer (some ⟨bh, 0, none⟩)]] w (IndexP w C L) := by
  have HH := Lib.hid h
  clear h
  go_enter Tryd.func48, Tryd.ntmps48
  go_wp2_with fail
  go_loopw [8] (fun iv wr => ∃ i : Nat, i ≤ L.length ∧ iv = .int .i64 i ∧ Below w.heap.size w wr ∧ Hid (∀ x ∈ L.take i, mayW C.length x = true))
    (fun iv _ => L.length - (intOf iv).toNat)
  case atStart => exact ⟨0, by omega, rfl, Below.refl _ _, Lib.hid (by simp)⟩
  case round =>
    obtain ⟨i, hi, rfl, hbw, HA⟩ := hrel
    have HB := Lib.hid hbw
    clear hbw
    by_cases hlt : i < L.length
    · obtain ⟨x, hx⟩ : ∃ x, L[i]? = some x := ⟨L[i], by simp [hlt]⟩
      have HW := Lib.hid (HH.out.keep HB.out)
      obtain ⟨b', off, rfl, hbs, hcx⟩ := HW.out.hr i x hx
      have c0 : wr.cell? ⟨b', off + i * 7, none⟩ = some (.bool x.c) := hcx 0 _ rfl
      have c1 : wr.cell? ⟨b', off + i * 7 + 1, none⟩ = some (.int .i64 x.a) := hcx 1 _ rfl
      have c2 : wr.cell? ⟨b', off + i * 7 + 2, none⟩ = some (.int .i8 x.k) := hcx 2 _ rfl
      have c3 : wr.cell? ⟨b', off + i * 7 + 3, none⟩ = some (.int .i64 x.n) := hcx 3 _ rfl
      have c4 : wr.cell? ⟨b', off + i * 7 + 4, none⟩ = some (.string x.s) := hcx 4 _ rfl
      have c5 : wr.cell? ⟨b', off + i * 7 + 5, none⟩ = some (.string x.u) := hcx 5 _ rfl
      have c6 : wr.cell? ⟨b', off + i * 7 + 6, none⟩ = some (.slice x.ao x.l.length x.cap) := hcx 6 _ rfl
      have HC := Lib.hid (r1_any f wr base p bh v C x HW.out.hH HW.out.hL (HW.out.ho x (List.mem_of_getElem? hx)) HW.out.hb)
      have HX := Lib.hid hx
      have htk : L.take (i + 1) = L.take i ++ [x] := by rw [List.take_add_one, hx]; rfl
      have HTK := Lib.hid htk
      clear hcx hx htk
      cases hm : mayW C.length x
      · rw [hm] at HC
        have HE : Hid ((L.any fun x => !mayW C.length x) = true) := Lib.hid (any_true (List.mem_of_getElem? HX.out) hm)
        clear hm
        go_wp2_with fail
        refine HC.out.mono ?_
        rintro e w2 ⟨rfl, hb2⟩
        have HB2 := Lib.hid (HB.out.trans (hb2.mono HB.out.size))
        clear hb2 c0 c1 c2 c3 c4 c5 c6
        go_wp2_with fail
        go_ret
        exact ⟨i, rfl, by rw [HE.out]; simp, by omega, HB2.out⟩
      · rw [hm] at HC
        have HM := Lib.hid hm
        clear hm
        go_wp2_with fail
        refine HC.out.mono ?_
        rintro e w2 ⟨rfl, hb2⟩
        have HB2 := Lib.hid (HB.out.trans (hb2.mono HB.out.size))
        clear hb2 c0 c1 c2 c3 c4 c5 c6
        go_wp2_with fail
        go_roundw
        case rel => exact ⟨i + 1, by omega, by go_num, HB2.out, Lib.hid (fun y hy => by
          rw [HTK.out, List.mem_append] at hy
          rcases hy with hy | hy
          · exact HA.out y hy
          · obtain rfl := List.mem_singleton.1 hy
            exact HM.out)⟩
        case measure => simp [intOf]; omega
    · have hil : i = L.length := by omega
      subst hil
      have HE := Lib.hid (any_false HA.out)
      go_wp2_with fail
      go_ret
      exact ⟨-1, rfl, by rw [HE.out]; rfl, by omega, HB.out⟩
theorem contains_any (w : World) (f base p bh : Nat) (v : Value) (C : List HC) (ao : Option Addr) (cap : Nat) (L : List Wd) (h : RootsW w f base p bh v C ao L) (hn : L.length ≤ 1099511627776) :
    Calls Tryd.prog 30 #[.slice ao L.length cap, .func (.func 31) #[] #[.pointer (some ⟨bh, 0, none⟩)]] w (IsPost w (L.any fun x => !mayW C.length x)) := by
  have HI := Lib.hid (index_any w f base p bh v C ao cap L h hn)
  clear h
  go_enter Tryd.func30, Tryd.ntmps30
  go_wp2_with fail
  refine HI.out.mono ?_
  rintro e w2 ⟨r, rfl, hr, h1, hb2⟩
  have HR := Lib.hid hr
  clear hr HI
  go_wp2_with fail
  go_ret
  exact ⟨by rw [← HR.out]; rfl, hb2⟩
end Go.Proofs.YtfbohajojaaiaaaDoor
