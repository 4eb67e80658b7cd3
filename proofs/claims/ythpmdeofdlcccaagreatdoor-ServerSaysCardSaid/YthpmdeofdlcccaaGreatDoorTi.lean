/- terms: the reference's count, size, Check, Great, IsAtom. Conditions: the term reads. -/
import Derived.Test.YthpmdeofdlcccaaGreatDoorTh
import Derived.Test.YthpmdeofdlcccaaGreatDoorTy
namespace Go.Proofs.YthpmdeofdlcccaaGreatDoor
open Go.ChangeShapes Go.WideShapes Go.ChangeAt Go.RowKit
set_option linter.unusedVariables false
mutual
def cnt : Tm → Int → Int × Bool
  | .mk k n s u l, most => if oneB k n s u l.length = true then cntL l most 1 else (1, false)
def cntL : List Tm → Int → Int → Int × Bool
  | [], most, n => (n, true)
  | t :: l, most, n => if most ≤ n then (n, true) else if (cnt t (most - n)).2 = true then cntL l most (n + (cnt t (most - n)).1) else (n, false)
end
mutual
theorem cnt_le : ∀ (t : Tm) (m : Int), 1 ≤ m → 1 ≤ (cnt t m).1 ∧ (cnt t m).1 ≤ m
  | .mk k n s u l, m, h => by
    rw [cnt]
    split
    · exact cntL_le l m 1 (by omega) (by omega)
    · simp; omega
theorem cntL_le : ∀ (l : List Tm) (m n : Int), 1 ≤ n → n ≤ m → 1 ≤ (cntL l m n).1 ∧ (cntL l m n).1 ≤ m
  | [], m, n, h1, h2 => by rw [cntL]; simp; omega
  | t :: l, m, n, h1, h2 => by
    rw [cntL]
    split
    · simp; omega
    · have := cnt_le t (m - n) (by omega)
      split
      · exact cntL_le l m _ (by omega) (by omega)
      · simp; omega
end
def CntPost (w : World) (p : Int × Bool) (e : Ending) (w' : World) : Prop := e = .returned (.tuple #[.int .i64 p.1, .bool p.2]) ∧ Below w.heap.size w w'
set_option maxHeartbeats 4000000 in
theorem count_any : ∀ (f : Nat) (t : Tm) (v : Value) (w : World) (m : Int), TermV f w v t → 1 ≤ m → m ≤ 1099511627776 → Calls Tryz.prog 83 #[v, .int .i64 m] w (CntPost w (cnt t m)) := by
  intro f
  induction f using Nat.strongRecOn with
  | ind f ih =>
    intro t v w m hv hm1 hm2
    obtain ⟨k, n, s, u, l, ao, cap, rfl, rfl, hf, hl, hcap, hrow⟩ := hv.mk'
    clear hv
    have IH := Lib.hid ih
    have hB0 := (Below.refl w.heap.size w).alloc (Nat.le_refl _) (.cells #[.int .i8 k, .int .i64 n, .string s, .string u, .slice ao l.length cap] 25)
    have hh0 : (w.alloc (.cells #[.int .i8 k, .int .i64 n, .string s, .string u, .slice ao l.length cap] 25)).heap[w.heap.size]? = some (.cells #[.int .i8 k, .int .i64 n, .string s, .string u, .slice ao l.length cap] 25 (0, 0)) := (MapKept.heap_alloc w _).1
    have hone := rone_any (w.alloc (.cells #[.int .i8 k, .int .i64 n, .string s, .string u, .slice ao l.length cap] 25)) k n s u hf.2.2.1 hf.2.2.2 ao l.length cap
    have hcnt : cnt (.mk k n s u l) m = if oneB k n s u l.length = true then cntL l m 1 else (1, false) := by rw [cnt]
    have HROW := Lib.hid hrow
    have HH := Lib.hid hh0
    have hl63 : l.length ≤ 9223372036854775807 := by omega
    clear ih hrow hh0 hf
    generalize cnt (.mk k n s u l) m = res at *
    generalize oneB k n s u l.length = one at *
    cases one
    · have HC := Lib.hid (hcnt.trans (if_neg (by simp)))
      have HO := Lib.hid hone
      clear hcnt hone
      go_enter Tryz.func83, Tryz.ntmps83
      go_wp2_with fail
      refine HO.out.mono ?_
      rintro e w1 ⟨rfl, hb1⟩
      have hB1 := hB0.trans (hb1.mono (by simp))
      clear hb1 hB0
      go_wp2_with fail
      go_ret2
      exact ⟨by rw [HC.out]; rfl, hB1⟩
    · have HC := Lib.hid (hcnt.trans (if_pos rfl))
      have HO := Lib.hid hone
      clear hcnt hone
      go_enter Tryz.func83, Tryz.ntmps83
      go_wp2_with fail
      refine HO.out.mono ?_
      rintro e w1 ⟨rfl, hb1⟩
      have hB1 := hB0.trans (hb1.mono (by simp))
      have hh1 := keep_heap HH.out hb1
      clear hb1 hB0 HO
      go_wp2_with fail
      go_loopw [6, 7] (fun nv iv wr => ∃ (i : Nat) (c : Int), i ≤ l.length ∧ iv = .int .i64 i ∧ nv = .int .i64 c ∧ 1 ≤ c ∧ c ≤ m ∧ Hid (wr.heap[w.heap.size]? = some (.cells #[.int .i8 k, .int .i64 n, .string s, .string u, .slice ao l.length cap] 25 (0, 0))) ∧ Below w.heap.size w wr ∧ Hid (cntL (l.drop i) m c = res))
        (fun _ iv _ => l.length - (intOf iv).toNat)
      case atStart => exact ⟨0, 1, by omega, rfl, rfl, by omega, hm1, hh1, hB1, HC.out.symm⟩
      case round =>
        clear hh1 hB1 HC
        obtain ⟨i, c, hi, rfl, rfl, hc1, hc2, hhr, hB, HF⟩ := hrel
        have x4 := (cells_at hhr.out 4 _ rfl).1
        by_cases hlt : i < l.length
        · obtain ⟨t, ht⟩ : ∃ t, l[i]? = some t := ⟨l[i], by simp [hlt]⟩
          have hdrop := drop_cons ht
          obtain ⟨b', off, f', lv, rfl, rfl, hnode, htv⟩ := (HROW.out.keep hB).elem ht
          obtain ⟨c0, c1', c2', c3, c4⟩ := hnode
          have hcl := cnt_le t (m - c)
          have hstep : cntL (l.drop i) m c = if m ≤ c then (c, true) else if (cnt t (m - c)).2 = true then cntL (l.drop (i + 1)) m (c + (cnt t (m - c)).1) else (c, false) := by rw [hdrop, cntL]
          by_cases hge : m ≤ c
          · have hd : decide (m ≤ c) = true := by simpa using hge
            have HFIN := Lib.hid (HF.out.symm.trans (hstep.trans (if_pos hge)))
            clear hstep hdrop ht hcl htv
            go_wp2_with fail
            go_ret2
            exact ⟨by rw [HFIN.out]; rfl, hB⟩
          · have hd : decide (m ≤ c) = false := by simpa using hge
            have hcall := IH.out f' (by omega) t _ wr (m - c) htv (by omega) (by omega)
            have hst2 := HF.out.symm.trans (hstep.trans (if_neg hge))
            have hcl2 := hcl (by omega)
            clear hstep hdrop ht hcl htv
            generalize cnt t (m - c) = r at *
            obtain ⟨r1, r2⟩ := r
            simp only at hcl2 hst2
            have HCALL := Lib.hid hcall
            clear hcall
            cases r2
            · have HFIN := Lib.hid (hst2.trans (if_neg (by simp)))
              clear hst2
              go_wp2_with fail
              refine HCALL.out.mono ?_
              rintro e w2 ⟨rfl, hb2⟩
              have hB2 := hB.trans (hb2.mono hB.size)
              clear hb2 hB x4 c0 c1' c2' c3 c4
              go_wp2_with fail
              go_ret2
              exact ⟨by rw [HFIN.out]; rfl, hB2⟩
            · have HFIN := Lib.hid (hst2.trans (if_pos rfl))
              clear hst2
              go_wp2_with fail
              refine HCALL.out.mono ?_
              rintro e w2 ⟨rfl, hb2⟩
              have hB2 := hB.trans (hb2.mono hB.size)
              have hh2 := keep_heap hhr.out hb2
              clear hb2 hB x4 c0 c1' c2' c3 c4
              have HH2 := Lib.hid hh2
              clear hh2
              go_wp2_with fail
              go_roundw
              case rel => exact ⟨i + 1, c + r1, by omega, by go_num, rfl, by omega, by omega, HH2, hB2, HFIN.out.symm⟩
              case measure => simp [intOf]; omega
        · have hil : i = l.length := by omega
          have hfin : res = (c, true) := by rw [← HF.out, hil, List.drop_length, cntL]
          have HFIN := Lib.hid hfin
          clear hfin hil
          go_wp2_with fail
          go_ret2
          exact ⟨by rw [HFIN.out]; rfl, hB⟩
end Go.Proofs.YthpmdeofdlcccaaGreatDoor
