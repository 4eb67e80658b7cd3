/- terms: the reference's size, Check, Great, IsAtom. Conditions: the term reads. -/
import Derived.Test.YthpmdeofdlcccaaGreatDoorTi
namespace Go.Proofs.YthpmdeofdlcccaaGreatDoor
open Go.ChangeShapes Go.WideShapes Go.ChangeAt Go.RowKit
set_option linter.unusedVariables false
def rcheckN (t : Tm) : Int := if (cnt t 257).2 = false then 30 else if 256 < (cnt t 257).1 then 11 else 0
theorem rcheck_any (f : Nat) (t : Tm) (v : Value) (w : World) (hv : TermV f w v t) : Calls Tryz.prog 55 #[v] w (IntPost w (rcheckN t)) := by
  have hv0 := hv
  obtain ⟨k, n, s, u, l, ao, cap, rfl, rfl, hf, hl, hcap, hrow⟩ := hv.mk'
  have hB0 := (Below.refl w.heap.size w).alloc (Nat.le_refl _) (.cells #[.int .i8 k, .int .i64 n, .string s, .string u, .slice ao l.length cap] 25)
  have hh0 : (w.alloc (.cells #[.int .i8 k, .int .i64 n, .string s, .string u, .slice ao l.length cap] 25)).heap[w.heap.size]? = some (.cells #[.int .i8 k, .int .i64 n, .string s, .string u, .slice ao l.length cap] 25 (0, 0)) := (MapKept.heap_alloc w _).1
  have HC := Lib.hid (count_any f _ _ _ 257 (hv0.keep hB0) (by omega) (by omega))
  have hE : rcheckN (.mk k n s u l) = if (cnt (.mk k n s u l) 257).2 = false then 30 else if 256 < (cnt (.mk k n s u l) 257).1 then 11 else 0 := rfl
  clear hv hv0 hrow hh0
  generalize cnt (.mk k n s u l) 257 = r at *
  obtain ⟨c, ok⟩ := r
  simp only at hE
  cases ok
  · have HE := Lib.hid (hE.trans (if_pos rfl))
    clear hE
    go_enter Tryz.func55, Tryz.ntmps55
    go_wp2_with fail
    refine HC.out.mono ?_
    rintro e w1 ⟨rfl, hb1⟩
    go_wp2_with fail
    go_ret
    exact ⟨by rw [HE.out]; rfl, hB0.trans (hb1.mono (by simp))⟩
  · by_cases h : 256 < c
    · have HE := Lib.hid (hE.trans ((if_neg (by simp)).trans (if_pos h)))
      have hd : decide (256 < c) = true := by simpa using h
      clear hE
      go_enter Tryz.func55, Tryz.ntmps55
      go_wp2_with fail
      refine HC.out.mono ?_
      rintro e w1 ⟨rfl, hb1⟩
      go_wp2_with fail
      go_ret
      exact ⟨by rw [HE.out]; rfl, hB0.trans (hb1.mono (by simp))⟩
    · have HE := Lib.hid (hE.trans ((if_neg (by simp)).trans (if_neg h)))
      have hd : decide (256 < c) = false := by simpa using h
      clear hE
      go_enter Tryz.func55, Tryz.ntmps55
      go_wp2_with fail
      refine HC.out.mono ?_
      rintro e w1 ⟨rfl, hb1⟩
      go_wp2_with fail
      go_ret
      exact ⟨by rw [HE.out]; rfl, hB0.trans (hb1.mono (by simp))⟩
/- the two checks agree -/
mutual
theorem chk_cnt : ∀ (t : Tm) (c : Int), 0 ≤ c → c ≤ 256 → ((cnt t (257 - c)).2 = true → chk t (c, true) = (c + (cnt t (257 - c)).1, true)) ∧ ((cnt t (257 - c)).2 = false → (chk t (c, true)).2 = false)
  | .mk k n s u l, c, h0, h1 => by
    rw [cnt, chk]
    split
    · rename_i ho
      have := chkL_cntL l c 1 h0 (by omega) (by omega)
      simpa [ho] using this
    · rename_i ho
      refine ⟨by simp, fun _ => ?_⟩
      have hf : oneB k n s u l.length = false := by simpa using ho
      simp only [hf, Bool.and_false]
      cases l with
      | nil => rw [chkL]
      | cons t l => rw [chkL, if_pos (.inr rfl)]
theorem chkL_cntL : ∀ (l : List Tm) (c n : Int), 0 ≤ c → 1 ≤ n → n ≤ 257 - c → ((cntL l (257 - c) n).2 = true → chkL l (c + n, true) = (c + (cntL l (257 - c) n).1, true)) ∧ ((cntL l (257 - c) n).2 = false → (chkL l (c + n, true)).2 = false)
  | [], c, n, h0, h1, h2 => by
    rw [cntL, chkL]
    simp
  | t :: l, c, n, h0, h1, h2 => by
    have e1 : chkL (t :: l) (c + n, true) = if 256 < c + n then (c + n, true) else chkL l (chk t (c + n, true)) := by rw [chkL]; simp
    have e2 : cntL (t :: l) (257 - c) n = if 257 - c ≤ n then (n, true) else if (cnt t (257 - c - n)).2 = true then cntL l (257 - c) (n + (cnt t (257 - c - n)).1) else (n, false) := by rw [cntL]
    rw [e1, e2]
    by_cases hb : 257 - c ≤ n
    · rw [if_pos hb, if_pos (show 256 < c + n by omega)]
      simp
    · rw [if_neg hb, if_neg (show ¬ 256 < c + n by omega)]
      have hi := chk_cnt t (c + n) (by omega) (by omega)
      have hle := cnt_le t (257 - c - n) (by omega)
      rw [show 257 - (c + n) = 257 - c - n from by omega] at hi
      cases hr : (cnt t (257 - c - n)).2
      · have e3 : (if (false = true) then cntL l (257 - c) (n + (cnt t (257 - c - n)).1) else (n, false)) = (n, false) := if_neg (by simp)
        rw [e3]
        refine ⟨fun h => by simp at h, fun _ => ?_⟩
        have hx := hi.2 hr
        generalize chk t (c + n, true) = p at *
        obtain ⟨p1, p2⟩ := p
        simp only at hx
        subst hx
        cases l with
        | nil => rw [chkL]
        | cons t l => rw [chkL, if_pos (.inr rfl)]
      · have e3 : (if (true = true) then cntL l (257 - c) (n + (cnt t (257 - c - n)).1) else (n, false)) = cntL l (257 - c) (n + (cnt t (257 - c - n)).1) := if_pos rfl
        rw [e3, hi.1 hr]
        have := chkL_cntL l c (n + (cnt t (257 - c - n)).1) h0 (by omega) (by omega)
        rw [show c + n + (cnt t (257 - c - n)).1 = c + (n + (cnt t (257 - c - n)).1) from by omega]
        exact this
end
theorem check_eq (t : Tm) : rcheckN t = checkN t := by
  have h := chk_cnt t 0 (by omega) (by omega)
  rw [show (257 : Int) - 0 = 257 from rfl] at h
  unfold rcheckN checkN
  cases hr : (cnt t 257).2
  · rw [h.2 hr, if_pos rfl, if_pos rfl]
  · rw [h.1 hr]
    simp
end Go.Proofs.YthpmdeofdlcccaaGreatDoor
