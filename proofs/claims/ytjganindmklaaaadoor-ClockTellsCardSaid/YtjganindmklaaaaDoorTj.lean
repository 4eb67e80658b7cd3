/- terms: the reference's size, Check, Great, IsAtom. Conditions: the term reads. -/
import Derived.Test.YtjganindmklaaaaDoorTi
namespace Go.Proofs.YtjganindmklaaaaDoor
open Go.ChangeShapes Go.WideShapes Go.ChangeAt Go.RowKit
set_option linter.unusedVariables false
set_option maxHeartbeats 4000000 in
theorem size_any : ∀ (f : Nat) (t : Tm) (v : Value) (w : World) (m : Int), TermV f w v t → 1 ≤ m → m ≤ 1099511627776 → Calls Tryd.prog 23 #[v, .int .i64 m] w (IntPost w (siz t m)) := by
  intro f
  induction f using Nat.strongRecOn with
  | ind f ih =>
    intro t v w m hv hm1 hm2
    obtain ⟨k, n, s, u, l, ao, cap, rfl, rfl, hf, hl, hcap, hrow⟩ := hv.mk'
    clear hv
    have IH := Lib.hid ih
    have hB0 := (Below.refl w.heap.size w).alloc (Nat.le_refl _) (.cells #[.int .i8 k, .int .i64 n, .string s, .string u, .slice ao l.length cap] 34)
    have hh0 : (w.alloc (.cells #[.int .i8 k, .int .i64 n, .string s, .string u, .slice ao l.length cap] 34)).heap[w.heap.size]? = some (.cells #[.int .i8 k, .int .i64 n, .string s, .string u, .slice ao l.length cap] 34 (0, 0)) := (MapKept.heap_alloc w _).1
    have hcnt : siz (.mk k n s u l) m = sizL l m 1 := by rw [siz]
    have HROW := Lib.hid hrow
    have hl63 : l.length ≤ 9223372036854775807 := by omega
    clear ih hrow hf
    generalize siz (.mk k n s u l) m = res at *
    have HC := Lib.hid hcnt
    clear hcnt
    go_enter Tryd.func23, Tryd.ntmps23
    go_wp2_with fail
    go_loopw [5, 6] (fun nv iv wr => ∃ (i : Nat) (c : Int), i ≤ l.length ∧ iv = .int .i64 i ∧ nv = .int .i64 c ∧ 1 ≤ c ∧ c ≤ m ∧ Hid (wr.heap[w.heap.size]? = some (.cells #[.int .i8 k, .int .i64 n, .string s, .string u, .slice ao l.length cap] 34 (0, 0))) ∧ Below w.heap.size w wr ∧ Hid (sizL (l.drop i) m c = res))
      (fun _ iv _ => l.length - (intOf iv).toNat)
    case atStart => exact ⟨0, 1, by omega, rfl, rfl, by omega, hm1, hh0, hB0, HC.out.symm⟩
    case round =>
      clear hh0 hB0 HC
      obtain ⟨i, c, hi, rfl, rfl, hc1, hc2, hhr, hB, HF⟩ := hrel
      have x4 := (cells_at hhr.out 4 _ rfl).1
      by_cases hlt : i < l.length
      · obtain ⟨t, ht⟩ : ∃ t, l[i]? = some t := ⟨l[i], by simp [hlt]⟩
        have hdrop := drop_cons ht
        obtain ⟨b', off, f', lv, rfl, rfl, hnode, htv⟩ := (HROW.out.keep hB).elem ht
        obtain ⟨c0, c1', c2', c3, c4⟩ := hnode
        have hcl := siz_le t (m - c)
        have hstep : sizL (l.drop i) m c = if c < m then sizL (l.drop (i + 1)) m (c + siz t (m - c)) else c := by rw [hdrop, sizL]
        by_cases hge : c < m
        · have hd : decide (c < m) = true := by simpa using hge
          have hcall := IH.out f' (by omega) t _ wr (m - c) htv (by omega) (by omega)
          have hst2 := HF.out.symm.trans (hstep.trans (if_pos hge))
          have hcl2 := hcl (by omega)
          clear hstep hdrop ht hcl htv
          generalize siz t (m - c) = r at *
          have HCALL := Lib.hid hcall
          have HFIN := Lib.hid hst2
          clear hcall hst2
          go_wp2_with fail
          refine HCALL.out.mono ?_
          rintro e w2 ⟨rfl, hb2⟩
          have hB2 := hB.trans (hb2.mono hB.size)
          have hh2 := keep_heap hhr.out hb2
          have HH2 := Lib.hid hh2
          clear hb2 hB x4 c0 c1' c2' c3 c4 hh2
          go_wp2_with fail
          go_roundw
          case rel => exact ⟨i + 1, c + r, by omega, by go_num, rfl, by omega, by omega, HH2, hB2, HFIN.out.symm⟩
          case measure => simp [intOf]; omega
        · have hd : decide (c < m) = false := by simpa using hge
          have HFIN := Lib.hid (HF.out.symm.trans (hstep.trans (if_neg hge)))
          clear hstep hdrop ht hcl htv
          go_wp2_with fail
          go_ret
          exact ⟨by rw [HFIN.out]; rfl, hB⟩
      · have hil : i = l.length := by omega
        have hfin : res = c := by rw [← HF.out, hil, List.drop_length, sizL]
        have HFIN := Lib.hid hfin
        clear hfin hil
        go_wp2_with fail
        go_ret
        exact ⟨by rw [HFIN.out]; rfl, hB⟩
def greatB (t : Tm) : Bool := decide (1024 ≤ siz t 1024)
theorem great_any (f : Nat) (t : Tm) (v : Value) (w : World) (hv : TermV f w v t) : Calls Tryd.prog 13 #[v] w (IsPost w (greatB t)) := by
  have hv0 := hv
  obtain ⟨k, n, s, u, l, ao, cap, rfl, rfl, hf, hl, hcap, hrow⟩ := hv.mk'
  have hB0 := (Below.refl w.heap.size w).alloc (Nat.le_refl _) (.cells #[.int .i8 k, .int .i64 n, .string s, .string u, .slice ao l.length cap] 34)
  have hh0 : (w.alloc (.cells #[.int .i8 k, .int .i64 n, .string s, .string u, .slice ao l.length cap] 34)).heap[w.heap.size]? = some (.cells #[.int .i8 k, .int .i64 n, .string s, .string u, .slice ao l.length cap] 34 (0, 0)) := (MapKept.heap_alloc w _).1
  have HC := Lib.hid (size_any f _ _ _ 1024 (hv0.keep hB0) (by omega) (by omega))
  clear hv hv0 hrow hh0
  unfold greatB
  generalize siz (.mk k n s u l) 1024 = r at *
  go_enter Tryd.func13, Tryd.ntmps13
  go_wp2_with fail
  refine HC.out.mono ?_
  rintro e w1 ⟨rfl, hb1⟩
  go_wp2_with fail
  go_ret
  exact ⟨rfl, hB0.trans (hb1.mono (by simp))⟩
def rcheckN (t : Tm) : Int := if (cnt t 257).2 = false then 30 else if 256 < (cnt t 257).1 then 11 else 0
theorem rcheck_any (f : Nat) (t : Tm) (v : Value) (w : World) (hv : TermV f w v t) : Calls Tryd.prog 25 #[v] w (IntPost w (rcheckN t)) := by
  have hv0 := hv
  obtain ⟨k, n, s, u, l, ao, cap, rfl, rfl, hf, hl, hcap, hrow⟩ := hv.mk'
  have hB0 := (Below.refl w.heap.size w).alloc (Nat.le_refl _) (.cells #[.int .i8 k, .int .i64 n, .string s, .string u, .slice ao l.length cap] 34)
  have hh0 : (w.alloc (.cells #[.int .i8 k, .int .i64 n, .string s, .string u, .slice ao l.length cap] 34)).heap[w.heap.size]? = some (.cells #[.int .i8 k, .int .i64 n, .string s, .string u, .slice ao l.length cap] 34 (0, 0)) := (MapKept.heap_alloc w _).1
  have HC := Lib.hid (count_any f _ _ _ 257 (hv0.keep hB0) (by omega) (by omega))
  have hE : rcheckN (.mk k n s u l) = if (cnt (.mk k n s u l) 257).2 = false then 30 else if 256 < (cnt (.mk k n s u l) 257).1 then 11 else 0 := rfl
  clear hv hv0 hrow hh0
  generalize cnt (.mk k n s u l) 257 = r at *
  obtain ⟨c, ok⟩ := r
  simp only at hE
  cases ok
  · have HE := Lib.hid (hE.trans (if_pos rfl))
    clear hE
    go_enter Tryd.func25, Tryd.ntmps25
    go_wp2_with fail
    refine HC.out.mono ?_
    rintro e w1 ⟨rfl, hb1⟩
    go_wp2_with fail
    go_ret
    exact ⟨by rw [HE.out]; rfl, hB0.trans (hb1.mono (by simp))⟩
  · by_cases h : 256 < c
    · have HE := Lib.hid (hE.trans ((if_neg (by simp)).trans (if_pos h)))
      have hd : decide (256 < c) = true := by simpa using h
      clear hE
      go_enter Tryd.func25, Tryd.ntmps25
      go_wp2_with fail
      refine HC.out.mono ?_
      rintro e w1 ⟨rfl, hb1⟩
      go_wp2_with fail
      go_ret
      exact ⟨by rw [HE.out]; rfl, hB0.trans (hb1.mono (by simp))⟩
    · have HE := Lib.hid (hE.trans ((if_neg (by simp)).trans (if_neg h)))
      have hd : decide (256 < c) = false := by simpa using h
      clear hE
      go_enter Tryd.func25, Tryd.ntmps25
      go_wp2_with fail
      refine HC.out.mono ?_
      rintro e w1 ⟨rfl, hb1⟩
      go_wp2_with fail
      go_ret
      exact ⟨by rw [HE.out]; rfl, hB0.trans (hb1.mono (by simp))⟩
/- the two checks agree -/
mutual
theorem chk_cnt : ∀ (t : Tm) (c : Int), 0 ≤ c → c ≤ 256 → ((cnt t (257 - c)).2 = true → chk t (c, true) = (c + (cnt t (257 - c)).1, true)) ∧ ((cnt t (257 - c)).2 = false → (chk t (c, true)).2 = false)
  | .mk k n s u l, c, h0, h1 => by
    rw [cnt, chk]
    split
    · rename_i ho
      have := chkL_cntL l c 1 h0 (by omega) (by omega)
      simpa [ho] using this
    · rename_i ho
      refine ⟨by simp, fun _ => ?_⟩
      have hf : oneB k n s u l.length = false := by simpa using ho
      simp only [hf, Bool.and_false]
      cases l with
      | nil => rw [chkL]
      | cons t l => rw [chkL, if_pos (.inr rfl)]
theorem chkL_cntL : ∀ (l : List Tm) (c n : Int), 0 ≤ c → 1 ≤ n → n ≤ 257 - c → ((cntL l (257 - c) n).2 = true → chkL l (c + n, true) = (c + (cntL l (257 - c) n).1, true)) ∧ ((cntL l (257 - c) n).2 = false → (chkL l (c + n, true)).2 = false)
  | [], c, n, h0, h1, h2 => by
    rw [cntL, chkL]
    simp
  | t :: l, c, n, h0, h1, h2 => by
    have e1 : chkL (t :: l) (c + n, true) = if 256 < c + n then (c + n, true) else chkL l (chk t (c + n, true)) := by rw [chkL]; simp
    have e2 : cntL (t :: l) (257 - c) n = if 257 - c ≤ n then (n, true) else if (cnt t (257 - c - n)).2 = true then cntL l (257 - c) (n + (cnt t (257 - c - n)).1) else (n, false) := by rw [cntL]
    rw [e1, e2]
    by_cases hb : 257 - c ≤ n
    · rw [if_pos hb, if_pos (show 256 < c + n by omega)]
      simp
    · rw [if_neg hb, if_neg (show ¬ 256 < c + n by omega)]
      have hi := chk_cnt t (c + n) (by omega) (by omega)
      have hle := cnt_le t (257 - c - n) (by omega)
      rw [show 257 - (c + n) = 257 - c - n from by omega] at hi
      cases hr : (cnt t (257 - c - n)).2
      · have e3 : (if (false = true) then cntL l (257 - c) (n + (cnt t (257 - c - n)).1) else (n, false)) = (n, false) := if_neg (by simp)
        rw [e3]
        refine ⟨fun h => by simp at h, fun _ => ?_⟩
        have hx := hi.2 hr
        generalize chk t (c + n, true) = p at *
        obtain ⟨p1, p2⟩ := p
        simp only at hx
        subst hx
        cases l with
        | nil => rw [chkL]
        | cons t l => rw [chkL, if_pos (.inr rfl)]
      · have e3 : (if (true = true) then cntL l (257 - c) (n + (cnt t (257 - c - n)).1) else (n, false)) = cntL l (257 - c) (n + (cnt t (257 - c - n)).1) := if_pos rfl
        rw [e3, hi.1 hr]
        have := chkL_cntL l c (n + (cnt t (257 - c - n)).1) h0 (by omega) (by omega)
        rw [show c + n + (cnt t (257 - c - n)).1 = c + (n + (cnt t (257 - c - n)).1) from by omega]
        exact this
end
theorem check_eq (t : Tm) : rcheckN t = checkN t := by
  have h := chk_cnt t 0 (by omega) (by omega)
  rw [show (257 : Int) - 0 = 257 from rfl] at h
  unfold rcheckN checkN
  cases hr : (cnt t 257).2
  · rw [h.2 hr, if_pos rfl, if_pos rfl]
  · rw [h.1 hr]
    simp
def isAtomB (t : Tm) (a : ByteArray) : Bool := decide (t.k = 1) && decide (t.s = a)
theorem isatom_any (f : Nat) (t : Tm) (v : Value) (a : ByteArray) (w : World) (hv : TermV f w v t) : Calls Tryd.prog 26 #[v, .string a] w (IsPost w (isAtomB t a)) := by
  obtain ⟨k, n, s, u, l, ao, cap, rfl, rfl, hf, hl, hcap, hrow⟩ := hv.mk'
  have hB0 := (Below.refl w.heap.size w).alloc (Nat.le_refl _) (.cells #[.int .i8 k, .int .i64 n, .string s, .string u, .slice ao l.length cap] 34)
  have hh0 : (w.alloc (.cells #[.int .i8 k, .int .i64 n, .string s, .string u, .slice ao l.length cap] 34)).heap[w.heap.size]? = some (.cells #[.int .i8 k, .int .i64 n, .string s, .string u, .slice ao l.length cap] 34 (0, 0)) := (MapKept.heap_alloc w _).1
  clear hv hrow hh0
  by_cases h1 : k = 1
  · subst h1
    by_cases h2 : s = a
    · subst h2
      have e : isAtomB (.mk 1 n s u l) s = true := by simp [isAtomB, Tm.k, Tm.s]
      rw [e]
      go_enter Tryd.func26, Tryd.ntmps26
      go_wp2_with fail
      go_ret
      exact ⟨rfl, hB0⟩
    · have e : isAtomB (.mk 1 n s u l) a = false := by simp [isAtomB, Tm.k, Tm.s, h2]
      rw [e]
      have q1 := str_ne h2
      clear h2 e
      go_enter Tryd.func26, Tryd.ntmps26
      go_wp2_with fail
      go_ret
      exact ⟨rfl, hB0⟩
  · have e : isAtomB (.mk k n s u l) a = false := by simp [isAtomB, Tm.k, Tm.s, h1]
    rw [e]
    have q1 : (k == 1) = false := by simp [h1]
    clear h1 e
    go_enter Tryd.func26, Tryd.ntmps26
    go_wp2_with fail
    go_ret
    exact ⟨rfl, hB0⟩
end Go.Proofs.YtjganindmklaaaaDoor
