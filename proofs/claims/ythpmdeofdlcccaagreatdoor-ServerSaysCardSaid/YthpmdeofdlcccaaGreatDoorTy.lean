/- terms: the reference's size, Great, IsAtom. Conditions: the term reads. -/
import Derived.Test.YthpmdeofdlcccaaGreatDoorTx
namespace Go.Proofs.YthpmdeofdlcccaaGreatDoor
open Go.ChangeShapes Go.WideShapes Go.ChangeAt Go.RowKit
set_option linter.unusedVariables false
mutual
def siz : Tm → Int → Int
  | .mk _ _ _ _ l, most => sizL l most 1
def sizL : List Tm → Int → Int → Int
  | [], most, n => n
  | t :: l, most, n => if n < most then sizL l most (n + siz t (most - n)) else n
end
mutual
theorem siz_le : ∀ (t : Tm) (m : Int), 1 ≤ m → 1 ≤ siz t m ∧ siz t m ≤ m
  | .mk k n s u l, m, h => by rw [siz]; exact sizL_le l m 1 (by omega) (by omega)
theorem sizL_le : ∀ (l : List Tm) (m n : Int), 1 ≤ n → n ≤ m → 1 ≤ sizL l m n ∧ sizL l m n ≤ m
  | [], m, n, h1, h2 => by rw [sizL]; omega
  | t :: l, m, n, h1, h2 => by
    rw [sizL]
    split
    · have := siz_le t (m - n) (by omega)
      exact sizL_le l m _ (by omega) (by omega)
    · omega
end
set_option maxHeartbeats 4000000 in
theorem size_any : ∀ (f : Nat) (t : Tm) (v : Value) (w : World) (m : Int), TermV f w v t → 1 ≤ m → m ≤ 1099511627776 → Calls Tryz.prog 22 #[v, .int .i64 m] w (IntPost w (siz t m)) := by
  intro f
  induction f using Nat.strongRecOn with
  | ind f ih =>
    intro t v w m hv hm1 hm2
    obtain ⟨k, n, s, u, l, ao, cap, rfl, rfl, hf, hl, hcap, hrow⟩ := hv.mk'
    clear hv
    have IH := Lib.hid ih
    have hB0 := (Below.refl w.heap.size w).alloc (Nat.le_refl _) (.cells #[.int .i8 k, .int .i64 n, .string s, .string u, .slice ao l.length cap] 25)
    have hh0 : (w.alloc (.cells #[.int .i8 k, .int .i64 n, .string s, .string u, .slice ao l.length cap] 25)).heap[w.heap.size]? = some (.cells #[.int .i8 k, .int .i64 n, .string s, .string u, .slice ao l.length cap] 25 (0, 0)) := (MapKept.heap_alloc w _).1
    have hcnt : siz (.mk k n s u l) m = sizL l m 1 := by rw [siz]
    have HROW := Lib.hid hrow
    have hl63 : l.length ≤ 9223372036854775807 := by omega
    clear ih hrow hf
    generalize siz (.mk k n s u l) m = res at *
    have HC := Lib.hid hcnt
    clear hcnt
    go_enter Tryz.func22, Tryz.ntmps22
    go_wp2_with fail
    go_loopw [5, 6] (fun nv iv wr => ∃ (i : Nat) (c : Int), i ≤ l.length ∧ iv = .int .i64 i ∧ nv = .int .i64 c ∧ 1 ≤ c ∧ c ≤ m ∧ Hid (wr.heap[w.heap.size]? = some (.cells #[.int .i8 k, .int .i64 n, .string s, .string u, .slice ao l.length cap] 25 (0, 0))) ∧ Below w.heap.size w wr ∧ Hid (sizL (l.drop i) m c = res))
      (fun _ iv _ => l.length - (intOf iv).toNat)
    case atStart => exact ⟨0, 1, by omega, rfl, rfl, by omega, hm1, hh0, hB0, HC.out.symm⟩
    case round =>
      clear hh0 hB0 HC
      obtain ⟨i, c, hi, rfl, rfl, hc1, hc2, hhr, hB, HF⟩ := hrel
      have x4 := (cells_at hhr.out 4 _ rfl).1
      by_cases hlt : i < l.length
      · obtain ⟨t, ht⟩ : ∃ t, l[i]? = some t := ⟨l[i], by simp [hlt]⟩
        have hdrop := drop_cons ht
        obtain ⟨b', off, f', lv, rfl, rfl, hnode, htv⟩ := (HROW.out.keep hB).elem ht
        obtain ⟨c0, c1', c2', c3, c4⟩ := hnode
        have hcl := siz_le t (m - c)
        have hstep : sizL (l.drop i) m c = if c < m then sizL (l.drop (i + 1)) m (c + siz t (m - c)) else c := by rw [hdrop, sizL]
        by_cases hge : c < m
        · have hd : decide (c < m) = true := by simpa using hge
          have hcall := IH.out f' (by omega) t _ wr (m - c) htv (by omega) (by omega)
          have hst2 := HF.out.symm.trans (hstep.trans (if_pos hge))
          have hcl2 := hcl (by omega)
          clear hstep hdrop ht hcl htv
          generalize siz t (m - c) = r at *
          have HCALL := Lib.hid hcall
          have HFIN := Lib.hid hst2
          clear hcall hst2
          go_wp2_with fail
          refine HCALL.out.mono ?_
          rintro e w2 ⟨rfl, hb2⟩
          have hB2 := hB.trans (hb2.mono hB.size)
          have hh2 := keep_heap hhr.out hb2
          have HH2 := Lib.hid hh2
          clear hb2 hB x4 c0 c1' c2' c3 c4 hh2
          go_wp2_with fail
          go_roundw
          case rel => exact ⟨i + 1, c + r, by omega, by go_num, rfl, by omega, by omega, HH2, hB2, HFIN.out.symm⟩
          case measure => simp [intOf]; omega
        · have hd : decide (c < m) = false := by simpa using hge
          have HFIN := Lib.hid (HF.out.symm.trans (hstep.trans (if_neg hge)))
          clear hstep hdrop ht hcl htv
          go_wp2_with fail
          go_ret
          exact ⟨by rw [HFIN.out]; rfl, hB⟩
      · have hil : i = l.length := by omega
        have hfin : res = c := by rw [← HF.out, hil, List.drop_length, sizL]
        have HFIN := Lib.hid hfin
        clear hfin hil
        go_wp2_with fail
        go_ret
        exact ⟨by rw [HFIN.out]; rfl, hB⟩
def greatB (t : Tm) : Bool := decide (1024 ≤ siz t 1024)
theorem great_any (f : Nat) (t : Tm) (v : Value) (w : World) (hv : TermV f w v t) : Calls Tryz.prog 5 #[v] w (IsPost w (greatB t)) := by
  have hv0 := hv
  obtain ⟨k, n, s, u, l, ao, cap, rfl, rfl, hf, hl, hcap, hrow⟩ := hv.mk'
  have hB0 := (Below.refl w.heap.size w).alloc (Nat.le_refl _) (.cells #[.int .i8 k, .int .i64 n, .string s, .string u, .slice ao l.length cap] 25)
  have hh0 : (w.alloc (.cells #[.int .i8 k, .int .i64 n, .string s, .string u, .slice ao l.length cap] 25)).heap[w.heap.size]? = some (.cells #[.int .i8 k, .int .i64 n, .string s, .string u, .slice ao l.length cap] 25 (0, 0)) := (MapKept.heap_alloc w _).1
  have HC := Lib.hid (size_any f _ _ _ 1024 (hv0.keep hB0) (by omega) (by omega))
  clear hv hv0 hrow hh0
  unfold greatB
  generalize siz (.mk k n s u l) 1024 = r at *
  go_enter Tryz.func5, Tryz.ntmps5
  go_wp2_with fail
  refine HC.out.mono ?_
  rintro e w1 ⟨rfl, hb1⟩
  go_wp2_with fail
  go_ret
  exact ⟨rfl, hB0.trans (hb1.mono (by simp))⟩
def isAtomB (t : Tm) (a : ByteArray) : Bool := decide (t.k = 1) && decide (t.s = a)
theorem isatom_any (f : Nat) (t : Tm) (v : Value) (a : ByteArray) (w : World) (hv : TermV f w v t) : Calls Tryz.prog 37 #[v, .string a] w (IsPost w (isAtomB t a)) := by
  obtain ⟨k, n, s, u, l, ao, cap, rfl, rfl, hf, hl, hcap, hrow⟩ := hv.mk'
  have hB0 := (Below.refl w.heap.size w).alloc (Nat.le_refl _) (.cells #[.int .i8 k, .int .i64 n, .string s, .string u, .slice ao l.length cap] 25)
  have hh0 : (w.alloc (.cells #[.int .i8 k, .int .i64 n, .string s, .string u, .slice ao l.length cap] 25)).heap[w.heap.size]? = some (.cells #[.int .i8 k, .int .i64 n, .string s, .string u, .slice ao l.length cap] 25 (0, 0)) := (MapKept.heap_alloc w _).1
  clear hv hrow hh0
  by_cases h1 : k = 1
  · subst h1
    by_cases h2 : s = a
    · subst h2
      have e : isAtomB (.mk 1 n s u l) s = true := by simp [isAtomB, Tm.k, Tm.s]
      rw [e]
      go_enter Tryz.func37, Tryz.ntmps37
      go_wp2_with fail
      go_ret
      exact ⟨rfl, hB0⟩
    · have e : isAtomB (.mk 1 n s u l) a = false := by simp [isAtomB, Tm.k, Tm.s, h2]
      rw [e]
      have q1 := str_ne h2
      clear h2 e
      go_enter Tryz.func37, Tryz.ntmps37
      go_wp2_with fail
      go_ret
      exact ⟨rfl, hB0⟩
  · have e : isAtomB (.mk k n s u l) a = false := by simp [isAtomB, Tm.k, Tm.s, h1]
    rw [e]
    have q1 : (k == 1) = false := by simp [h1]
    clear h1 e
    go_enter Tryz.func37, Tryz.ntmps37
    go_wp2_with fail
    go_ret
    exact ⟨rfl, hB0⟩
end Go.Proofs.YthpmdeofdlcccaaGreatDoor
