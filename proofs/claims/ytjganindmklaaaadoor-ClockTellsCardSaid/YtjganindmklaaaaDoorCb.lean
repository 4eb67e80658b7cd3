/- clock: Left, span, Deadline; wakes. Conditions: the table of letters reads as laid; numbers and terms read. -/
import Derived.Test.YtjganindmklaaaaDoorCa
namespace Go.Proofs.YtjganindmklaaaaDoor
open Go.ChangeShapes Go.WideShapes Go.ChangeAt Go.RowKit
set_option linter.unusedVariables false
theorem left_any (now d : Int) (w : World) : Calls Tryd.prog 10 #[.int .i64 now, .int .i64 d] w (NumPost w (leftN now d)) := by
  cases ht : timeB now
  · have e1 : leftN now d = -1 := by simp [leftN, ht]
    rw [e1]
    have HT := Lib.hid ht
    clear ht e1
    go_enter Tryd.func10, Tryd.ntmps10
    go_wp2_with fail
    refine (time_any _ _).mono ?_
    rw [HT.out]
    rintro e w1 ⟨rfl, rfl⟩
    go_wp2_with fail
    go_ret
    exact ⟨rfl, rfl⟩
  · cases hu : timeB d
    · have e1 : leftN now d = -1 := by simp [leftN, ht, hu]
      rw [e1]
      have HT := Lib.hid ht
      have HU := Lib.hid hu
      clear ht e1 hu
      go_enter Tryd.func10, Tryd.ntmps10
      go_wp2_with fail
      refine (time_any _ _).mono ?_
      rw [HT.out]
      rintro e w1 ⟨rfl, rfl⟩
      go_wp2_with fail
      refine (time_any _ _).mono ?_
      rw [HU.out]
      rintro e w1 ⟨rfl, rfl⟩
      go_wp2_with fail
      go_ret
      exact ⟨rfl, rfl⟩
    · have e1 : leftN now d = max (d - now) 0 := by simp [leftN, ht, hu]
      have HE := Lib.hid e1
      obtain ⟨b1, b2⟩ := timeB_t ht
      obtain ⟨b3, b4⟩ := timeB_t hu
      have HT := Lib.hid ht
      have HU := Lib.hid hu
      clear ht e1 hu
      go_enter Tryd.func10, Tryd.ntmps10
      go_wp2_with fail
      refine (time_any _ _).mono ?_
      rw [HT.out]
      rintro e w1 ⟨rfl, rfl⟩
      go_wp2_with fail
      refine (time_any _ _).mono ?_
      rw [HU.out]
      rintro e w1 ⟨rfl, rfl⟩
      go_wp2_with fail
      go_ret
      refine ⟨?_, rfl⟩
      rw [HE.out]
      rfl
def sInf : ByteArray := ⟨#[105, 110, 102, 105, 110, 105, 116, 121]⟩
def ValPost (w : World) (v : Value) (e : Ending) (w' : World) : Prop := e = .returned v ∧ w = w'
theorem span_inf (w : World) (b o : Nat) {n : Int} {u : ByteArray} {lv : Value} (h : Node w b o 1 n sInf u lv) : Calls Tryd.prog 21 #[.pointer (some ⟨b, o, none⟩)] w (ValPost w (.iface 45 (.agg #[]))) := by
  obtain ⟨c0, c1, c2, c3, c4⟩ := h
  unfold sInf at c2
  go_enter Tryd.func21, Tryd.ntmps21
  go_wp2_with fail
  go_ret
  exact ⟨rfl, rfl⟩
theorem span_atom (w : World) (b o : Nat) {n : Int} {s u : ByteArray} {lv : Value} (h : Node w b o 1 n s u lv) (hs : s ≠ sInf) : Calls Tryd.prog 21 #[.pointer (some ⟨b, o, none⟩)] w (ValPost w .nilIface) := by
  obtain ⟨c0, c1, c2, c3, c4⟩ := h
  obtain ⟨hq, hq2⟩ := str_ne_of (l := [105, 110, 102, 105, 110, 105, 116, 121]) hs
  clear hs
  go_enter Tryd.func21, Tryd.ntmps21
  go_wp2_with fail
  go_ret
  exact ⟨rfl, rfl⟩
theorem span_int (w : World) (b o : Nat) {n : Int} {s u : ByteArray} {lv : Value} (h : Node w b o 0 n s u lv) (hn : 0 ≤ n) : Calls Tryd.prog 21 #[.pointer (some ⟨b, o, none⟩)] w (ValPost w (.iface 3 (.int .i64 n))) := by
  obtain ⟨c0, c1, c2, c3, c4⟩ := h
  have hd : decide (0 ≤ n) = true := by simpa using hn
  go_enter Tryd.func21, Tryd.ntmps21
  go_wp2_with fail
  go_ret
  exact ⟨rfl, rfl⟩
theorem span_neg (w : World) (b o : Nat) {n : Int} {s u : ByteArray} {lv : Value} (h : Node w b o 0 n s u lv) (hn : n < 0) : Calls Tryd.prog 21 #[.pointer (some ⟨b, o, none⟩)] w (ValPost w .nilIface) := by
  obtain ⟨c0, c1, c2, c3, c4⟩ := h
  have hd : decide (0 ≤ n) = false := by simpa using hn
  go_enter Tryd.func21, Tryd.ntmps21
  go_wp2_with fail
  go_ret
  exact ⟨rfl, rfl⟩
theorem span_no (w : World) (b o : Nat) {k n : Int} {s u : ByteArray} {lv : Value} (h : Node w b o k n s u lv) (h0 : k ≠ 0) (h1 : k ≠ 1) : Calls Tryd.prog 21 #[.pointer (some ⟨b, o, none⟩)] w (ValPost w .nilIface) := by
  obtain ⟨c0, c1, c2, c3, c4⟩ := h
  have d0 : (k == 0) = false := by simp [h0]
  have d1 : (k == 1) = false := by simp [h1]
  clear h0 h1
  go_enter Tryd.func21, Tryd.ntmps21
  go_wp2_with fail
  go_ret
  exact ⟨rfl, rfl⟩
def spanV (t : Tm) : Value := if t.k = 1 ∧ t.s = sInf then .iface 45 (.agg #[]) else if t.k = 0 ∧ 0 ≤ t.n then .iface 3 (.int .i64 t.n) else .nilIface
theorem span_any (w : World) (b o : Nat) (t : Tm) {lv : Value} (h : Node w b o t.k t.n t.s t.u lv) : Calls Tryd.prog 21 #[.pointer (some ⟨b, o, none⟩)] w (ValPost w (spanV t)) := by
  obtain ⟨k, n, s, u, l⟩ := t
  simp only [Tm.k, Tm.n, Tm.s, Tm.u] at h
  simp only [spanV, Tm.k, Tm.n, Tm.s]
  by_cases h1 : k = 1
  · subst h1
    by_cases h2 : s = sInf
    · subst h2
      simpa using span_inf w b o h
    · simpa [h2] using span_atom w b o h h2
  · by_cases h0 : k = 0
    · subst h0
      by_cases h2 : 0 ≤ n
      · simpa [h2] using span_int w b o h h2
      · simpa [h2] using span_neg w b o h (by omega)
    · simpa [h0, h1] using span_no w b o h h0 h1
theorem tsE (w : World) (v : Value) : (Instr.typeAssert (.iface 45 v) 20 45 true).run Tryd.prog w = .ok (.tuple #[v, .bool true]) w := by kernel_rfl
theorem tsI (w : World) (v : Value) : (Instr.typeAssert (.iface 3 v) 20 3 true).run Tryd.prog w = .ok (.tuple #[v, .bool true]) w := by kernel_rfl
theorem tsIE (w : World) (v : Value) : (Instr.typeAssert (.iface 3 v) 20 45 true).run Tryd.prog w = .ok (.tuple #[.agg #[], .bool false]) w := by kernel_rfl
theorem tsNE (w : World) : (Instr.typeAssert .nilIface 20 45 true).run Tryd.prog w = .ok (.tuple #[.agg #[], .bool false]) w := by kernel_rfl
theorem tsNI (w : World) : (Instr.typeAssert .nilIface 20 3 true).run Tryd.prog w = .ok (.tuple #[.int .i64 0, .bool false]) w := by kernel_rfl
def deadN (now : Int) (t : Tm) : Int × Int :=
  if timeB now = false ∨ checkN t ≠ 0 then (0, 2) else if t.k = 1 ∧ t.s = sInf then (-2, 0) else if t.k = 0 ∧ 0 ≤ t.n then (now + min t.n (1099511627776 - now), 0) else (0, 2)
def DeadPost (w : World) (p : Int × Int) (e : Ending) (w' : World) : Prop := e = .returned (.tuple #[.int .i64 p.1, .int .i64 p.2]) ∧ Below w.heap.size w w'
set_option maxHeartbeats 1000000 in
theorem dead_any (now : Int) (f : Nat) (t : Tm) (v : Value) (w : World) (hw : Cells w 0 letL) (h : TermV f w v t) : Calls Tryd.prog 11 #[.int .i64 now, v] w (DeadPost w (deadN now t)) := by
  have hv := h
  obtain ⟨lv, rfl, hat⟩ := h.boxed
  have hb0 := (Below.refl w.heap.size w).alloc (Nat.le_refl _) (.cells #[.int .i8 t.k, .int .i64 t.n, .string t.s, .string t.u, lv] 34)
  have hN : Node (w.alloc (.cells #[.int .i8 t.k, .int .i64 t.n, .string t.s, .string t.u, lv] 34)) w.heap.size 0 t.k t.n t.s t.u lv := by
    have hh : (w.alloc (.cells #[.int .i8 t.k, .int .i64 t.n, .string t.s, .string t.u, lv] 34)).heap[w.heap.size]? = some (.cells #[.int .i8 t.k, .int .i64 t.n, .string t.s, .string t.u, lv] 34 (0, 0)) := (MapKept.heap_alloc w _).1
    exact ⟨(cells_at hh 0 _ rfl).1, (cells_at hh 1 _ rfl).1, (cells_at hh 2 _ rfl).1, (cells_at hh 3 _ rfl).1, (cells_at hh 4 _ rfl).1⟩
  have HC := Lib.hid (check_any f t _ _ (keepCells hw hb0) (hv.keep hb0))
  have HN := Lib.hid hN
  clear hN hat hv h hw
  cases ht : timeB now
  · have hE : deadN now t = (0, 2) := by simp [deadN, ht]
    have HE := Lib.hid hE
    have HT := Lib.hid ht
    clear hE ht
    go_enter Tryd.func11, Tryd.ntmps11
    go_wp2_with fail
    refine (time_any _ _).mono ?_
    rw [HT.out]
    rintro e w1 ⟨rfl, rfl⟩
    go_wp2_with fail
    go_ret2
    exact ⟨by rw [HE.out]; rfl, hb0⟩
  · obtain ⟨b1, b2⟩ := timeB_t ht
    by_cases hk : checkN t = 0
    · rw [hk] at HC
      have hE : deadN now t = if t.k = 1 ∧ t.s = sInf then (-2, 0) else if t.k = 0 ∧ 0 ≤ t.n then (now + min t.n (1099511627776 - now), 0) else (0, 2) := by simp [deadN, ht, hk]
      have HT := Lib.hid ht
      clear ht hk
      by_cases h1 : t.k = 1 ∧ t.s = sInf
      · have HE := Lib.hid (hE.trans (if_pos h1))
        have HV := Lib.hid (show spanV t = .iface 45 (.agg #[]) from if_pos h1)
        have ts := @tsE
        clear hE h1
        go_enter Tryd.func11, Tryd.ntmps11
        go_wp2_with fail
        refine (time_any _ _).mono ?_
        rw [HT.out]
        rintro e w1 ⟨rfl, rfl⟩
        go_wp2_with fail
        refine HC.out.mono ?_
        rintro e w2 ⟨rfl, hb2⟩
        have hB := hb0.trans (hb2.mono (by simp))
        go_wp2_with fail
        refine (span_any w2 w.heap.size 0 t (HN.out.keep hb2)).mono ?_
        rw [HV.out]
        rintro e w3 ⟨rfl, rfl⟩
        go_wp2_with fail
        go_ret2
        exact ⟨by rw [HE.out]; rfl, hB.alloc hB.size _⟩
      · by_cases h2 : t.k = 0 ∧ 0 ≤ t.n
        · have HE := Lib.hid ((hE.trans (if_neg h1)).trans (if_pos h2))
          have HV := Lib.hid (show spanV t = .iface 3 (.int .i64 t.n) from (if_neg h1).trans (if_pos h2))
          have ts1 := @tsIE
          have ts2 := @tsI
          have hn0 := h2.2
          clear hE h1 h2
          go_enter Tryd.func11, Tryd.ntmps11
          go_wp2_with fail
          refine (time_any _ _).mono ?_
          rw [HT.out]
          rintro e w1 ⟨rfl, rfl⟩
          go_wp2_with fail
          refine HC.out.mono ?_
          rintro e w2 ⟨rfl, hb2⟩
          have hB := hb0.trans (hb2.mono (by simp))
          go_wp2_with fail
          refine (span_any w2 w.heap.size 0 t (HN.out.keep hb2)).mono ?_
          rw [HV.out]
          rintro e w3 ⟨rfl, rfl⟩
          go_wp2_with fail
          go_ret2
          exact ⟨by rw [HE.out]; rfl, hB⟩
        · have HE := Lib.hid ((hE.trans (if_neg h1)).trans (if_neg h2))
          have HV := Lib.hid (show spanV t = .nilIface from (if_neg h1).trans (if_neg h2))
          have ts1 := @tsNE
          have ts2 := @tsNI
          clear hE h1 h2
          go_enter Tryd.func11, Tryd.ntmps11
          go_wp2_with fail
          refine (time_any _ _).mono ?_
          rw [HT.out]
          rintro e w1 ⟨rfl, rfl⟩
          go_wp2_with fail
          refine HC.out.mono ?_
          rintro e w2 ⟨rfl, hb2⟩
          have hB := hb0.trans (hb2.mono (by simp))
          go_wp2_with fail
          refine (span_any w2 w.heap.size 0 t (HN.out.keep hb2)).mono ?_
          rw [HV.out]
          rintro e w3 ⟨rfl, rfl⟩
          go_wp2_with fail
          go_ret2
          exact ⟨by rw [HE.out]; rfl, hB⟩
    · have hE : deadN now t = (0, 2) := by simp [deadN, hk]
      have hq : (checkN t == 0) = false := by simp [hk]
      generalize checkN t = c at *
      have HE := Lib.hid hE
      have HT := Lib.hid ht
      clear hE ht hk
      go_enter Tryd.func11, Tryd.ntmps11
      go_wp2_with fail
      refine (time_any _ _).mono ?_
      rw [HT.out]
      rintro e w1 ⟨rfl, rfl⟩
      go_wp2_with fail
      refine HC.out.mono ?_
      rintro e w2 ⟨rfl, hb2⟩
      go_wp2_with fail
      go_ret2
      exact ⟨by rw [HE.out]; rfl, hb0.trans (hb2.mono (by simp))⟩
end Go.Proofs.YtjganindmklaaaaDoor
