/- clock: time, Turn, Due, Left, Deadline; wakes. Conditions: the table of letters reads as laid; numbers and terms read. -/
/- clock: Left, span, Deadline; wakes. Conditions: the table of letters reads as laid; numbers and terms read. -/
/- the unit's ack, stop. Conditions: what is handed over reads; the letters stand. -/
/- the unit: stop. -/
/- the unit's time, reason. Conditions: what is handed over reads; the letters stand. -/
/- the unit's reason. Conditions: what is handed over reads; the letters stand. -/
import Derived.Test.YthpmdeofdlcccaaGreatDoorTf
import Derived.Test.YthpmdeofdlcccaaGreatDoorMs4
namespace Go.Proofs.YthpmdeofdlcccaaGreatDoor
open Go.ChangeShapes Go.WideShapes Go.ChangeAt Go.RowKit
set_option linter.unusedVariables false
def i64 (n : Int) : Prop := -9223372036854775808 ≤ n ∧ n ≤ 9223372036854775807
def timeB (n : Int) : Bool := decide (0 ≤ n) && decide (n ≤ 1099511627776)
theorem timeB_t {n : Int} (h : timeB n = true) : 0 ≤ n ∧ n ≤ 1099511627776 := by simpa [timeB] using h
theorem timeB_f {n : Int} (h : timeB n = false) : n < 0 ∨ 1099511627776 < n := by
  simp [timeB] at h
  omega
theorem timeB_mk {n : Int} (h : 0 ≤ n ∧ n ≤ 1099511627776) : timeB n = true := by simpa [timeB] using h
theorem time_any (n : Int) (w : World) : Calls Tryz.prog 90 #[.int .i64 n] w (SameB w (timeB n)) := by
  by_cases h1 : 0 ≤ n
  · by_cases h2 : n ≤ 1099511627776
    · have : timeB n = true := timeB_mk ⟨h1, h2⟩
      rw [this]
      go_enter Tryz.func90, Tryz.ntmps90
      go_wp2_with fail
      go_ret
      exact ⟨rfl, rfl⟩
    · have : timeB n = false := by simp [timeB]; omega
      rw [this]
      have hd : decide (n ≤ 1099511627776) = false := by simpa using h2
      go_enter Tryz.func90, Tryz.ntmps90
      go_wp2_with fail
      go_ret
      exact ⟨rfl, rfl⟩
  · have : timeB n = false := by simp [timeB]; omega
    rw [this]
    have hd : decide (0 ≤ n) = false := by simpa using h1
    go_enter Tryz.func90, Tryz.ntmps90
    go_wp2_with fail
    go_ret
    exact ⟨rfl, rfl⟩
def turnB (now k : Int) : Bool := timeB now && (decide (1 ≤ k) && decide (k ≤ 1099511627776 - now))
def turnN (now k : Int) : Int := if turnB now k = true then now + k else now
def TwoPost (w : World) (n : Int) (b : Bool) (e : Ending) (w' : World) : Prop := e = .returned (.tuple #[.int .i64 n, .bool b]) ∧ w = w'
def dueB (now d : Int) : Bool := timeB now && (timeB d && decide (d ≤ now))
theorem due_any (now d : Int) (w : World) : Calls Tryz.prog 75 #[.int .i64 now, .int .i64 d] w (SameB w (dueB now d)) := by
  unfold dueB
  cases ht : timeB now
  · have HT := Lib.hid ht
    clear ht
    go_enter Tryz.func75, Tryz.ntmps75
    go_wp2_with fail
    refine (time_any _ _).mono ?_
    rw [HT.out]
    rintro e w1 ⟨rfl, rfl⟩
    go_wp2_with fail
    go_ret
    exact ⟨rfl, rfl⟩
  · have HT := Lib.hid ht
    clear ht
    cases hu : timeB d
    · have HU := Lib.hid hu
      clear hu
      go_enter Tryz.func75, Tryz.ntmps75
      go_wp2_with fail
      refine (time_any _ _).mono ?_
      rw [HT.out]
      rintro e w1 ⟨rfl, rfl⟩
      go_wp2_with fail
      refine (time_any _ _).mono ?_
      rw [HU.out]
      rintro e w1 ⟨rfl, rfl⟩
      go_wp2_with fail
      go_ret
      exact ⟨rfl, rfl⟩
    · have HU := Lib.hid hu
      clear hu
      go_enter Tryz.func75, Tryz.ntmps75
      go_wp2_with fail
      refine (time_any _ _).mono ?_
      rw [HT.out]
      rintro e w1 ⟨rfl, rfl⟩
      go_wp2_with fail
      refine (time_any _ _).mono ?_
      rw [HU.out]
      rintro e w1 ⟨rfl, rfl⟩
      go_wp2_with fail
      go_ret
      exact ⟨rfl, rfl⟩
def leftN (now d : Int) : Int := if (timeB now && timeB d) = true then max (d - now) 0 else -1
def NumPost (w : World) (n : Int) (e : Ending) (w' : World) : Prop := e = .returned (.int .i64 n) ∧ w = w'
end Go.Proofs.YthpmdeofdlcccaaGreatDoor
namespace Go.Proofs.YthpmdeofdlcccaaGreatDoor
open Go.ChangeShapes Go.WideShapes Go.ChangeAt Go.RowKit
set_option linter.unusedVariables false
def sInf : ByteArray := ⟨#[105, 110, 102, 105, 110, 105, 116, 121]⟩
def ValPost (w : World) (v : Value) (e : Ending) (w' : World) : Prop := e = .returned v ∧ w = w'
theorem span_inf (w : World) (b o : Nat) {n : Int} {u : ByteArray} {lv : Value} (h : Node w b o 1 n sInf u lv) : Calls Tryz.prog 98 #[.pointer (some ⟨b, o, none⟩)] w (ValPost w (.iface 137 (.agg #[]))) := by
  obtain ⟨c0, c1, c2, c3, c4⟩ := h
  unfold sInf at c2
  go_enter Tryz.func98, Tryz.ntmps98
  go_wp2_with fail
  go_ret
  exact ⟨rfl, rfl⟩
theorem span_atom (w : World) (b o : Nat) {n : Int} {s u : ByteArray} {lv : Value} (h : Node w b o 1 n s u lv) (hs : s ≠ sInf) : Calls Tryz.prog 98 #[.pointer (some ⟨b, o, none⟩)] w (ValPost w .nilIface) := by
  obtain ⟨c0, c1, c2, c3, c4⟩ := h
  obtain ⟨hq, hq2⟩ := str_ne_of (l := [105, 110, 102, 105, 110, 105, 116, 121]) hs
  clear hs
  go_enter Tryz.func98, Tryz.ntmps98
  go_wp2_with fail
  go_ret
  exact ⟨rfl, rfl⟩
theorem span_int (w : World) (b o : Nat) {n : Int} {s u : ByteArray} {lv : Value} (h : Node w b o 0 n s u lv) (hn : 0 ≤ n) : Calls Tryz.prog 98 #[.pointer (some ⟨b, o, none⟩)] w (ValPost w (.iface 3 (.int .i64 n))) := by
  obtain ⟨c0, c1, c2, c3, c4⟩ := h
  have hd : decide (0 ≤ n) = true := by simpa using hn
  go_enter Tryz.func98, Tryz.ntmps98
  go_wp2_with fail
  go_ret
  exact ⟨rfl, rfl⟩
theorem span_neg (w : World) (b o : Nat) {n : Int} {s u : ByteArray} {lv : Value} (h : Node w b o 0 n s u lv) (hn : n < 0) : Calls Tryz.prog 98 #[.pointer (some ⟨b, o, none⟩)] w (ValPost w .nilIface) := by
  obtain ⟨c0, c1, c2, c3, c4⟩ := h
  have hd : decide (0 ≤ n) = false := by simpa using hn
  go_enter Tryz.func98, Tryz.ntmps98
  go_wp2_with fail
  go_ret
  exact ⟨rfl, rfl⟩
theorem span_no (w : World) (b o : Nat) {k n : Int} {s u : ByteArray} {lv : Value} (h : Node w b o k n s u lv) (h0 : k ≠ 0) (h1 : k ≠ 1) : Calls Tryz.prog 98 #[.pointer (some ⟨b, o, none⟩)] w (ValPost w .nilIface) := by
  obtain ⟨c0, c1, c2, c3, c4⟩ := h
  have d0 : (k == 0) = false := by simp [h0]
  have d1 : (k == 1) = false := by simp [h1]
  clear h0 h1
  go_enter Tryz.func98, Tryz.ntmps98
  go_wp2_with fail
  go_ret
  exact ⟨rfl, rfl⟩
def spanV (t : Tm) : Value := if t.k = 1 ∧ t.s = sInf then .iface 137 (.agg #[]) else if t.k = 0 ∧ 0 ≤ t.n then .iface 3 (.int .i64 t.n) else .nilIface
theorem span_any (w : World) (b o : Nat) (t : Tm) {lv : Value} (h : Node w b o t.k t.n t.s t.u lv) : Calls Tryz.prog 98 #[.pointer (some ⟨b, o, none⟩)] w (ValPost w (spanV t)) := by
  obtain ⟨k, n, s, u, l⟩ := t
  simp only [Tm.k, Tm.n, Tm.s, Tm.u] at h
  simp only [spanV, Tm.k, Tm.n, Tm.s]
  by_cases h1 : k = 1
  · subst h1
    by_cases h2 : s = sInf
    · subst h2
      simpa using span_inf w b o h
    · simpa [h2] using span_atom w b o h h2
  · by_cases h0 : k = 0
    · subst h0
      by_cases h2 : 0 ≤ n
      · simpa [h2] using span_int w b o h h2
      · simpa [h2] using span_neg w b o h (by omega)
    · simpa [h0, h1] using span_no w b o h h0 h1
theorem tsE (w : World) (v : Value) : (Instr.typeAssert (.iface 137 v) 20 137 true).run Tryz.prog w = .ok (.tuple #[v, .bool true]) w := by kernel_rfl
theorem tsI (w : World) (v : Value) : (Instr.typeAssert (.iface 3 v) 20 3 true).run Tryz.prog w = .ok (.tuple #[v, .bool true]) w := by kernel_rfl
theorem tsIE (w : World) (v : Value) : (Instr.typeAssert (.iface 3 v) 20 137 true).run Tryz.prog w = .ok (.tuple #[.agg #[], .bool false]) w := by kernel_rfl
theorem tsNE (w : World) : (Instr.typeAssert .nilIface 20 137 true).run Tryz.prog w = .ok (.tuple #[.agg #[], .bool false]) w := by kernel_rfl
theorem tsNI (w : World) : (Instr.typeAssert .nilIface 20 3 true).run Tryz.prog w = .ok (.tuple #[.int .i64 0, .bool false]) w := by kernel_rfl
def deadN (now : Int) (t : Tm) : Int × Int :=
  if timeB now = false ∨ checkN t ≠ 0 then (0, 2) else if t.k = 1 ∧ t.s = sInf then (-2, 0) else if t.k = 0 ∧ 0 ≤ t.n then (now + min t.n (1099511627776 - now), 0) else (0, 2)
def DeadPost (w : World) (p : Int × Int) (e : Ending) (w' : World) : Prop := e = .returned (.tuple #[.int .i64 p.1, .int .i64 p.2]) ∧ Below w.heap.size w w'
set_option maxHeartbeats 1000000 in
theorem dead_any (now : Int) (f : Nat) (t : Tm) (v : Value) (w : World) (hw : Cells w 0 letL) (h : TermV f w v t) : Calls Tryz.prog 89 #[.int .i64 now, v] w (DeadPost w (deadN now t)) := by
  have hv := h
  obtain ⟨lv, rfl, hat⟩ := h.boxed
  have hb0 := (Below.refl w.heap.size w).alloc (Nat.le_refl _) (.cells #[.int .i8 t.k, .int .i64 t.n, .string t.s, .string t.u, lv] 25)
  have hN : Node (w.alloc (.cells #[.int .i8 t.k, .int .i64 t.n, .string t.s, .string t.u, lv] 25)) w.heap.size 0 t.k t.n t.s t.u lv := by
    have hh : (w.alloc (.cells #[.int .i8 t.k, .int .i64 t.n, .string t.s, .string t.u, lv] 25)).heap[w.heap.size]? = some (.cells #[.int .i8 t.k, .int .i64 t.n, .string t.s, .string t.u, lv] 25 (0, 0)) := (MapKept.heap_alloc w _).1
    exact ⟨(cells_at hh 0 _ rfl).1, (cells_at hh 1 _ rfl).1, (cells_at hh 2 _ rfl).1, (cells_at hh 3 _ rfl).1, (cells_at hh 4 _ rfl).1⟩
  have HC := Lib.hid (check_any f t _ _ (keepCells hw hb0) (hv.keep hb0))
  have HN := Lib.hid hN
  clear hN hat hv h hw
  cases ht : timeB now
  · have hE : deadN now t = (0, 2) := by simp [deadN, ht]
    have HE := Lib.hid hE
    have HT := Lib.hid ht
    clear hE ht
    go_enter Tryz.func89, Tryz.ntmps89
    go_wp2_with fail
    refine (time_any _ _).mono ?_
    rw [HT.out]
    rintro e w1 ⟨rfl, rfl⟩
    go_wp2_with fail
    go_ret2
    exact ⟨by rw [HE.out]; rfl, hb0⟩
  · obtain ⟨b1, b2⟩ := timeB_t ht
    by_cases hk : checkN t = 0
    · rw [hk] at HC
      have hE : deadN now t = if t.k = 1 ∧ t.s = sInf then (-2, 0) else if t.k = 0 ∧ 0 ≤ t.n then (now + min t.n (1099511627776 - now), 0) else (0, 2) := by simp [deadN, ht, hk]
      have HT := Lib.hid ht
      clear ht hk
      by_cases h1 : t.k = 1 ∧ t.s = sInf
      · have HE := Lib.hid (hE.trans (if_pos h1))
        have HV := Lib.hid (show spanV t = .iface 137 (.agg #[]) from if_pos h1)
        have ts := @tsE
        clear hE h1
        go_enter Tryz.func89, Tryz.ntmps89
        go_wp2_with fail
        refine (time_any _ _).mono ?_
        rw [HT.out]
        rintro e w1 ⟨rfl, rfl⟩
        go_wp2_with fail
        refine HC.out.mono ?_
        rintro e w2 ⟨rfl, hb2⟩
        have hB := hb0.trans (hb2.mono (by simp))
        go_wp2_with fail
        refine (span_any w2 w.heap.size 0 t (HN.out.keep hb2)).mono ?_
        rw [HV.out]
        rintro e w3 ⟨rfl, rfl⟩
        go_wp2_with fail
        go_ret2
        exact ⟨by rw [HE.out]; rfl, hB.alloc hB.size _⟩
      · by_cases h2 : t.k = 0 ∧ 0 ≤ t.n
        · have HE := Lib.hid ((hE.trans (if_neg h1)).trans (if_pos h2))
          have HV := Lib.hid (show spanV t = .iface 3 (.int .i64 t.n) from (if_neg h1).trans (if_pos h2))
          have ts1 := @tsIE
          have ts2 := @tsI
          have hn0 := h2.2
          clear hE h1 h2
          go_enter Tryz.func89, Tryz.ntmps89
          go_wp2_with fail
          refine (time_any _ _).mono ?_
          rw [HT.out]
          rintro e w1 ⟨rfl, rfl⟩
          go_wp2_with fail
          refine HC.out.mono ?_
          rintro e w2 ⟨rfl, hb2⟩
          have hB := hb0.trans (hb2.mono (by simp))
          go_wp2_with fail
          refine (span_any w2 w.heap.size 0 t (HN.out.keep hb2)).mono ?_
          rw [HV.out]
          rintro e w3 ⟨rfl, rfl⟩
          go_wp2_with fail
          go_ret2
          exact ⟨by rw [HE.out]; rfl, hB⟩
        · have HE := Lib.hid ((hE.trans (if_neg h1)).trans (if_neg h2))
          have HV := Lib.hid (show spanV t = .nilIface from (if_neg h1).trans (if_neg h2))
          have ts1 := @tsNE
          have ts2 := @tsNI
          clear hE h1 h2
          go_enter Tryz.func89, Tryz.ntmps89
          go_wp2_with fail
          refine (time_any _ _).mono ?_
          rw [HT.out]
          rintro e w1 ⟨rfl, rfl⟩
          go_wp2_with fail
          refine HC.out.mono ?_
          rintro e w2 ⟨rfl, hb2⟩
          have hB := hb0.trans (hb2.mono (by simp))
          go_wp2_with fail
          refine (span_any w2 w.heap.size 0 t (HN.out.keep hb2)).mono ?_
          rw [HV.out]
          rintro e w3 ⟨rfl, rfl⟩
          go_wp2_with fail
          go_ret2
          exact ⟨by rw [HE.out]; rfl, hB⟩
    · have hE : deadN now t = (0, 2) := by simp [deadN, hk]
      have hq : (checkN t == 0) = false := by simp [hk]
      generalize checkN t = c at *
      have HE := Lib.hid hE
      have HT := Lib.hid ht
      clear hE ht hk
      go_enter Tryz.func89, Tryz.ntmps89
      go_wp2_with fail
      refine (time_any _ _).mono ?_
      rw [HT.out]
      rintro e w1 ⟨rfl, rfl⟩
      go_wp2_with fail
      refine HC.out.mono ?_
      rintro e w2 ⟨rfl, hb2⟩
      go_wp2_with fail
      go_ret2
      exact ⟨by rw [HE.out]; rfl, hb0.trans (hb2.mono (by simp))⟩
end Go.Proofs.YthpmdeofdlcccaaGreatDoor
namespace Go.Proofs.YthpmdeofdlcccaaGreatDoor
open Go.ChangeShapes Go.WideShapes Go.ChangeAt Go.RowKit
set_option linter.unusedVariables false
set_option linter.unusedSimpArgs false
set_option maxRecDepth 100000
/-- M, and the unit's blocks -/
abbrev MU (M : Nat → Prop) (ub : Nat) (ev : Value) : Nat → Prop := fun k => M k ∨ UnB ub ev k
theorem mu_lt {M : Nat → Prop} {w : World} {ub : Nat} {cs : List Value} {ev : Value} {E : List Ef} (h : UnOk w ub cs ev E) (hM : ∀ k, M k → k < w.heap.size) : ∀ k, MU M ub ev k → k < w.heap.size := fun k hk => by
  rcases hk with hk | hk | hk
  · exact hM k hk
  · rw [hk]; exact heap_lt h.hU
  · exact own_lt h.hown (Nat.le_refl _) k hk
theorem un_te {M : Nat → Prop} {w w' : World} {ub : Nat} {ev ev' : Value} {x : TE} (hc : Chg (UnB ub ev) w w') (hn : ∀ k, k < w.heap.size → ev'.ownBlock = some k → ev.ownBlock = some k) (h : TeOk (MU M ub ev) w x) : TeOk (MU M ub ev') w' x :=
  h.chg hc (fun k hk _ => .inr hk) (fun k hk hl => hk.imp id (fun h => h.imp id (hn k hl)))
/-- a step of the unit, and a term that it has made -/
def UnT (M : Nat → Prop) (w : World) (ub : Nat) (ev : Value) (cs' : List Value) (E' : List Ef) (x : TE) (e : Ending) (w' : World) : Prop :=
  (∃ v, e = .returned v) ∧ ∃ ev', UnOk w' ub cs' ev' E' ∧ Chg (UnB ub ev) w w' ∧ (∀ k, k < w.heap.size → ev'.ownBlock = some k → ev.ownBlock = some k) ∧ TeOk (MU M ub ev') w' x
def oursE (pid : Int) (a : TE) : Ef := ⟨2, pid, a, chZ⟩
theorem ack_x (M : Nat → Prop) (w : World) (hM : ∀ k, M k → k < w.heap.size) (hc : Cells w 0 letL) (n : Int) (x : TE) (hx : TeOk M w x) : Calls Tryz.prog 16 #[.int .i64 n, .agg #[.int .i8 x.k, .int .i64 x.n, .string x.s, .string x.u, .slice x.ao x.l.length x.cap]] w fun e w' => ∃ a : TE, e = .returned (.agg #[.int .i8 a.k, .int .i64 a.n, .string a.s, .string a.u, .slice a.ao a.l.length a.cap]) ∧ a.t = ackV (sureN n) x.t ∧ TeOk M w' a ∧ Below w.heap.size w w' := ack_any M w hM hc n x hx
def AkS (ub q : Nat) (pid self : Int) (x : TE) (W : World) : Prop := W.cell? ⟨ub, 1, none⟩ = some (.int .i64 pid) ∧ W.cell? ⟨ub, 28, none⟩ = some (.int .i64 self) ∧ W.cell? ⟨q, 0, none⟩ = some (.int .i8 x.k) ∧ W.cell? ⟨q, 1, none⟩ = some (.int .i64 x.n) ∧ W.cell? ⟨q, 2, none⟩ = some (.string x.s) ∧ W.cell? ⟨q, 3, none⟩ = some (.string x.u) ∧ W.cell? ⟨q, 4, none⟩ = some (.slice x.ao x.l.length x.cap)
theorem AkS.keep {ub q : Nat} {pid self : Int} {x : TE} {W W' : World} (h : AkS ub q pid self x W) (hb : Below W.heap.size W W') : AkS ub q pid self x W' := ⟨keep_cell h.1 hb, keep_cell h.2.1 hb, keep_cell h.2.2.1 hb, keep_cell h.2.2.2.1 hb, keep_cell h.2.2.2.2.1 hb, keep_cell h.2.2.2.2.2.1 hb, keep_cell h.2.2.2.2.2.2 hb⟩
set_option maxHeartbeats 4000000 in
theorem uack_any (M : Nat → Prop) (w : World) (hM : ∀ k, M k → k < w.heap.size) (hc : Cells w 0 letL) (ub : Nat) (m : Mc) (i : Inn) (ev : Value) (E : List Ef) (h : UnOk w ub (unL m i) ev E) (hn : E.length ≤ 100) (x : TE) (hx : TeOk (MU M ub ev) w x) :
    Calls Tryz.prog 73 #[.pointer (some ⟨ub, 0, none⟩), .agg x.cells.toArray] w (fun e w' => ∃ a : TE, a.t = ackV (sureN i.self) x.t ∧ UnT M w ub ev (unL m i) (E ++ [oursE m.pid a]) a e w') := by
  have hb1 := (Below.refl w.heap.size w).alloc (Nat.le_refl _) (.cells x.cells.toArray 25)
  have n1 := heap_new w (.cells x.cells.toArray 25)
  have HL := Lib.hid (heap_lt h.hU)
  have HOL := Lib.hid (own_lt h.hown (Nat.le_refl _))
  have HMU := Lib.hid (mu_lt h hM)
  have HH := Lib.hid (And.intro (h.keep hb1) (And.intro n1 (And.intro hb1 (And.intro hx hc))))
  clear h n1 hb1 hx hc hM
  go_enter Tryz.func73, Tryz.ntmps73
  go_wp2_with fail
  generalize w.alloc (.cells x.cells.toArray 25) = w1 at *
  have hdr : Below w1.heap.size w1 w1.drew := (Below.refl _ _).drew
  have hu := HH.out.1.keep hdr
  have hbx := BxS.of (keep_heap HH.out.2.1 hdr)
  have hS : AkS ub w.heap.size m.pid i.self x w1.drew := ⟨hu.cell (i := 1) rfl, hu.cell (i := 28) rfl, hbx.1, hbx.2.1, hbx.2.2.1, hbx.2.2.2.1, hbx.2.2.2.2⟩
  have hB := HH.out.2.2.1.trans (hdr.mono HH.out.2.2.1.size)
  have hxx := HH.out.2.2.2.1.keep hB
  have hn1 := keep_heap HH.out.2.1 hdr
  have hcc := keepCells HH.out.2.2.2.2 hB
  refine region_plan (AkS ub w.heap.size m.pid i.self x) [(0, 0), (1, 0), (2, 0), (3, 0), (4, 0), (5, 0), (6, 0), (7, 0), (8, 0), (9, 0), (10, 0), (11, 0), (12, 1), (13, 0), (14, 1)] (by kernel_rfl) (by kernel_rfl) (by kernel_rfl) hS ?_
  generalize w1.drew = WD at *
  clear hdr HH hbx
  iterate 12 (first | (refine plan_skip rfl ?_ ?_; (focus (rfl)); (try simp only [Act.put, List.setIfInBounds_toArray, List.set_cons_zero, List.set_cons_succ])) | (refine plan_take (v := ?_) rfl ?_ (fun w hSw => ?_) ?_; rotate_left; (focus (rfl)); (focus (unfold AkS at hSw; (go_simp <;> with_reducible rfl))); (try simp only [Act.put, List.setIfInBounds_toArray, List.set_cons_zero, List.set_cons_succ])))
  refine plan_run rfl ?_ (fun K hK => ?_)
  focus (rfl)
  go_simp
  refine (ack_x (MU M ub ev) WD (fun k hk => Nat.lt_of_lt_of_le (HMU.out k hk) hB.size) hcc i.self x hxx).mono ?_
  rintro e W1 ⟨a, rfl, hat, hao, hb1⟩
  have hS1 := hS.keep hb1
  refine hK.out _ _ hS1 ?_
  clear hK K 
  (try simp only [Act.put, List.setIfInBounds_toArray, List.set_cons_zero, List.set_cons_succ])
  have hu1 := hu.keep hb1
  have hB1 := hB.trans (hb1.mono hB.size)
  have hn2 := keep_heap hn1 hb1
  clear hS hu hxx hn1 hcc hB hb1
  iterate 1 (first | (refine plan_skip rfl ?_ ?_; (focus (rfl)); (try simp only [Act.put, List.setIfInBounds_toArray, List.set_cons_zero, List.set_cons_succ])) | (refine plan_take (v := ?_) rfl ?_ (fun w hSw => ?_) ?_; rotate_left; (focus (rfl)); (focus (unfold AkS at hSw; (go_simp <;> with_reducible rfl))); (try simp only [Act.put, List.setIfInBounds_toArray, List.set_cons_zero, List.set_cons_succ])))
  have HC := Lib.hid (effect_any W1 ub _ ev E (oursE m.pid a) hu1 (by omega))
  clear hu1
  refine plan_run rfl ?_ (fun K hK => ?_)
  focus (rfl)
  go_simp
  refine HC.out.mono ?_
  clear HC
  rintro e W3 ⟨⟨v, rfl⟩, ev', hu3, hc3, hb3⟩
  have hq : W3.heap[w.heap.size]? = some (.cells x.cells.toArray 25 (0, 0)) := hc3.heap hn2 (fun h => by
    rcases h with h | h
    · have := HL.out
      omega
    · exact Nat.lt_irrefl _ (HOL.out _ h))
  have hbx := BxS.of hq
  have hS3 : AkS ub w.heap.size m.pid i.self x W3 := ⟨hu3.cell (i := 1) rfl, hu3.cell (i := 28) rfl, hbx.1, hbx.2.1, hbx.2.2.1, hbx.2.2.2.1, hbx.2.2.2.2⟩
  refine hK.out _ _ (hS3) ?_
  clear hK K
  (try simp only [Act.put, List.setIfInBounds_toArray, List.set_cons_zero, List.set_cons_succ])
  refine plan_done ?_
  have HF := Lib.hid (And.intro hat (And.intro hu3 (And.intro (un_trans (chg_of_below hB1 _) (fun _ _ h => h) hc3) (And.intro (fun k hk e => hb3 k (Nat.lt_of_lt_of_le hk hB1.size) e) (un_te hc3 hb3 hao)))))
  clear hS3 hbx hq hu3 hc3 hb3 hat hao hS1 hn2 hB1
  go_wp2_with fail
  go_end0
  refine ⟨a, HF.out.1, ⟨_, rfl⟩, ev', ?_, ?_, ?_, ?_⟩
  · exact HF.out.2.1
  · exact HF.out.2.2.1
  · exact HF.out.2.2.2.1
  · exact HF.out.2.2.2.2
end Go.Proofs.YthpmdeofdlcccaaGreatDoor
namespace Go.Proofs.YthpmdeofdlcccaaGreatDoor
open Go.ChangeShapes Go.WideShapes Go.ChangeAt Go.RowKit
set_option linter.unusedVariables false
set_option linter.unusedSimpArgs false
set_option maxRecDepth 100000
def SpS (q : Nat) (x : TE) (W : World) : Prop := W.cell? ⟨q, 0, none⟩ = some (.int .i8 x.k)
theorem infoT5 (x : TE) : (Tryz.prog.info? 25).map (·.size) = some (#[.int .i8 x.k, .int .i64 x.n, .string x.s, .string x.u, .slice x.ao x.l.length x.cap] : Array Value).size := infoTM' _ rfl
theorem setU (m : Mc) (i : Inn) (x : TE) : setL (unL m i) 10 [.int .i8 x.k, .int .i64 x.n, .string x.s, .string x.u, .slice x.ao x.l.length x.cap] = unL { m with U := x } i := rfl
theorem setT (m : Mc) (i : Inn) (x : TE) : setL (unL m i) 5 [.int .i8 x.k, .int .i64 x.n, .string x.s, .string x.u, .slice x.ao x.l.length x.cap] = unL { m with T := x } i := rfl
theorem setV (m : Mc) (i : Inn) (x : TE) : setL (unL m i) 15 [.int .i8 x.k, .int .i64 x.n, .string x.s, .string x.u, .slice x.ao x.l.length x.cap] = unL { m with V := x } i := rfl
set_option maxHeartbeats 1000000 in
theorem ustop_any (w : World) (ub : Nat) (m : Mc) (i : Inn) (ev : Value) (E : List Ef) (h : UnOk w ub (unL m i) ev E) (x : TE) :
    Calls Tryz.prog 77 #[.pointer (some ⟨ub, 0, none⟩), .agg x.cells.toArray] w (UnP w ub ev (unL { m with U := x, ph := 5 } i) E) := by
  have hb1 := (Below.refl w.heap.size w).alloc (Nat.le_refl _) (.cells x.cells.toArray 25)
  have n1 := heap_new w (.cells x.cells.toArray 25)
  have HL := Lib.hid (heap_lt h.hU)
  obtain ⟨x0, x1, x2, x3, x4⟩ := BxS.of n1
  have HH := Lib.hid (And.intro (h.keep hb1) hb1)
  clear h n1 hb1
  go_enter Tryz.func77, Tryz.ntmps77
  go_wp2_with (with_reducible refine stop_op (o := ⟨_, .store 25 (.tmp 9) (.tmp 6), _, _, _, _⟩) ?_)
  generalize w.alloc (.cells x.cells.toArray 25) = w1 at *
  refine Lib.hid ?_
  refine wpList_store_mid (op := ⟨none, _, _, _, _, _⟩) rfl 25 (.tmp 9) (.tmp 6) rfl ub 10 #[.int .i8 x.k, .int .i64 x.n, .string x.s, .string x.u, .slice x.ao x.l.length x.cap] rfl rfl (HH.out.1.there (by simp)) (infoTM' _ rfl) (by simp [Value.oneCell']) ?_
  have hs : UnOk (w1.setCells ub 10 #[.int .i8 x.k, .int .i64 x.n, .string x.s, .string x.u, .slice x.ao x.l.length x.cap].toList) ub (unL { m with U := x } i) ev E := setU m i x ▸ HH.out.1.setL [.int .i8 x.k, .int .i64 x.n, .string x.s, .string x.u, .slice x.ao x.l.length x.cap] 10 (by simp)
  have HS := Lib.hid (And.intro hs (un_trans (chg_of_below HH.out.2 (UnB ub ev)) (fun _ _ h => h) ((chg_cells [.int .i8 x.k, .int .i64 x.n, .string x.s, .string x.u, .slice x.ao x.l.length x.cap] ub 10 w1).mono (T := UnB ub ev) fun k _ hk => .inl hk)))
  clear hs x0 x1 x2 x3 x4 HH
  generalize w1.setCells ub 10 #[.int .i8 x.k, .int .i64 x.n, .string x.s, .string x.u, .slice x.ao x.l.length x.cap].toList = w2 at *
  have c0 := HS.out.1.cell (i := 0) (v := .int .i8 m.ph) rfl
  have f0 := HS.out.1.frozen (i := 0) (v := .int .i8 m.ph) rfl
  have hs3 : UnOk (w2.setCell ⟨ub, 0, none⟩ (.int .i8 5)) ub (unL { m with U := x, ph := 5 } i) ev E := HS.out.1.set 0 (.int .i8 5) (by omega)
  have HF := Lib.hid (And.intro hs3 (un_trans HS.out.2 (fun _ _ h => h) ((chg_set (w := w2) (p := ⟨ub, 0, none⟩) (.int .i8 5)).mono (T := UnB ub ev) fun k _ hk => .inl hk)))
  clear hs3
  go_wp2_with fail
  go_end0
  refine ⟨⟨_, rfl⟩, ev, ?_, ?_, ?_⟩
  · exact HF.out.1
  · exact HF.out.2
  · exact fun _ _ h => h
end Go.Proofs.YthpmdeofdlcccaaGreatDoor
namespace Go.Proofs.YthpmdeofdlcccaaGreatDoor
open Go.ChangeShapes Go.WideShapes Go.ChangeAt Go.RowKit
set_option linter.unusedVariables false
set_option linter.unusedSimpArgs false
set_option maxRecDepth 100000
/-- some deadline, and may it be -/
def TiPost (w : World) (e : Ending) (w' : World) : Prop := ∃ (n : Int) (b : Bool), e = .returned (.tuple #[.int .i64 n, .bool b]) ∧ Below w.heap.size w w'
def TiS (ub q : Nat) (now : Int) (lv : Value) (b o : Nat) (k n : Int) (s u : ByteArray) (l : Value) (W : World) : Prop := W.cell? ⟨ub, 27, none⟩ = some (.int .i64 now) ∧ W.cell? ⟨q, 4, none⟩ = some lv ∧
  W.cell? ⟨b, o, none⟩ = some (.int .i8 k) ∧ W.cell? ⟨b, o + 1, none⟩ = some (.int .i64 n) ∧ W.cell? ⟨b, o + 2, none⟩ = some (.string s) ∧ W.cell? ⟨b, o + 3, none⟩ = some (.string u) ∧ W.cell? ⟨b, o + 4, none⟩ = some l
theorem TiS.keep {ub q : Nat} {now : Int} {lv : Value} {b o : Nat} {k n : Int} {s u : ByteArray} {l : Value} {W W' : World} (h : TiS ub q now lv b o k n s u l W) (hb : Below W.heap.size W W') : TiS ub q now lv b o k n s u l W' := ⟨keep_cell h.1 hb, keep_cell h.2.1 hb, keep_cell h.2.2.1 hb, keep_cell h.2.2.2.1 hb, keep_cell h.2.2.2.2.1 hb, keep_cell h.2.2.2.2.2.1 hb, keep_cell h.2.2.2.2.2.2 hb⟩
set_option maxHeartbeats 4000000 in
theorem utime_any (M : Nat → Prop) (w : World) (hc : Cells w 0 letL) (ub : Nat) (m : Mc) (i : Inn) (ev : Value) (E : List Ef) (h : UnOk w ub (unL m i) ev E) (x : TE) (hx : TeOk M w x) (j : Nat) (hj : j = 2 ∨ j = 3) :
    Calls Tryz.prog 72 #[.pointer (some ⟨ub, 0, none⟩), .agg x.cells.toArray, .int .i64 j] w (TiPost w) := by
  have hb1 := (Below.refl w.heap.size w).alloc (Nat.le_refl _) (.cells x.cells.toArray 25)
  have n1 := heap_new w (.cells x.cells.toArray 25)
  obtain ⟨x0, x1, x2, x3, x4⟩ := BxS.of n1
  have HL := Lib.hid (heap_lt h.hU)
  have HH := Lib.hid (And.intro (h.keep hb1) (And.intro hb1 (And.intro (keepCells hc hb1) (hx.keep hb1))))
  clear h hb1 hc hx n1
  by_cases hl : x.l.length ≤ j
  · have hl2 : ((x.l.length : Int) ≤ (j : Int)) := by omega
    clear hj
    go_enter Tryz.func72, Tryz.ntmps72
    go_wp2_with fail
    go_ret2
    exact ⟨-2, true, rfl, HH.out.2.1⟩
  · have hl2 : ¬ ((x.l.length : Int) ≤ (j : Int)) := by omega
    have hl3 : ((j : Int) < (x.l.length : Int)) := by omega
    have hl4 : j < x.l.length := by omega
    obtain ⟨b, off, y, e1, ey, hy, py, -⟩ := HH.out.2.2.2.part hl4
    rw [e1] at x4
    have HY := Lib.hid hy
    clear ey hy hj
    go_enter Tryz.func72, Tryz.ntmps72
    go_wp2_with fail
    generalize w.alloc (.cells x.cells.toArray 25) = w1 at *
    have hdr : Below w1.heap.size w1 w1.drew := (Below.refl _ _).drew
    have hu := HH.out.1.keep hdr
    have hpy := py.keep hdr
    have hS : TiS ub w.heap.size i.now (.slice (some ⟨b, off, none⟩) x.l.length x.cap) b (off + j * 5) y.k y.n y.s y.u (.slice y.ao y.l.length y.cap) w1.drew := ⟨hu.cell (i := 27) rfl, keep_cell x4 hdr, hpy.c0, hpy.c1, hpy.c2, hpy.c3, hpy.c4⟩
    have hB := HH.out.2.1.trans (hdr.mono HH.out.2.1.size)
    have hcc := keepCells HH.out.2.2.1 hdr
    have hyy := HY.out.keep hdr
    refine region_plan (TiS ub w.heap.size i.now (.slice (some ⟨b, off, none⟩) x.l.length x.cap) b (off + j * 5) y.k y.n y.s y.u (.slice y.ao y.l.length y.cap)) [(0, 0), (1, 0), (2, 0), (3, 0), (4, 0), (5, 0), (6, 0), (7, 0), (8, 0), (9, 0), (10, 1), (11, 0), (12, 0), (13, 0), (14, 0), (15, 0)] (by kernel_rfl) (by kernel_rfl) (by kernel_rfl) hS ?_
    generalize w1.drew = WD at *
    clear hdr HH hpy hu x0 x1 x2 x3 x4 py HY
    iterate 10 (first | (refine plan_skip rfl ?_ ?_; (focus (rfl)); (try simp only [Act.put, List.setIfInBounds_toArray, List.set_cons_zero, List.set_cons_succ])) | (refine plan_take (v := ?_) rfl ?_ (fun w hSw => ?_) ?_; rotate_left; (focus (rfl)); (focus (unfold TiS at hSw; (go_simp <;> with_reducible rfl))); (try simp only [Act.put, List.setIfInBounds_toArray, List.set_cons_zero, List.set_cons_succ])))
    refine plan_run rfl ?_ (fun K hK => ?_)
    focus (rfl)
    go_simp
    refine (dead_any i.now _ _ _ WD hcc hyy.tv.choose_spec).mono ?_
    rintro e W1 ⟨rfl, hb1⟩
    have hS1 := hS.keep hb1
    refine hK.out _ _ hS1 ?_
    clear hK K 
    (try simp only [Act.put, List.setIfInBounds_toArray, List.set_cons_zero, List.set_cons_succ])
    have HB1 := Lib.hid (hB.trans (hb1.mono hB.size))
    clear hb1 hB hcc hyy hS
    generalize deadN i.now y.t = d at *
    iterate 5 (first | (refine plan_skip rfl ?_ ?_; (focus (rfl)); (try simp only [Act.put, List.setIfInBounds_toArray, List.set_cons_zero, List.set_cons_succ])) | (refine plan_take (v := ?_) rfl ?_ (fun w hSw => ?_) ?_; rotate_left; (focus (rfl)); (focus (unfold TiS at hSw; (go_simp <;> with_reducible rfl))); (try simp only [Act.put, List.setIfInBounds_toArray, List.set_cons_zero, List.set_cons_succ])))
    refine plan_done ?_
    clear hS1
    go_wp2_with fail
    go_ret2
    exact ⟨d.1, _, rfl, HB1.out⟩
end Go.Proofs.YthpmdeofdlcccaaGreatDoor
namespace Go.Proofs.YthpmdeofdlcccaaGreatDoor
open Go.ChangeShapes Go.WideShapes Go.ChangeAt Go.RowKit
set_option linter.unusedVariables false
set_option linter.unusedSimpArgs false
set_option maxRecDepth 100000
def RsS (ub : Nat) (c : Int) (x : TE) (W : World) : Prop := W.cell? ⟨ub, 30, none⟩ = some (.int .i8 c) ∧ W.cell? ⟨ub, 32, none⟩ = some (.int .i8 x.k) ∧ W.cell? ⟨ub, 33, none⟩ = some (.int .i64 x.n) ∧ W.cell? ⟨ub, 34, none⟩ = some (.string x.s) ∧ W.cell? ⟨ub, 35, none⟩ = some (.string x.u) ∧ W.cell? ⟨ub, 36, none⟩ = some (.slice x.ao x.l.length x.cap)
theorem RsS.of {w : World} {ub : Nat} {m : Mc} {i : Inn} {ev : Value} {E : List Ef} (h : UnOk w ub (unL m i) ev E) : RsS ub i.cls i.got w := ⟨h.cell (i := 30) rfl, h.cell (i := 32) rfl, h.cell (i := 33) rfl, h.cell (i := 34) rfl, h.cell (i := 35) rfl, h.cell (i := 36) rfl⟩
theorem RsS.chg {ub : Nat} {c : Int} {x : TE} {W W' : World} {T : Nat → Prop} (h : RsS ub c x W) (hc : Chg T W W') (hn : ¬ T ub) : RsS ub c x W' := ⟨hc.cell h.1 hn, hc.cell h.2.1 hn, hc.cell h.2.2.1 hn, hc.cell h.2.2.2.1 hn, hc.cell h.2.2.2.2.1 hn, hc.cell h.2.2.2.2.2 hn⟩
theorem RsS.keep {ub : Nat} {c : Int} {x : TE} {W W' : World} (h : RsS ub c x W) (hb : Below W.heap.size W W') : RsS ub c x W' := h.chg (chg_of_below hb (fun _ => False)) (fun h => h)
theorem reason_x (M : Nat → Prop) (w : World) (hM : ∀ k, M k → k < w.heap.size) (hc : Cells w 0 letL) (c : Int) (i : Inn) (hx : TeOk M w i.got) : Calls Tryz.prog 88 #[.int .i8 c, .agg #[.int .i8 i.got.k, .int .i64 i.got.n, .string i.got.s, .string i.got.u, .slice i.got.ao i.got.l.length i.got.cap]] w fun e w' => ∃ y : TE, e = .returned (.agg #[.int .i8 y.k, .int .i64 y.n, .string y.s, .string y.u, .slice y.ao y.l.length y.cap]) ∧ TeOk M w' y ∧ Below w.heap.size w w' := reason_any M w hM hc c i.got hx
theorem stuple_x (M : Nat → Prop) (w : World) (hM : ∀ k, M k → k < w.heap.size) (hc : Cells w 0 letL) (v : Value) (E : List TE) (h : TesOk M w v E) (h1 : ∀ c, v ≠ .slice none 0 c ∨ c = 0) (hl : E.length ≤ 4000) :
    Calls Tryz.prog 30 #[v] w fun e w' => ∃ y : TE, e = .returned (.agg #[.int .i8 y.k, .int .i64 y.n, .string y.s, .string y.u, .slice y.ao y.l.length y.cap]) ∧ y.t = tupA (E.map TE.t) ∧ TeOk M w' y ∧ Below w.heap.size w w' := stuple_any M w hM hc v E h h1 hl
set_option maxHeartbeats 4000000 in
theorem ureason_any (M : Nat → Prop) (w : World) (hM : ∀ k, M k → k < w.heap.size) (hc : Cells w 0 letL) (ub : Nat) (m : Mc) (i : Inn) (ev : Value) (E : List Ef) (h : UnOk w ub (unL m i) ev E) (hx : TeOk M w i.got) :
    Calls Tryz.prog 71 #[.pointer (some ⟨ub, 0, none⟩)] w (LsPost M w) := by
  have hb1 := (Below.refl w.heap.size w).alloc (Nat.le_refl _) (.cells zT 25)
  have n1 := heap_new w (.cells zT 25)
  have hs1 : (w.alloc (.cells zT 25)).heap.size = w.heap.size + 1 := by simp
  have HL := Lib.hid (heap_lt h.hU)
  have c30 := (h.keep hb1).cell (i := 30) (v := .int .i8 i.cls) rfl
  have HH := Lib.hid (And.intro (h.keep hb1) (And.intro n1 (And.intro hb1 (And.intro hs1 hc))))
  have HX := Lib.hid (And.intro hx hM)
  clear h hb1 hc hx n1 hM hs1
  by_cases h0 : i.cls = 0
  · have q : (i.cls != 0) = false := by simp [h0]
    clear h0
    go_enter Tryz.func71, Tryz.ntmps71
    go_wp2_with fail
    generalize w.alloc (.cells zT 25) = w1 at *
    have hdr : Below w1.heap.size w1 w1.drew := (Below.refl _ _).drew
    have hS := RsS.of (HH.out.1.keep hdr)
    have hz := keep_heap HH.out.2.1 hdr
    have hB := HH.out.2.2.1.trans (hdr.mono HH.out.2.2.1.size)
    have HC := Lib.hid (HH.out.2.2.2.2)
    have hsd : w.heap.size < w1.drew.heap.size := heap_lt hz
    refine region_plan (RsS ub i.cls i.got) [(1, 0), (2, 0), (3, 0), (4, 0), (5, 0), (0, 1), (6, 1), (7, 1), (8, 1)] (by kernel_rfl) (by kernel_rfl) (by kernel_rfl) hS ?_
    generalize w1.drew = WD at *
    clear hdr HH c30
    iterate 5 (first | (refine plan_skip rfl ?_ ?_; (focus (rfl)); (try simp only [Act.put, List.setIfInBounds_toArray, List.set_cons_zero, List.set_cons_succ])) | (refine plan_take (v := ?_) rfl ?_ (fun w hSw => ?_) ?_; rotate_left; (focus (rfl)); (focus (unfold RsS at hSw; (go_simp <;> with_reducible rfl))); (try simp only [Act.put, List.setIfInBounds_toArray, List.set_cons_zero, List.set_cons_succ])))
    refine plan_run rfl ?_ (fun K hK => ?_)
    focus (rfl)
    go_simp
    refine (satom_x WD _).mono ?_
    rintro e W1 ⟨rfl, hb1⟩
    have hS1 := hS.keep hb1
    refine hK.out _ _ hS1 ?_
    clear hK K 
    (try simp only [Act.put, List.setIfInBounds_toArray, List.set_cons_zero, List.set_cons_succ])
    have hz1 := keep_heap hz hb1
    have hB1 := hB.trans (hb1.mono hB.size)
    have hsd1 : w.heap.size < W1.heap.size := heap_lt hz1
    clear hb1 hB hz hS hsd
    have hba := (Below.refl W1.heap.size W1).alloc (Nat.le_refl _) (.cells #[.int .i8 1, .int .i64 0, .string ⟨#[98, 97, 100, 95, 114, 101, 116, 117, 114, 110, 95, 118, 97, 108, 117, 101]⟩, .string ⟨#[]⟩, .slice none 0 0, .int .i8 i.got.k, .int .i64 i.got.n, .string i.got.s, .string i.got.u, .slice i.got.ao i.got.l.length i.got.cap] 25)
    have hSa := hS1.keep hba
    have hMq : ∀ k, (M k ∨ k = w.heap.size) → k < W1.heap.size := fun k hk => by
      rcases hk with hk | hk
      · have := HX.out.2 k hk
        omega
      · omega
    have hta := two_tes (fun k => M k ∨ k = w.heap.size) W1 hMq (atomT ⟨#[98, 97, 100, 95, 114, 101, 116, 117, 114, 110, 95, 118, 97, 108, 117, 101]⟩) i.got (atomT_ok _ _ _ (by decide)) (HX.out.1.chg (chg_of_below hB1 (fun _ => False)) (fun _ h => h.elim) (fun k hk hl => hk.elim id (fun e => by omega)))
    have HT := Lib.hid (stuple_x _ (W1.alloc (.cells #[.int .i8 1, .int .i64 0, .string ⟨#[98, 97, 100, 95, 114, 101, 116, 117, 114, 110, 95, 118, 97, 108, 117, 101]⟩, .string ⟨#[]⟩, .slice none 0 0, .int .i8 i.got.k, .int .i64 i.got.n, .string i.got.s, .string i.got.u, .slice i.got.ao i.got.l.length i.got.cap] 25)) (fun k hk => Nat.lt_of_lt_of_le (hMq k hk) hba.size) (keepCells (keepCells HC.out hB1) hba) _ _ hta (fun c => .inl (by simp)) (by simp))
    have hza := keep_heap hz1 hba
    have hBa := hB1.trans (hba.mono hB1.size)
    refine plan_run rfl ?_ (fun K hK => ?_)
    focus (rfl)
    go_simp
    refine hK.out _ _ (hSa) ?_
    clear hK K
    (try simp only [Act.put, List.setIfInBounds_toArray, List.set_cons_zero, List.set_cons_succ])
    clear hba hta hS1 hz1 hB1
    generalize W1.alloc (.cells #[.int .i8 1, .int .i64 0, .string ⟨#[98, 97, 100, 95, 114, 101, 116, 117, 114, 110, 95, 118, 97, 108, 117, 101]⟩, .string ⟨#[]⟩, .slice none 0 0, .int .i8 i.got.k, .int .i64 i.got.n, .string i.got.s, .string i.got.u, .slice i.got.ao i.got.l.length i.got.cap] 25) = Wa at *
    refine plan_run rfl ?_ (fun K hK => ?_)
    focus (rfl)
    go_simp
    refine (HT.out).mono ?_
    rintro e W2 ⟨y, rfl, hyt, hy, hb2⟩
    have hS2 := hSa.keep hb2
    refine hK.out _ _ hS2 ?_
    clear hK K 
    (try simp only [Act.put, List.setIfInBounds_toArray, List.set_cons_zero, List.set_cons_succ])
    have hz2 := keep_heap hza hb2
    have hB2 := hBa.trans (hb2.mono hBa.size)
    clear hb2 hBa hza hSa HT hyt
    have hc4 := chg_setRow W2 w.heap.size #[.int .i8 y.k, .int .i64 y.n, .string y.s, .string y.u, .slice y.ao y.l.length y.cap]
    have hZ := And.intro (setRow_heap W2 w.heap.size zT #[.int .i8 y.k, .int .i64 y.n, .string y.s, .string y.u, .slice y.ao y.l.length y.cap] 25 (0, 0) hz2) (And.intro (bel_setRow hB2 hB2.size (Nat.le_refl _) #[.int .i8 y.k, .int .i64 y.n, .string y.s, .string y.u, .slice y.ao y.l.length y.cap]) (hy.chg (M' := M) hc4 (fun k e _ => .inr e) (fun k hk _ => .inl hk)))
    have hS4 := hS2.chg hc4 (fun e => by have := HL.out; omega)
    refine plan_run rfl ?_ (fun K hK => ?_)
    focus (rfl)
    refine wp_store_row 25 (.tmp 2) (.tmp 27) rfl w.heap.size #[.int .i8 y.k, .int .i64 y.n, .string y.s, .string y.u, .slice y.ao y.l.length y.cap] rfl rfl 25 zT hz2 (infoTM' _ rfl) rfl (by simp [Value.oneCell']) ?_
    refine hK.out _ _ (hS4) ?_
    clear hK K
    (try simp only [Act.put, List.setIfInBounds_toArray, List.set_cons_zero, List.set_cons_succ])
    refine plan_done ?_
    have HZ := Lib.hid hZ
    generalize W2.setRow w.heap.size #[.int .i8 y.k, .int .i64 y.n, .string y.s, .string y.u, .slice y.ao y.l.length y.cap] = W3 at *
    clear hZ hS4 hc4 hS2 hz2 hB2 hy
    go_wp2_with fail
    refine ret_cell HZ.out.1 rfl Tryz.underlying25 rfl (infoTM' _ rfl) rfl ⟨y, rfl, ?_, ?_⟩
    · exact HZ.out.2.2
    · exact HZ.out.2.1
  · have q : (i.cls != 0) = true := by simp [h0]
    clear h0
    go_enter Tryz.func71, Tryz.ntmps71
    go_wp2_with fail
    generalize w.alloc (.cells zT 25) = w1 at *
    have hdr : Below w1.heap.size w1 w1.drew := (Below.refl _ _).drew
    have hS := RsS.of (HH.out.1.keep hdr)
    have hz := keep_heap HH.out.2.1 hdr
    have hB := HH.out.2.2.1.trans (hdr.mono HH.out.2.2.1.size)
    have HC := Lib.hid (HH.out.2.2.2.2)
    have hsd : w.heap.size < w1.drew.heap.size := heap_lt hz
    refine region_plan (RsS ub i.cls i.got) [(0, 0), (1, 0), (2, 0), (3, 0), (4, 0), (5, 0), (6, 0), (7, 0), (8, 0), (9, 0), (10, 1), (11, 1)] (by kernel_rfl) (by kernel_rfl) (by kernel_rfl) hS ?_
    generalize w1.drew = WD at *
    clear hdr HH c30
    iterate 10 (first | (refine plan_skip rfl ?_ ?_; (focus (rfl)); (try simp only [Act.put, List.setIfInBounds_toArray, List.set_cons_zero, List.set_cons_succ])) | (refine plan_take (v := ?_) rfl ?_ (fun w hSw => ?_) ?_; rotate_left; (focus (rfl)); (focus (unfold RsS at hSw; (go_simp <;> with_reducible rfl))); (try simp only [Act.put, List.setIfInBounds_toArray, List.set_cons_zero, List.set_cons_succ])))
    refine plan_run rfl ?_ (fun K hK => ?_)
    focus (rfl)
    go_simp
    refine (reason_x (fun k => M k ∨ k = w.heap.size) WD (fun k hk => by rcases hk with hk | hk; have := HX.out.2 k hk; omega; omega) (keepCells HC.out hB) i.cls i (HX.out.1.chg (chg_of_below hB (fun _ => False)) (fun _ h => h.elim) (fun k hk hl => hk.elim id (fun e => by omega)))).mono ?_
    rintro e W2 ⟨y, rfl, hy, hb1⟩
    have hS1 := hS.keep hb1
    refine hK.out _ _ hS1 ?_
    clear hK K 
    (try simp only [Act.put, List.setIfInBounds_toArray, List.set_cons_zero, List.set_cons_succ])
    have hz2 := keep_heap hz hb1
    have hB2 := hB.trans (hb1.mono hB.size)
    have hS2 := hS1
    clear hb1 hB hz hS hsd hS1
    have hc4 := chg_setRow W2 w.heap.size #[.int .i8 y.k, .int .i64 y.n, .string y.s, .string y.u, .slice y.ao y.l.length y.cap]
    have hZ := And.intro (setRow_heap W2 w.heap.size zT #[.int .i8 y.k, .int .i64 y.n, .string y.s, .string y.u, .slice y.ao y.l.length y.cap] 25 (0, 0) hz2) (And.intro (bel_setRow hB2 hB2.size (Nat.le_refl _) #[.int .i8 y.k, .int .i64 y.n, .string y.s, .string y.u, .slice y.ao y.l.length y.cap]) (hy.chg (M' := M) hc4 (fun k e _ => .inr e) (fun k hk _ => .inl hk)))
    have hS4 := hS2.chg hc4 (fun e => by have := HL.out; omega)
    refine plan_run rfl ?_ (fun K hK => ?_)
    focus (rfl)
    refine wp_store_row 25 (.tmp 2) (.tmp 19) rfl w.heap.size #[.int .i8 y.k, .int .i64 y.n, .string y.s, .string y.u, .slice y.ao y.l.length y.cap] rfl rfl 25 zT hz2 (infoTM' _ rfl) rfl (by simp [Value.oneCell']) ?_
    refine hK.out _ _ (hS4) ?_
    clear hK K
    (try simp only [Act.put, List.setIfInBounds_toArray, List.set_cons_zero, List.set_cons_succ])
    refine plan_done ?_
    have HZ := Lib.hid hZ
    generalize W2.setRow w.heap.size #[.int .i8 y.k, .int .i64 y.n, .string y.s, .string y.u, .slice y.ao y.l.length y.cap] = W3 at *
    clear hZ hS4 hc4 hS2 hz2 hB2 hy
    go_wp2_with fail
    refine ret_cell HZ.out.1 rfl Tryz.underlying25 rfl (infoTM' _ rfl) rfl ⟨y, rfl, ?_, ?_⟩
    · exact HZ.out.2.2
    · exact HZ.out.2.1
end Go.Proofs.YthpmdeofdlcccaaGreatDoor
