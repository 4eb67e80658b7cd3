/- heap: words and cells in memory; which words may be. Conditions: the table of letters reads as laid; what comes reads. -/
import Derived.Test.YtfbmjcblnemkgaaDoorTf
import Derived.Test.YtfbmjcblnemkgaaDoorKi
namespace Go.Proofs.YtfbmjcblnemkgaaDoor
open Go.ChangeShapes Go.WideShapes Go.ChangeAt Go.RowKit
set_option linter.unusedVariables false
/-- a word: what its cells hold -/
structure Wd where
  c : Bool
  (a k n : Int)
  (s u : ByteArray)
  ao : Option Addr
  cap : Nat
  l : List Tm
def Wd.t (x : Wd) : Tm := .mk x.k x.n x.s x.u x.l
def Wd.cells (x : Wd) : List Value := [.bool x.c, .int .i64 x.a, .int .i8 x.k, .int .i64 x.n, .string x.s, .string x.u, .slice x.ao x.l.length x.cap]
def Wd.V (x : Wd) : Value := .agg #[.bool x.c, .int .i64 x.a, .int .i8 x.k, .int .i64 x.n, .string x.s, .string x.u, .slice x.ao x.l.length x.cap]
theorem Wd.one (x : Wd) : ∀ u ∈ x.cells, u.oneCell' = true := by
  intro u hu
  simp only [Wd.cells, List.mem_cons, List.not_mem_nil, or_false] at hu
  rcases hu with rfl | rfl | rfl | rfl | rfl | rfl | rfl <;> rfl
def WOk (f : Nat) (w : World) (x : Wd) : Prop := (-9223372036854775808 ≤ x.a ∧ x.a ≤ 9223372036854775807) ∧ fields x.k x.n x.s x.u ∧ Row f w (.slice x.ao x.l.length x.cap) x.l
theorem WOk.keep {f : Nat} {w w' : World} {x : Wd} (h : WOk f w x) (hb : Below w.heap.size w w') : WOk f w' x := ⟨h.1, h.2.1, h.2.2.keep hb⟩
def wcs (L : List Wd) : List Value := L.flatMap Wd.cells
def WRow (w : World) (ao : Option Addr) (L : List Wd) : Prop := ∀ i x, L[i]? = some x → ∃ b off, ao = some ⟨b, off, none⟩ ∧ b < w.heap.size ∧ ∀ j u, x.cells[j]? = some u → w.cell? ⟨b, off + i * 7 + j, none⟩ = some u
theorem WRow.keep {w w' : World} {ao : Option Addr} {L : List Wd} (h : WRow w ao L) (hb : Below w.heap.size w w') : WRow w' ao L := by
  intro i t hi
  obtain ⟨b, off, e, hl, h1⟩ := h i t hi
  exact ⟨b, off, e, Nat.lt_of_lt_of_le hl hb.size, fun j u hj => keep_cell (h1 j u hj) hb⟩
theorem wcs_len : ∀ L : List Wd, (wcs L).length = L.length * 7
  | [] => rfl
  | x :: L => by rw [wcs, List.flatMap_cons, List.length_append, List.length_cons]; have := wcs_len L; rw [wcs] at this; rw [this]; simp [Wd.cells]; omega
theorem wcs_at : ∀ (L : List Wd) (i j : Nat) (x : Wd), L[i]? = some x → j < 7 → (wcs L)[i * 7 + j]? = x.cells[j]?
  | [], _, _, _, h, _ => by simp at h
  | y :: L, 0, j, x, h, hj => by
    simp at h
    subst h
    rw [wcs, List.flatMap_cons, List.getElem?_append_left (by simpa [Wd.cells] using hj)]
    simp
  | y :: L, i + 1, j, x, h, hj => by
    rw [wcs, List.flatMap_cons, List.getElem?_append_right (by simp [Wd.cells]; omega)]
    have := wcs_at L i j x (by simpa using h) hj
    rw [wcs] at this
    rw [← this]
    congr 1
    simp [Wd.cells]
    omega
theorem wcs_split {L : List Wd} {k : Nat} {u : Value} (h : (wcs L)[k]? = some u) : ∃ x, L[k / 7]? = some x ∧ x.cells[k % 7]? = some u := by
  have hk := (List.getElem?_eq_some_iff.1 h).1
  rw [wcs_len] at hk
  have hi : k / 7 < L.length := by omega
  refine ⟨L[k / 7], by simp [hi], ?_⟩
  rw [← wcs_at L (k / 7) (k % 7) L[k / 7] (by simp [hi]) (by omega), ← h]
  congr 1
  omega
/-- a cell of a heap -/
structure HC where
  (k sz : Int)
  lo : Option Addr
  lc : Nat
  l : List Wd
def HC.cells (c : HC) : List Value := [.int .i8 c.k, .int .i64 c.sz, .slice c.lo c.l.length c.lc]
def ccs (C : List HC) : List Value := C.flatMap HC.cells
theorem ccs_len : ∀ C : List HC, (ccs C).length = C.length * 3
  | [] => rfl
  | x :: L => by rw [ccs, List.flatMap_cons, List.length_append, List.length_cons]; have := ccs_len L; rw [ccs] at this; rw [this]; simp [HC.cells]; omega
theorem ccs_at : ∀ (L : List HC) (i j : Nat) (x : HC), L[i]? = some x → j < 3 → (ccs L)[i * 3 + j]? = x.cells[j]?
  | [], _, _, _, h, _ => by simp at h
  | y :: L, 0, j, x, h, hj => by
    simp at h
    subst h
    rw [ccs, List.flatMap_cons, List.getElem?_append_left (by simpa [HC.cells] using hj)]
    simp
  | y :: L, i + 1, j, x, h, hj => by
    rw [ccs, List.flatMap_cons, List.getElem?_append_right (by simp [HC.cells]; omega)]
    have := ccs_at L i j x (by simpa using h) hj
    rw [ccs] at this
    rw [← this]
    congr 1
    simp [HC.cells]
    omega
theorem ccs_snoc (C : List HC) (c : HC) : ccs (C ++ [c]) = ccs C ++ c.cells := by simp [ccs]
def partsB (k : Int) : Bool := decide (k = 5) || decide (k = 7)
/-- may a word be, where there are so many cells? -/
def mayW (n : Nat) (x : Wd) : Bool :=
  if x.c then decide (0 ≤ x.a) && (decide (x.a < n) && (decide (x.k = 0) && (decide (x.n = 0) && (empty x.s && (empty x.u && decide (x.l.length = 0))))))
  else decide (x.a = 0) && (!partsB x.k && decide (checkN x.t = 0))
def okCell (i : Nat) (c : HC) : Prop := partsB c.k = true ∧ 1 ≤ c.sz ∧ c.sz ≤ 256 ∧ c.l.length ≤ 255 ∧ ∀ x ∈ c.l, mayW i x = true
def Good (C : List HC) : Prop := C.length ≤ 1048576 ∧ ∀ (i : Nat) (c : HC), C[i]? = some c → okCell i c
def wordsN (C : List HC) : Nat := (C.map fun c => 1 + c.l.length).sum
theorem words_le {C : List HC} (h : ∀ c ∈ C, c.l.length ≤ 255) : wordsN C ≤ C.length * 256 := by
  induction C with
  | nil => simp [wordsN]
  | cons c C ih =>
    have h1 := h c (by simp)
    have h2 := ih fun x hx => h x (by simp [hx])
    simp only [wordsN, List.map_cons, List.sum_cons, List.length_cons] at h2 ⊢
    omega
theorem Good.words {C : List HC} (h : Good C) : wordsN C ≤ 268435456 := by
  have := words_le (C := C) fun c hc => by
    obtain ⟨i, hi⟩ := List.getElem?_of_mem hc
    exact (h.2 i c hi).2.2.2.1
  have := h.1
  omega
/-- a row of cells of a heap -/
def CRow (w : World) (base : Nat) (v : Value) (C : List HC) : Prop :=
  w.ownsRow base 46 3 v C.length (ccs C) ∧ ∀ c ∈ C, w.ownsRow base 33 7 (.slice c.lo c.l.length c.lc) c.l.length (wcs c.l)
theorem CRow.keep {w w' : World} {base : Nat} {v : Value} {C : List HC} (h : CRow w base v C) (hb : Below w.heap.size w w') : CRow w' base v C := ⟨own_keep h.1 hb, fun c hc => own_keep (h.2 c hc) hb⟩
/-- a heap at a place -/
def Hp (w : World) (base p : Nat) (v : Value) (C : List HC) : Prop := w.heap[p]? = some (.cells #[v, .int .i64 (wordsN C)] 61 (0, 0)) ∧ base ≤ p ∧ CRow w base v C ∧ Good C
theorem Hp.keep {w w' : World} {base p : Nat} {v : Value} {C : List HC} (h : Hp w base p v C) (hb : Below w.heap.size w w') : Hp w' base p v C := ⟨keep_heap h.1 hb, h.2.1, h.2.2.1.keep hb, h.2.2.2⟩
/-- blocks that a heap may turn -/
def heapS (p : Nat) (v : Value) (k : Nat) : Prop := k = p ∨ v.ownBlock = some k
theorem CRow.chg {S : Nat → Prop} {w w' : World} {base : Nat} {v : Value} {C : List HC} (h : CRow w base v C) (hc : Chg S w w') (hS : ∀ k, S k → ∀ cur, w.heap[k]? = some (.cells cur 33 (0, 0)) → False) (hv : ∀ k, v.ownBlock = some k → ¬ S k) : CRow w' base v C := by
  refine ⟨own_chg h.1 hc hv, fun c hcm => own_chg (h.2 c hcm) hc fun k hk hs => ?_⟩
  obtain ⟨cur, hcur⟩ := own_type (h.2 c hcm) k hk
  exact hS k hs cur hcur
theorem Hp.facts {w : World} {base p : Nat} {v : Value} {C : List HC} (h : Hp w base p v C) : ∃ ao cap, v = .slice ao C.length cap ∧ C.length ≤ cap ∧ cap ≤ 9223372036854775807 ∧ w.cell? ⟨p, 0, none⟩ = some (.slice ao C.length cap) ∧ w.frozen? ⟨p, 0, none⟩ = false ∧
    w.cell? ⟨p, 1, none⟩ = some (.int .i64 (wordsN C)) ∧ w.frozen? ⟨p, 1, none⟩ = false ∧ p < w.heap.size ∧ ∀ i c, C[i]? = some c → ∃ b, ao = some ⟨b, 0, none⟩ ∧ ∀ j u, c.cells[j]? = some u → w.cell? ⟨b, i * 3 + j, none⟩ = some u := by
  obtain ⟨h1, -, ⟨h2, -⟩, -⟩ := h
  obtain ⟨c1, c1f⟩ := cells_at h1 0 _ rfl
  obtain ⟨c2, c2f⟩ := cells_at h1 1 _ rfl
  have hcap : ∃ ao cap, v = .slice ao C.length cap ∧ C.length ≤ cap ∧ cap ≤ 9223372036854775807 := by
    obtain ⟨-, ⟨rfl, e⟩ | ⟨g, cap, cur, rfl, hg, hh, h3, h4, r⟩⟩ := h2
    · exact ⟨none, 0, by rw [List.eq_nil_of_length_eq_zero e]; rfl, by omega, by omega⟩
    · exact ⟨_, cap, rfl, h3, by unfold maxLen at h4; omega⟩
  obtain ⟨ao, cap, rfl, h3, h4⟩ := hcap
  refine ⟨ao, cap, rfl, h3, h4, c1, c1f, c2, c2f, heap_lt h1, fun i c hi => ?_⟩
  have hlt := (List.getElem?_eq_some_iff.1 hi).1
  rcases h2.2 with ⟨_, h0⟩ | ⟨g, cap', cur, hv, hg, hh, r⟩
  · omega
  · injection hv with e1 e2 e3
    subst e1 e3
    refine ⟨g, rfl, fun j u hj => ?_⟩
    have hj3 : j < 3 := by have := (List.getElem?_eq_some_iff.1 hj).1; simpa [HC.cells] using this
    rw [h2.cellAt (i * 3 + j) (by omega), ccs_at C i j c hi hj3]
    exact hj
theorem new_any (w : World) : Calls Tryd.prog 7 #[] w fun e w' => e = .returned (.pointer (some ⟨w.heap.size, 0, none⟩)) ∧ Hp w' w.heap.size w.heap.size (.slice none 0 0) [] ∧ Below w.heap.size w w' := by
  have h := heap_new w (.cells #[.slice none 0 0, .int .i64 0] 61)
  have hp : Hp (w.alloc (.cells #[.slice none 0 0, .int .i64 0] 61)) w.heap.size w.heap.size (.slice none 0 0) [] := ⟨h, Nat.le_refl _, ⟨World.ownsRow_nil _ _ _ _, fun c hc => by cases hc⟩, by simp, fun i c hi => by simp at hi⟩
  have HH := Lib.hid hp
  clear h hp
  go_enter Tryd.func7, Tryd.ntmps7
  go_wp2_with fail
  go_ret
  exact ⟨rfl, HH.out, (Below.refl _ _).alloc (Nat.le_refl _) _⟩
theorem len_any (w : World) (base p : Nat) (v : Value) (C : List HC) (h : Hp w base p v C) : Calls Tryd.prog 18 #[.pointer (some ⟨p, 0, none⟩)] w fun e w' => e = .returned (.int .i64 C.length) ∧ w = w' := by
  obtain ⟨ao, cap, -, -, hc, c1, -⟩ := h.facts
  clear h
  go_enter Tryd.func18, Tryd.ntmps18
  go_wp2_with fail
  go_ret
  exact ⟨rfl, rfl⟩
theorem len_nil (w : World) : Calls Tryd.prog 18 #[.pointer none] w fun e w' => e = .returned (.int .i64 0) ∧ w = w' := by
  go_enter Tryd.func18, Tryd.ntmps18
  go_wp2_with fail
  go_ret
  exact ⟨rfl, rfl⟩
theorem parts_any (w : World) (k : Int) : Calls Tryd.prog 27 #[.int .i8 k] w (SameB w (partsB k)) := by
  by_cases h5 : k = 5
  · subst h5
    go_enter Tryd.func27, Tryd.ntmps27
    go_wp2_with fail
    go_ret
    exact ⟨rfl, rfl⟩
  · by_cases h7 : k = 7
    · subst h7
      go_enter Tryd.func27, Tryd.ntmps27
      go_wp2_with fail
      go_ret
      exact ⟨rfl, rfl⟩
    · have e : partsB k = false := by simp [partsB, h5, h7]
      rw [e]
      have d5 : (k == 5) = false := by simp [h5]
      have d7 : (k == 7) = false := by simp [h7]
      clear h5 h7 e
      go_enter Tryd.func27, Tryd.ntmps27
      go_wp2_with fail
      go_ret
      exact ⟨rfl, rfl⟩
def nodesW (C : List HC) (x : Wd) : Int := if x.c then (match C[x.a.toNat]? with | some c => c.sz | none => 0) else 1
theorem nodes_any (w : World) (base p : Nat) (v : Value) (C : List HC) (x : Wd) (h : Hp w base p v C) (hm : mayW C.length x = true) : Calls Tryd.prog 28 #[.pointer (some ⟨p, 0, none⟩), x.V] w fun e w' => e = .returned (.int .i64 (nodesW C x)) ∧ Below w.heap.size w w' := by
  obtain ⟨c, a, k, n, s, u, ao, cap, l⟩ := x
  cases c
  · clear h hm
    go_enter Tryd.func28, Tryd.ntmps28
    simp only [Wd.V]
    go_wp2_with fail
    go_ret
    exact ⟨rfl, (Below.refl _ _).alloc (Nat.le_refl _) _⟩
  · simp only [mayW, if_true, Bool.and_eq_true, decide_eq_true_eq] at hm
    obtain ⟨h1, h2, -⟩ := hm
    obtain ⟨i, rfl⟩ := Int.eq_ofNat_of_zero_le h1
    have hi : i < C.length := by omega
    obtain ⟨d, hd⟩ : ∃ d, C[i]? = some d := ⟨C[i], by simp [hi]⟩
    obtain ⟨vo, vc, -, -, hcm, c1, -, -, -, hps, hcell⟩ := h.facts
    obtain ⟨g, rfl, hg⟩ := hcell i d hd
    have e1 := hg 1 _ rfl
    have hgs := World.block_lt_of_cell? w _ e1
    have HE : Hid (nodesW C ⟨true, i, k, n, s, u, ao, cap, l⟩ = d.sz) := Lib.hid (by simp [nodesW, hd])
    clear h hcell hg hd h1 h2
    go_enter Tryd.func28, Tryd.ntmps28
    simp only [Wd.V]
    go_wp2_with fail
    go_quiet (fail)
    go_wp2_with fail
    go_ret
    exact ⟨by rw [HE.out]; rfl, below_drewN ((Below.refl _ _).alloc (Nat.le_refl _) _) _⟩
end Go.Proofs.YtfbmjcblnemkgaaDoor
