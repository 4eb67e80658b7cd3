/- atoms: a table: what it holds; New, Put, Text, Len. Conditions: the table of letters reads as laid; lengths fit. -/
import Derived.Test.YtaldnommgjnnkaaDoorAa
namespace Go.Proofs.YtaldnommgjnnkaaDoor
open Go.ChangeShapes Go.WideShapes Go.ChangeAt Go.RowKit
open Go.Maps (Keyed string_keyed)
set_option linter.unusedVariables false
def skey (s : ByteArray) : Lit := .string s.data.toList
theorem skey_ne {s t : ByteArray} (h : s ≠ t) : skey s ≠ skey t := by
  intro e
  apply h
  injection e with e
  have : s.data = t.data := by rw [← Array.toList_inj]; exact e
  cases s; cases t; simp at this; rw [this]
def numD : List ByteArray → Nat → DataW Unit → DataW Unit
  | [], _, D => D
  | s :: l, n, D => numD l (n + 1) (D.put (skey s) (.lit (.int .i64 n)))
theorem numD_snoc (l : List ByteArray) (s : ByteArray) : ∀ (n : Nat) (D : DataW Unit), numD (l ++ [s]) n D = (numD l n D).put (skey s) (.lit (.int .i64 ((n + l.length : Nat) : Int))) := by
  induction l with
  | nil => intro n D; simp [numD]
  | cons a l ih =>
    intro n D
    show numD (l ++ [s]) (n + 1) _ = (numD l (n + 1) _).put _ _
    rw [ih]
    have : n + 1 + l.length = n + (a :: l).length := by simp; omega
    rw [this]
theorem numD_isMap (l : List ByteArray) : ∀ (n : Nat) (D : DataW Unit), Maps.IsMap D → Maps.IsMap (numD l n D) := by
  induction l with
  | nil => intro n D h; exact h
  | cons a l ih => intro n D h; exact ih _ _ (h.put _ _)
def numsD (l : List ByteArray) : DataW Unit := numD l 0 (.map [])
theorem numsD_isMap (l : List ByteArray) : Maps.IsMap (numsD l) := numD_isMap l 0 _ Maps.isMap_empty
theorem numsD_snoc (l : List ByteArray) (s : ByteArray) : numsD (l ++ [s]) = (numsD l).put (skey s) (.lit (.int .i64 (l.length : Int))) := by
  unfold numsD
  rw [numD_snoc]
  simp
theorem list_snoc_ind {α : Type} {p : List α → Prop} (h0 : p []) (h1 : ∀ l a, p l → p (l ++ [a])) (l : List α) : p l := by
  have : ∀ m : List α, p m.reverse := by
    intro m
    induction m with
    | nil => exact h0
    | cons a m ih => rw [List.reverse_cons]; exact h1 _ _ ih
  simpa using this l.reverse
theorem numsD_has (l : List ByteArray) (s : ByteArray) : Maps.has (numsD l) (skey s) = decide (s ∈ l) := by
  induction l using list_snoc_ind with
  | h0 => rfl
  | h1 l a ih =>
    rw [numsD_snoc]
    by_cases h : s = a
    · subst h
      rw [Maps.has_put_same (numsD_isMap l) (show WideAt.IsKeyLit (skey s) from trivial)]
      simp
    · rw [Maps.has_put_other (skey_ne h), ih]
      simp [h]
def ix (l : List ByteArray) (s : ByteArray) : Nat := l.idxOf s
theorem ix_get {l : List ByteArray} {s : ByteArray} (h : s ∈ l) : l[ix l s]? = some s := by
  unfold ix
  rw [List.getElem?_eq_getElem (List.idxOf_lt_length_of_mem h)]
  simp
theorem ix_lt {l : List ByteArray} {s : ByteArray} (h : s ∈ l) : ix l s < l.length := List.idxOf_lt_length_of_mem h
theorem numsD_at (l : List ByteArray) (s : ByteArray) (hn : l.Nodup) (h : s ∈ l) (z : DataW Unit) : (numsD l).atKey (skey s) z = .lit (.int .i64 (ix l s : Int)) := by
  induction l using list_snoc_ind with
  | h0 => cases h
  | h1 l a ih =>
    rw [List.nodup_append] at hn
    obtain ⟨hn1, _, hn2⟩ := hn
    rw [numsD_snoc]
    unfold ix
    rw [List.idxOf_append]
    by_cases e : s = a
    · subst e
      have hs : s ∉ l := fun hm => hn2 s hm s (by simp) rfl
      rw [Maps.atKey_put_same (numsD_isMap l) (show WideAt.IsKeyLit (skey s) from trivial)]
      simp [hs]
    · have hs : s ∈ l := by simpa [e] using h
      rw [Maps.atKey_put_other (skey_ne e), ih hn1 hs, if_pos hs]
      rfl
/-- a table of atoms -/
def Tab (w : World) (base p mb : Nat) (rv : Value) (most : Nat) (L : List ByteArray) : Prop :=
  0 < base ∧ base ≤ p ∧ base ≤ mb ∧ most ≤ 65536 ∧ L.length ≤ most ∧ L.Nodup ∧ (∀ s ∈ L, mayS s = true) ∧ w.heap[p]? = some (.cells #[.int .i64 most, .map (some mb), rv] 56 (0, 0)) ∧
    w.ownsMap Tryd.prog 9 (plainElem Tryd.prog 3) mb L.length (numsD L) ∧ w.ownsRow base 9 1 rv L.length (L.map Value.string)
def foot (p mb : Nat) (rv : Value) (k : Nat) : Prop := k = p ∨ k = mb ∨ rv.ownBlock = some k
theorem Tab.apart {w : World} {base p mb most : Nat} {rv : Value} {L : List ByteArray} (h : Tab w base p mb rv most L) : p ≠ mb ∧ rv.ownBlock ≠ some p ∧ rv.ownBlock ≠ some mb := by
  obtain ⟨h0, h1, h2, h3, h4, h5, h6, h7, h8, h9⟩ := h
  obtain ⟨es, cl, hm⟩ := map_obj h8
  refine ⟨?_, ?_, ?_⟩
  · rintro rfl
    rw [h7] at hm; cases hm
  · intro e
    obtain ⟨cur, hc⟩ := own_type h9 _ e
    rw [h7] at hc
    injection hc with hc
    injection hc with _ hc
    cases hc
  · intro e
    obtain ⟨cur, hc⟩ := own_type h9 _ e
    rw [hm] at hc; cases hc
theorem Tab.chg {S : Nat → Prop} {w w' : World} {base p mb most : Nat} {rv : Value} {L : List ByteArray} (h : Tab w base p mb rv most L) (hc : Chg S w w') (hs : ∀ k, foot p mb rv k → ¬ S k) : Tab w' base p mb rv most L := by
  obtain ⟨h0, h1, h2, h3, h4, h5, h6, h7, h8, h9⟩ := h
  exact ⟨h0, h1, h2, h3, h4, h5, h6, hc.heap h7 (hs p (.inl rfl)), map_chg h8 hc (hs mb (.inr (.inl rfl))), own_chg h9 hc fun k hk => hs k (.inr (.inr hk))⟩
theorem Tab.keep {w w' : World} {base p mb most : Nat} {rv : Value} {L : List ByteArray} (h : Tab w base p mb rv most L) (hb : Below w.heap.size w w') : Tab w' base p mb rv most L :=
  h.chg (chg_of_below hb fun _ => False) fun _ _ hf => hf
theorem cells_chg {S : Nat → Prop} {w w' : World} {o : Nat} {L : List (Int × Int)} (h : Cells w o L) (hc : Chg S w w') (hs : ¬ S 0) : Cells w' o L := fun j r hj => ⟨hc.cell (h j r hj).1 hs, hc.cell (h j r hj).2 hs⟩
theorem kS : Keyed Tryd.prog 9 := string_keyed Tryd.underlying9
theorem zI (w : World) : (zeroValue 3).run Tryd.prog w = .ok (.int .i64 0) w := by kernel_rfl
theorem keyS {s : ByteArray} (h : s.size ≤ 9223372036854775807) : keyOf Tryd.prog 9 (.string s) = some (skey s) := Go.WideMaps.keyOf_string_mk Tryd.underlying9 (by unfold maxLen; omega)
theorem look_no {w : World} {base p mb most : Nat} {rv : Value} {L : List ByteArray} (h : Tab w base p mb rv most L) {s : ByteArray} (hs : s.size ≤ 9223372036854775807) (hn : s ∉ L) :
    ∃ v, (Instr.lookup 54 (.map (some mb)) (.string s) true).run Tryd.prog w = .ok (.tuple #[v, .bool false]) w := by
  obtain ⟨h0, h1, h2, h3, h4, h5, h6, h7, h8, h9⟩ := h
  obtain ⟨v, ps, hr, _⟩ := h8.look_ok kS Tryd.underlying54 (zI w) (zd := .lit (.int .i64 0)) (zp := []) (plainElem_int Tryd.underlying3 (by decide)) (keyS hs)
  rw [numsD_has] at hr
  simp only [hn, decide_false] at hr
  exact ⟨v, hr⟩
theorem look_yes {w : World} {base p mb most : Nat} {rv : Value} {L : List ByteArray} (h : Tab w base p mb rv most L) {s : ByteArray} (hs : s.size ≤ 9223372036854775807) (hn : s ∈ L) :
    (Instr.lookup 54 (.map (some mb)) (.string s) true).run Tryd.prog w = .ok (.tuple #[.int .i64 (ix L s : Int), .bool true]) w := by
  obtain ⟨h0, h1, h2, h3, h4, h5, h6, h7, h8, h9⟩ := h
  obtain ⟨v, ps, hr, hv⟩ := h8.look_ok kS Tryd.underlying54 (zI w) (zd := .lit (.int .i64 0)) (zp := []) (plainElem_int Tryd.underlying3 (by decide)) (keyS hs)
  rw [numsD_has] at hr
  rw [numsD_at L s h5 hn] at hv
  obtain ⟨c, rfl, hc, _⟩ := plainElem_int_inv Tryd.underlying3 hv
  injection hc with hc _
  injection hc with hc
  injection hc with _ hc
  subst hc
  simp only [hn, decide_true] at hr
  exact hr
theorem Tab.cells {w : World} {base p mb most : Nat} {rv : Value} {L : List ByteArray} (h : Tab w base p mb rv most L) :
    w.cell? ⟨p, 0, none⟩ = some (.int .i64 most) ∧ w.cell? ⟨p, 1, none⟩ = some (.map (some mb)) ∧ w.cell? ⟨p, 2, none⟩ = some rv ∧ w.frozen? ⟨p, 2, none⟩ = false ∧ p < w.heap.size ∧ ∃ ao c, rv = .slice ao L.length c ∧ L.length ≤ 65536 := by
  obtain ⟨h0, h1, h2, h3, h4, h5, h6, h7, h8, h9⟩ := h
  refine ⟨(cells_at h7 0 _ rfl).1, (cells_at h7 1 _ rfl).1, (cells_at h7 2 _ rfl).1, (cells_at h7 2 _ rfl).2, heap_lt h7, ?_⟩
  obtain ⟨_, ⟨rfl, e⟩ | ⟨g, cap, cur, rfl, _⟩⟩ := h9
  · exact ⟨_, _, by rw [e], by omega⟩
  · exact ⟨_, _, rfl, by omega⟩
def PairPost (w : World) (n e : Int) (x : Ending) (w' : World) : Prop := x = .returned (.tuple #[.int .i64 n, .int .i64 e]) ∧ Below w.heap.size w w'
set_option maxHeartbeats 1000000 in
theorem put_no (s : ByteArray) (hs : s.size ≤ 9223372036854775807) (p : Nat) (w : World) (hw : Cells w 0 letL) (hm : mayS s = false) : Calls Tryd.prog 15 #[.pointer (some ⟨p, 0, none⟩), .string s] w (PairPost w 0 2) := by
  have HM := may7 s hs w hw
  rw [hm] at HM
  have HM := Lib.hid HM
  clear hw hm
  go_enter Tryd.func15, Tryd.ntmps15
  go_wp2_with (go_at_call 7; refine HM.out.mono ?_; rintro e w1 ⟨rfl, hb1⟩)
  go_ret2
  exact ⟨rfl, hb1⟩
set_option maxHeartbeats 1000000 in
theorem put_found (s : ByteArray) (hs : s.size ≤ 9223372036854775807) {base p mb most : Nat} {rv : Value} {L : List ByteArray} (w : World) (hw : Cells w 0 letL) (hm : mayS s = true) (ht : Tab w base p mb rv most L) (hL : s ∈ L) :
    Calls Tryd.prog 15 #[.pointer (some ⟨p, 0, none⟩), .string s] w (PairPost w (ix L s) 0) := by
  have HM := may7 s hs w hw
  rw [hm] at HM
  have HM := Lib.hid HM
  clear hw hm
  go_enter Tryd.func15, Tryd.ntmps15
  go_wp2_with fail
  refine HM.out.mono ?_
  rintro e w1 ⟨rfl, hb1⟩
  have ht1 := ht.keep hb1
  obtain ⟨c0, c1, c2, c3, c4, ao, c, hrv, c5⟩ := ht1.cells
  have hrun := look_yes ht1 hs hL
  clear c0 c2 c3 hrv ht ht1 HM hL
  go_wp2_with fail
  go_ret2
  exact ⟨rfl, hb1⟩
set_option maxHeartbeats 1000000 in
theorem put_full (s : ByteArray) (hs : s.size ≤ 9223372036854775807) {base p mb most : Nat} {rv : Value} {L : List ByteArray} (w : World) (hw : Cells w 0 letL) (hm : mayS s = true) (ht : Tab w base p mb rv most L) (hL : s ∉ L) (hl : L.length = most) :
    Calls Tryd.prog 15 #[.pointer (some ⟨p, 0, none⟩), .string s] w (PairPost w 0 20) := by
  have HM := may7 s hs w hw
  rw [hm] at HM
  have HM := Lib.hid HM
  clear hw hm
  subst hl
  go_enter Tryd.func15, Tryd.ntmps15
  go_wp2_with fail
  refine HM.out.mono ?_
  rintro e w1 ⟨rfl, hb1⟩
  have ht1 := ht.keep hb1
  obtain ⟨v, hrun⟩ := look_no ht1 hs hL
  obtain ⟨c0, c1, c2, c3, c4, ao, c, rfl, c5⟩ := ht1.cells
  clear c3 ht ht1 HM hL
  go_wp2_with fail
  go_quiet (fail)
  go_wp2_with fail
  go_ret2
  exact ⟨rfl, below_drewN hb1 _⟩
end Go.Proofs.YtaldnommgjnnkaaDoor
