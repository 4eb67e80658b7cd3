/- terms as trees in memory. No conditions. -/
import Derived.Test.YthpmdeofdlcccaaGreatDoorK
namespace Go.Proofs.YthpmdeofdlcccaaGreatDoor
open Go.ChangeShapes Go.WideShapes Go.ChangeAt Go.RowKit
set_option linter.unusedVariables false
/-- a term's node at a place: five cells -/
def Node (w : World) (b o : Nat) (k n : Int) (s u : ByteArray) (lv : Value) : Prop :=
  w.cell? ⟨b, o, none⟩ = some (.int .i8 k) ∧ w.cell? ⟨b, o + 1, none⟩ = some (.int .i64 n) ∧ w.cell? ⟨b, o + 2, none⟩ = some (.string s) ∧ w.cell? ⟨b, o + 3, none⟩ = some (.string u) ∧ w.cell? ⟨b, o + 4, none⟩ = some lv
theorem Node.keep {w w' : World} {b o : Nat} {k n : Int} {s u : ByteArray} {lv : Value} (h : Node w b o k n s u lv) (hb : Below w.heap.size w w') : Node w' b o k n s u lv :=
  ⟨keep_cell h.1 hb, keep_cell h.2.1 hb, keep_cell h.2.2.1 hb, keep_cell h.2.2.2.1 hb, keep_cell h.2.2.2.2 hb⟩
inductive Tm where
  | mk (k n : Int) (s u : ByteArray) (l : List Tm)
def Tm.l : Tm → List Tm | .mk _ _ _ _ l => l
def Tm.k : Tm → Int | .mk k _ _ _ _ => k
def Tm.n : Tm → Int | .mk _ n _ _ _ => n
def Tm.s : Tm → ByteArray | .mk _ _ s _ _ => s
def Tm.u : Tm → ByteArray | .mk _ _ _ u _ => u
def fields (k n : Int) (s u : ByteArray) : Prop := (-128 ≤ k ∧ k ≤ 127) ∧ (-9223372036854775808 ≤ n ∧ n ≤ 9223372036854775807) ∧ s.size ≤ 9223372036854775807 ∧ u.size ≤ 9223372036854775807
/-- a term of depth at most f at a place -/
def At : Nat → World → Nat → Nat → Tm → Prop
  | 0, _, _, _, _ => False
  | f + 1, w, b, o, .mk k n s u l => fields k n s u ∧ ∃ ao cap, Node w b o k n s u (.slice ao l.length cap) ∧ l.length ≤ cap ∧ cap ≤ 9223372036854775807 ∧
      ∀ i t, l[i]? = some t → ∃ b' off, ao = some ⟨b', off, none⟩ ∧ At f w b' (off + i * 5) t
/-- a slice's value that reads as a row of terms -/
def Row (f : Nat) (w : World) (v : Value) (l : List Tm) : Prop :=
  ∃ ao cap, v = .slice ao l.length cap ∧ l.length ≤ cap ∧ cap ≤ 9223372036854775807 ∧ ∀ i t, l[i]? = some t → ∃ b' off, ao = some ⟨b', off, none⟩ ∧ At f w b' (off + i * 5) t
theorem At.open {f : Nat} {w : World} {b o : Nat} {k n : Int} {s u : ByteArray} {l : List Tm} (h : At (f + 1) w b o (.mk k n s u l)) : fields k n s u ∧ ∃ lv, Node w b o k n s u lv ∧ Row f w lv l := by
  obtain ⟨h1, ao, cap, h2, h3, h4, h5⟩ := h
  exact ⟨h1, _, h2, ao, cap, rfl, h3, h4, h5⟩
theorem At.shut {f : Nat} {w : World} {b o : Nat} {k n : Int} {s u : ByteArray} {l : List Tm} {lv : Value} (h1 : fields k n s u) (h2 : Node w b o k n s u lv) (h3 : Row f w lv l) : At (f + 1) w b o (.mk k n s u l) := by
  obtain ⟨ao, cap, rfl, h4, h5, h6⟩ := h3
  exact ⟨h1, ao, cap, h2, h4, h5, h6⟩
theorem At.keep {w w' : World} (hb : Below w.heap.size w w') : ∀ {f b o : Nat} {t : Tm}, At f w b o t → At f w' b o t := by
  intro f
  induction f with
  | zero => intro b o t h; exact h.elim
  | succ f ih =>
    intro b o t h
    obtain ⟨k, n, s, u, l⟩ := t
    obtain ⟨h1, ao, cap, h2, h3, h4, h5⟩ := h
    refine ⟨h1, ao, cap, h2.keep hb, h3, h4, fun i t hi => ?_⟩
    obtain ⟨b', off, e, h⟩ := h5 i t hi
    exact ⟨b', off, e, ih h⟩
theorem Row.keep {f : Nat} {w w' : World} {v : Value} {l : List Tm} (h : Row f w v l) (hb : Below w.heap.size w w') : Row f w' v l := by
  obtain ⟨ao, cap, rfl, h4, h5, h6⟩ := h
  refine ⟨ao, cap, rfl, h4, h5, fun i t hi => ?_⟩
  obtain ⟨b', off, e, h⟩ := h6 i t hi
  exact ⟨b', off, e, h.keep hb⟩
theorem Row.at {f : Nat} {w : World} {ao : Option Addr} {n cap : Nat} {l : List Tm} (h : Row f w (.slice ao n cap) l) {i : Nat} {t : Tm} (hi : l[i]? = some t) : ∃ b' off, ao = some ⟨b', off, none⟩ ∧ At f w b' (off + i * 5) t := by
  obtain ⟨ao', cap', e1, _, _, e4⟩ := h
  injection e1 with e1 e2 e3
  subst e1
  exact e4 i t hi
theorem At.more : ∀ {f : Nat} {w : World} {b o : Nat} {t : Tm}, At f w b o t → At (f + 1) w b o t := by
  intro f
  induction f with
  | zero => intro w b o t h; exact h.elim
  | succ f ih =>
    intro w b o t h
    obtain ⟨k, n, s, u, l⟩ := t
    obtain ⟨h1, ao, cap, h2, h3, h4, h5⟩ := h
    refine ⟨h1, ao, cap, h2, h3, h4, fun i t hi => ?_⟩
    obtain ⟨b', off, e, h⟩ := h5 i t hi
    exact ⟨b', off, e, ih h⟩
/-- blocks of one cell hold no term's node -/
def Small (w : World) (S : Nat → Prop) : Prop := ∀ k, S k → ∃ cs e fz, w.heap[k]? = some (.cells cs e fz) ∧ cs.size ≤ 1
theorem Node.apart {w : World} {S : Nat → Prop} {b o : Nat} {k n : Int} {s u : ByteArray} {lv : Value} (h : Node w b o k n s u lv) (hs : Small w S) : ¬ S b := by
  intro hb
  obtain ⟨cs, e, fz, hx, hsz⟩ := hs b hb
  have h1 := h.2.1
  simp only [World.cell?, hx] at h1
  rw [if_neg (by simp)] at h1
  have := (Array.getElem?_eq_some_iff.1 h1).1
  omega
theorem At.chg {S : Nat → Prop} {w w' : World} (hc : Chg S w w') (hs : Small w S) : ∀ {f b o : Nat} {t : Tm}, At f w b o t → At f w' b o t := by
  intro f
  induction f with
  | zero => intro b o t h; exact h.elim
  | succ f ih =>
    intro b o t h
    obtain ⟨k, n, s, u, l⟩ := t
    obtain ⟨h1, ao, cap, h2, h3, h4, h5⟩ := h
    have hb : ¬ S b := h2.apart hs
    refine ⟨h1, ao, cap, ⟨hc.cell h2.1 hb, hc.cell h2.2.1 hb, hc.cell h2.2.2.1 hb, hc.cell h2.2.2.2.1 hb, hc.cell h2.2.2.2.2 hb⟩, h3, h4, fun i t hi => ?_⟩
    obtain ⟨b', off, e, h⟩ := h5 i t hi
    exact ⟨b', off, e, ih h⟩
theorem Row.chg {S : Nat → Prop} {f : Nat} {w w' : World} {v : Value} {l : List Tm} (h : Row f w v l) (hc : Chg S w w') (hs : Small w S) : Row f w' v l := by
  obtain ⟨ao, cap, rfl, h4, h5, h6⟩ := h
  refine ⟨ao, cap, rfl, h4, h5, fun i t hi => ?_⟩
  obtain ⟨b', off, e, h⟩ := h6 i t hi
  exact ⟨b', off, e, h.chg hc hs⟩
/-- a term handed by value -/
def TermV (f : Nat) (w : World) (v : Value) (t : Tm) : Prop := fields t.k t.n t.s t.u ∧ ∃ lv, v = .agg #[.int .i8 t.k, .int .i64 t.n, .string t.s, .string t.u, lv] ∧ Row f w lv t.l
theorem TermV.keep {f : Nat} {w w' : World} {v : Value} {t : Tm} (h : TermV f w v t) (hb : Below w.heap.size w w') : TermV f w' v t := by
  obtain ⟨h1, lv, h2, h3⟩ := h
  exact ⟨h1, lv, h2, h3.keep hb⟩
theorem TermV.boxed {f : Nat} {w : World} {v : Value} {t : Tm} (h : TermV f w v t) : ∃ lv, v = .agg #[.int .i8 t.k, .int .i64 t.n, .string t.s, .string t.u, lv] ∧ At (f + 1) (w.alloc (.cells #[.int .i8 t.k, .int .i64 t.n, .string t.s, .string t.u, lv] 25)) w.heap.size 0 t := by
  obtain ⟨h1, lv, h2, h3⟩ := h
  refine ⟨lv, h2, ?_⟩
  have hb := (Below.refl w.heap.size w).alloc (Nat.le_refl _) (.cells #[.int .i8 t.k, .int .i64 t.n, .string t.s, .string t.u, lv] 25)
  obtain ⟨k, n, s, u, l⟩ := t
  have hh : (w.alloc (.cells #[.int .i8 k, .int .i64 n, .string s, .string u, lv] 25)).heap[w.heap.size]? = some (.cells #[.int .i8 k, .int .i64 n, .string s, .string u, lv] 25 (0, 0)) := (MapKept.heap_alloc w _).1
  exact At.shut h1 ⟨(cells_at hh 0 _ rfl).1, (cells_at hh 1 _ rfl).1, (cells_at hh 2 _ rfl).1, (cells_at hh 3 _ rfl).1, (cells_at hh 4 _ rfl).1⟩ (h3.keep hb)
theorem drop_cons {α : Type} {l : List α} {i : Nat} {t : α} (h : l[i]? = some t) : l.drop i = t :: l.drop (i + 1) := by
  have hlt := (List.getElem?_eq_some_iff.1 h).1
  rw [List.drop_eq_getElem_cons hlt]
  congr 1
  rw [List.getElem?_eq_getElem hlt] at h
  exact Option.some.inj h
/-- an element of a row, and as a value -/
theorem Row.elem {f : Nat} {w : World} {ao : Option Addr} {n cap : Nat} {l : List Tm} (h : Row f w (.slice ao n cap) l) {i : Nat} {t : Tm} (hi : l[i]? = some t) :
    ∃ b' off f' lv, ao = some ⟨b', off, none⟩ ∧ f = f' + 1 ∧ Node w b' (off + i * 5) t.k t.n t.s t.u lv ∧ TermV f' w (.agg #[.int .i8 t.k, .int .i64 t.n, .string t.s, .string t.u, lv]) t := by
  obtain ⟨b', off, e, hat⟩ := h.at hi
  cases f with
  | zero => exact hat.elim
  | succ f =>
    obtain ⟨k, n, s, u, l'⟩ := t
    obtain ⟨h1, lv, h2, h3⟩ := hat.open
    exact ⟨b', off, f, lv, e, rfl, h2, h1, lv, rfl, h3⟩
theorem TermV.mk' {f : Nat} {w : World} {v : Value} {t : Tm} (h : TermV f w v t) : ∃ k n s u l ao cap, t = .mk k n s u l ∧ v = .agg #[.int .i8 k, .int .i64 n, .string s, .string u, .slice ao l.length cap] ∧ fields k n s u ∧ l.length ≤ cap ∧ cap ≤ 9223372036854775807 ∧ Row f w (.slice ao l.length cap) l := by
  obtain ⟨h1, lv, h2, h3⟩ := h
  obtain ⟨k, n, s, u, l⟩ := t
  have h4 := h3
  obtain ⟨ao, cap, rfl, h5, h6, _⟩ := h3
  exact ⟨k, n, s, u, l, ao, cap, rfl, h2, h1, h5, h6, h4⟩
end Go.Proofs.YthpmdeofdlcccaaGreatDoor
