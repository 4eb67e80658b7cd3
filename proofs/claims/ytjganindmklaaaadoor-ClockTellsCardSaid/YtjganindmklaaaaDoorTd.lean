/- terms as trees in memory; Check and what it calls. Conditions: the table of letters reads as laid; lengths fit. -/
import Derived.Test.YtjganindmklaaaaDoorTc
namespace Go.Proofs.YtjganindmklaaaaDoor
open Go.ChangeShapes Go.WideShapes Go.ChangeAt Go.RowKit
set_option linter.unusedVariables false
inductive Tm where
  | mk (k n : Int) (s u : ByteArray) (l : List Tm)
def Tm.l : Tm → List Tm | .mk _ _ _ _ l => l
def Tm.k : Tm → Int | .mk k _ _ _ _ => k
def Tm.n : Tm → Int | .mk _ n _ _ _ => n
def Tm.s : Tm → ByteArray | .mk _ _ s _ _ => s
def Tm.u : Tm → ByteArray | .mk _ _ _ u _ => u
def fields (k n : Int) (s u : ByteArray) : Prop := (-128 ≤ k ∧ k ≤ 127) ∧ (-9223372036854775808 ≤ n ∧ n ≤ 9223372036854775807) ∧ s.size ≤ 9223372036854775807 ∧ u.size ≤ 9223372036854775807
/-- a term of depth at most f at a place -/
def At : Nat → World → Nat → Nat → Tm → Prop
  | 0, _, _, _, _ => False
  | f + 1, w, b, o, .mk k n s u l => fields k n s u ∧ ∃ ao cap, Node w b o k n s u (.slice ao l.length cap) ∧ l.length ≤ cap ∧ cap ≤ 9223372036854775807 ∧
      ∀ i t, l[i]? = some t → ∃ b' off, ao = some ⟨b', off, none⟩ ∧ At f w b' (off + i * 5) t
/-- a slice's value that reads as a row of terms -/
def Row (f : Nat) (w : World) (v : Value) (l : List Tm) : Prop :=
  ∃ ao cap, v = .slice ao l.length cap ∧ l.length ≤ cap ∧ cap ≤ 9223372036854775807 ∧ ∀ i t, l[i]? = some t → ∃ b' off, ao = some ⟨b', off, none⟩ ∧ At f w b' (off + i * 5) t
theorem At.open {f : Nat} {w : World} {b o : Nat} {k n : Int} {s u : ByteArray} {l : List Tm} (h : At (f + 1) w b o (.mk k n s u l)) : fields k n s u ∧ ∃ lv, Node w b o k n s u lv ∧ Row f w lv l := by
  obtain ⟨h1, ao, cap, h2, h3, h4, h5⟩ := h
  exact ⟨h1, _, h2, ao, cap, rfl, h3, h4, h5⟩
theorem At.shut {f : Nat} {w : World} {b o : Nat} {k n : Int} {s u : ByteArray} {l : List Tm} {lv : Value} (h1 : fields k n s u) (h2 : Node w b o k n s u lv) (h3 : Row f w lv l) : At (f + 1) w b o (.mk k n s u l) := by
  obtain ⟨ao, cap, rfl, h4, h5, h6⟩ := h3
  exact ⟨h1, ao, cap, h2, h4, h5, h6⟩
theorem At.keep {w w' : World} (hb : Below w.heap.size w w') : ∀ {f b o : Nat} {t : Tm}, At f w b o t → At f w' b o t := by
  intro f
  induction f with
  | zero => intro b o t h; exact h.elim
  | succ f ih =>
    intro b o t h
    obtain ⟨k, n, s, u, l⟩ := t
    obtain ⟨h1, ao, cap, h2, h3, h4, h5⟩ := h
    refine ⟨h1, ao, cap, h2.keep hb, h3, h4, fun i t hi => ?_⟩
    obtain ⟨b', off, e, h⟩ := h5 i t hi
    exact ⟨b', off, e, ih h⟩
theorem Row.keep {f : Nat} {w w' : World} {v : Value} {l : List Tm} (h : Row f w v l) (hb : Below w.heap.size w w') : Row f w' v l := by
  obtain ⟨ao, cap, rfl, h4, h5, h6⟩ := h
  refine ⟨ao, cap, rfl, h4, h5, fun i t hi => ?_⟩
  obtain ⟨b', off, e, h⟩ := h6 i t hi
  exact ⟨b', off, e, h.keep hb⟩
theorem Row.at {f : Nat} {w : World} {ao : Option Addr} {n cap : Nat} {l : List Tm} (h : Row f w (.slice ao n cap) l) {i : Nat} {t : Tm} (hi : l[i]? = some t) : ∃ b' off, ao = some ⟨b', off, none⟩ ∧ At f w b' (off + i * 5) t := by
  obtain ⟨ao', cap', e1, _, _, e4⟩ := h
  injection e1 with e1 e2 e3
  subst e1
  exact e4 i t hi
theorem At.more : ∀ {f : Nat} {w : World} {b o : Nat} {t : Tm}, At f w b o t → At (f + 1) w b o t := by
  intro f
  induction f with
  | zero => intro w b o t h; exact h.elim
  | succ f ih =>
    intro w b o t h
    obtain ⟨k, n, s, u, l⟩ := t
    obtain ⟨h1, ao, cap, h2, h3, h4, h5⟩ := h
    refine ⟨h1, ao, cap, h2, h3, h4, fun i t hi => ?_⟩
    obtain ⟨b', off, e, h⟩ := h5 i t hi
    exact ⟨b', off, e, ih h⟩
/-- blocks of one cell hold no term's node -/
def Small (w : World) (S : Nat → Prop) : Prop := ∀ k, S k → ∃ cs e fz, w.heap[k]? = some (.cells cs e fz) ∧ cs.size ≤ 1
theorem Node.apart {w : World} {S : Nat → Prop} {b o : Nat} {k n : Int} {s u : ByteArray} {lv : Value} (h : Node w b o k n s u lv) (hs : Small w S) : ¬ S b := by
  intro hb
  obtain ⟨cs, e, fz, hx, hsz⟩ := hs b hb
  have h1 := h.2.1
  simp only [World.cell?, hx] at h1
  rw [if_neg (by simp)] at h1
  have := (Array.getElem?_eq_some_iff.1 h1).1
  omega
theorem At.chg {S : Nat → Prop} {w w' : World} (hc : Chg S w w') (hs : Small w S) : ∀ {f b o : Nat} {t : Tm}, At f w b o t → At f w' b o t := by
  intro f
  induction f with
  | zero => intro b o t h; exact h.elim
  | succ f ih =>
    intro b o t h
    obtain ⟨k, n, s, u, l⟩ := t
    obtain ⟨h1, ao, cap, h2, h3, h4, h5⟩ := h
    have hb : ¬ S b := h2.apart hs
    refine ⟨h1, ao, cap, ⟨hc.cell h2.1 hb, hc.cell h2.2.1 hb, hc.cell h2.2.2.1 hb, hc.cell h2.2.2.2.1 hb, hc.cell h2.2.2.2.2 hb⟩, h3, h4, fun i t hi => ?_⟩
    obtain ⟨b', off, e, h⟩ := h5 i t hi
    exact ⟨b', off, e, ih h⟩
theorem Row.chg {S : Nat → Prop} {f : Nat} {w w' : World} {v : Value} {l : List Tm} (h : Row f w v l) (hc : Chg S w w') (hs : Small w S) : Row f w' v l := by
  obtain ⟨ao, cap, rfl, h4, h5, h6⟩ := h
  refine ⟨ao, cap, rfl, h4, h5, fun i t hi => ?_⟩
  obtain ⟨b', off, e, h⟩ := h6 i t hi
  exact ⟨b', off, e, h.chg hc hs⟩
mutual
def chk : Tm → Int × Bool → Int × Bool
  | .mk k n s u l, p => chkL l (p.1 + 1, p.2 && oneB k n s u l.length)
def chkL : List Tm → Int × Bool → Int × Bool
  | [], p => p
  | t :: l, p => if 256 < p.1 ∨ p.2 = false then p else chkL l (chk t p)
end
mutual
theorem chk_le : ∀ (t : Tm) (p : Int × Bool), 0 ≤ p.1 → p.1 ≤ 256 → p.1 ≤ (chk t p).1 ∧ (chk t p).1 ≤ 257
  | .mk k n s u l, p, h0, h => by
    rw [chk]
    have := chkL_le l (p.1 + 1, p.2 && oneB k n s u l.length) (by simp; omega) (by simp; omega)
    simp at this
    omega
theorem chkL_le : ∀ (l : List Tm) (p : Int × Bool), 0 ≤ p.1 → p.1 ≤ 257 → p.1 ≤ (chkL l p).1 ∧ (chkL l p).1 ≤ 257
  | [], p, h0, h => by rw [chkL]; omega
  | t :: l, p, h0, h => by
    rw [chkL]
    split
    · omega
    · have h1 := chk_le t p h0 (by omega)
      have h2 := chkL_le l (chk t p) (by omega) h1.2
      omega
end
/-- the closure's own blocks -/
def Chks (w : World) (pn pk pw : Nat) (c : Int) (ok : Bool) : Prop :=
  w.heap[pn]? = some (.cells #[.int .i64 c] 3 (0, 0)) ∧ w.heap[pk]? = some (.cells #[.bool ok] 4 (0, 0)) ∧ w.heap[pw]? = some (.cells #[.func (.func 27) #[] #[.pointer (some ⟨pn, 0, none⟩), .pointer (some ⟨pk, 0, none⟩), .pointer (some ⟨pw, 0, none⟩)]] 49 (0, 0))
def two (pn pk : Nat) (k : Nat) : Prop := k = pn ∨ k = pk
theorem Chks.small {w : World} {pn pk pw : Nat} {c : Int} {ok : Bool} (h : Chks w pn pk pw c ok) : Small w (two pn pk) := by
  rintro k (rfl | rfl)
  · exact ⟨_, _, _, h.1, by simp⟩
  · exact ⟨_, _, _, h.2.1, by simp⟩
theorem Chks.ne {w : World} {pn pk pw : Nat} {c : Int} {ok : Bool} (h : Chks w pn pk pw c ok) : pn ≠ pk ∧ pw ≠ pn ∧ pw ≠ pk := by
  obtain ⟨h1, h2, h3⟩ := h
  refine ⟨?_, ?_, ?_⟩ <;> rintro rfl
  · rw [h1] at h2; injection h2 with h2; injection h2 with _ h2; cases h2
  · rw [h1] at h3; injection h3 with h3; injection h3 with _ h3; cases h3
  · rw [h2] at h3; injection h3 with h3; injection h3 with _ h3; cases h3
def WalkPost (w : World) (pn pk pw : Nat) (p : Int × Bool) (e : Ending) (w' : World) : Prop :=
  (∃ v, e = .returned v) ∧ Chks w' pn pk pw p.1 p.2 ∧ Chg (two pn pk) w w'
end Go.Proofs.YtjganindmklaaaaDoor
