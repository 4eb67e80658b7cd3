/- terms as trees in memory; Check and what it calls. Conditions: the table of letters reads as laid; lengths fit. -/
import Derived.Test.YthpmdeofdlcccaaGreatDoorTc
namespace Go.Proofs.YthpmdeofdlcccaaGreatDoor
open Go.ChangeShapes Go.WideShapes Go.ChangeAt Go.RowKit
set_option linter.unusedVariables false
mutual
def chk : Tm → Int × Bool → Int × Bool
  | .mk k n s u l, p => chkL l (p.1 + 1, p.2 && oneB k n s u l.length)
def chkL : List Tm → Int × Bool → Int × Bool
  | [], p => p
  | t :: l, p => if 256 < p.1 ∨ p.2 = false then p else chkL l (chk t p)
end
mutual
theorem chk_le : ∀ (t : Tm) (p : Int × Bool), 0 ≤ p.1 → p.1 ≤ 256 → p.1 ≤ (chk t p).1 ∧ (chk t p).1 ≤ 257
  | .mk k n s u l, p, h0, h => by
    rw [chk]
    have := chkL_le l (p.1 + 1, p.2 && oneB k n s u l.length) (by simp; omega) (by simp; omega)
    simp at this
    omega
theorem chkL_le : ∀ (l : List Tm) (p : Int × Bool), 0 ≤ p.1 → p.1 ≤ 257 → p.1 ≤ (chkL l p).1 ∧ (chkL l p).1 ≤ 257
  | [], p, h0, h => by rw [chkL]; omega
  | t :: l, p, h0, h => by
    rw [chkL]
    split
    · omega
    · have h1 := chk_le t p h0 (by omega)
      have h2 := chkL_le l (chk t p) (by omega) h1.2
      omega
end
/-- the closure's own blocks -/
def Chks (w : World) (pn pk pw : Nat) (c : Int) (ok : Bool) : Prop :=
  w.heap[pn]? = some (.cells #[.int .i64 c] 3 (0, 0)) ∧ w.heap[pk]? = some (.cells #[.bool ok] 4 (0, 0)) ∧ w.heap[pw]? = some (.cells #[.func (.func 80) #[] #[.pointer (some ⟨pn, 0, none⟩), .pointer (some ⟨pk, 0, none⟩), .pointer (some ⟨pw, 0, none⟩)]] 113 (0, 0))
def two (pn pk : Nat) (k : Nat) : Prop := k = pn ∨ k = pk
theorem Chks.small {w : World} {pn pk pw : Nat} {c : Int} {ok : Bool} (h : Chks w pn pk pw c ok) : Small w (two pn pk) := by
  rintro k (rfl | rfl)
  · exact ⟨_, _, _, h.1, by simp⟩
  · exact ⟨_, _, _, h.2.1, by simp⟩
theorem Chks.ne {w : World} {pn pk pw : Nat} {c : Int} {ok : Bool} (h : Chks w pn pk pw c ok) : pn ≠ pk ∧ pw ≠ pn ∧ pw ≠ pk := by
  obtain ⟨h1, h2, h3⟩ := h
  refine ⟨?_, ?_, ?_⟩ <;> rintro rfl
  · rw [h1] at h2; injection h2 with h2; injection h2 with _ h2; cases h2
  · rw [h1] at h3; injection h3 with h3; injection h3 with _ h3; cases h3
  · rw [h2] at h3; injection h3 with h3; injection h3 with _ h3; cases h3
def WalkPost (w : World) (pn pk pw : Nat) (p : Int × Bool) (e : Ending) (w' : World) : Prop :=
  (∃ v, e = .returned v) ∧ Chks w' pn pk pw p.1 p.2 ∧ Chg (two pn pk) w w'
end Go.Proofs.YthpmdeofdlcccaaGreatDoor
