/- the reference's Same; words. Conditions: the terms read. -/
import Derived.Test.YtepfmanbllegiaaDoorTx
import Derived.Test.YtepfmanbllegiaaDoorKz
namespace Go.Proofs.YtepfmanbllegiaaDoor
open Go.ChangeShapes Go.WideShapes Go.ChangeAt Go.RowKit
set_option linter.unusedVariables false
set_option maxRecDepth 100000
mutual
def eqT : Tm → Tm → Bool
  | .mk k n s u l, .mk k' n' s' u' l' => decide (k = k') && (decide (n = n') && (decide (s = s') && (decide (u = u') && (decide (l.length = l'.length) && eqL l l'))))
def eqL : List Tm → List Tm → Bool
  | [], _ => true
  | _ :: _, [] => true
  | a :: l, b :: l' => eqT a b && eqL l l'
end
mutual
theorem eqT_refl : ∀ t : Tm, eqT t t = true
  | .mk k n s u l => by rw [eqT, eqL_refl l]; simp
theorem eqL_refl : ∀ l : List Tm, eqL l l = true
  | [] => by rw [eqL]
  | a :: l => by rw [eqL, eqT_refl a, eqL_refl l]; rfl
end
/-- what a round reads -/
def SmS (q : Nat) (w1 w2 : Value) (b1 o1 b2 o2 : Nat) (k n : Int) (s u : ByteArray) (lv : Value) (k' n' : Int) (s' u' : ByteArray) (lv' : Value) (W : World) : Prop :=
  W.cell? ⟨q, 4, none⟩ = some w1 ∧ W.cell? ⟨q + 1, 4, none⟩ = some w2 ∧ W.cell? ⟨b1, o1, none⟩ = some (.int .i8 k) ∧ W.cell? ⟨b1, o1 + 1, none⟩ = some (.int .i64 n) ∧ W.cell? ⟨b1, o1 + 2, none⟩ = some (.string s) ∧ W.cell? ⟨b1, o1 + 3, none⟩ = some (.string u) ∧ W.cell? ⟨b1, o1 + 4, none⟩ = some lv ∧
  W.cell? ⟨b2, o2, none⟩ = some (.int .i8 k') ∧ W.cell? ⟨b2, o2 + 1, none⟩ = some (.int .i64 n') ∧ W.cell? ⟨b2, o2 + 2, none⟩ = some (.string s') ∧ W.cell? ⟨b2, o2 + 3, none⟩ = some (.string u') ∧ W.cell? ⟨b2, o2 + 4, none⟩ = some lv'
theorem SmS.keep {q : Nat} {w1 w2 : Value} {b1 o1 b2 o2 : Nat} {k n : Int} {s u : ByteArray} {lv : Value} {k' n' : Int} {s' u' : ByteArray} {lv' : Value} {W W' : World} (h : SmS q w1 w2 b1 o1 b2 o2 k n s u lv k' n' s' u' lv' W) (hb : Below W.heap.size W W') : SmS q w1 w2 b1 o1 b2 o2 k n s u lv k' n' s' u' lv' W' := by
  obtain ⟨g1, g2, h1, h2, h3, h4, h5, h6, h7, h8, h9, h10⟩ := h
  exact ⟨keep_cell g1 hb, keep_cell g2 hb, keep_cell h1 hb, keep_cell h2 hb, keep_cell h3 hb, keep_cell h4 hb, keep_cell h5 hb, keep_cell h6 hb, keep_cell h7 hb, keep_cell h8 hb, keep_cell h9 hb, keep_cell h10 hb⟩
end Go.Proofs.YtepfmanbllegiaaDoor
