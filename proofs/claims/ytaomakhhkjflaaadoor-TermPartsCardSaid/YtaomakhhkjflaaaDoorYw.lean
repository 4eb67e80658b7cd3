/- terms' texts; what is begun when they are read. In plain Lean. No conditions. -/
import Derived.Test.YtaomakhhkjflaaaDoorYn
import Derived.Test.YtaomakhhkjflaaaDoorYp
namespace Go.Proofs.YtaomakhhkjflaaaDoor
open Go.ChangeShapes Go.WideShapes Go.ChangeAt Go.RowKit
set_option linter.unusedVariables false
/-- a node's text, its parts' texts put in -/
def form (k n : Int) (s u : ByteArray) (tup lst : List UInt8) : List UInt8 :=
  if k = 0 then Lib.itoa n
  else if k = 1 then s.toList
  else if k = 2 then [35, 82, 101, 102, 60] ++ Lib.itoa n ++ [62]
  else if k = 4 then [60] ++ Lib.itoa n ++ [62]
  else if k = 3 then [102, 117, 110, 32] ++ s.toList ++ [58] ++ u.toList ++ [47] ++ Lib.itoa n
  else if k = 5 then [123] ++ tup ++ [125]
  else [91] ++ lst ++ [93]
mutual
/-- a term's text -/
def tx : Tm → List UInt8
  | .mk k n s u l => form k n s u (wrL l) (wrC l)
/-- what stands behind a list's head -/
def wrT : Tm → List UInt8
  | .mk k n s u l => if k = 7 then 44 :: wrC l else if k = 6 then [] else 124 :: form k n s u (wrL l) (wrC l)
/-- texts with commas between -/
def wrL : List Tm → List UInt8
  | [] => []
  | t :: l => tx t ++ wrM l
def wrM : List Tm → List UInt8
  | [] => []
  | t :: l => 44 :: (tx t ++ wrM l)
/-- a cons's parts -/
def wrC : List Tm → List UInt8
  | [] => []
  | t :: l => tx t ++ wrD l
def wrD : List Tm → List UInt8
  | [] => []
  | t :: _ => wrT t
end
mutual
/-- a list's parts, and its tail -/
def spL : Tm → List Tm
  | .mk k _ _ _ l => if k = 7 then spC l else []
def spC : List Tm → List Tm
  | [] => []
  | t :: l => t :: spD l
def spD : List Tm → List Tm
  | [] => []
  | t :: _ => spL t
end
mutual
def spE : Tm → Tm
  | .mk k n s u l => if k = 7 then spF l (.mk k n s u l) else .mk k n s u l
def spF : List Tm → Tm → Tm
  | [], d => d
  | _ :: l, d => spG l d
def spG : List Tm → Tm → Tm
  | [], d => d
  | t :: _, _ => spE t
end
theorem wrT_eq (t : Tm) : wrT t = if t.k = 7 then 44 :: wrC t.l else if t.k = 6 then [] else 124 :: tx t := by
  obtain ⟨k, n, s, u, l⟩ := t
  rw [wrT, tx]
  rfl
theorem wrL_cons (t : Tm) (l : List Tm) : wrL (t :: l) = tx t ++ wrM l := by rw [wrL]
/-- conses are made again -/
def rebuild : List Tm → Tm → Tm
  | [], d => d
  | t :: l, d => .mk 7 0 ⟨#[]⟩ ⟨#[]⟩ [t, rebuild l d]
theorem okT_cons {k n : Int} {s u : ByteArray} {l : List Tm} (h : okT (.mk k n s u l)) (hk : k = 7) : n = 0 ∧ s = ⟨#[]⟩ ∧ u = ⟨#[]⟩ ∧ ∃ a b, l = [a, b] ∧ okT a ∧ okT b := by
  rw [okT] at h
  obtain ⟨h1, h2, h3, h4⟩ := one_parts h.1 (.inr hk)
  have h5 := h4 hk
  refine ⟨h1, h2, h3, ?_⟩
  match l, h5 with
  | [a, b], _ =>
    have h6 := h.2
    rw [okL, okL] at h6
    exact ⟨a, b, rfl, h6.1, h6.2.1⟩
/-- a list of so many nodes is its parts and its tail -/
theorem sp_all : ∀ (N : Nat) (t : Tm), nT t ≤ N → okT t → rebuild (spL t) (spE t) = t ∧ (spE t).k ≠ 7 ∧ okT (spE t) ∧ nL (spL t) + nT (spE t) ≤ nT t ∧ (∀ x ∈ spL t, okT x) ∧ (t.k = 7 → 1 ≤ (spL t).length ∧ nL (spL t) + nT (spE t) < nT t ∧ wrC t.l = wrL (spL t) ++ (if (spE t).k = 6 then [] else 124 :: tx (spE t))) := by
  intro N
  induction N with
  | zero =>
    intro t h
    have := nT_pos t
    omega
  | succ N ih =>
    intro t hN hok
    obtain ⟨k, n, s, u, l⟩ := t
    by_cases hk : k = 7
    · obtain ⟨rfl, rfl, rfl, a, b, rfl, ha, hb⟩ := okT_cons hok hk
      subst hk
      have hn : nT (.mk 7 0 ⟨#[]⟩ ⟨#[]⟩ [a, b]) = nT a + nT b + 1 := by simp [nT, nL]
      rw [hn] at hN ⊢
      have hpa := nT_pos a
      obtain ⟨i1, i2, i3, i4, i5, i6⟩ := ih b (by omega) hb
      have e1 : spL (.mk 7 0 ⟨#[]⟩ ⟨#[]⟩ [a, b]) = a :: spL b := by simp [spL, spC, spD]
      have e2 : spE (.mk 7 0 ⟨#[]⟩ ⟨#[]⟩ [a, b]) = spE b := by simp [spE, spF, spG]
      rw [e1, e2]
      refine ⟨by rw [rebuild, i1], i2, i3, by rw [nL]; omega, fun x hx => ?_, fun _ => ⟨by simp, by rw [nL]; omega, ?_⟩⟩
      · rcases List.mem_cons.1 hx with rfl | hx
        · exact ha
        · exact i5 x hx
      · have e3 : wrC (Tm.mk 7 0 ⟨#[]⟩ ⟨#[]⟩ [a, b]).l = tx a ++ wrT b := by simp [Tm.l, wrC, wrD]
        rw [e3, wrL_cons, wrT_eq]
        by_cases hb7 : b.k = 7
        · rw [if_pos hb7, (i6 hb7).2.2]
          cases hsp : spL b with
          | nil =>
            have := (i6 hb7).1
            rw [hsp] at this
            simp at this
          | cons x xs =>
            rw [wrL_cons, wrM]
            simp
        · have e4 : spL b = [] := by
            obtain ⟨k2, n2, s2, u2, l2⟩ := b
            rw [spL, if_neg (show ¬ k2 = 7 from hb7)]
          have e5 : spE b = b := by
            obtain ⟨k2, n2, s2, u2, l2⟩ := b
            rw [spE, if_neg (show ¬ k2 = 7 from hb7)]
          rw [if_neg hb7, e4, e5, wrM]
          simp
    · have e1 : spL (.mk k n s u l) = [] := by rw [spL, if_neg hk]
      have e2 : spE (.mk k n s u l) = .mk k n s u l := by rw [spE, if_neg hk]
      rw [e1, e2]
      exact ⟨rfl, hk, hok, by rw [nL]; omega, fun x hx => by simp at hx, fun h => absurd h hk⟩
end Go.Proofs.YtaomakhhkjflaaaDoor
