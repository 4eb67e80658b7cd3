/- terms: how many nodes they have; which may be, node by node. In plain Lean. No conditions. -/
import Derived.Test.YthpmdeofdlcccaaGreatDoorTj
namespace Go.Proofs.YthpmdeofdlcccaaGreatDoor
open Go.ChangeShapes Go.WideShapes Go.ChangeAt Go.RowKit
set_option linter.unusedVariables false
mutual
def nT : Tm → Nat
  | .mk _ _ _ _ l => nL l + 1
def nL : List Tm → Nat
  | [] => 0
  | t :: l => nT t + nL l
end
mutual
def okT : Tm → Prop
  | .mk k n s u l => oneB k n s u l.length = true ∧ okL l
def okL : List Tm → Prop
  | [] => True
  | t :: l => okT t ∧ okL l
end
theorem nT_pos : ∀ t : Tm, 1 ≤ nT t
  | .mk _ _ _ _ l => by rw [nT]; omega
mutual
theorem cnt_of : ∀ (t : Tm) (m : Int), 1 ≤ m → (cnt t m).2 = true → (cnt t m).1 < m → okT t ∧ (cnt t m).1 = nT t
  | .mk k n s u l, m, h, h1, h2 => by
    rw [cnt] at h1 h2 ⊢
    split at h1
    · rename_i ho
      rw [if_pos ho] at h2 ⊢
      have := cntL_of l m 1 (by omega) h h1 h2
      rw [okT, nT]
      exact ⟨⟨ho, this.1⟩, by rw [this.2]; simp; omega⟩
    · cases h1
theorem cntL_of : ∀ (l : List Tm) (m n : Int), 1 ≤ n → n ≤ m → (cntL l m n).2 = true → (cntL l m n).1 < m → okL l ∧ (cntL l m n).1 = n + nL l
  | [], m, n, h1, h2, h3, h4 => by rw [cntL, okL, nL]; simp
  | t :: l, m, n, h1, h2, h3, h4 => by
    rw [cntL] at h3 h4 ⊢
    split at h3
    · rename_i hm
      rw [if_pos hm] at h4
      simp at h4
      omega
    · rename_i hm
      rw [if_neg hm] at h4 ⊢
      split at h3
      · rename_i ht
        rw [if_pos ht] at h4 ⊢
        have hle := cnt_le t (m - n) (by omega)
        have hb := cntL_le l m (n + (cnt t (m - n)).1) (by omega) (by omega)
        have hge : n + (cnt t (m - n)).1 ≤ (cntL l m (n + (cnt t (m - n)).1)).1 := cntL_ge l m _ (by omega) (by omega)
        have a := cnt_of t (m - n) (by omega) ht (by omega)
        have b := cntL_of l m (n + (cnt t (m - n)).1) (by omega) (by omega) h3 h4
        rw [okL, nL]
        exact ⟨⟨a.1, b.1⟩, by rw [b.2, a.2]; simp; omega⟩
      · cases h3
theorem cntL_ge : ∀ (l : List Tm) (m n : Int), 1 ≤ n → n ≤ m → n ≤ (cntL l m n).1
  | [], m, n, h1, h2 => by rw [cntL]; exact Int.le_refl _
  | t :: l, m, n, h1, h2 => by
    rw [cntL]
    split
    · exact Int.le_refl _
    · rename_i hm
      split
      · have hle := cnt_le t (m - n) (by omega)
        have := cntL_ge l m (n + (cnt t (m - n)).1) (by omega) (by omega)
        omega
      · exact Int.le_refl _
end
theorem check_ok {t : Tm} (h : checkN t = 0) : okT t ∧ nT t ≤ 256 := by
  rw [← check_eq] at h
  unfold rcheckN at h
  split at h
  · cases h
  · split at h
    · cases h
    · rename_i h1 h2
      have h3 : (cnt t 257).2 = true := by simpa using h1
      have := cnt_of t 257 (by omega) h3 (by omega)
      exact ⟨this.1, by omega⟩
mutual
theorem siz_eq : ∀ (t : Tm) (m : Int), 1 ≤ m → siz t m = min ((nT t : Nat) : Int) m
  | .mk k n s u l, m, h => by
    rw [siz, nT, sizL_eq l m 1 (by omega) (by omega)]
    simp
    omega
theorem sizL_eq : ∀ (l : List Tm) (m n : Int), 1 ≤ n → n ≤ m → sizL l m n = min (n + (nL l : Nat)) m
  | [], m, n, h1, h2 => by rw [sizL, nL]; simp; omega
  | t :: l, m, n, h1, h2 => by
    rw [sizL, nL]
    split
    · have h3 := siz_eq t (m - n) (by omega)
      have h4 := nT_pos t
      rw [sizL_eq l m _ (by omega) (by omega), h3]
      simp
      omega
    · simp
      omega
end
theorem nL_len : ∀ l : List Tm, l.length ≤ nL l
  | [] => by simp [nL]
  | t :: l => by
    have := nL_len l
    have := nT_pos t
    rw [nL, List.length_cons]
    omega
theorem okL_at : ∀ {l : List Tm} {i : Nat} {t : Tm}, okL l → l[i]? = some t → okT t
  | a :: l, 0, t, h, hi => by
    simp at hi
    subst hi
    rw [okL] at h
    exact h.1
  | a :: l, i + 1, t, h, hi => by
    rw [okL] at h
    exact okL_at h.2 (by simpa using hi)
theorem nL_take : ∀ {l : List Tm} {i : Nat} {t : Tm}, l[i]? = some t → nL (l.take (i + 1)) = nL (l.take i) + nT t
  | a :: l, 0, t, hi => by
    simp at hi
    subst hi
    simp [nL]
  | a :: l, i + 1, t, hi => by
    have := nL_take (l := l) (i := i) (t := t) (by simpa using hi)
    rw [List.take_succ_cons, List.take_succ_cons, nL, nL, this]
    omega
theorem nL_le : ∀ (l : List Tm) (i : Nat), nL (l.take i) ≤ nL l
  | [], i => by simp
  | a :: l, 0 => by simp [nL]
  | a :: l, i + 1 => by
    have := nL_le l i
    rw [List.take_succ_cons, nL, nL]
    omega
/-- what has parts is plain else -/
theorem one_parts {k n : Int} {s u : ByteArray} {len : Nat} (h : oneB k n s u len = true) (hp : k = 5 ∨ k = 7) : n = 0 ∧ s = ⟨#[]⟩ ∧ u = ⟨#[]⟩ ∧ (k = 7 → len = 2) := by
  unfold oneB bareB at h
  rcases hp with rfl | rfl
  · simp at h
    exact ⟨h.1, empty_true h.2.1, empty_true h.2.2, fun h => by cases h⟩
  · simp at h
    exact ⟨h.1.1, empty_true h.1.2.1, empty_true h.1.2.2, fun _ => h.2⟩
end Go.Proofs.YthpmdeofdlcccaaGreatDoor
