/- heap: how many nodes terms have; words read as they did behind others; cells as Make makes them. In plain Lean. No conditions. -/
import Derived.Test.YtfbmjcblnemkgaaDoorJc
import Derived.Test.YtfbmjcblnemkgaaDoorTj
namespace Go.Proofs.YtfbmjcblnemkgaaDoor
open Go.ChangeShapes Go.WideShapes Go.ChangeAt Go.RowKit
set_option linter.unusedVariables false
mutual
def nT : Tm → Nat
  | .mk _ _ _ _ l => nL l + 1
def nL : List Tm → Nat
  | [] => 0
  | t :: l => nT t + nL l
end
mutual
def okT : Tm → Prop
  | .mk k n s u l => oneB k n s u l.length = true ∧ okL l
def okL : List Tm → Prop
  | [] => True
  | t :: l => okT t ∧ okL l
end
theorem nT_pos : ∀ t : Tm, 1 ≤ nT t
  | .mk _ _ _ _ l => by rw [nT]; omega
mutual
theorem cnt_of : ∀ (t : Tm) (m : Int), 1 ≤ m → (cnt t m).2 = true → (cnt t m).1 < m → okT t ∧ (cnt t m).1 = nT t
  | .mk k n s u l, m, h, h1, h2 => by
    rw [cnt] at h1 h2 ⊢
    split at h1
    · rename_i ho
      rw [if_pos ho] at h2 ⊢
      have := cntL_of l m 1 (by omega) h h1 h2
      rw [okT, nT]
      exact ⟨⟨ho, this.1⟩, by rw [this.2]; simp; omega⟩
    · cases h1
theorem cntL_of : ∀ (l : List Tm) (m n : Int), 1 ≤ n → n ≤ m → (cntL l m n).2 = true → (cntL l m n).1 < m → okL l ∧ (cntL l m n).1 = n + nL l
  | [], m, n, h1, h2, h3, h4 => by rw [cntL, okL, nL]; simp
  | t :: l, m, n, h1, h2, h3, h4 => by
    rw [cntL] at h3 h4 ⊢
    split at h3
    · rename_i hm
      rw [if_pos hm] at h4
      simp at h4
      omega
    · rename_i hm
      rw [if_neg hm] at h4 ⊢
      split at h3
      · rename_i ht
        rw [if_pos ht] at h4 ⊢
        have hle := cnt_le t (m - n) (by omega)
        have hb := cntL_le l m (n + (cnt t (m - n)).1) (by omega) (by omega)
        have hge : n + (cnt t (m - n)).1 ≤ (cntL l m (n + (cnt t (m - n)).1)).1 := cntL_ge l m _ (by omega) (by omega)
        have a := cnt_of t (m - n) (by omega) ht (by omega)
        have b := cntL_of l m (n + (cnt t (m - n)).1) (by omega) (by omega) h3 h4
        rw [okL, nL]
        exact ⟨⟨a.1, b.1⟩, by rw [b.2, a.2]; simp; omega⟩
      · cases h3
theorem cntL_ge : ∀ (l : List Tm) (m n : Int), 1 ≤ n → n ≤ m → n ≤ (cntL l m n).1
  | [], m, n, h1, h2 => by rw [cntL]; exact Int.le_refl _
  | t :: l, m, n, h1, h2 => by
    rw [cntL]
    split
    · exact Int.le_refl _
    · rename_i hm
      split
      · have hle := cnt_le t (m - n) (by omega)
        have := cntL_ge l m (n + (cnt t (m - n)).1) (by omega) (by omega)
        omega
      · exact Int.le_refl _
end
theorem check_ok {t : Tm} (h : checkN t = 0) : okT t ∧ nT t ≤ 256 := by
  rw [← check_eq] at h
  unfold rcheckN at h
  split at h
  · cases h
  · split at h
    · cases h
    · rename_i h1 h2
      have h3 : (cnt t 257).2 = true := by simpa using h1
      have := cnt_of t 257 (by omega) h3 (by omega)
      exact ⟨this.1, by omega⟩
mutual
theorem siz_eq : ∀ (t : Tm) (m : Int), 1 ≤ m → siz t m = min ((nT t : Nat) : Int) m
  | .mk k n s u l, m, h => by
    rw [siz, nT, sizL_eq l m 1 (by omega) (by omega)]
    simp
    omega
theorem sizL_eq : ∀ (l : List Tm) (m n : Int), 1 ≤ n → n ≤ m → sizL l m n = min (n + (nL l : Nat)) m
  | [], m, n, h1, h2 => by rw [sizL, nL]; simp; omega
  | t :: l, m, n, h1, h2 => by
    rw [sizL, nL]
    split
    · have h3 := siz_eq t (m - n) (by omega)
      have h4 := nT_pos t
      rw [sizL_eq l m _ (by omega) (by omega), h3]
      simp
      omega
    · simp
      omega
end
theorem nL_len : ∀ l : List Tm, l.length ≤ nL l
  | [] => by simp [nL]
  | t :: l => by
    have := nL_len l
    have := nT_pos t
    rw [nL, List.length_cons]
    omega
theorem okL_at : ∀ {l : List Tm} {i : Nat} {t : Tm}, okL l → l[i]? = some t → okT t
  | a :: l, 0, t, h, hi => by
    simp at hi
    subst hi
    rw [okL] at h
    exact h.1
  | a :: l, i + 1, t, h, hi => by
    rw [okL] at h
    exact okL_at h.2 (by simpa using hi)
theorem nL_take : ∀ {l : List Tm} {i : Nat} {t : Tm}, l[i]? = some t → nL (l.take (i + 1)) = nL (l.take i) + nT t
  | a :: l, 0, t, hi => by
    simp at hi
    subst hi
    simp [nL]
  | a :: l, i + 1, t, hi => by
    have := nL_take (l := l) (i := i) (t := t) (by simpa using hi)
    rw [List.take_succ_cons, List.take_succ_cons, nL, nL, this]
    omega
theorem nL_le : ∀ (l : List Tm) (i : Nat), nL (l.take i) ≤ nL l
  | [], i => by simp
  | a :: l, 0 => by simp [nL]
  | a :: l, i + 1 => by
    have := nL_le l i
    rw [List.take_succ_cons, nL, nL]
    omega
/-- what has parts is plain else -/
theorem one_parts {k n : Int} {s u : ByteArray} {len : Nat} (h : oneB k n s u len = true) (hp : partsB k = true) : n = 0 ∧ s = ⟨#[]⟩ ∧ u = ⟨#[]⟩ ∧ (k = 7 → len = 2) := by
  simp only [partsB, Bool.or_eq_true, decide_eq_true_eq] at hp
  unfold oneB bareB at h
  rcases hp with rfl | rfl
  · simp at h
    exact ⟨h.1, empty_true h.2.1, empty_true h.2.2, fun h => by cases h⟩
  · simp at h
    exact ⟨h.1.1, empty_true h.1.2.1, empty_true h.1.2.2, fun _ => h.2⟩
/-- a leaf's word may be -/
theorem leaf_may {n : Nat} {k a : Int} {s u : ByteArray} {ao : Option Addr} {cap : Nat} {l : List Tm} (h : okT (.mk k a s u l)) (hn : nT (.mk k a s u l) ≤ 256) (hp : partsB k = false) : mayW n ⟨false, 0, k, a, s, u, ao, cap, l⟩ = true := by
  have hc : checkN (.mk k a s u l) = 0 := by
    rw [← check_eq]
    unfold rcheckN
    have := leaf_one h hp
    rw [this]
    simp
  simp only [mayW]
  rw [if_neg (by simp)]
  simp only [hp, Wd.t, hc]
  simp
where
  leaf_one {k a : Int} {s u : ByteArray} {l : List Tm} (h : okT (.mk k a s u l)) (hp : partsB k = false) : cnt (.mk k a s u l) 257 = (1, true) := by
    rw [okT] at h
    rw [cnt, if_pos h.1]
    have hl : l = [] := by
      have ho := h.1
      simp only [partsB, Bool.or_eq_false_iff, decide_eq_false_iff_not] at hp
      unfold oneB bareB at ho
      have : l.length = 0 := by
        split at ho
        · simp at ho; exact (by simpa using ho.1.2.2)
        · split at ho
          · simp at ho; exact (by simpa using ho.1.2.2)
          · split at ho
            · simp at ho; exact (by simpa using ho.1.2.2)
            · split at ho
              · simp at ho; exact (by simpa using ho.1)
              · split at ho
                · exact absurd ‹_› hp.1
                · split at ho
                  · simp at ho; exact (by simpa using ho.2.2.2)
                  · split at ho
                    · exact absurd ‹_› hp.2
                    · cases ho
      exact List.eq_nil_of_length_eq_zero this
    subst hl
    rw [cntL]
/-- behind others -/
theorem may_more {n m : Nat} {x : Wd} (h : mayW n x = true) (hm : n ≤ m) : mayW m x = true := by
  unfold mayW at h ⊢
  split
  · rename_i hc
    rw [if_pos hc] at h
    simp only [Bool.and_eq_true, decide_eq_true_eq] at h ⊢
    exact ⟨h.1, by omega, h.2.2⟩
  · rename_i hc
    rw [if_neg hc] at h
    exact h
theorem may_low {n : Nat} {x : Wd} (h : mayW n x = true) : Low n x := fun hc => by
  unfold mayW at h
  rw [if_pos hc] at h
  simp only [Bool.and_eq_true, decide_eq_true_eq] at h
  exact ⟨h.1, h.2.1⟩
theorem at_more {α : Type} {C D : List α} {i : Nat} {c : α} (h : C[i]? = some c) : (C ++ D)[i]? = some c := by
  have := (List.getElem?_eq_some_iff.1 h).1
  rw [List.getElem?_append_left this]
  exact h
theorem tk_grow {C D : List HC} (hC : Good C) : ∀ (N : Nat) (x : Wd) (M : Nat), Low N x → N ≤ C.length → N ≤ M → tkN C N x = tkN (C ++ D) M x := by
  intro N
  induction N with
  | zero =>
    intro x M hl _ _
    cases hc : x.c
    · rw [tkN_leaf _ _ _ hc, tkN_leaf _ _ _ hc]
    · have := hl hc
      omega
  | succ N ih =>
    intro x M hl hN hM
    cases hc : x.c
    · rw [tkN_leaf _ _ _ hc, tkN_leaf _ _ _ hc]
    · have h1 := hl hc
      obtain ⟨M, rfl⟩ : ∃ M', M = M' + 1 := ⟨M - 1, by omega⟩
      have hlt : x.a.toNat < C.length := by omega
      obtain ⟨c, hcc⟩ : ∃ c, C[x.a.toNat]? = some c := ⟨C[x.a.toNat], by simp [hlt]⟩
      rw [tkN_cell C N x c hc hcc, tkN_cell (C ++ D) M x c hc (at_more hcc)]
      congr 1
      refine List.map_congr_left fun y hy => ih y M (fun h => ?_) (by omega) (by omega)
      have := low_part hC hcc hy h
      omega
theorem nodes_more {C D : List HC} {x : Wd} (h : mayW C.length x = true) : nodesW (C ++ D) x = nodesW C x := by
  unfold nodesW
  split
  · rename_i hc
    have h1 := may_low h hc
    have hlt : x.a.toNat < C.length := by omega
    rw [List.getElem?_append_left hlt]
  · rfl
theorem fold_min {C : List HC} : ∀ (L : List Wd) (n : Int), (∀ x ∈ L, 0 ≤ nodesW C x) → n ≤ 257 → L.foldl (fun n x => min (n + nodesW C x) 257) n = min (n + (L.map (nodesW C)).sum) 257
  | [], n, _, h => by simp; omega
  | x :: L, n, h, h2 => by
    have hx := h x (by simp)
    have hs : ∀ L : List Wd, (∀ x ∈ L, 0 ≤ nodesW C x) → 0 ≤ (L.map (nodesW C)).sum := by
      intro L
      induction L with
      | nil => intro _; simp
      | cons y L ih =>
        intro h
        have := ih fun z hz => h z (by simp [hz])
        have := h y (by simp)
        simp only [List.map_cons, List.sum_cons]
        omega
    have h3 := hs L fun z hz => h z (by simp [hz])
    rw [List.foldl_cons, fold_min L _ (fun z hz => h z (by simp [hz])) (by omega), List.map_cons, List.sum_cons]
    omega
/-- each cell is one that Make makes -/
def Made (C : List HC) : Prop := ∀ i c, C[i]? = some c → c.sz = sizeW (C.take i) c.l
theorem Made.nil : Made [] := fun i c h => by simp at h
theorem Made.snoc {C : List HC} {k : Int} {L : List Wd} {lo : Option Addr} {lc : Nat} (h : Made C) : Made (C ++ [⟨k, sizeW C L, lo, lc, L⟩]) := by
  intro i c hi
  by_cases hl : i < C.length
  · rw [List.getElem?_append_left hl] at hi
    rw [List.take_append_of_le_length (by omega)]
    exact h i c hi
  · have hi2 : i = C.length := by
      have := (List.getElem?_eq_some_iff.1 hi).1
      simp at this
      omega
    subst hi2
    simp at hi
    subst hi
    rw [List.take_append_of_le_length (Nat.le_refl _), List.take_length]
end Go.Proofs.YtfbmjcblnemkgaaDoor
