/- terms' texts: what is begun when they are read; how they begin. In plain Lean. No conditions. -/
import Derived.Test.YtaomakhhkjflaaaDoorYw
import Derived.Test.YtaomakhhkjflaaaDoorXa
namespace Go.Proofs.YtaomakhhkjflaaaDoor
open Go.ChangeShapes Go.WideShapes Go.ChangeAt Go.RowKit
set_option linter.unusedVariables false
mutual
def bg : Tm → Nat
  | .mk k _ _ _ l => 1 + (if k = 5 then bgL l else if k = 7 then bgC l else 0)
def bgT : Tm → Nat
  | .mk k _ _ _ l => if k = 7 then bgC l else if k = 6 then 0 else 1 + (if k = 5 then bgL l else 0)
def bgL : List Tm → Nat
  | [] => 0
  | t :: l => bg t + bgL l
def bgC : List Tm → Nat
  | [] => 0
  | t :: l => bg t + bgD l
def bgD : List Tm → Nat
  | [] => 0
  | t :: _ => bgT t
end
theorem bgT_eq (t : Tm) : bgT t = if t.k = 7 then bgC t.l else if t.k = 6 then 0 else bg t := by
  obtain ⟨k, n, s, u, l⟩ := t
  rw [bgT, bg]
  show _ = if k = 7 then bgC l else if k = 6 then 0 else _
  by_cases h : k = 7
  · rw [if_pos h, if_pos h]
  · rw [if_neg h, if_neg h, if_neg h]
theorem bg_sp : ∀ (N : Nat) (t : Tm), nT t ≤ N → okT t → t.k = 7 → bgC t.l = bgL (spL t) + (if (spE t).k = 6 then 0 else bg (spE t)) := by
  intro N
  induction N with
  | zero =>
    intro t h
    have := nT_pos t
    omega
  | succ N ih =>
    intro t hN hok hk
    obtain ⟨k, n, s, u, l⟩ := t
    have hk : k = 7 := hk
    obtain ⟨rfl, rfl, rfl, a, b, rfl, ha, hb⟩ := okT_cons hok hk
    subst hk
    have hn : nT (.mk 7 0 ⟨#[]⟩ ⟨#[]⟩ [a, b]) = nT a + nT b + 1 := by simp [nT, nL]
    rw [hn] at hN
    have hpa := nT_pos a
    have e1 : spL (.mk 7 0 ⟨#[]⟩ ⟨#[]⟩ [a, b]) = a :: spL b := by simp [spL, spC, spD]
    have e2 : spE (.mk 7 0 ⟨#[]⟩ ⟨#[]⟩ [a, b]) = spE b := by simp [spE, spF, spG]
    have e3 : bgC (Tm.mk 7 0 ⟨#[]⟩ ⟨#[]⟩ [a, b]).l = bg a + bgT b := by simp [Tm.l, bgC, bgD]
    rw [e1, e2, e3, bgT_eq, bgL]
    by_cases hb7 : b.k = 7
    · rw [if_pos hb7, ih b (by omega) hb hb7]
      omega
    · obtain ⟨k2, n2, s2, u2, l2⟩ := b
      have e4 : spL (.mk k2 n2 s2 u2 l2) = [] := by rw [spL, if_neg (show ¬ k2 = 7 from hb7)]
      have e5 : spE (.mk k2 n2 s2 u2 l2) = .mk k2 n2 s2 u2 l2 := by rw [spE, if_neg (show ¬ k2 = 7 from hb7)]
      rw [if_neg hb7, e4, e5, bgL]
      omega
theorem bg_le : ∀ (N : Nat) (t : Tm), nT t ≤ N → okT t → bg t ≤ nT t := by
  intro N
  induction N with
  | zero =>
    intro t h
    have := nT_pos t
    omega
  | succ N ih =>
    intro t hN hok
    have hrow : ∀ l : List Tm, (∀ x ∈ l, okT x) → nL l ≤ N → bgL l ≤ nL l := by
      intro l
      induction l with
      | nil => intro _ _; simp [bgL]
      | cons a l ihl =>
        intro ho hl
        rw [nL] at hl ⊢
        rw [bgL]
        have h1 := ih a (by omega) (ho a (by simp))
        have h2 := ihl (fun x hx => ho x (by simp [hx])) (by omega)
        omega
    have hall : ∀ l : List Tm, okL l → ∀ x ∈ l, okT x := by
      intro l
      induction l with
      | nil => intro _ x hx; simp at hx
      | cons a l ihl =>
        intro ho x hx
        rw [okL] at ho
        rcases List.mem_cons.1 hx with rfl | hx
        · exact ho.1
        · exact ihl ho.2 x hx
    by_cases hk : t.k = 7
    · have h1 := bg_sp (N + 1) t hN hok hk
      obtain ⟨h2, h3, h4, h5, h6, h7⟩ := sp_all (N + 1) t hN hok
      obtain ⟨h8, h9, h10⟩ := h7 hk
      have h11 := hrow (spL t) h6 (by omega)
      obtain ⟨k, n, s, u, l⟩ := t
      have hk' : k = 7 := hk
      subst hk'
      have e : bg (.mk 7 n s u l) = 1 + bgC l := by simp [bg]
      rw [e]
      have h1 : bgC l = _ := h1
      rw [h1]
      split
      · omega
      · have := ih _ (by omega) h4
        omega
    · obtain ⟨k, n, s, u, l⟩ := t
      rw [okT] at hok
      rw [nT] at hN ⊢
      rw [bg]
      by_cases h5 : k = 5
      · have := hrow l (hall l hok.2) (by omega)
        simp only [h5, if_true]
        omega
      · rw [if_neg h5, if_neg (show ¬ k = 7 from hk)]
        omega
/-- what may stand behind a term -/
def Foll (l : List UInt8) : Prop := ∀ c l', l = c :: l' → c = 44 ∨ c = 125 ∨ c = 93 ∨ c = 124
theorem Foll.letter {l : List UInt8} (h : Foll l) : ∀ c l', l = c :: l' → isA c = false := fun c l' e => by
  rcases h c l' e with rfl | rfl | rfl | rfl <;> decide
theorem Foll.digit {l : List UInt8} (h : Foll l) : ∀ c l', l = c :: l' → isD c = false := fun c l' e => by
  rcases h c l' e with rfl | rfl | rfl | rfl <;> decide
theorem foll_nil : Foll [] := fun c l' e => by cases e
theorem foll_one {c : UInt8} {l : List UInt8} (h : c = 44 ∨ c = 125 ∨ c = 93 ∨ c = 124) : Foll (c :: l) := fun c' l' e => by
  injection e with e _
  subst e
  exact h
/-- a fun's text, as fun reads it -/
theorem byte_list (s : ByteArray) : s = ⟨s.toList.toArray⟩ := by
  rw [ByteArray.toList_eq]
theorem may_head {s : ByteArray} (h : mayS s = true) : ∃ c l, s.toList = c :: l ∧ 97 ≤ c.toNat ∧ c.toNat ≤ 122 := by
  obtain ⟨-, h1, -, h2⟩ := mayS_letters h
  rw [ByteArray.toList_eq]
  cases hd : s.data.toList with
  | nil => rw [hd] at h1; simp at h1
  | cons c l =>
    rw [hd] at h2
    refine ⟨c, l, rfl, ?_⟩
    simp [lowB, inL] at h2
    omega
theorem dec_cons (u : Nat) : ∃ c l, Lib.decDigits u = c :: l ∧ 48 ≤ c.toNat ∧ c.toNat ≤ 57 := by
  cases h : Lib.decDigits u with
  | nil => exact absurd h (dec_ne u)
  | cons c l => exact ⟨c, l, rfl, dec_digits u c (by rw [h]; simp)⟩
theorem itoa_pos {n : Int} (h : 0 ≤ n) : Lib.itoa n = Lib.decDigits n.toNat := by
  rw [Lib.itoa, if_neg (by omega)]
theorem itoa_neg {n : Int} (h : n < 0) : Lib.itoa n = 45 :: Lib.decDigits n.natAbs := by
  rw [Lib.itoa, if_pos h]
/-- no text begins as a row ends -/
theorem wr_head {t : Tm} (h : okT t) : ∃ c w, tx t = c :: w ∧ c ≠ 93 ∧ c ≠ 125 := by
  obtain ⟨k, n, s, u, l⟩ := t
  rw [okT] at h
  have h1 := h.1
  rw [tx]
  unfold form
  have hi : ∃ c w, Lib.itoa n = c :: w ∧ c ≠ 93 ∧ c ≠ 125 := by
    by_cases h0 : n < 0
    · exact ⟨_, _, itoa_neg h0, by decide, by decide⟩
    · obtain ⟨c, w, e, a, b⟩ := dec_cons n.toNat
      refine ⟨c, w, by rw [itoa_pos (by omega), e], ?_, ?_⟩ <;> rintro rfl <;> revert a b <;> decide
  split
  · exact hi
  · split
    · rename_i _ hk
      subst hk
      simp only [oneB] at h1
      simp at h1
      obtain ⟨c, w, e, a, b⟩ := may_head h1.2
      refine ⟨c, w, e, ?_, ?_⟩ <;> rintro rfl <;> revert a b <;> decide
    · split
      · exact ⟨_, _, rfl, by decide, by decide⟩
      · split
        · exact ⟨_, _, rfl, by decide, by decide⟩
        · split
          · exact ⟨_, _, rfl, by decide, by decide⟩
          · split
            · exact ⟨_, _, rfl, by decide, by decide⟩
            · exact ⟨_, _, rfl, by decide, by decide⟩
end Go.Proofs.YtaomakhhkjflaaaDoor
