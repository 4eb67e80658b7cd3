/- decimal digits, written and read. In plain Lean. No conditions. -/
import Derived.Lib.ParseIntB
import Derived.Lib.ItoaNum
namespace Go.Proofs.YtaomakhhkjflaaaDoor
theorem dec_digits (u : Nat) : ∀ c ∈ Lib.decDigits u, 48 ≤ c.toNat ∧ c.toNat ≤ 57 := by
  induction u using Nat.strongRecOn with
  | ind u ih =>
    intro c hc
    rw [Lib.decDigits] at hc
    split at hc
    · simp only [List.mem_singleton] at hc
      subst hc
      rw [UInt8.toNat_ofNat_of_lt' (by show 48 + u < 256; omega)]
      omega
    · rw [List.mem_append, List.mem_singleton] at hc
      rcases hc with hc | rfl
      · exact ih (u / 10) (by omega) c hc
      · rw [UInt8.toNat_ofNat_of_lt' (by show 48 + u % 10 < 256; omega)]
        omega
theorem dec_ne (u : Nat) : Lib.decDigits u ≠ [] := by
  rw [Lib.decDigits]
  split <;> simp
theorem dec_one {u : Nat} (h : u < 10) : Lib.decDigits u = [UInt8.ofNat (48 + u)] := by rw [Lib.decDigits, dif_pos h]
/-- no nought ahead -/
theorem dec_head (u : Nat) : ∀ c l, Lib.decDigits u = c :: l → (l ≠ [] → c.toNat ≠ 48) := by
  induction u using Nat.strongRecOn with
  | ind u ih =>
    intro c l he hl
    rw [Lib.decDigits] at he
    split at he
    · injection he with _ he
      exact absurd he.symm hl
    · rename_i hu
      by_cases h10 : u / 10 < 10
      · rw [dec_one h10] at he
        injection he with he _
        subst he
        rw [UInt8.toNat_ofNat_of_lt' (by show 48 + u / 10 < 256; omega)]
        omega
      · cases hd : Lib.decDigits (u / 10) with
        | nil => exact absurd hd (dec_ne _)
        | cons d r =>
          rw [hd] at he
          injection he with he _
          subst he
          refine ih (u / 10) (by omega) d r hd ?_
          rintro rfl
          have := hd
          rw [Lib.decDigits, dif_neg h10] at this
          cases hd2 : Lib.decDigits (u / 10 / 10) with
          | nil => exact absurd hd2 (dec_ne _)
          | cons a b =>
            rw [hd2] at this
            simp at this
theorem parseM_append {M : Nat} : ∀ (l r : List UInt8) (acc v : Nat), Lib.parseUintM M acc l = .ok v → Lib.parseUintM M acc (l ++ r) = Lib.parseUintM M v r
  | [], r, acc, v, h => by
    rw [Lib.parseUintM] at h
    injection h with h
    rw [h]
    rfl
  | c :: l, r, acc, v, h => by
    rw [Lib.parseUintM] at h
    rw [List.cons_append, Lib.parseUintM]
    split at h
    · split at h
      · cases h
      · split at h
        · cases h
        · rename_i h1 h2 h3
          rw [if_pos h1, if_neg h2, if_neg h3]
          exact parseM_append l r _ v h
    · cases h
theorem parse_dec (M u : Nat) (hM : M ≤ 18446744073709551615) (h : u ≤ M) : Lib.parseUintM M 0 (Lib.decDigits u) = .ok u := by
  induction u using Nat.strongRecOn with
  | ind u ih =>
    have step : ∀ a d : Nat, d < 10 → a * 10 + d ≤ M → Lib.parseUintM M a [UInt8.ofNat (48 + d)] = .ok (a * 10 + d) := by
      intro a d hd ha
      rw [Lib.parseUintM, UInt8.toNat_ofNat_of_lt' (by show 48 + d < 256; omega), if_pos (by omega), if_neg (by omega), if_neg (by omega), Lib.parseUintM]
      congr 1
      omega
    by_cases h10 : u < 10
    · rw [dec_one h10]
      have := step 0 u h10 (by omega)
      simpa using this
    · rw [Lib.decDigits, dif_neg h10, parseM_append _ _ 0 (u / 10) (ih (u / 10) (by omega) (by omega)), step (u / 10) (u % 10) (by omega) (by omega)]
      congr 1
      omega
end Go.Proofs.YtaomakhhkjflaaaDoor
