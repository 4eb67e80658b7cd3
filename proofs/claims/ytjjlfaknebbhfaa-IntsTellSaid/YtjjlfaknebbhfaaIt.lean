/- The reference of chapter 1: Read and Compare; ints.Arith; the law IntsTell, walked. Conditions: the text's length fits a number. -/
import Derived.Test.YtjjlfaknebbhfaaIr
namespace Go.Proofs.Ytjjlfaknebbhfaa
open Go.ChangeShapes Go.WideShapes Go.ChangeAt Go.RowKit
set_option linter.unusedVariables false
set_option maxHeartbeats 2000000 in
theorem refread (s : ByteArray) (hs : s.size ≤ 9223372036854775807) (w : World) : Calls Try.prog 21 #[.string s] w (ReadPost w (readF s.data.toList)) := by
  go_enter Try.func21, Try.ntmps21
  go_wp2_with fail
  go_loop [5, 7, 6] (fun nv bv kv => ∃ k : Nat, k ≤ s.size ∧ kv = .int .i64 k ∧ Hid (∀ c ∈ s.data.toList.take k, isD c = true) ∧
      ((valD (s.data.toList.take k) ≤ 576460752303423487 ∧ bv = .bool false ∧ nv = .int .i64 (valD (s.data.toList.take k) : Nat)) ∨ (576460752303423487 < valD (s.data.toList.take k) ∧ bv = .bool true ∧ ∃ z, nv = .int .i64 z))) (fun nv bv kv => s.size - (intOf kv).toNat)
  case atStart => exact ⟨0, by omega, rfl, (by intro c hc; simp at hc), .inl ⟨by simp [valD], rfl, by simp [valD]⟩⟩
  case round =>
    obtain ⟨k, hk, rfl, HA, hv⟩ := hrel
    by_cases hlt : k < s.size
    · have hsn := valD_snoc (s.data.toList.take k) s[k]
      rw [← take_snoc s k hlt] at hsn
      have HE : isD s[k] = false → readF s.data.toList = _ := fun h => readF_of s k hk HA.out (.inr ⟨hlt, h⟩)
      have HN : isD s[k] = true → ∀ c ∈ s.data.toList.take (k + 1), isD c = true := by
        intro h c hc
        rw [take_snoc s k hlt] at hc
        rcases List.mem_append.1 hc with hc | hc
        · exact HA.out c hc
        · simp at hc; subst hc; exact h
      have H1 := Lib.hid HE
      have H2 := Lib.hid HN
      have H3 := Lib.hid hsn
      clear HE HN hsn HA
      generalize valD (s.data.toList.take k) = v at hv H1 H3
      have hcl : s[k].toNat < 256 := s[k].toNat_lt
      by_cases c1 : 48 ≤ s[k].toNat
      · have i1 : (48 : Int) ≤ (s[k].toNat : Int) := by omega
        by_cases c2 : s[k].toNat ≤ 57
        · have i2 : (s[k].toNat : Int) ≤ 57 := by omega
          have hD : isD s[k] = true := by simp [isD, c1, c2]
          have HA2 : Hid (∀ c ∈ s.data.toList.take (k + 1), isD c = true) := H2.out hD
          clear H1 H2 hD
          rcases hv with ⟨hv, rfl, rfl⟩ | ⟨hv, rfl, z, rfl⟩
          · by_cases hbig : v * 10 + (s[k].toNat - 48) ≤ 576460752303423487
            · have hd : decide ((576460752303423487 : Int) < (v : Int) * 10 + ((s[k].toNat : Int) - 48)) = false := by simp; omega
              go_wp2_with fail
              go_round
              case rel => exact ⟨k + 1, by omega, by go_num, HA2, .inl ⟨by rw [H3.out]; omega, rfl, by rw [H3.out]; go_num⟩⟩
              case measure => simp [intOf]; omega
            · have hd : decide ((576460752303423487 : Int) < (v : Int) * 10 + ((s[k].toNat : Int) - 48)) = true := by simp; omega
              go_wp2_with fail
              go_round
              case rel => exact ⟨k + 1, by omega, by go_num, HA2, .inr ⟨by rw [H3.out]; omega, rfl, _, rfl⟩⟩
              case measure => simp [intOf]; omega
          · go_wp2_with fail
            go_round
            case rel => exact ⟨k + 1, by omega, by go_num, HA2, .inr ⟨by rw [H3.out]; omega, rfl, _, rfl⟩⟩
            case measure => simp [intOf]; omega
        · have i2 : ¬ (s[k].toNat : Int) ≤ 57 := by omega
          have i3 : decide ((s[k].toNat : Int) ≤ 57) = false := by simp; omega
          have hcD : isD s[k] = false := by simp [isD]; omega
          clear H2 H3
          rcases hv with ⟨hv, rfl, rfl⟩ | ⟨hv, rfl, z, rfl⟩
          · by_cases h0 : k = 0
            · subst h0
              go_wp2_with fail
              go_ret3
              rw [H1.out hcD]
              exact ⟨rfl, rfl⟩
            · have hz : ((k : Int) == 0) = false := by simp; omega
              go_wp2_with fail
              go_ret3
              rw [H1.out hcD, if_neg h0, if_neg (by omega)]
              exact ⟨rfl, rfl⟩
          · by_cases h0 : k = 0
            · subst h0
              go_wp2_with fail
              go_ret3
              rw [H1.out hcD]
              exact ⟨rfl, rfl⟩
            · have hz : ((k : Int) == 0) = false := by simp; omega
              go_wp2_with fail
              go_ret3
              rw [H1.out hcD, if_neg h0, if_pos (by omega)]
              exact ⟨rfl, rfl⟩
      · have i1 : decide ((48 : Int) ≤ (s[k].toNat : Int)) = false := by simp; omega
        have hcD : isD s[k] = false := by simp [isD]; omega
        clear H2 H3
        rcases hv with ⟨hv, rfl, rfl⟩ | ⟨hv, rfl, z, rfl⟩
        · by_cases h0 : k = 0
          · subst h0
            go_wp2_with fail
            go_ret3
            rw [H1.out hcD]
            exact ⟨rfl, rfl⟩
          · have hz : ((k : Int) == 0) = false := by simp; omega
            go_wp2_with fail
            go_ret3
            rw [H1.out hcD, if_neg h0, if_neg (by omega)]
            exact ⟨rfl, rfl⟩
        · by_cases h0 : k = 0
          · subst h0
            go_wp2_with fail
            go_ret3
            rw [H1.out hcD]
            exact ⟨rfl, rfl⟩
          · have hz : ((k : Int) == 0) = false := by simp; omega
            go_wp2_with fail
            go_ret3
            rw [H1.out hcD, if_neg h0, if_pos (by omega)]
            exact ⟨rfl, rfl⟩
    · have HE := readF_of s k hk HA.out (.inl (by omega))
      have H1 := Lib.hid HE
      clear HE HA
      generalize valD (s.data.toList.take k) = v at hv H1
      rcases hv with ⟨hv, rfl, rfl⟩ | ⟨hv, rfl, z, rfl⟩
      · by_cases h0 : k = 0
        · subst h0
          go_wp2_with fail
          go_ret3
          rw [H1.out]
          exact ⟨rfl, rfl⟩
        · have hz : ((k : Int) == 0) = false := by simp; omega
          go_wp2_with fail
          go_ret3
          rw [H1.out, if_neg h0, if_neg (by omega)]
          exact ⟨rfl, rfl⟩
      · by_cases h0 : k = 0
        · subst h0
          go_wp2_with fail
          go_ret3
          rw [H1.out]
          exact ⟨rfl, rfl⟩
        · have hz : ((k : Int) == 0) = false := by simp; omega
          go_wp2_with fail
          go_ret3
          rw [H1.out, if_neg h0, if_pos (by omega)]
          exact ⟨rfl, rfl⟩
theorem cmp_split (k : ByteArray) : k = ⟨#[61, 58, 61]⟩ ∨ k = ⟨#[61, 47, 61]⟩ ∨ k = ⟨#[60]⟩ ∨ k = ⟨#[61, 60]⟩ ∨ k = ⟨#[62]⟩ ∨ k = ⟨#[62, 61]⟩ ∨
    ((k == ⟨#[61, 58, 61]⟩) = false ∧ (k == ⟨#[61, 47, 61]⟩) = false ∧ (k == ⟨#[60]⟩) = false ∧ (k == ⟨#[61, 60]⟩) = false ∧ (k == ⟨#[62]⟩) = false ∧ (k == ⟨#[62, 61]⟩) = false) := by
  by_cases h0 : k = ⟨#[61, 58, 61]⟩
  · exact .inl h0
  by_cases h1 : k = ⟨#[61, 47, 61]⟩
  · exact .inr (.inl h1)
  by_cases h2 : k = ⟨#[60]⟩
  · exact .inr (.inr (.inl h2))
  by_cases h3 : k = ⟨#[61, 60]⟩
  · exact .inr (.inr (.inr (.inl h3)))
  by_cases h4 : k = ⟨#[62]⟩
  · exact .inr (.inr (.inr (.inr (.inl h4))))
  by_cases h5 : k = ⟨#[62, 61]⟩
  · exact .inr (.inr (.inr (.inr (.inr (.inl h5)))))
  exact .inr (.inr (.inr (.inr (.inr (.inr (⟨ne_bytes h0, ne_bytes h1, ne_bytes h2, ne_bytes h3, ne_bytes h4, ne_bytes h5⟩))))))
def cmpF (k : ByteArray) (c : Int) : Bool × Bool :=
  if k == ⟨#[61, 58, 61]⟩ then (pick3 c false true false, true) else if k == ⟨#[61, 47, 61]⟩ then (pick3 c true false true, true) else if k == ⟨#[60]⟩ then (pick3 c true false false, true) else if k == ⟨#[61, 60]⟩ then (pick3 c true true false, true) else if k == ⟨#[62]⟩ then (pick3 c false false true, true) else if k == ⟨#[62, 61]⟩ then (pick3 c false true true, true) else (false, false)
def CPost (w : World) (t : Bool × Bool) (x : Ending) (w' : World) : Prop := x = .returned (.tuple #[.bool t.1, .bool t.2]) ∧ Below w.heap.size w w'
theorem cmpF_none {k : ByteArray} {c : Int} (h : (k == ⟨#[61, 58, 61]⟩) = false ∧ (k == ⟨#[61, 47, 61]⟩) = false ∧ (k == ⟨#[60]⟩) = false ∧ (k == ⟨#[61, 60]⟩) = false ∧ (k == ⟨#[62]⟩) = false ∧ (k == ⟨#[62, 61]⟩) = false) : cmpF k c = (false, false) := by
  obtain ⟨h0, h1, h2, h3, h4, h5⟩ := h
  simp only [cmpF, h0, h1, h2, h3, h4, h5]; rfl
theorem cEs_none {k : ByteArray} (h : (k == ⟨#[61, 58, 61]⟩) = false ∧ (k == ⟨#[61, 47, 61]⟩) = false ∧ (k == ⟨#[60]⟩) = false ∧ (k == ⟨#[61, 60]⟩) = false ∧ (k == ⟨#[62]⟩) = false ∧ (k == ⟨#[62, 61]⟩) = false) : Instr.findNow .string (.string k) cEs.toList 0 = some none := by
  obtain ⟨h0, h1, h2, h3, h4, h5⟩ := h
  simp [cEs, Instr.findNow, Instr.sameNow, h0, h1, h2, h3, h4, h5]
theorem Cmp_all (k : ByteArray) (c : Int) (w : World) : Calls Try.prog 18 #[.string k, .int .i64 c] w (CPost w (cmpF k c)) := by
  rcases cmp_split k with rfl | rfl | rfl | rfl | rfl | rfl | h
  · exact cmp_0 w c
  · exact cmp_1 w c
  · exact cmp_2 w c
  · exact cmp_3 w c
  · exact cmp_4 w c
  · exact cmp_5 w c
  · rw [cmpF_none h]; exact cmp_not w k c (cEs_none h)
theorem RCmp_all (k : ByteArray) (c : Int) (w : World) : Calls Try.prog 20 #[.string k, .int .i64 c] w (CPost w (cmpF k c)) := by
  rcases cmp_split k with rfl | rfl | rfl | rfl | rfl | rfl | h
  · show Calls Try.prog 20 #[.string ⟨#[61, 58, 61]⟩, .int .i64 c] w (CPost w (pick3 c false true false, true))
    rcases Int.lt_trichotomy c 0 with h | h | h
    · have e : pick3 c false true false = false := by simp [pick3, h]
      rw [e]
      have z : (c == 0) = false := by simp; omega
      have z1 : (c != 0) = true := by simp; omega
      have y0 : decide (c < 0) = true := by simp; omega
      have y1 : decide (c ≤ 0) = true := by simp; omega
      have y2 : decide (0 < c) = false := by simp; omega
      have y3 : decide (0 ≤ c) = false := by simp; omega
      go_enter Try.func20, Try.ntmps20
      go_wp2
      go_ret2
      exact ⟨rfl, Below.refl _ _⟩
    · subst h
      show Calls Try.prog 20 #[.string ⟨#[61, 58, 61]⟩, .int .i64 0] w (CPost w (true, true))
      go_enter Try.func20, Try.ntmps20
      go_wp2
      go_ret2
      exact ⟨rfl, Below.refl _ _⟩
    · have e : pick3 c false true false = false := by rw [pick3, if_neg (by omega), if_neg (by omega)]
      rw [e]
      have z : (c == 0) = false := by simp; omega
      have z1 : (c != 0) = true := by simp; omega
      have y0 : decide (c < 0) = false := by simp; omega
      have y1 : decide (c ≤ 0) = false := by simp; omega
      have y2 : decide (0 < c) = true := by simp; omega
      have y3 : decide (0 ≤ c) = true := by simp; omega
      go_enter Try.func20, Try.ntmps20
      go_wp2
      go_ret2
      exact ⟨rfl, Below.refl _ _⟩
  · show Calls Try.prog 20 #[.string ⟨#[61, 47, 61]⟩, .int .i64 c] w (CPost w (pick3 c true false true, true))
    rcases Int.lt_trichotomy c 0 with h | h | h
    · have e : pick3 c true false true = true := by simp [pick3, h]
      rw [e]
      have z : (c == 0) = false := by simp; omega
      have z1 : (c != 0) = true := by simp; omega
      have y0 : decide (c < 0) = true := by simp; omega
      have y1 : decide (c ≤ 0) = true := by simp; omega
      have y2 : decide (0 < c) = false := by simp; omega
      have y3 : decide (0 ≤ c) = false := by simp; omega
      go_enter Try.func20, Try.ntmps20
      go_wp2
      go_ret2
      exact ⟨rfl, Below.refl _ _⟩
    · subst h
      show Calls Try.prog 20 #[.string ⟨#[61, 47, 61]⟩, .int .i64 0] w (CPost w (false, true))
      go_enter Try.func20, Try.ntmps20
      go_wp2
      go_ret2
      exact ⟨rfl, Below.refl _ _⟩
    · have e : pick3 c true false true = true := by rw [pick3, if_neg (by omega), if_neg (by omega)]
      rw [e]
      have z : (c == 0) = false := by simp; omega
      have z1 : (c != 0) = true := by simp; omega
      have y0 : decide (c < 0) = false := by simp; omega
      have y1 : decide (c ≤ 0) = false := by simp; omega
      have y2 : decide (0 < c) = true := by simp; omega
      have y3 : decide (0 ≤ c) = true := by simp; omega
      go_enter Try.func20, Try.ntmps20
      go_wp2
      go_ret2
      exact ⟨rfl, Below.refl _ _⟩
  · show Calls Try.prog 20 #[.string ⟨#[60]⟩, .int .i64 c] w (CPost w (pick3 c true false false, true))
    rcases Int.lt_trichotomy c 0 with h | h | h
    · have e : pick3 c true false false = true := by simp [pick3, h]
      rw [e]
      have z : (c == 0) = false := by simp; omega
      have z1 : (c != 0) = true := by simp; omega
      have y0 : decide (c < 0) = true := by simp; omega
      have y1 : decide (c ≤ 0) = true := by simp; omega
      have y2 : decide (0 < c) = false := by simp; omega
      have y3 : decide (0 ≤ c) = false := by simp; omega
      go_enter Try.func20, Try.ntmps20
      go_wp2
      go_ret2
      exact ⟨rfl, Below.refl _ _⟩
    · subst h
      show Calls Try.prog 20 #[.string ⟨#[60]⟩, .int .i64 0] w (CPost w (false, true))
      go_enter Try.func20, Try.ntmps20
      go_wp2
      go_ret2
      exact ⟨rfl, Below.refl _ _⟩
    · have e : pick3 c true false false = false := by rw [pick3, if_neg (by omega), if_neg (by omega)]
      rw [e]
      have z : (c == 0) = false := by simp; omega
      have z1 : (c != 0) = true := by simp; omega
      have y0 : decide (c < 0) = false := by simp; omega
      have y1 : decide (c ≤ 0) = false := by simp; omega
      have y2 : decide (0 < c) = true := by simp; omega
      have y3 : decide (0 ≤ c) = true := by simp; omega
      go_enter Try.func20, Try.ntmps20
      go_wp2
      go_ret2
      exact ⟨rfl, Below.refl _ _⟩
  · show Calls Try.prog 20 #[.string ⟨#[61, 60]⟩, .int .i64 c] w (CPost w (pick3 c true true false, true))
    rcases Int.lt_trichotomy c 0 with h | h | h
    · have e : pick3 c true true false = true := by simp [pick3, h]
      rw [e]
      have z : (c == 0) = false := by simp; omega
      have z1 : (c != 0) = true := by simp; omega
      have y0 : decide (c < 0) = true := by simp; omega
      have y1 : decide (c ≤ 0) = true := by simp; omega
      have y2 : decide (0 < c) = false := by simp; omega
      have y3 : decide (0 ≤ c) = false := by simp; omega
      go_enter Try.func20, Try.ntmps20
      go_wp2
      go_ret2
      exact ⟨rfl, Below.refl _ _⟩
    · subst h
      show Calls Try.prog 20 #[.string ⟨#[61, 60]⟩, .int .i64 0] w (CPost w (true, true))
      go_enter Try.func20, Try.ntmps20
      go_wp2
      go_ret2
      exact ⟨rfl, Below.refl _ _⟩
    · have e : pick3 c true true false = false := by rw [pick3, if_neg (by omega), if_neg (by omega)]
      rw [e]
      have z : (c == 0) = false := by simp; omega
      have z1 : (c != 0) = true := by simp; omega
      have y0 : decide (c < 0) = false := by simp; omega
      have y1 : decide (c ≤ 0) = false := by simp; omega
      have y2 : decide (0 < c) = true := by simp; omega
      have y3 : decide (0 ≤ c) = true := by simp; omega
      go_enter Try.func20, Try.ntmps20
      go_wp2
      go_ret2
      exact ⟨rfl, Below.refl _ _⟩
  · show Calls Try.prog 20 #[.string ⟨#[62]⟩, .int .i64 c] w (CPost w (pick3 c false false true, true))
    rcases Int.lt_trichotomy c 0 with h | h | h
    · have e : pick3 c false false true = false := by simp [pick3, h]
      rw [e]
      have z : (c == 0) = false := by simp; omega
      have z1 : (c != 0) = true := by simp; omega
      have y0 : decide (c < 0) = true := by simp; omega
      have y1 : decide (c ≤ 0) = true := by simp; omega
      have y2 : decide (0 < c) = false := by simp; omega
      have y3 : decide (0 ≤ c) = false := by simp; omega
      go_enter Try.func20, Try.ntmps20
      go_wp2
      go_ret2
      exact ⟨rfl, Below.refl _ _⟩
    · subst h
      show Calls Try.prog 20 #[.string ⟨#[62]⟩, .int .i64 0] w (CPost w (false, true))
      go_enter Try.func20, Try.ntmps20
      go_wp2
      go_ret2
      exact ⟨rfl, Below.refl _ _⟩
    · have e : pick3 c false false true = true := by rw [pick3, if_neg (by omega), if_neg (by omega)]
      rw [e]
      have z : (c == 0) = false := by simp; omega
      have z1 : (c != 0) = true := by simp; omega
      have y0 : decide (c < 0) = false := by simp; omega
      have y1 : decide (c ≤ 0) = false := by simp; omega
      have y2 : decide (0 < c) = true := by simp; omega
      have y3 : decide (0 ≤ c) = true := by simp; omega
      go_enter Try.func20, Try.ntmps20
      go_wp2
      go_ret2
      exact ⟨rfl, Below.refl _ _⟩
  · show Calls Try.prog 20 #[.string ⟨#[62, 61]⟩, .int .i64 c] w (CPost w (pick3 c false true true, true))
    rcases Int.lt_trichotomy c 0 with h | h | h
    · have e : pick3 c false true true = false := by simp [pick3, h]
      rw [e]
      have z : (c == 0) = false := by simp; omega
      have z1 : (c != 0) = true := by simp; omega
      have y0 : decide (c < 0) = true := by simp; omega
      have y1 : decide (c ≤ 0) = true := by simp; omega
      have y2 : decide (0 < c) = false := by simp; omega
      have y3 : decide (0 ≤ c) = false := by simp; omega
      go_enter Try.func20, Try.ntmps20
      go_wp2
      go_ret2
      exact ⟨rfl, Below.refl _ _⟩
    · subst h
      show Calls Try.prog 20 #[.string ⟨#[62, 61]⟩, .int .i64 0] w (CPost w (true, true))
      go_enter Try.func20, Try.ntmps20
      go_wp2
      go_ret2
      exact ⟨rfl, Below.refl _ _⟩
    · have e : pick3 c false true true = true := by rw [pick3, if_neg (by omega), if_neg (by omega)]
      rw [e]
      have z : (c == 0) = false := by simp; omega
      have z1 : (c != 0) = true := by simp; omega
      have y0 : decide (c < 0) = false := by simp; omega
      have y1 : decide (c ≤ 0) = false := by simp; omega
      have y2 : decide (0 < c) = true := by simp; omega
      have y3 : decide (0 ≤ c) = true := by simp; omega
      go_enter Try.func20, Try.ntmps20
      go_wp2
      go_ret2
      exact ⟨rfl, Below.refl _ _⟩
  · rw [cmpF_none h]
    obtain ⟨h0, h1, h2, h3, h4, h5⟩ := h
    have k0 := str_ne h0
    have k1 := str_ne h1
    have k2 := str_ne h2
    have k3 := str_ne h3
    have k4 := str_ne h4
    have k5 := str_ne h5
    clear h0 h1 h2 h3 h4 h5
    go_enter Try.func20, Try.ntmps20
    go_wp2
    go_ret2
    exact ⟨rfl, Below.refl _ _⟩
def APost (w : World) (b : Bool) (x : Ending) (w' : World) : Prop := x = .returned (.bool b) ∧ Below w.heap.size w w'
set_option maxHeartbeats 1000000 in
theorem Arith_no (k : ByteArray) (w : World) (hf : ∀ p q, Instr.findNow .string (.string k) (wEs p q).toList 0 = some none) : Calls Try.prog 23 #[.string k] w (APost w false) := by
  go_enter Try.func23, Try.ntmps23
  go_wp2_with (first | (go_at_call 26; refine (ways_any _).mono ?_; rintro e w1 ⟨r, p, q, rfl, hm, hp, hq, hb1⟩) | (at_lookup; refine wpList_lookup_not rfl (.tmp 6) (.tmp 7) 49 rfl 9 47 Try.underlying49 Try.underlying9 r _ _ rfl hm k rfl _ (hf p q) (zero47 _) ?_))
  go_ret
  exact ⟨rfl, hb1⟩
set_option maxHeartbeats 1000000 in
theorem Arith_yes (k : ByteArray) (w : World) (i : Nat) (v : Addr → Addr → Value) (hf : ∀ p q, Instr.findNow .string (.string k) (wEs p q).toList 0 = some (some (i, v p q))) : Calls Try.prog 23 #[.string k] w (APost w true) := by
  go_enter Try.func23, Try.ntmps23
  go_wp2_with (first | (go_at_call 26; refine (ways_any _).mono ?_; rintro e w1 ⟨r, p, q, rfl, hm, hp, hq, hb1⟩) | (at_lookup; refine wpList_lookup_there rfl (.tmp 6) (.tmp 7) 49 rfl 9 47 Try.underlying49 Try.underlying9 r _ _ rfl hm k rfl i (v p q) (hf p q) ?_))
  go_ret
  exact ⟨rfl, hb1⟩
theorem Arith_all (k : ByteArray) (w : World) : Calls Try.prog 23 #[.string k] w (APost w (isOp k)) := by
  rcases op_split k with rfl | rfl | rfl | rfl | rfl | h
  · exact Arith_yes _ w 0 (fun _ _ => .func (.func 30) #[] #[]) (fun _ _ => rfl)
  · exact Arith_yes _ w 1 (fun _ _ => .func (.func 31) #[] #[]) (fun _ _ => rfl)
  · exact Arith_yes _ w 2 (fun _ _ => .func (.func 32) #[] #[]) (fun _ _ => rfl)
  · exact Arith_yes _ w 3 (fun p _ => .func (.func 39) #[] #[.pointer (some p)]) (fun _ _ => rfl)
  · exact Arith_yes _ w 4 (fun _ q => .func (.func 39) #[] #[.pointer (some q)]) (fun _ _ => rfl)
  · rw [isOp_none h]
    exact Arith_no k w (fun p q => wEs_none p q h.1 h.2.1 h.2.2.1 h.2.2.2.1 h.2.2.2.2)
theorem tell_long (k : ByteArray) (a b : Int) (s : ByteArray) (hs : 65536 < s.size) (hs2 : s.size ≤ 9223372036854775807) (w : World) : Calls Try.prog 9 #[.string k, .int .i64 a, .int .i64 b, .string s] w fun e w' => e = .returned (.bool true) ∧ Below w.heap.size w w' := by
  go_enter Try.func9, Try.ntmps9
  go_wp2_with (go_at_call 16; refine (wakes16 _).mono ?_; rintro e w1 ⟨rfl, hb1⟩)
  go_ret
  exact ⟨rfl, hb1⟩
set_option maxHeartbeats 2000000 in
theorem tell_short (k : ByteArray) (a b : Int) (s : ByteArray) (hs : s.size ≤ 65536) (w : World) : Calls Try.prog 9 #[.string k, .int .i64 a, .int .i64 b, .string s] w fun e w' => e = .returned (.bool true) ∧ Below w.heap.size w w' := by
  have hD := Lib.hid (Do_all k a b)
  have hD2 := Lib.hid (RDo_all k a b)
  have hC := Lib.hid (Cmp_all k a)
  have hC2 := Lib.hid (RCmp_all k a)
  have hR := Lib.hid (Read_any s (by omega))
  have hR2 := Lib.hid (refread s (by omega))
  have hM := Lib.hid (may14 a)
  have hM2 := Lib.hid (may22 a)
  have hA := Lib.hid (Arith_all k)
  have hA2 := Lib.hid (arith24 k)
  generalize doF k a b = d at hD hD2
  generalize cmpF k a = c at hC hC2
  generalize readF s.data.toList = r at hR hR2
  generalize mayB a = m at hM hM2
  generalize isOp k = o at hA hA2
  obtain ⟨x, e⟩ := d
  obtain ⟨p, one⟩ := c
  obtain ⟨n, l, g⟩ := r
  go_enter Try.func9, Try.ntmps9
  go_wp2_with fail
  refine (hD.out _).mono ?_
  rintro _ w1 ⟨rfl, hb1⟩
  go_wp2_with fail
  refine (hD2.out _).mono ?_
  rintro _ w' ⟨rfl, rfl⟩
  go_wp2_with fail
  refine (hC.out _).mono ?_
  rintro _ w2 ⟨rfl, hb2⟩
  have hB2 := keep_below hb1 hb1.size hb2
  go_wp2_with fail
  refine (hC2.out _).mono ?_
  rintro _ w3 ⟨rfl, hb3⟩
  have hB3 := keep_below hB2 hB2.size hb3
  go_wp2_with fail
  refine (hR.out _).mono ?_
  rintro _ w' ⟨rfl, rfl⟩
  go_wp2_with fail
  refine (hR2.out _).mono ?_
  rintro _ w' ⟨rfl, rfl⟩
  go_wp2_with fail
  refine (hM.out _).mono ?_
  rintro _ w' ⟨rfl, rfl⟩
  go_wp2_with fail
  refine (hM2.out _).mono ?_
  rintro _ w' ⟨rfl, rfl⟩
  go_wp2_with fail
  refine (hA.out _).mono ?_
  rintro _ w4 ⟨rfl, hb4⟩
  have hB4 := keep_below hB3 hB3.size hb4
  go_wp2_with fail
  refine (hA2.out _).mono ?_
  rintro _ w' ⟨rfl, rfl⟩
  go_wp2_with (go_at_call 16; refine (wakes16 _).mono ?_; rintro e w5 ⟨rfl, hb5⟩)
  go_ret
  exact ⟨rfl, keep_below hB4 hB4.size hb5⟩
theorem tell_all (k : ByteArray) (a b : Int) (s : ByteArray) (hs2 : s.size ≤ 9223372036854775807) (w : World) : Calls Try.prog 9 #[.string k, .int .i64 a, .int .i64 b, .string s] w fun e w' => e = .returned (.bool true) ∧ Below w.heap.size w w' := by
  by_cases hs : 65536 < s.size
  · exact tell_long k a b s hs hs2 w
  · exact tell_short k a b s (by omega) w
end Go.Proofs.Ytjjlfaknebbhfaa
