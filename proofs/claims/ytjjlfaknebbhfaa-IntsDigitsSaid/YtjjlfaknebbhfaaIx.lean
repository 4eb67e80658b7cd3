/- The law IntsDigits, walked. Conditions: the text's length fits a number. -/
import Derived.Test.YtjjlfaknebbhfaaIr
namespace Go.Proofs.Ytjjlfaknebbhfaa
open Go.ChangeShapes Go.WideShapes Go.ChangeAt Go.RowKit
set_option linter.unusedVariables false
def szOf : Value → Nat
  | .string s => s.size
  | _ => 0
theorem enc_digit (K : Nat) : Utf8.encode (48 + (K : Int) % 10) = ⟨#[UInt8.ofNat (48 + K % 10)]⟩ := by
  have e : (48 + (K : Int) % 10) = ((48 + K % 10 : Nat) : Int) := by omega
  rw [e]
  have hd : K % 10 < 10 := Nat.mod_lt _ (by decide)
  generalize K % 10 = d at hd ⊢
  have : d = 0 ∨ d = 1 ∨ d = 2 ∨ d = 3 ∨ d = 4 ∨ d = 5 ∨ d = 6 ∨ d = 7 ∨ d = 8 ∨ d = 9 := by omega
  rcases this with rfl | rfl | rfl | rfl | rfl | rfl | rfl | rfl | rfl | rfl <;> rfl
theorem valD_from (l : List UInt8) : ∀ z : Nat, l.foldl (fun n c => n * 10 + (c.toNat - 48)) z = z * 10 ^ l.length + valD l := by
  induction l with
  | nil => intro z; simp [valD]
  | cons c l ih =>
    intro z
    rw [valD, List.foldl_cons, List.foldl_cons, ih, ih (0 * 10 + (c.toNat - 48)), List.length_cons, Nat.pow_succ, Nat.zero_mul, Nat.zero_add, Nat.add_mul, Nat.mul_assoc, Nat.mul_comm 10, ← Nat.add_assoc]
theorem valD_cons (c : UInt8) (l : List UInt8) : valD (c :: l) = (c.toNat - 48) * 10 ^ l.length + valD l := by
  rw [valD, List.foldl_cons, valD_from, Nat.zero_mul, Nat.zero_add]
def Digs (N K : Nat) (l : List UInt8) : Prop := (∀ c ∈ l, isD c = true) ∧ K * 10 ^ l.length + valD l = N ∧ K < 10 ^ (20 - l.length) ∧ l.length ≤ 20
theorem Digs.start {N : Nat} (h : N ≤ 576460752303423487) : Digs N N [] := ⟨by simp, by simp [valD], by simp; omega, by simp⟩
theorem Digs.next {N K : Nat} {l : List UInt8} (h : Digs N K l) (hk : 0 < K ∨ l = []) : Digs N (K / 10) (UInt8.ofNat (48 + K % 10) :: l) := by
  obtain ⟨h1, h2, h3, h4⟩ := h
  have hd : K % 10 < 10 := Nat.mod_lt _ (by decide)
  have hc : (UInt8.ofNat (48 + K % 10)).toNat = 48 + K % 10 := by
    rw [UInt8.toNat_ofNat']; omega
  have hl : l.length < 20 := by
    rcases hk with hk | hk
    · apply Nat.lt_of_not_le
      intro hge
      have : 20 - l.length = 0 := by omega
      rw [this] at h3
      simp at h3
      omega
    · rw [hk]; simp
  refine ⟨?_, ?_, ?_, ?_⟩
  · intro c hm
    rcases List.mem_cons.1 hm with rfl | hm
    · simp only [isD, hc]
      simp
      omega
    · exact h1 c hm
  · rw [valD_cons, hc, List.length_cons, Nat.pow_succ, ← h2]
    have e1 : 48 + K % 10 - 48 = K % 10 := by omega
    rw [e1]
    have e2 : K * 10 ^ l.length = K / 10 * (10 ^ l.length * 10) + K % 10 * 10 ^ l.length := by
      have := Nat.div_add_mod K 10
      conv => lhs; rw [← this]
      rw [Nat.add_mul, Nat.mul_comm 10 (K / 10), Nat.mul_assoc, Nat.mul_comm 10 (10 ^ l.length)]
    omega
  · have e : 20 - l.length = (20 - (l.length + 1)) + 1 := by omega
    rw [e, Nat.pow_succ] at h3
    rw [List.length_cons]
    omega
  · rw [List.length_cons]; omega
theorem readF_app {l r : List UInt8} (h : ∀ c ∈ l, isD c = true) (h0 : l ≠ []) (hr : r = [] ∨ ∃ c t, r = c :: t ∧ isD c = false) (hv : valD l ≤ 576460752303423487) : readF (l ++ r) = ((valD l : Int), (l.length : Int), 0) := by
  have e : (l ++ r).takeWhile isD = l := by
    rw [List.takeWhile_append_of_pos h]
    have : r.takeWhile isD = [] := by
      rcases hr with rfl | ⟨c, t, rfl, hc⟩
      · rfl
      · rw [List.takeWhile_cons, hc]; rfl
    rw [this, List.append_nil]
  have hl : ¬ l.length = 0 := fun h => h0 (List.length_eq_zero_iff.1 h)
  unfold readF
  rw [e, if_neg hl, if_neg (by omega)]
theorem Digs.done {N : Nat} {l r : List UInt8} (h : Digs N 0 l) (hN : N ≤ 576460752303423487) (h0 : l ≠ []) (hr : r = [] ∨ ∃ c t, r = c :: t ∧ isD c = false) : readF (l ++ r) = ((N : Int), (l.length : Int), 0) := by
  obtain ⟨h1, h2, h3, h4⟩ := h
  have e : valD l = N := by omega
  rw [readF_app h1 h0 hr (by omega), e]
set_option maxHeartbeats 2000000 in
theorem digits_in (N : Nat) (hn : N ≤ 576460752303423487) (s : ByteArray) (hs : s.size ≤ 1000) (hd : s.size = 0 ∨ ∃ h : 0 < s.size, isD s[0] = false) (w : World) : Calls Try.prog 6 #[.int .i64 N, .string s] w fun e w' => e = .returned (.bool true) ∧ Below w.heap.size w w' := by
  have h1 : (N : Int) ≤ 576460752303423487 := by omega
  have HH : Hid (s.data.toList = [] ∨ ∃ c t, s.data.toList = c :: t ∧ isD c = false) := by
    rcases hd with h | ⟨h, hd⟩
    · exact Lib.hid (.inl (by apply List.length_eq_zero_iff.1; simpa using h))
    · refine Lib.hid (.inr ⟨s[0], s.data.toList.tail, ?_, hd⟩)
      have hl : 0 < s.data.toList.length := by simpa using h
      have e0 : s.data.toList[0] = s[0] := rfl
      cases e : s.data.toList with
      | nil => rw [e] at hl; simp at hl
      | cons a t => simp only [e] at e0; simp at e0; rw [← e0]; rfl
  rcases hd with h | ⟨h, hd⟩
  · go_enter Try.func6, Try.ntmps6
    go_wp2_with fail
    go_loop [5, 6] (fun sv kv => ∃ (S : ByteArray) (K : Nat), sv = .string S ∧ kv = .int .i64 K ∧ K ≤ 576460752303423487 ∧ S.size ≤ 20 ∧ Hid (Digs N K S.data.toList)) (fun sv kv => (intOf kv).toNat + (1 - szOf sv))
    case atStart => exact ⟨_, N, rfl, rfl, by omega, by decide, Digs.start (by omega)⟩
    case round =>
      obtain ⟨S, K, rfl, rfl, hK, hS, HD⟩ := hrel
      have he := enc_digit K
      have hH := HH
      by_cases hk0 : 0 < K
      · have HN := Lib.hid (HD.out.next (.inl hk0))
        generalize UInt8.ofNat (48 + K % 10) = c at he HN
        have hcl : Hid ((⟨#[c]⟩ ++ S : ByteArray).data.toList = c :: S.data.toList) := Lib.hid (by rw [ByteArray.data_append, Array.toList_append]; rfl)
        have hcs : (⟨#[c]⟩ ++ S : ByteArray).size = 1 + S.size := by rw [ByteArray.size_append]; rfl
        have hKS : S.size < 20 := by
          have h4 := HN.out.2.2.2
          rw [List.length_cons] at h4
          have h5 : S.data.toList.length = S.size := by simp
          omega
        go_wp2_with fail
        go_round
        case rel => exact ⟨_, K / 10, rfl, by go_num, by omega, by rw [hcs]; omega, Lib.hid (by rw [hcl.out]; exact HN.out)⟩
        case measure => simp only [intOf, szOf, hcs]; omega
      · have hK0 : K = 0 := by omega
        subst hK0
        by_cases hS0 : S = ⟨#[]⟩
        · subst hS0
          have HN := Lib.hid (HD.out.next (.inr rfl))
          go_wp2_with fail
          go_round
          case rel => exact ⟨⟨#[48]⟩, 0, rfl, rfl, by omega, by decide, HN⟩
          case measure => exact (by decide : (0 : Nat) < 1)
        · have hne : (S.toList == []) = false := str_ne (ne_bytes hS0)
          have hl0 : S.data.toList ≠ [] := fun e => hS0 (by cases S with | mk d => cases d; simp at e; subst e; rfl)
          have hlen : S.data.toList.length = S.size := by simp
          have hF := HD.out.done (by omega) hl0 hH.out
          rw [hlen] at hF
          have hcl : (S ++ s).data.toList = S.data.toList ++ s.data.toList := by rw [ByteArray.data_append, Array.toList_append]
          have hR := Read_any (S ++ s) (by rw [ByteArray.size_append]; omega)
          rw [hcl, hF] at hR
          have HR := Lib.hid hR
          clear hR hF hcl hlen hl0 hS0
          go_wp2_with (first | (go_at_call 17; refine (HR.out _).mono ?_; rintro e w1 ⟨rfl, rfl⟩) | (go_at_call 16; refine (wakes16 _).mono ?_; rintro e w1 ⟨rfl, hb1⟩))
          go_ret
          exact ⟨rfl, hb1⟩
  · have hcl : s[0].toNat < 256 := s[0].toNat_lt
    by_cases c1 : 48 ≤ s[0].toNat
    · have i1 : (48 : Int) ≤ (s[0].toNat : Int) := by omega
      have i2 : ¬ (s[0].toNat : Int) ≤ 57 := by simp [isD] at hd; omega
      have i3 : decide ((s[0].toNat : Int) ≤ 57) = false := by simp; omega
      clear hd
      go_enter Try.func6, Try.ntmps6
      go_wp2_with fail
      go_loop [5, 6] (fun sv kv => ∃ (S : ByteArray) (K : Nat), sv = .string S ∧ kv = .int .i64 K ∧ K ≤ 576460752303423487 ∧ S.size ≤ 20 ∧ Hid (Digs N K S.data.toList)) (fun sv kv => (intOf kv).toNat + (1 - szOf sv))
      case atStart => exact ⟨_, N, rfl, rfl, by omega, by decide, Digs.start (by omega)⟩
      case round =>
        obtain ⟨S, K, rfl, rfl, hK, hS, HD⟩ := hrel
        have he := enc_digit K
        have hH := HH
        by_cases hk0 : 0 < K
        · have HN := Lib.hid (HD.out.next (.inl hk0))
          generalize UInt8.ofNat (48 + K % 10) = c at he HN
          have hcl : Hid ((⟨#[c]⟩ ++ S : ByteArray).data.toList = c :: S.data.toList) := Lib.hid (by rw [ByteArray.data_append, Array.toList_append]; rfl)
          have hcs : (⟨#[c]⟩ ++ S : ByteArray).size = 1 + S.size := by rw [ByteArray.size_append]; rfl
          have hKS : S.size < 20 := by
            have h4 := HN.out.2.2.2
            rw [List.length_cons] at h4
            have h5 : S.data.toList.length = S.size := by simp
            omega
          go_wp2_with fail
          go_round
          case rel => exact ⟨_, K / 10, rfl, by go_num, by omega, by rw [hcs]; omega, Lib.hid (by rw [hcl.out]; exact HN.out)⟩
          case measure => simp only [intOf, szOf, hcs]; omega
        · have hK0 : K = 0 := by omega
          subst hK0
          by_cases hS0 : S = ⟨#[]⟩
          · subst hS0
            have HN := Lib.hid (HD.out.next (.inr rfl))
            go_wp2_with fail
            go_round
            case rel => exact ⟨⟨#[48]⟩, 0, rfl, rfl, by omega, by decide, HN⟩
            case measure => exact (by decide : (0 : Nat) < 1)
          · have hne : (S.toList == []) = false := str_ne (ne_bytes hS0)
            have hl0 : S.data.toList ≠ [] := fun e => hS0 (by cases S with | mk d => cases d; simp at e; subst e; rfl)
            have hlen : S.data.toList.length = S.size := by simp
            have hF := HD.out.done (by omega) hl0 hH.out
            rw [hlen] at hF
            have hcl : (S ++ s).data.toList = S.data.toList ++ s.data.toList := by rw [ByteArray.data_append, Array.toList_append]
            have hR := Read_any (S ++ s) (by rw [ByteArray.size_append]; omega)
            rw [hcl, hF] at hR
            have HR := Lib.hid hR
            clear hR hF hcl hlen hl0 hS0
            go_wp2_with (first | (go_at_call 17; refine (HR.out _).mono ?_; rintro e w1 ⟨rfl, rfl⟩) | (go_at_call 16; refine (wakes16 _).mono ?_; rintro e w1 ⟨rfl, hb1⟩))
            go_ret
            exact ⟨rfl, hb1⟩
    · have i1 : ¬ (48 : Int) ≤ (s[0].toNat : Int) := by omega
      have i3 : decide ((48 : Int) ≤ (s[0].toNat : Int)) = false := by simp; omega
      clear hd
      go_enter Try.func6, Try.ntmps6
      go_wp2_with fail
      go_loop [5, 6] (fun sv kv => ∃ (S : ByteArray) (K : Nat), sv = .string S ∧ kv = .int .i64 K ∧ K ≤ 576460752303423487 ∧ S.size ≤ 20 ∧ Hid (Digs N K S.data.toList)) (fun sv kv => (intOf kv).toNat + (1 - szOf sv))
      case atStart => exact ⟨_, N, rfl, rfl, by omega, by decide, Digs.start (by omega)⟩
      case round =>
        obtain ⟨S, K, rfl, rfl, hK, hS, HD⟩ := hrel
        have he := enc_digit K
        have hH := HH
        by_cases hk0 : 0 < K
        · have HN := Lib.hid (HD.out.next (.inl hk0))
          generalize UInt8.ofNat (48 + K % 10) = c at he HN
          have hcl : Hid ((⟨#[c]⟩ ++ S : ByteArray).data.toList = c :: S.data.toList) := Lib.hid (by rw [ByteArray.data_append, Array.toList_append]; rfl)
          have hcs : (⟨#[c]⟩ ++ S : ByteArray).size = 1 + S.size := by rw [ByteArray.size_append]; rfl
          have hKS : S.size < 20 := by
            have h4 := HN.out.2.2.2
            rw [List.length_cons] at h4
            have h5 : S.data.toList.length = S.size := by simp
            omega
          go_wp2_with fail
          go_round
          case rel => exact ⟨_, K / 10, rfl, by go_num, by omega, by rw [hcs]; omega, Lib.hid (by rw [hcl.out]; exact HN.out)⟩
          case measure => simp only [intOf, szOf, hcs]; omega
        · have hK0 : K = 0 := by omega
          subst hK0
          by_cases hS0 : S = ⟨#[]⟩
          · subst hS0
            have HN := Lib.hid (HD.out.next (.inr rfl))
            go_wp2_with fail
            go_round
            case rel => exact ⟨⟨#[48]⟩, 0, rfl, rfl, by omega, by decide, HN⟩
            case measure => exact (by decide : (0 : Nat) < 1)
          · have hne : (S.toList == []) = false := str_ne (ne_bytes hS0)
            have hl0 : S.data.toList ≠ [] := fun e => hS0 (by cases S with | mk d => cases d; simp at e; subst e; rfl)
            have hlen : S.data.toList.length = S.size := by simp
            have hF := HD.out.done (by omega) hl0 hH.out
            rw [hlen] at hF
            have hcl : (S ++ s).data.toList = S.data.toList ++ s.data.toList := by rw [ByteArray.data_append, Array.toList_append]
            have hR := Read_any (S ++ s) (by rw [ByteArray.size_append]; omega)
            rw [hcl, hF] at hR
            have HR := Lib.hid hR
            clear hR hF hcl hlen hl0 hS0
            go_wp2_with (first | (go_at_call 17; refine (HR.out _).mono ?_; rintro e w1 ⟨rfl, rfl⟩) | (go_at_call 16; refine (wakes16 _).mono ?_; rintro e w1 ⟨rfl, hb1⟩))
            go_ret
            exact ⟨rfl, hb1⟩

theorem digits_all (n : Int) (s : ByteArray) (hs2 : s.size ≤ 9223372036854775807) (w : World) : Calls Try.prog 6 #[.int .i64 n, .string s] w fun e w' => e = .returned (.bool true) ∧ Below w.heap.size w w' := by
  by_cases h0 : n < 0
  · go_enter Try.func6, Try.ntmps6
    go_wp2_with (go_at_call 16; refine (wakes16 _).mono ?_; rintro e w1 ⟨rfl, hb1⟩)
    go_ret
    exact ⟨rfl, hb1⟩
  · by_cases h1 : 576460752303423487 < n
    · go_enter Try.func6, Try.ntmps6
      go_wp2_with (go_at_call 16; refine (wakes16 _).mono ?_; rintro e w1 ⟨rfl, hb1⟩)
      go_ret
      exact ⟨rfl, hb1⟩
    · by_cases h2 : 1000 < s.size
      · go_enter Try.func6, Try.ntmps6
        go_wp2_with (go_at_call 16; refine (wakes16 _).mono ?_; rintro e w1 ⟨rfl, hb1⟩)
        go_ret
        exact ⟨rfl, hb1⟩
      · obtain ⟨N, rfl⟩ : ∃ N : Nat, n = N := ⟨n.toNat, by omega⟩
        by_cases h3 : s.size = 0
        · exact digits_in N (by omega) s (by omega) (.inl h3) w
        · cases hd : isD (s[0]'(by omega))
          · exact digits_in N (by omega) s (by omega) (.inr ⟨by omega, hd⟩) w
          · have hp : 0 < s.size := by omega
            have i1 : (48 : Int) ≤ (s[0].toNat : Int) := by simp [isD] at hd; omega
            have i2 : (s[0].toNat : Int) ≤ 57 := by simp [isD] at hd; omega
            clear hd
            go_enter Try.func6, Try.ntmps6
            go_wp2_with (go_at_call 16; refine (wakes16 _).mono ?_; rintro e w1 ⟨rfl, hb1⟩)
            go_ret
            exact ⟨rfl, hb1⟩
end Go.Proofs.Ytjjlfaknebbhfaa
