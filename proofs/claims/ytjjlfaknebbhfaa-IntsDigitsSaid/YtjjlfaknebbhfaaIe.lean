/- ints.Read and the reference's Read: one plain function tells both. No conditions but the text's length. -/
import Derived.Test.YtjjlfaknebbhfaaK
namespace Go.Proofs.Ytjjlfaknebbhfaa
open Go.ChangeShapes Go.WideShapes Go.ChangeAt Go.RowKit
set_option linter.unusedVariables false
def isD (c : UInt8) : Bool := decide (48 ≤ c.toNat) && decide (c.toNat ≤ 57)
def valD (l : List UInt8) : Nat := l.foldl (fun n c => n * 10 + (c.toNat - 48)) 0
def readF (l : List UInt8) : Int × Int × Int :=
  if (l.takeWhile isD).length = 0 then (0, 0, 2) else if 576460752303423487 < valD (l.takeWhile isD) then (0, (l.takeWhile isD).length, 11) else (valD (l.takeWhile isD), (l.takeWhile isD).length, 0)
theorem take_snoc (s : ByteArray) (k : Nat) (h : k < s.size) : s.data.toList.take (k + 1) = s.data.toList.take k ++ [s[k]] := by
  rw [List.take_succ_eq_append_getElem (by simpa using h)]; rfl
theorem valD_snoc (l : List UInt8) (c : UInt8) : valD (l ++ [c]) = valD l * 10 + (c.toNat - 48) := by simp [valD]
theorem tw_end (s : ByteArray) (k : Nat) (hk : k ≤ s.size) (ha : ∀ c ∈ s.data.toList.take k, isD c = true) (he : k = s.size ∨ ∃ h : k < s.size, isD s[k] = false) : s.data.toList.takeWhile isD = s.data.toList.take k := by
  have hs : s.data.toList = s.data.toList.take k ++ s.data.toList.drop k := (List.take_append_drop k _).symm
  have ha' : ∀ c ∈ s.data.toList.take k, isD c = true := ha
  conv => lhs; rw [hs]
  rw [List.takeWhile_append_of_pos ha']
  have : (s.data.toList.drop k).takeWhile isD = [] := by
    rcases he with rfl | ⟨h, hc⟩
    · have : s.data.toList.drop s.size = [] := List.drop_eq_nil_of_le (by simp)
      rw [this]; rfl
    · rw [List.drop_eq_getElem_cons (by simpa using h)]
      have : s.data.toList[k]'(by simpa using h) = s[k] := rfl
      rw [this, List.takeWhile_cons, hc]
      rfl
  rw [this, List.append_nil]
theorem readF_of (s : ByteArray) (k : Nat) (hk : k ≤ s.size) (ha : ∀ c ∈ s.data.toList.take k, isD c = true) (he : k = s.size ∨ ∃ h : k < s.size, isD s[k] = false) :
    readF s.data.toList = if k = 0 then (0, 0, 2) else if 576460752303423487 < valD (s.data.toList.take k) then (0, (k : Int), 11) else ((valD (s.data.toList.take k) : Int), (k : Int), 0) := by
  have hl : (s.data.toList.take k).length = k := by rw [List.length_take]; simp; omega
  unfold readF
  rw [tw_end s k hk ha he, hl]
theorem ta_some (w : World) (n : Int) : (Instr.typeAssert (.iface 24 (.int .i64 n)) 52 24 true).run Try.prog w = .ok (.tuple #[.int .i64 n, .bool true]) w := by kernel_rfl
theorem ta_none (w : World) : (Instr.typeAssert .nilIface 52 24 true).run Try.prog w = .ok (.tuple #[.int .i64 0, .bool false]) w := by kernel_rfl
def ReadPost (w : World) (t : Int × Int × Int) (e : Ending) (w' : World) : Prop := e = .returned (.tuple #[.int .i64 t.1, .int .i64 t.2.1, .int .i64 t.2.2]) ∧ w' = w
set_option maxHeartbeats 2000000 in
theorem Read_any (s : ByteArray) (hs : s.size ≤ 9223372036854775807) (w : World) : Calls Try.prog 17 #[.string s] w (ReadPost w (readF s.data.toList)) := by
  have t1 := ta_some
  have t2 := ta_none
  go_enter Try.func17, Try.ntmps17
  go_wp2_with fail
  go_loop [5, 6, 7] (fun ev nv kv => ∃ k : Nat, k ≤ s.size ∧ kv = .int .i64 k ∧ Hid (∀ c ∈ s.data.toList.take k, isD c = true) ∧
      ((valD (s.data.toList.take k) ≤ 576460752303423487 ∧ ev = .nilIface ∧ nv = .int .i64 (valD (s.data.toList.take k) : Nat)) ∨ (576460752303423487 < valD (s.data.toList.take k) ∧ ev = .iface 24 (.int .i64 11) ∧ nv = .int .i64 576460752303423488))) (fun _ _ k => s.size - (intOf k).toNat)
  case atStart => exact ⟨0, by omega, rfl, (by intro c hc; simp at hc), .inl ⟨by simp [valD], rfl, by simp [valD]⟩⟩
  case round =>
    obtain ⟨k, hk, rfl, HA, hv⟩ := hrel
    by_cases hlt : k < s.size
    · have hsn := valD_snoc (s.data.toList.take k) s[k]
      rw [← take_snoc s k hlt] at hsn
      have HE : isD s[k] = false → readF s.data.toList = _ := fun h => readF_of s k hk HA.out (.inr ⟨hlt, h⟩)
      have HN : isD s[k] = true → ∀ c ∈ s.data.toList.take (k + 1), isD c = true := by
        intro h c hc
        rw [take_snoc s k hlt] at hc
        rcases List.mem_append.1 hc with hc | hc
        · exact HA.out c hc
        · simp at hc; subst hc; exact h
      have H1 := Lib.hid HE
      have H2 := Lib.hid HN
      have H3 := Lib.hid hsn
      clear HE HN hsn HA
      generalize valD (s.data.toList.take k) = v at hv H1 H3
      have hcl : s[k].toNat < 256 := s[k].toNat_lt
      by_cases c1 : 48 ≤ s[k].toNat
      · have i1 : (48 : Int) ≤ (s[k].toNat : Int) := by omega
        by_cases c2 : s[k].toNat ≤ 57
        · have i2 : (s[k].toNat : Int) ≤ 57 := by omega
          have hD : isD s[k] = true := by simp [isD, c1, c2]
          have HA2 : Hid (∀ c ∈ s.data.toList.take (k + 1), isD c = true) := H2.out hD
          clear H1 H2 hD
          rcases hv with ⟨hv, rfl, rfl⟩ | ⟨hv, rfl, rfl⟩
          · by_cases hbig : v * 10 + (s[k].toNat - 48) ≤ 576460752303423487
            · have hd : decide ((576460752303423487 : Int) < (v : Int) * 10 + ((s[k].toNat : Int) - 48)) = false := by simp; omega
              go_wp2_with fail
              go_round
              case rel => exact ⟨k + 1, by omega, by go_num, HA2, .inl ⟨by rw [H3.out]; omega, rfl, by rw [H3.out]; go_num⟩⟩
              case measure => simp [intOf]; omega
            · have hd : decide ((576460752303423487 : Int) < (v : Int) * 10 + ((s[k].toNat : Int) - 48)) = true := by simp; omega
              go_wp2_with fail
              go_round
              case rel => exact ⟨k + 1, by omega, by go_num, HA2, .inr ⟨by rw [H3.out]; omega, rfl, rfl⟩⟩
              case measure => simp [intOf]; omega
          · have hd : decide ((576460752303423487 : Int) < 5764607523034234880 + ((s[k].toNat : Int) - 48)) = true := by simp; omega
            go_wp2_with fail
            go_round
            case rel => exact ⟨k + 1, by omega, by go_num, HA2, .inr ⟨by rw [H3.out]; omega, rfl, rfl⟩⟩
            case measure => simp [intOf]; omega
        · have i2 : ¬ (s[k].toNat : Int) ≤ 57 := by omega
          have i3 : decide ((s[k].toNat : Int) ≤ 57) = false := by simp; omega
          have hcD : isD s[k] = false := by simp [isD]; omega
          clear H2 H3
          rcases hv with ⟨hv, rfl, rfl⟩ | ⟨hv, rfl, rfl⟩
          · by_cases h0 : k = 0
            · subst h0
              go_wp2_with fail
              go_ret3
              rw [H1.out hcD]
              exact ⟨rfl, rfl⟩
            · have hz : ((k : Int) == 0) = false := by simp; omega
              go_wp2_with fail
              go_ret3
              rw [H1.out hcD, if_neg h0, if_neg (by omega)]
              exact ⟨rfl, rfl⟩
          · by_cases h0 : k = 0
            · subst h0
              go_wp2_with fail
              go_ret3
              rw [H1.out hcD]
              exact ⟨rfl, rfl⟩
            · have hz : ((k : Int) == 0) = false := by simp; omega
              go_wp2_with fail
              go_ret3
              rw [H1.out hcD, if_neg h0, if_pos (by omega)]
              exact ⟨rfl, rfl⟩
      · have i1 : decide ((48 : Int) ≤ (s[k].toNat : Int)) = false := by simp; omega
        have hcD : isD s[k] = false := by simp [isD]; omega
        clear H2 H3
        rcases hv with ⟨hv, rfl, rfl⟩ | ⟨hv, rfl, rfl⟩
        · by_cases h0 : k = 0
          · subst h0
            go_wp2_with fail
            go_ret3
            rw [H1.out hcD]
            exact ⟨rfl, rfl⟩
          · have hz : ((k : Int) == 0) = false := by simp; omega
            go_wp2_with fail
            go_ret3
            rw [H1.out hcD, if_neg h0, if_neg (by omega)]
            exact ⟨rfl, rfl⟩
        · by_cases h0 : k = 0
          · subst h0
            go_wp2_with fail
            go_ret3
            rw [H1.out hcD]
            exact ⟨rfl, rfl⟩
          · have hz : ((k : Int) == 0) = false := by simp; omega
            go_wp2_with fail
            go_ret3
            rw [H1.out hcD, if_neg h0, if_pos (by omega)]
            exact ⟨rfl, rfl⟩
    · have HE := readF_of s k hk HA.out (.inl (by omega))
      have H1 := Lib.hid HE
      clear HE HA
      generalize valD (s.data.toList.take k) = v at hv H1
      rcases hv with ⟨hv, rfl, rfl⟩ | ⟨hv, rfl, rfl⟩
      · by_cases h0 : k = 0
        · subst h0
          go_wp2_with fail
          go_ret3
          rw [H1.out]
          exact ⟨rfl, rfl⟩
        · have hz : ((k : Int) == 0) = false := by simp; omega
          go_wp2_with fail
          go_ret3
          rw [H1.out, if_neg h0, if_neg (by omega)]
          exact ⟨rfl, rfl⟩
      · by_cases h0 : k = 0
        · subst h0
          go_wp2_with fail
          go_ret3
          rw [H1.out]
          exact ⟨rfl, rfl⟩
        · have hz : ((k : Int) == 0) = false := by simp; omega
          go_wp2_with fail
          go_ret3
          rw [H1.out, if_neg h0, if_pos (by omega)]
          exact ⟨rfl, rfl⟩
end Go.Proofs.Ytjjlfaknebbhfaa
