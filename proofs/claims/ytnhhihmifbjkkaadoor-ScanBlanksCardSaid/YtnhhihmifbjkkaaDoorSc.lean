/- scan: Blank and the reference's, walked. Conditions: lengths fit. -/
import Derived.Test.YtnhhihmifbjkkaaDoorSa
namespace Go.Proofs.YtnhhihmifbjkkaaDoor
open Go.ChangeShapes Go.WideShapes Go.ChangeAt Go.RowKit
set_option linter.unusedVariables false
def blankN (s : ByteArray) (at_ : Int) : Int := if at_ < 0 ∨ (s.size : Int) ≤ at_ then at_ else ((at_.toNat + blk false (s.data.toList.drop at_.toNat) : Nat) : Int)
def NumP (w : World) (n : Int) (e : Ending) (w' : World) : Prop := e = .returned (.int .i64 n) ∧ w = w'
theorem ret_int {k : IntKind} {a b : Int} (h : a = b) : Ending.returned (.int k a) = .returned (.int k b) := by rw [h]
theorem drop_byte {s : ByteArray} {k : Nat} (h : k < s.size) : s.data.toList.drop k = s[k] :: s.data.toList.drop (k + 1) := by
  rw [List.drop_eq_getElem_cons (by simpa using h)]
  rfl
theorem u8_ne {c : UInt8} {n : Nat} (hn : n < 256) (h : c ≠ UInt8.ofNat n) : ((c.toNat : Int) == (n : Int)) = false := by
  rw [beq_eq_false_iff_ne]
  intro e
  apply h
  have e' : c.toNat = n := by omega
  rw [← e']
  simp
theorem u8_neb {c : UInt8} {n : Nat} (hn : n < 256) (h : c ≠ UInt8.ofNat n) : ((c.toNat : Int) != (n : Int)) = true := by
  rw [bne, u8_ne hn h]; rfl
set_option maxHeartbeats 2000000 in
theorem blank_any (s : ByteArray) (hs : s.size ≤ 1099511627776) (a : Int) (w : World) : Calls Tryd.prog 9 #[.string s, .int .i64 a] w (NumP w (blankN s a)) := by
  by_cases h0 : a < 0
  · have e : blankN s a = a := by rw [blankN, if_pos (.inl h0)]
    rw [e]
    clear e
    go_enter Tryd.func9, Tryd.ntmps9
    go_wp2_with fail
    go_ret
    exact ⟨rfl, rfl⟩
  · by_cases h1 : (s.size : Int) ≤ a
    · have e : blankN s a = a := by rw [blankN, if_pos (.inr h1)]
      rw [e]
      clear e
      go_enter Tryd.func9, Tryd.ntmps9
      go_wp2_with fail
      go_ret
      exact ⟨rfl, rfl⟩
    · obtain ⟨o, rfl⟩ : ∃ o : Nat, a = (o : Int) := ⟨a.toNat, by omega⟩
      have e : blankN s (o : Int) = ((o + blk false (s.data.toList.drop o) : Nat) : Int) := by rw [blankN, if_neg (by omega)]; rfl
      rw [e]
      have hos : o < s.size := by omega
      obtain ⟨n, hn⟩ : ∃ n, n = blk false (s.data.toList.drop o) := ⟨_, rfl⟩
      rw [← hn]
      have HN := Lib.hid hn
      clear e h0 h1 hn
      have d0 : decide ((o : Int) < 0) = false := by simp
      have d1 : decide (s.size ≤ o) = false := by simp; omega
      go_enter Tryd.func9, Tryd.ntmps9
      go_wp2_with fail
      clear d0 d1
      go_loop [5, 21] (fun nv iv => ∃ (note : Bool) (k : Nat), o + k ≤ s.size ∧ nv = .bool note ∧ iv = .int .i64 k ∧ Hid (n = k + blk note (s.data.toList.drop (o + k)))) (fun _ iv => s.size - (intOf iv).toNat)
      case atStart => exact ⟨false, 0, by omega, rfl, rfl, Lib.hid (by rw [HN.out]; simp)⟩
      case round =>
        obtain ⟨note, k, hk, rfl, rfl, HK⟩ := hrel
        by_cases hlt : o + k < s.size
        · have hlt' : k < s.size - o := by omega
          have hb : blk note (s.data.toList.drop (o + k)) = if s[o + k] = 10 then blk false (s.data.toList.drop (o + k + 1)) + 1 else if s[o + k] = 37 then blk true (s.data.toList.drop (o + k + 1)) + 1 else if (note || bl s[o + k]) = true then blk note (s.data.toList.drop (o + k + 1)) + 1 else 0 := by rw [drop_byte hlt, blk]
          have HB := Lib.hid hb
          clear hb
          by_cases c1 : s[o + k] = 10
          · have q1 : ((s[o + k].toNat : Int) == 10) = true := by rw [c1]; rfl
            have HR : Hid (n = k + 1 + blk false (s.data.toList.drop (o + (k + 1)))) := Lib.hid (by rw [HK.out, HB.out, if_pos c1]; rw [show o + (k + 1) = o + k + 1 by omega]; omega)
            clear c1
            go_wp2_with fail
            go_round
            case rel => exact ⟨false, k + 1, by omega, rfl, by go_num, HR⟩
            case measure => simp [intOf]; omega
          · by_cases c2 : s[o + k] = 37
            · have q1 : ((s[o + k].toNat : Int) == 10) = false := u8_ne (n := 10) (by decide) c1
              have q2 : ((s[o + k].toNat : Int) == 37) = true := by rw [c2]; rfl
              have HR : Hid (n = k + 1 + blk true (s.data.toList.drop (o + (k + 1)))) := Lib.hid (by rw [HK.out, HB.out, if_neg c1, if_pos c2]; rw [show o + (k + 1) = o + k + 1 by omega]; omega)
              clear c1 c2
              go_wp2_with fail
              go_round
              case rel => exact ⟨true, k + 1, by omega, rfl, by go_num, HR⟩
              case measure => simp [intOf]; omega
            · have q1 : ((s[o + k].toNat : Int) == 10) = false := u8_ne (n := 10) (by decide) c1
              have q2 : ((s[o + k].toNat : Int) == 37) = false := u8_ne (n := 37) (by decide) c2
              by_cases c3 : (note || bl s[o + k]) = true
              · have HR : Hid (n = k + 1 + blk note (s.data.toList.drop (o + (k + 1)))) := Lib.hid (by rw [HK.out, HB.out, if_neg c1, if_neg c2, if_pos c3]; rw [show o + (k + 1) = o + k + 1 by omega]; omega)
                have c4 : note = true ∨ (note = false ∧ (s[o + k] = 32 ∨ (s[o + k] ≠ 32 ∧ (s[o + k] = 9 ∨ (s[o + k] ≠ 9 ∧ s[o + k] = 13))))) := by
                  cases note
                  · simp [bl] at c3
                    simp
                    by_cases x : s[o + k] = 32
                    · exact .inl x
                    · by_cases y : s[o + k] = 9
                      · exact .inr ⟨x, .inl y⟩
                      · exact .inr ⟨x, .inr ⟨y, by simpa [x, y] using c3⟩⟩
                  · exact .inl rfl
                clear c1 c2 c3
                rcases c4 with rfl | ⟨rfl, c | ⟨c', c | ⟨c'', c⟩⟩⟩
                · go_wp2_with fail
                  go_round
                  case rel => exact ⟨true, k + 1, by omega, rfl, by go_num, HR⟩
                  case measure => simp [intOf]; omega
                · have q3 : ((s[o + k].toNat : Int) != 32) = false := by rw [c]; rfl
                  clear c
                  go_wp2_with fail
                  go_round
                  case rel => exact ⟨false, k + 1, by omega, rfl, by go_num, HR⟩
                  case measure => simp [intOf]; omega
                · have q3 : ((s[o + k].toNat : Int) != 9) = false := by rw [c]; rfl
                  have q4 : ((s[o + k].toNat : Int) != 32) = true := u8_neb (n := 32) (by decide) c'
                  clear c c'
                  go_wp2_with fail
                  go_round
                  case rel => exact ⟨false, k + 1, by omega, rfl, by go_num, HR⟩
                  case measure => simp [intOf]; omega
                · have q3 : ((s[o + k].toNat : Int) != 13) = false := by rw [c]; rfl
                  have q4 : ((s[o + k].toNat : Int) != 32) = true := u8_neb (n := 32) (by decide) c'
                  have q5 : ((s[o + k].toNat : Int) != 9) = true := u8_neb (n := 9) (by decide) c''
                  clear c c' c''
                  go_wp2_with fail
                  go_round
                  case rel => exact ⟨false, k + 1, by omega, rfl, by go_num, HR⟩
                  case measure => simp [intOf]; omega
              · have HR : Hid (n = k) := Lib.hid (by rw [HK.out, HB.out, if_neg c1, if_neg c2, if_neg c3]; rfl)
                simp [bl] at c3
                obtain ⟨rfl, c4, c5, c6⟩ := c3
                have q4 : ((s[o + k].toNat : Int) != 32) = true := u8_neb (n := 32) (by decide) c4
                have q5 : ((s[o + k].toNat : Int) != 9) = true := u8_neb (n := 9) (by decide) c5
                have q6 : ((s[o + k].toNat : Int) != 13) = true := u8_neb (n := 13) (by decide) c6
                clear c1 c2 c4 c5 c6
                go_wp2_with fail
                go_ret
                exact ⟨ret_int (by have := HR.out; omega), rfl⟩
        · have HR : Hid (((o + n : Nat) : Int) = (s.size : Int)) := Lib.hid (by
            rw [HK.out, List.drop_eq_nil_of_le (by simp; omega)]
            simp [blk]
            omega)
          have hge : ¬ k < s.size - o := by omega
          go_wp2_with fail
          go_ret
          exact ⟨ret_int (by have := HR.out; omega), rfl⟩
end Go.Proofs.YtnhhihmifbjkkaaDoor
