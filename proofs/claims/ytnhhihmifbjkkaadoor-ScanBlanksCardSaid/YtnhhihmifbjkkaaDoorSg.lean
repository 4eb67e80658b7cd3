/- scan: the reference's Blank and mark, walked (printed by gensg.py). Conditions: lengths fit. -/
import Derived.Test.YtnhhihmifbjkkaaDoorSf
namespace Go.Proofs.YtnhhihmifbjkkaaDoor
open Go.ChangeShapes Go.WideShapes Go.ChangeAt Go.RowKit
set_option linter.unusedVariables false
theorem blk_cons (note : Bool) {s : ByteArray} {k : Nat} (h : k < s.size) : blk note (s.data.toList.drop k) = if s[k] = 10 then blk false (s.data.toList.drop (k + 1)) + 1 else if s[k] = 37 then blk true (s.data.toList.drop (k + 1)) + 1 else if (note || bl s[k]) = true then blk note (s.data.toList.drop (k + 1)) + 1 else 0 := by
  rw [drop_byte h, blk]
theorem blk_nil (note : Bool) {s : ByteArray} {k : Nat} (h : s.size ≤ k) : blk note (s.data.toList.drop k) = 0 := by
  rw [List.drop_eq_nil_of_le (by simpa using h)]; simp [blk]
set_option maxHeartbeats 4000000 in
theorem rblank_any (s : ByteArray) (hs : s.size ≤ 1099511627776) (a : Int) (ha : a ≤ 9223372036854775807) (w : World) : Calls Tryd.prog 10 #[.string s, .int .i64 a] w (NumP w (blankN s a)) := by
  by_cases h0 : a < 0
  · have e : blankN s a = a := by rw [blankN, if_pos (.inl h0)]
    rw [e]
    clear e
    go_enter Tryd.func10, Tryd.ntmps10
    go_wp2_with fail
    go_ret
    exact ⟨rfl, rfl⟩
  · obtain ⟨o, rfl⟩ : ∃ o : Nat, a = (o : Int) := ⟨a.toNat, by omega⟩
    obtain ⟨n, hn⟩ : ∃ n, n = o + blk false (s.data.toList.drop o) := ⟨_, rfl⟩
    have e : blankN s (o : Int) = (n : Int) := by
      by_cases h1 : s.size ≤ o
      · rw [blankN, if_pos (by omega), hn, blk_nil _ h1]
        simp
      · rw [blankN, if_neg (by omega), hn]
        rfl
    rw [e]
    have HN := Lib.hid hn
    clear e h0 hn
    have d0 : decide ((o : Int) < 0) = false := by simp
    go_enter Tryd.func10, Tryd.ntmps10
    go_wp2_with fail
    clear d0
    go_loop [1] (fun iv => ∃ k : Nat, k ≤ 9223372036854775807 ∧ iv = .int .i64 k ∧ Hid (n = k + blk false (s.data.toList.drop k))) (fun iv => s.size - (intOf iv).toNat)
    case atStart => exact ⟨o, by omega, rfl, Lib.hid HN.out⟩
    case round =>
      obtain ⟨k, hk, rfl, HK⟩ := hrel
      by_cases hlt : k < s.size
      · have HB := Lib.hid (blk_cons false hlt)
        by_cases c32 : s[k] = 32
        · have q : ((s[k].toNat : Int) == 32) = true := by rw [c32]; rfl
          have HR : Hid (n = k + 1 + blk false (s.data.toList.drop (k + 1))) := Lib.hid (by rw [HK.out, HB.out, c32]; simp [bl]; omega)
          clear c32
          go_wp2_with fail
          go_round
          case rel => exact ⟨k + 1, by omega, by go_num, HR⟩
          case measure => simp [intOf]; omega
        have qc32 : ((s[k].toNat : Int) == 32) = false := u8_ne (n := 32) (by decide) c32
        by_cases c9 : s[k] = 9
        · have q : ((s[k].toNat : Int) == 9) = true := by rw [c9]; rfl
          have HR : Hid (n = k + 1 + blk false (s.data.toList.drop (k + 1))) := Lib.hid (by rw [HK.out, HB.out, c9]; simp [bl]; omega)
          clear c9
          go_wp2_with fail
          go_round
          case rel => exact ⟨k + 1, by omega, by go_num, HR⟩
          case measure => simp [intOf]; omega
        have qc9 : ((s[k].toNat : Int) == 9) = false := u8_ne (n := 9) (by decide) c9
        by_cases c10 : s[k] = 10
        · have q : ((s[k].toNat : Int) == 10) = true := by rw [c10]; rfl
          have HR : Hid (n = k + 1 + blk false (s.data.toList.drop (k + 1))) := Lib.hid (by rw [HK.out, HB.out, c10]; simp [bl]; omega)
          clear c10
          go_wp2_with fail
          go_round
          case rel => exact ⟨k + 1, by omega, by go_num, HR⟩
          case measure => simp [intOf]; omega
        have qc10 : ((s[k].toNat : Int) == 10) = false := u8_ne (n := 10) (by decide) c10
        by_cases c13 : s[k] = 13
        · have q : ((s[k].toNat : Int) == 13) = true := by rw [c13]; rfl
          have HR : Hid (n = k + 1 + blk false (s.data.toList.drop (k + 1))) := Lib.hid (by rw [HK.out, HB.out, c13]; simp [bl]; omega)
          clear c13
          go_wp2_with fail
          go_round
          case rel => exact ⟨k + 1, by omega, by go_num, HR⟩
          case measure => simp [intOf]; omega
        have qc13 : ((s[k].toNat : Int) == 13) = false := u8_ne (n := 13) (by decide) c13
        by_cases c37 : s[k] = 37
        · have q : ((s[k].toNat : Int) == 37) = true := by rw [c37]; rfl
          have HR : Hid (n = k + blk true (s.data.toList.drop k)) := Lib.hid (by
            have h1 := HB.out
            have h2 := blk_cons true hlt
            rw [if_neg c10, if_pos c37] at h1 h2
            rw [HK.out, h1, h2])
          have HC := Lib.hid c37
          clear c37 c32 c9 c10 c13
          go_wp2_with fail
          go_loop [1] (fun iv => ∃ j : Nat, k ≤ j ∧ j ≤ s.size ∧ iv = .int .i64 j ∧ Hid (n = j + blk true (s.data.toList.drop j))) (fun iv => s.size - (intOf iv).toNat)
          case atStart => exact ⟨k, by omega, by omega, rfl, HR⟩
          case round =>
            obtain ⟨j, hj, hj2, rfl, HJ⟩ := hrel
            by_cases hjs : j < s.size
            · by_cases c10 : s[j] = 10
              · have q10 : ((s[j].toNat : Int) != 10) = false := by rw [c10]; rfl
                have hjk : k < j := by
                  rcases Nat.lt_or_ge k j with h | h
                  · exact h
                  · obtain rfl : j = k := by omega
                    rw [HC.out] at c10
                    cases c10
                have HE : Hid (n = j + blk false (s.data.toList.drop j)) := Lib.hid (by rw [HJ.out, blk_cons true hjs, blk_cons false hjs, if_pos c10, if_pos c10])
                clear c10
                go_wp2_with fail
                go_round
                case rel => exact ⟨j, by omega, rfl, HE⟩
                case measure => simp [intOf]; omega
              · have q10 : ((s[j].toNat : Int) != 10) = true := u8_neb (n := 10) (by decide) c10
                have HE : Hid (n = j + 1 + blk true (s.data.toList.drop (j + 1))) := Lib.hid (by
                  rw [HJ.out, blk_cons true hjs, if_neg c10]
                  split
                  · omega
                  · simp
                    omega)
                clear c10
                go_wp2_with fail
                go_round
                case rel => exact ⟨j + 1, by omega, by omega, by go_num, HE⟩
                case measure => simp [intOf]; omega
            · have HE : Hid (n = j + blk false (s.data.toList.drop j)) := Lib.hid (by rw [HJ.out, blk_nil _ (by omega), blk_nil _ (by omega)])
              go_wp2_with fail
              go_round
              case rel => exact ⟨j, by omega, rfl, HE⟩
              case measure => simp [intOf]; omega
        · have q37 : ((s[k].toNat : Int) == 37) = false := u8_ne (n := 37) (by decide) c37
          have HR : Hid ((n : Int) = (k : Int)) := Lib.hid (by
            rw [HK.out, HB.out, if_neg c10, if_neg c37, if_neg]
            · simp
            · simp [bl, c32, c9, c13])
          clear c37 c32 c9 c10 c13
          go_wp2_with fail
          go_ret
          exact ⟨ret_int HR.out.symm, rfl⟩
      · have HR : Hid ((n : Int) = (k : Int)) := Lib.hid (by rw [HK.out, blk_nil _ (by omega)]; simp)
        go_wp2_with fail
        go_ret
        exact ⟨ret_int HR.out.symm, rfl⟩
def markN (l : List UInt8) : Nat := match markF l with | some m => m.length | none => 0
def onesL : List UInt8 := [60, 62, 61, 43, 45, 42, 40, 41, 91, 93, 123, 125, 44, 59, 124, 58, 47]
def onesN (n : Nat) : Prop := n = 60 ∨ n = 62 ∨ n = 61 ∨ n = 43 ∨ n = 45 ∨ n = 42 ∨ n = 40 ∨ n = 41 ∨ n = 91 ∨ n = 93 ∨ n = 123 ∨ n = 125 ∨ n = 44 ∨ n = 59 ∨ n = 124 ∨ n = 58 ∨ n = 47
theorem find_ones (a : UInt8) (t : List UInt8) : ∀ L : List UInt8, (L.map fun c => [c]).find? (fun m => m.isPrefixOf (a :: t)) = if a ∈ L then some [a] else none
  | [] => by simp
  | c :: L => by
    rw [List.map_cons, List.find?_cons, find_ones a t L]
    by_cases h : a = c
    · subst h
      simp
    · have : (c == a) = false := by rw [beq_eq_false_iff_ne]; exact fun e => h e.symm
      simp [List.isPrefixOf, this, h]
theorem markF_eq (l : List UInt8) : markF l = if List.isPrefixOf [61, 58, 61] l = true then some [61, 58, 61] else if List.isPrefixOf [61, 47, 61] l = true then some [61, 47, 61] else if List.isPrefixOf [45, 62] l = true then some [45, 62] else
    if List.isPrefixOf [61, 60] l = true then some [61, 60] else if List.isPrefixOf [62, 61] l = true then some [62, 61] else (onesL.map fun c => [c]).find? (fun m => m.isPrefixOf l) := by
  have e : marksL = [61, 58, 61] :: [61, 47, 61] :: [45, 62] :: [61, 60] :: [62, 61] :: onesL.map fun c => [c] := rfl
  unfold markF
  rw [e]
  simp only [List.find?_cons]
  cases List.isPrefixOf [61, 58, 61] l <;> cases List.isPrefixOf [61, 47, 61] l <;> cases List.isPrefixOf [45, 62] l <;> cases List.isPrefixOf [61, 60] l <;> cases List.isPrefixOf [62, 61] l <;> rfl
theorem mem_ones (c : UInt8) : c ∈ onesL ↔ onesN c.toNat := by
  have h : ∀ k : UInt8, c = k ↔ c.toNat = k.toNat := fun k => UInt8.toNat_inj.symm
  simp only [onesL, List.mem_cons, List.not_mem_nil, or_false, h]
  rfl
theorem markN_one {a : UInt8} {t : List UInt8} (p0 : List.isPrefixOf [61, 58, 61] (a :: t) = false) (p1 : List.isPrefixOf [61, 47, 61] (a :: t) = false) (p2 : List.isPrefixOf [45, 62] (a :: t) = false)
    (p3 : List.isPrefixOf [61, 60] (a :: t) = false) (p4 : List.isPrefixOf [62, 61] (a :: t) = false) : (onesN a.toNat → markN (a :: t) = 1) ∧ (¬ onesN a.toNat → markN (a :: t) = 0) := by
  unfold markN
  rw [markF_eq, p0, p1, p2, p3, p4, find_ones]
  simp only [Bool.false_eq_true, if_false]
  constructor
  · intro h; rw [if_pos ((mem_ones a).2 h)]; rfl
  · intro h; rw [if_neg (fun e => h ((mem_ones a).1 e))]
theorem ext_eq {s : ByteArray} {m : List UInt8} (n : Nat) (hn : m.length = n) : ((s.extract 0 n).toList == m) = m.isPrefixOf s.data.toList := by
  subst hn
  rw [Bool.eq_iff_iff, beq_iff_eq, pref_take, ByteArray.toList_eq]
  simp
theorem head_of {s : ByteArray} (h : 0 < s.size) : s.data.toList = s[0] :: s.data.toList.drop 1 := by
  have := drop_byte h
  simpa using this
set_option maxHeartbeats 8000000 in
theorem mark_any (s : ByteArray) (h0 : 0 < s.size) (hs : s.size ≤ 1099511627776) (w : World) : Calls Tryd.prog 22 #[.string s] w (NumP w (markN s.data.toList)) := by
  have HH := Lib.hid (head_of h0)
  have hsh : ∀ m : List UInt8, s.size < m.length → m.isPrefixOf s.data.toList = false := fun m hm => by
    rw [← Bool.not_eq_true]
    intro hp
    have := congrArg List.length (pref_take.1 hp)
    simp at this
    omega
  have HSH := Lib.hid hsh
  clear hsh
  by_cases h3 : 3 ≤ s.size
  · have h2 : 2 ≤ s.size := by omega
    by_cases p0 : List.isPrefixOf [61, 58, 61] s.data.toList = true
    · have HE : Hid (markN s.data.toList = 3) := Lib.hid (by
        unfold markN; rw [markF_eq, p0]; rfl)
      have q : ((s.extract 0 3).toList == [61, 58, 61]) = true := (ext_eq 3 rfl).trans p0
      clear p0
      go_enter Tryd.func22, Tryd.ntmps22
      go_wp2_with fail
      go_ret
      exact ⟨ret_int (by rw [HE.out]; rfl), rfl⟩
    replace p0 : List.isPrefixOf [61, 58, 61] s.data.toList = false := by rw [← Bool.not_eq_true]; exact p0
    have r0 : ((s.extract 0 3).toList == [61, 58, 61]) = false := (ext_eq 3 rfl).trans p0
    by_cases p1 : List.isPrefixOf [61, 47, 61] s.data.toList = true
    · have HE : Hid (markN s.data.toList = 3) := Lib.hid (by
        unfold markN; rw [markF_eq, p0, p1]; rfl)
      have q : ((s.extract 0 3).toList == [61, 47, 61]) = true := (ext_eq 3 rfl).trans p1
      clear p1
      go_enter Tryd.func22, Tryd.ntmps22
      go_wp2_with fail
      go_ret
      exact ⟨ret_int (by rw [HE.out]; rfl), rfl⟩
    replace p1 : List.isPrefixOf [61, 47, 61] s.data.toList = false := by rw [← Bool.not_eq_true]; exact p1
    have r1 : ((s.extract 0 3).toList == [61, 47, 61]) = false := (ext_eq 3 rfl).trans p1
    by_cases p2 : List.isPrefixOf [45, 62] s.data.toList = true
    · have HE : Hid (markN s.data.toList = 2) := Lib.hid (by
        unfold markN; rw [markF_eq, p0, p1, p2]; rfl)
      have q : ((s.extract 0 2).toList == [45, 62]) = true := (ext_eq 2 rfl).trans p2
      clear p2
      go_enter Tryd.func22, Tryd.ntmps22
      go_wp2_with fail
      go_ret
      exact ⟨ret_int (by rw [HE.out]; rfl), rfl⟩
    replace p2 : List.isPrefixOf [45, 62] s.data.toList = false := by rw [← Bool.not_eq_true]; exact p2
    have r2 : ((s.extract 0 2).toList == [45, 62]) = false := (ext_eq 2 rfl).trans p2
    by_cases p3 : List.isPrefixOf [61, 60] s.data.toList = true
    · have HE : Hid (markN s.data.toList = 2) := Lib.hid (by
        unfold markN; rw [markF_eq, p0, p1, p2, p3]; rfl)
      have q : ((s.extract 0 2).toList == [61, 60]) = true := (ext_eq 2 rfl).trans p3
      clear p3
      go_enter Tryd.func22, Tryd.ntmps22
      go_wp2_with fail
      go_ret
      exact ⟨ret_int (by rw [HE.out]; rfl), rfl⟩
    replace p3 : List.isPrefixOf [61, 60] s.data.toList = false := by rw [← Bool.not_eq_true]; exact p3
    have r3 : ((s.extract 0 2).toList == [61, 60]) = false := (ext_eq 2 rfl).trans p3
    by_cases p4 : List.isPrefixOf [62, 61] s.data.toList = true
    · have HE : Hid (markN s.data.toList = 2) := Lib.hid (by
        unfold markN; rw [markF_eq, p0, p1, p2, p3, p4]; rfl)
      have q : ((s.extract 0 2).toList == [62, 61]) = true := (ext_eq 2 rfl).trans p4
      clear p4
      go_enter Tryd.func22, Tryd.ntmps22
      go_wp2_with fail
      go_ret
      exact ⟨ret_int (by rw [HE.out]; rfl), rfl⟩
    replace p4 : List.isPrefixOf [62, 61] s.data.toList = false := by rw [← Bool.not_eq_true]; exact p4
    have r4 : ((s.extract 0 2).toList == [62, 61]) = false := (ext_eq 2 rfl).trans p4
    have HE : Hid ((onesN s[0].toNat → markN s.data.toList = 1) ∧ (¬ onesN s[0].toNat → markN s.data.toList = 0)) := Lib.hid (by
      rw [HH.out] at p0 p1 p2 p3 p4 ⊢
      exact markN_one p0 p1 p2 p3 p4)
    clear p0 p1 p2 p3 p4
    go_enter Tryd.func22, Tryd.ntmps22
    go_wp2_with fail
    all_goals
      go_ret
      simp only [beq_iff_eq, beq_eq_false_iff_ne, ne_eq] at *
      first
      | exact ⟨ret_int (by rw [HE.out.1 (by unfold onesN; omega)]; rfl), rfl⟩
      | exact ⟨ret_int (by rw [HE.out.2 (by unfold onesN; omega)]; rfl), rfl⟩
  · by_cases h2 : 2 ≤ s.size
    · have p0 := HSH.out [61, 58, 61] (by simp; omega)
      have p1 := HSH.out [61, 47, 61] (by simp; omega)
      by_cases p2 : List.isPrefixOf [45, 62] s.data.toList = true
      · have HE : Hid (markN s.data.toList = 2) := Lib.hid (by
          unfold markN; rw [markF_eq, p0, p1, p2]; rfl)
        have q : ((s.extract 0 2).toList == [45, 62]) = true := (ext_eq 2 rfl).trans p2
        clear p2
        go_enter Tryd.func22, Tryd.ntmps22
        go_wp2_with fail
        go_ret
        exact ⟨ret_int (by rw [HE.out]; rfl), rfl⟩
      replace p2 : List.isPrefixOf [45, 62] s.data.toList = false := by rw [← Bool.not_eq_true]; exact p2
      have r2 : ((s.extract 0 2).toList == [45, 62]) = false := (ext_eq 2 rfl).trans p2
      by_cases p3 : List.isPrefixOf [61, 60] s.data.toList = true
      · have HE : Hid (markN s.data.toList = 2) := Lib.hid (by
          unfold markN; rw [markF_eq, p0, p1, p2, p3]; rfl)
        have q : ((s.extract 0 2).toList == [61, 60]) = true := (ext_eq 2 rfl).trans p3
        clear p3
        go_enter Tryd.func22, Tryd.ntmps22
        go_wp2_with fail
        go_ret
        exact ⟨ret_int (by rw [HE.out]; rfl), rfl⟩
      replace p3 : List.isPrefixOf [61, 60] s.data.toList = false := by rw [← Bool.not_eq_true]; exact p3
      have r3 : ((s.extract 0 2).toList == [61, 60]) = false := (ext_eq 2 rfl).trans p3
      by_cases p4 : List.isPrefixOf [62, 61] s.data.toList = true
      · have HE : Hid (markN s.data.toList = 2) := Lib.hid (by
          unfold markN; rw [markF_eq, p0, p1, p2, p3, p4]; rfl)
        have q : ((s.extract 0 2).toList == [62, 61]) = true := (ext_eq 2 rfl).trans p4
        clear p4
        go_enter Tryd.func22, Tryd.ntmps22
        go_wp2_with fail
        go_ret
        exact ⟨ret_int (by rw [HE.out]; rfl), rfl⟩
      replace p4 : List.isPrefixOf [62, 61] s.data.toList = false := by rw [← Bool.not_eq_true]; exact p4
      have r4 : ((s.extract 0 2).toList == [62, 61]) = false := (ext_eq 2 rfl).trans p4
      have HE : Hid ((onesN s[0].toNat → markN s.data.toList = 1) ∧ (¬ onesN s[0].toNat → markN s.data.toList = 0)) := Lib.hid (by
        rw [HH.out] at p0 p1 p2 p3 p4 ⊢
        exact markN_one p0 p1 p2 p3 p4)
      clear p0 p1 p2 p3 p4
      go_enter Tryd.func22, Tryd.ntmps22
      go_wp2_with fail
      all_goals
        go_ret
        simp only [beq_iff_eq, beq_eq_false_iff_ne, ne_eq] at *
        first
        | exact ⟨ret_int (by rw [HE.out.1 (by unfold onesN; omega)]; rfl), rfl⟩
        | exact ⟨ret_int (by rw [HE.out.2 (by unfold onesN; omega)]; rfl), rfl⟩
    · have p0 := HSH.out [61, 58, 61] (by simp; omega)
      have p1 := HSH.out [61, 47, 61] (by simp; omega)
      have p2 := HSH.out [45, 62] (by simp; omega)
      have p3 := HSH.out [61, 60] (by simp; omega)
      have p4 := HSH.out [62, 61] (by simp; omega)
      have HE : Hid ((onesN s[0].toNat → markN s.data.toList = 1) ∧ (¬ onesN s[0].toNat → markN s.data.toList = 0)) := Lib.hid (by
        rw [HH.out] at p0 p1 p2 p3 p4 ⊢
        exact markN_one p0 p1 p2 p3 p4)
      clear p0 p1 p2 p3 p4
      go_enter Tryd.func22, Tryd.ntmps22
      go_wp2_with fail
      all_goals
        go_ret
        simp only [beq_iff_eq, beq_eq_false_iff_ne, ne_eq] at *
        first
        | exact ⟨ret_int (by rw [HE.out.1 (by unfold onesN; omega)]; rfl), rfl⟩
        | exact ⟨ret_int (by rw [HE.out.2 (by unfold onesN; omega)]; rfl), rfl⟩
end Go.Proofs.YtnhhihmifbjkkaaDoor
