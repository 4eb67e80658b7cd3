/- clock: Next; the law ClockNext, walked. Conditions: the table of letters reads as laid; numbers read. -/
import Derived.Test.YtjganindmklaaaaDoorCc
namespace Go.Proofs.YtjganindmklaaaaDoor
open Go.ChangeShapes Go.WideShapes Go.ChangeAt Go.RowKit
set_option linter.unusedVariables false
def lstS (p : Int × Bool) (x : Int) : Int × Bool := if timeB x = true ∧ (p.2 = false ∨ x < p.1) then (x, true) else p
def lst (l : List Int) : Int × Bool := l.foldl lstS (0, false)
theorem lst_snoc (l : List Int) (x : Int) : lst (l ++ [x]) = lstS (lst l) x := by simp [lst, List.foldl_append]
theorem lst_take {l : List Int} {i : Nat} {x : Int} (h : l[i]? = some x) : lst (l.take (i + 1)) = lstS (lst (l.take i)) x := by
  rw [List.take_add_one, h]
  exact lst_snoc _ _
theorem list_snoc_ind {α : Type} {p : List α → Prop} (h0 : p []) (h1 : ∀ l a, p l → p (l ++ [a])) (l : List α) : p l := by
  have : ∀ m : List α, p m.reverse := by
    intro m
    induction m with
    | nil => exact h0
    | cons a m ih => rw [List.reverse_cons]; exact h1 _ _ ih
  simpa using this l.reverse
theorem lst_ok (l : List Int) : (∀ x ∈ l, timeB x = true → (lst l).2 = true ∧ (lst l).1 ≤ x) ∧ ((lst l).2 = true → (lst l).1 ∈ l ∧ timeB (lst l).1 = true) := by
  induction l using list_snoc_ind with
  | h0 => simp [lst]
  | h1 l a ih =>
    obtain ⟨i1, i2⟩ := ih
    rw [lst_snoc]
    unfold lstS
    split
    · rename_i hc
      refine ⟨fun x hx ht => ⟨rfl, ?_⟩, fun _ => ⟨by simp, hc.1⟩⟩
      rcases List.mem_append.1 hx with hx | hx
      · have := i1 x hx ht
        rcases hc.2 with h | h
        · rw [h] at this; cases this.1
        · show a ≤ x; omega
      · simp at hx; subst hx; exact Int.le_refl _
    · rename_i hc
      refine ⟨fun x hx ht => ?_, fun h => ⟨List.mem_append.2 (.inl (i2 h).1), (i2 h).2⟩⟩
      rcases List.mem_append.1 hx with hx | hx
      · exact i1 x hx ht
      · simp at hx
        subst hx
        have h2 : (lst l).2 = true := by
          cases h : (lst l).2
          · exact absurd ⟨ht, .inl h⟩ hc
          · rfl
        refine ⟨h2, ?_⟩
        apply Int.not_lt.1
        intro h
        exact hc ⟨ht, .inr h⟩
def fnd (n : Int) (l : List Int) : Bool := l.any fun x => timeB x && (x == n)
theorem fnd_take {l : List Int} {i : Nat} {x n : Int} (h : l[i]? = some x) : fnd n (l.take (i + 1)) = (fnd n (l.take i) || (timeB x && (x == n))) := by
  rw [List.take_add_one, h]
  simp [fnd]
theorem fnd_all (l : List Int) : fnd (lst l).1 l = (lst l).2 := by
  obtain ⟨i1, i2⟩ := lst_ok l
  rw [Bool.eq_iff_iff]
  constructor
  · intro h
    unfold fnd at h
    rw [List.any_eq_true] at h
    obtain ⟨x, hx, h⟩ := h
    rw [Bool.and_eq_true] at h
    exact (i1 x hx h.1).1
  · intro h
    unfold fnd
    rw [List.any_eq_true]
    exact ⟨_, (i2 h).1, by simp [(i2 h).2]⟩
def LeastPost (w : World) (p : Int × Bool) (e : Ending) (w' : World) : Prop := e = .returned (.tuple #[.int .i64 p.1, .bool p.2]) ∧ w = w'
set_option maxHeartbeats 1000000 in
theorem least_any (w : World) (ao : Option Addr) (cap : Nat) (l : List Int) (hl : l.length ≤ 9223372036854775807) (hs : SlV w (.slice ao l.length cap) (l.map (Value.int .i64))) :
    Calls Tryd.prog 22 #[.slice ao l.length cap, .func (.func 19) #[] #[]] w (LeastPost w (lst l)) := by
  go_enter Tryd.func22, Tryd.ntmps22
  go_wp2_with fail
  go_loop [4, 5, 10] (fun bv kv iv => ∃ i : Nat, i ≤ l.length ∧ iv = .int .i64 i ∧ bv = .int .i64 (lst (l.take i)).1 ∧ kv = .bool (lst (l.take i)).2) (fun _ _ iv => l.length - (intOf iv).toNat)
  case atStart => exact ⟨0, by omega, rfl, rfl, rfl⟩
  case round =>
    obtain ⟨i, hi, rfl, rfl, rfl⟩ := hrel
    by_cases hlt : i < l.length
    · obtain ⟨x, hx⟩ : ∃ x, l[i]? = some x := ⟨l[i], by simp [hlt]⟩
      obtain ⟨b, off, rfl, hbw, hc⟩ := hs.at (i := i) (u := .int .i64 x) (by simp [hx])
      have hn := lst_take hx
      generalize lst (l.take i) = p at *
      obtain ⟨q, ok⟩ := p
      have HT := time_any x w
      try simp only at hn
      have hcase : (timeB x = true ∧ (ok = false ∨ x < q)) ∨ (timeB x = false) ∨ (timeB x = true ∧ ok = true ∧ q ≤ x) := by
        cases h1 : timeB x
        · exact .inr (.inl rfl)
        · cases h2 : ok
          · exact .inl ⟨rfl, .inl rfl⟩
          · rcases Int.lt_or_le x q with h | h
            · exact .inl ⟨rfl, .inr h⟩
            · exact .inr (.inr ⟨rfl, rfl, h⟩)
      rcases hcase with ⟨h1, h2⟩ | h1 | ⟨h1, h2, h3⟩
      · have HN := Lib.hid (hn.trans (if_pos ⟨h1, h2⟩))
        rw [h1] at HT
        have HC := Lib.hid HT
        clear hn hx HT h1
        rcases h2 with h2 | h2
        · subst h2
          go_wp2_with fail
          refine HC.out.mono ?_
          rintro e w1 ⟨rfl, rfl⟩
          go_wp2_with fail
          go_round
          case rel => exact ⟨i + 1, by omega, by go_num, by rw [HN.out], by rw [HN.out]⟩
          case measure => simp [intOf]; omega
        · have hd : decide (x < q) = true := by simpa using h2
          cases ok
          all_goals
            go_wp2_with fail
            refine HC.out.mono ?_
            rintro e w1 ⟨rfl, rfl⟩
            go_wp2_with fail
            go_round
            case rel => exact ⟨i + 1, by omega, by go_num, by rw [HN.out], by rw [HN.out]⟩
            case measure => simp [intOf]; omega
      · have HN := Lib.hid (hn.trans (if_neg (by rw [h1]; simp)))
        rw [h1] at HT
        have HC := Lib.hid HT
        clear hn hx HT h1
        go_wp2_with fail
        refine HC.out.mono ?_
        rintro e w1 ⟨rfl, rfl⟩
        go_wp2_with fail
        go_round
        case rel => exact ⟨i + 1, by omega, by go_num, by rw [HN.out], by rw [HN.out]⟩
        case measure => simp [intOf]; omega
      · subst h2
        have HN := Lib.hid (hn.trans (if_neg (by simp; omega)))
        rw [h1] at HT
        have HC := Lib.hid HT
        have hd : decide (x < q) = false := by simpa using h3
        clear hn hx HT h1
        go_wp2_with fail
        refine HC.out.mono ?_
        rintro e w1 ⟨rfl, rfl⟩
        go_wp2_with fail
        go_round
        case rel => exact ⟨i + 1, by omega, by go_num, by rw [HN.out], by rw [HN.out]⟩
        case measure => simp [intOf]; omega
    · have hil : i = l.length := by omega
      subst hil
      rw [List.take_length]
      go_wp2_with fail
      go_ret2
      exact ⟨rfl, rfl⟩
theorem next_any (w : World) (ao : Option Addr) (cap : Nat) (l : List Int) (hl : l.length ≤ 9223372036854775807) (hs : SlV w (.slice ao l.length cap) (l.map (Value.int .i64))) :
    Calls Tryd.prog 12 #[.slice ao l.length cap] w (LeastPost w (lst l)) := by
  have HC := Lib.hid (least_any w ao cap l hl hs)
  go_enter Tryd.func12, Tryd.ntmps12
  go_wp2_with fail
  refine HC.out.mono ?_
  rintro e w1 ⟨rfl, rfl⟩
  go_wp2_with fail
  go_ret2
  exact ⟨rfl, rfl⟩
theorem lnext_great (w : World) (hw : Cells w 0 letL) (ao : Option Addr) (n cap : Nat) (hl : 1000 < n) : Calls Tryd.prog 5 #[.slice ao n cap] w (IsPost w true) := by
  have hd : decide ((1000 : Int) < (n : Int)) = true := by simp; omega
  go_enter Tryd.func5, Tryd.ntmps5
  go_wp2_with fail
  refine (wakes_any w hw).mono ?_
  rintro e w2 ⟨rfl, hb2⟩
  go_wp2_with fail
  go_ret
  exact ⟨rfl, hb2⟩
set_option maxHeartbeats 1000000 in
theorem lnext_any (w : World) (hw : Cells w 0 letL) (ao : Option Addr) (cap : Nat) (l : List Int) (hl : l.length ≤ 1000) (hs : SlV w (.slice ao l.length cap) (l.map (Value.int .i64))) :
    Calls Tryd.prog 5 #[.slice ao l.length cap] w (IsPost w true) := by
  have hd : decide ((1000 : Int) < (l.length : Int)) = false := by simp; omega
  have HC := Lib.hid (next_any w ao cap l (by omega) hs)
  have HW := Lib.hid hw
  have hok := lst_ok l
  have hall := fnd_all l
  generalize hp : lst l = p at *
  obtain ⟨n, ok⟩ := p
  simp only at hok hall
  have HOK := Lib.hid hok
  have HALL := Lib.hid hall
  clear hw hok hall hp
  go_enter Tryd.func5, Tryd.ntmps5
  go_wp2_with fail
  refine HC.out.mono ?_
  rintro e w1 ⟨rfl, rfl⟩
  clear HC hd
  go_wp2_with fail
  go_loop [5, 19] (fun fv iv => ∃ i : Nat, i ≤ l.length ∧ iv = .int .i64 i ∧ fv = .bool (fnd n (l.take i))) (fun _ iv => l.length - (intOf iv).toNat)
  case atStart => exact ⟨0, by omega, rfl, rfl⟩
  case round =>
    obtain ⟨i, hi, rfl, rfl⟩ := hrel
    by_cases hlt : i < l.length
    · obtain ⟨x, hx⟩ : ∃ x, l[i]? = some x := ⟨l[i], by simp [hlt]⟩
      obtain ⟨b, off, rfl, hbw, hc⟩ := hs.at (i := i) (u := .int .i64 x) (by simp [hx])
      have hn := fnd_take (n := n) hx
      have hmem := List.mem_of_getElem? hx
      generalize fnd n (l.take i) = fo at *
      by_cases h1 : 0 ≤ x
      · by_cases h2 : x ≤ 1099511627776
        · have ht := timeB_mk ⟨h1, h2⟩
          obtain ⟨rfl, hle⟩ := HOK.out.1 x hmem ht
          rw [ht] at hn
          have hd2 : decide (x < n) = false := by simpa using hle
          by_cases h3 : x = n
          · have hq : (x == n) = true := by simp [h3]
            rw [hq] at hn
            have HN := Lib.hid hn
            clear hn hx ht h3
            cases fo
            all_goals
              go_wp2_with fail
              go_round
              case rel => exact ⟨i + 1, by omega, by go_num, by rw [HN.out]; rfl⟩
              case measure => simp [intOf]; omega
          · have hq : (x == n) = false := by simp [h3]
            rw [hq] at hn
            have HN := Lib.hid hn
            clear hn hx ht h3
            cases fo
            all_goals
              go_wp2_with fail
              go_round
              case rel => exact ⟨i + 1, by omega, by go_num, by rw [HN.out]; rfl⟩
              case measure => simp [intOf]; omega
        · have ht : timeB x = false := by simp [timeB]; omega
          have hd2 : decide (x ≤ 1099511627776) = false := by simpa using h2
          rw [ht] at hn
          have HN := Lib.hid hn
          clear hn hx ht
          go_wp2_with fail
          go_round
          case rel => exact ⟨i + 1, by omega, by go_num, by rw [HN.out]; simp⟩
          case measure => simp [intOf]; omega
      · have ht : timeB x = false := by simp [timeB]; omega
        have hd2 : decide (0 ≤ x) = false := by simpa using h1
        rw [ht] at hn
        have HN := Lib.hid hn
        clear hn hx ht
        go_wp2_with fail
        go_round
        case rel => exact ⟨i + 1, by omega, by go_num, by rw [HN.out]; simp⟩
        case measure => simp [intOf]; omega
    · have hil : i = l.length := by omega
      subst hil
      rw [List.take_length, HALL.out]
      cases ok
      all_goals
        go_wp2_with fail
        refine (wakes_any w HW.out).mono ?_
        rintro e w2 ⟨rfl, hb2⟩
        go_wp2_with fail
        go_ret
        exact ⟨rfl, hb2⟩
end Go.Proofs.YtjganindmklaaaaDoor
