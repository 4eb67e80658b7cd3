/- clock: the reference's time, Turn, Due, Left, Next, Deadline. Conditions: numbers and terms read. -/
import Derived.Test.YtjganindmklaaaaDoorTj
import Derived.Test.YtjganindmklaaaaDoorCe
namespace Go.Proofs.YtjganindmklaaaaDoor
open Go.ChangeShapes Go.WideShapes Go.ChangeAt Go.RowKit
set_option linter.unusedVariables false
theorem rtime_any (n : Int) (w : World) : Calls Tryd.prog 24 #[.int .i64 n] w (SameB w (timeB n)) := by
  by_cases h1 : 0 ≤ n
  · by_cases h2 : n ≤ 1099511627776
    · have : timeB n = true := timeB_mk ⟨h1, h2⟩
      rw [this]
      go_enter Tryd.func24, Tryd.ntmps24
      go_wp2_with fail
      go_ret
      exact ⟨rfl, rfl⟩
    · have : timeB n = false := by simp [timeB]; omega
      rw [this]
      have hd : decide (n ≤ 1099511627776) = false := by simpa using h2
      go_enter Tryd.func24, Tryd.ntmps24
      go_wp2_with fail
      go_ret
      exact ⟨rfl, rfl⟩
  · have : timeB n = false := by simp [timeB]; omega
    rw [this]
    have hd : decide (0 ≤ n) = false := by simpa using h1
    go_enter Tryd.func24, Tryd.ntmps24
    go_wp2_with fail
    go_ret
    exact ⟨rfl, rfl⟩
theorem rturn_any (now k : Int) (w : World) : Calls Tryd.prog 14 #[.int .i64 now, .int .i64 k] w (TwoPost w (turnN now k) (turnB now k)) := by
  cases ht : timeB now
  · have e1 : turnB now k = false := by simp [turnB, ht]
    have e2 : turnN now k = now := by simp [turnN, e1]
    rw [e1, e2]
    have HT := Lib.hid ht
    clear ht e1 e2
    go_enter Tryd.func14, Tryd.ntmps14
    go_wp2_with fail
    refine (rtime_any _ _).mono ?_
    rw [HT.out]
    rintro e w1 ⟨rfl, rfl⟩
    go_wp2_with fail
    go_ret2
    exact ⟨rfl, rfl⟩
  · obtain ⟨b1, b2⟩ := timeB_t ht
    have HT := Lib.hid ht
    by_cases h1 : k < 1
    · have e1 : turnB now k = false := by simp [turnB]; omega
      have e2 : turnN now k = now := by simp [turnN, e1]
      rw [e1, e2]
      have hd : decide (k < 1) = true := by simpa using h1
      clear ht e1 e2
      go_enter Tryd.func14, Tryd.ntmps14
      go_wp2_with fail
      refine (rtime_any _ _).mono ?_
      rw [HT.out]
      rintro e w1 ⟨rfl, rfl⟩
      go_wp2_with fail
      go_ret2
      exact ⟨rfl, rfl⟩
    · have hd : decide (k < 1) = false := by simpa using h1
      by_cases h2 : 1099511627776 - now < k
      · have e1 : turnB now k = false := by simp [turnB]; omega
        have e2 : turnN now k = now := by simp [turnN, e1]
        rw [e1, e2]
        have hd2 : decide (1099511627776 - now < k) = true := by simpa using h2
        clear ht e1 e2
        go_enter Tryd.func14, Tryd.ntmps14
        go_wp2_with fail
        refine (rtime_any _ _).mono ?_
        rw [HT.out]
        rintro e w1 ⟨rfl, rfl⟩
        go_wp2_with fail
        go_ret2
        exact ⟨rfl, rfl⟩
      · have e1 : turnB now k = true := by simp [turnB, ht]; omega
        have e2 : turnN now k = now + k := by simp [turnN, e1]
        rw [e1, e2]
        have hd2 : decide (1099511627776 - now < k) = false := by simpa using h2
        have h3 : k ≤ 1099511627776 - now := by omega
        clear ht e1 e2
        go_enter Tryd.func14, Tryd.ntmps14
        go_wp2_with fail
        refine (rtime_any _ _).mono ?_
        rw [HT.out]
        rintro e w1 ⟨rfl, rfl⟩
        go_wp2_with fail
        go_ret2
        exact ⟨rfl, rfl⟩
theorem rdue_any (now d : Int) (w : World) : Calls Tryd.prog 17 #[.int .i64 now, .int .i64 d] w (SameB w (dueB now d)) := by
  unfold dueB
  cases ht : timeB now
  · have HT := Lib.hid ht
    clear ht
    go_enter Tryd.func17, Tryd.ntmps17
    go_wp2_with fail
    refine (rtime_any _ _).mono ?_
    rw [HT.out]
    rintro e w1 ⟨rfl, rfl⟩
    go_wp2_with fail
    go_ret
    exact ⟨rfl, rfl⟩
  · have HT := Lib.hid ht
    clear ht
    cases hu : timeB d
    · have HU := Lib.hid hu
      clear hu
      go_enter Tryd.func17, Tryd.ntmps17
      go_wp2_with fail
      refine (rtime_any _ _).mono ?_
      rw [HT.out]
      rintro e w1 ⟨rfl, rfl⟩
      go_wp2_with fail
      refine (rtime_any _ _).mono ?_
      rw [HU.out]
      rintro e w1 ⟨rfl, rfl⟩
      go_wp2_with fail
      go_ret
      exact ⟨rfl, rfl⟩
    · have HU := Lib.hid hu
      clear hu
      go_enter Tryd.func17, Tryd.ntmps17
      go_wp2_with fail
      refine (rtime_any _ _).mono ?_
      rw [HT.out]
      rintro e w1 ⟨rfl, rfl⟩
      go_wp2_with fail
      refine (rtime_any _ _).mono ?_
      rw [HU.out]
      rintro e w1 ⟨rfl, rfl⟩
      go_wp2_with fail
      go_ret
      exact ⟨rfl, rfl⟩
theorem rleft_any (now d : Int) (w : World) : Calls Tryd.prog 18 #[.int .i64 now, .int .i64 d] w (NumPost w (leftN now d)) := by
  cases ht : timeB now
  · have e1 : leftN now d = -1 := by simp [leftN, ht]
    rw [e1]
    have HT := Lib.hid ht
    clear ht e1
    go_enter Tryd.func18, Tryd.ntmps18
    go_wp2_with fail
    refine (rtime_any _ _).mono ?_
    rw [HT.out]
    rintro e w1 ⟨rfl, rfl⟩
    go_wp2_with fail
    go_ret
    exact ⟨rfl, rfl⟩
  · cases hu : timeB d
    · have e1 : leftN now d = -1 := by simp [leftN, ht, hu]
      rw [e1]
      have HT := Lib.hid ht
      have HU := Lib.hid hu
      clear ht e1 hu
      go_enter Tryd.func18, Tryd.ntmps18
      go_wp2_with fail
      refine (rtime_any _ _).mono ?_
      rw [HT.out]
      rintro e w1 ⟨rfl, rfl⟩
      go_wp2_with fail
      refine (rtime_any _ _).mono ?_
      rw [HU.out]
      rintro e w1 ⟨rfl, rfl⟩
      go_wp2_with fail
      go_ret
      exact ⟨rfl, rfl⟩
    · have e1 : leftN now d = max (d - now) 0 := by simp [leftN, ht, hu]
      have HE := Lib.hid e1
      obtain ⟨b1, b2⟩ := timeB_t ht
      obtain ⟨b3, b4⟩ := timeB_t hu
      have HT := Lib.hid ht
      have HU := Lib.hid hu
      clear ht e1 hu
      go_enter Tryd.func18, Tryd.ntmps18
      go_wp2_with fail
      refine (rtime_any _ _).mono ?_
      rw [HT.out]
      rintro e w1 ⟨rfl, rfl⟩
      go_wp2_with fail
      refine (rtime_any _ _).mono ?_
      rw [HU.out]
      rintro e w1 ⟨rfl, rfl⟩
      go_wp2_with fail
      go_ret
      refine ⟨?_, rfl⟩
      rw [HE.out]
      rfl
set_option maxHeartbeats 1000000 in
theorem rnext_any (w : World) (ao : Option Addr) (cap : Nat) (l : List Int) (hl : l.length ≤ 9223372036854775807) (hs : SlV w (.slice ao l.length cap) (l.map (Value.int .i64))) :
    Calls Tryd.prog 16 #[.slice ao l.length cap] w (LeastPost w (lst l)) := by
  go_enter Tryd.func16, Tryd.ntmps16
  go_wp2_with fail
  go_loop [4, 5, 6] (fun bv kv iv => ∃ i : Nat, i ≤ l.length ∧ iv = .int .i64 i ∧ bv = .int .i64 (lst (l.take i)).1 ∧ kv = .bool (lst (l.take i)).2) (fun _ _ iv => l.length - (intOf iv).toNat)
  case atStart => exact ⟨0, by omega, rfl, rfl, rfl⟩
  case round =>
    obtain ⟨i, hi, rfl, rfl, rfl⟩ := hrel
    by_cases hlt : i < l.length
    · obtain ⟨x, hx⟩ : ∃ x, l[i]? = some x := ⟨l[i], by simp [hlt]⟩
      obtain ⟨b, off, rfl, hbw, hc⟩ := hs.at (i := i) (u := .int .i64 x) (by simp [hx])
      have hn := lst_take hx
      generalize lst (l.take i) = p at *
      obtain ⟨q, ok⟩ := p
      have HT := rtime_any x w
      try simp only at hn
      have hcase : (timeB x = true ∧ (ok = false ∨ x < q)) ∨ (timeB x = false) ∨ (timeB x = true ∧ ok = true ∧ q ≤ x) := by
        cases h1 : timeB x
        · exact .inr (.inl rfl)
        · cases h2 : ok
          · exact .inl ⟨rfl, .inl rfl⟩
          · rcases Int.lt_or_le x q with h | h
            · exact .inl ⟨rfl, .inr h⟩
            · exact .inr (.inr ⟨rfl, rfl, h⟩)
      rcases hcase with ⟨h1, h2⟩ | h1 | ⟨h1, h2, h3⟩
      · have HN := Lib.hid (hn.trans (if_pos ⟨h1, h2⟩))
        rw [h1] at HT
        have HC := Lib.hid HT
        clear hn hx HT h1
        rcases h2 with h2 | h2
        · subst h2
          go_wp2_with fail
          refine HC.out.mono ?_
          rintro e w1 ⟨rfl, rfl⟩
          go_wp2_with fail
          go_round
          case rel => exact ⟨i + 1, by omega, by go_num, by rw [HN.out], by rw [HN.out]⟩
          case measure => simp [intOf]; omega
        · have hd : decide (x < q) = true := by simpa using h2
          cases ok
          all_goals
            go_wp2_with fail
            refine HC.out.mono ?_
            rintro e w1 ⟨rfl, rfl⟩
            go_wp2_with fail
            go_round
            case rel => exact ⟨i + 1, by omega, by go_num, by rw [HN.out], by rw [HN.out]⟩
            case measure => simp [intOf]; omega
      · have HN := Lib.hid (hn.trans (if_neg (by rw [h1]; simp)))
        rw [h1] at HT
        have HC := Lib.hid HT
        clear hn hx HT h1
        go_wp2_with fail
        refine HC.out.mono ?_
        rintro e w1 ⟨rfl, rfl⟩
        go_wp2_with fail
        go_round
        case rel => exact ⟨i + 1, by omega, by go_num, by rw [HN.out], by rw [HN.out]⟩
        case measure => simp [intOf]; omega
      · subst h2
        have HN := Lib.hid (hn.trans (if_neg (by simp; omega)))
        rw [h1] at HT
        have HC := Lib.hid HT
        have hd : decide (x < q) = false := by simpa using h3
        clear hn hx HT h1
        go_wp2_with fail
        refine HC.out.mono ?_
        rintro e w1 ⟨rfl, rfl⟩
        go_wp2_with fail
        go_round
        case rel => exact ⟨i + 1, by omega, by go_num, by rw [HN.out], by rw [HN.out]⟩
        case measure => simp [intOf]; omega
    · have hil : i = l.length := by omega
      subst hil
      rw [List.take_length]
      go_wp2_with fail
      go_ret2
      exact ⟨rfl, rfl⟩
theorem rdead_any (now : Int) (f : Nat) (t : Tm) (v : Value) (w : World) (h : TermV f w v t) : Calls Tryd.prog 15 #[.int .i64 now, v] w (DeadPost w (deadN now t)) := by
  have hv := h
  obtain ⟨lv, rfl, hat⟩ := h.boxed
  have hb0 := (Below.refl w.heap.size w).alloc (Nat.le_refl _) (.cells #[.int .i8 t.k, .int .i64 t.n, .string t.s, .string t.u, lv] 34)
  have hh : (w.alloc (.cells #[.int .i8 t.k, .int .i64 t.n, .string t.s, .string t.u, lv] 34)).heap[w.heap.size]? = some (.cells #[.int .i8 t.k, .int .i64 t.n, .string t.s, .string t.u, lv] 34 (0, 0)) := (MapKept.heap_alloc w _).1
  have HC := Lib.hid (rcheck_any f t _ _ (hv.keep hb0))
  have HV := Lib.hid hv
  have HH := Lib.hid hh
  rw [check_eq] at HC
  clear hat hv h hh
  cases ht : timeB now
  · have hE : deadN now t = (0, 2) := by simp [deadN, ht]
    have HE := Lib.hid hE
    have HT := Lib.hid ht
    clear hE ht
    go_enter Tryd.func15, Tryd.ntmps15
    go_wp2_with fail
    refine (rtime_any _ _).mono ?_
    rw [HT.out]
    rintro e w1 ⟨rfl, rfl⟩
    go_wp2_with fail
    go_ret2
    exact ⟨by rw [HE.out]; rfl, hb0⟩
  · obtain ⟨b1, b2⟩ := timeB_t ht
    by_cases hk : checkN t = 0
    · rw [hk] at HC
      have hE : deadN now t = if t.k = 1 ∧ t.s = sInf then (-2, 0) else if t.k = 0 ∧ 0 ≤ t.n then (now + min t.n (1099511627776 - now), 0) else (0, 2) := by simp [deadN, ht, hk]
      have hA : isAtomB t sInf = decide (t.k = 1 ∧ t.s = sInf) := by simp [isAtomB]
      have HT := Lib.hid ht
      clear ht hk
      by_cases h1 : t.k = 1 ∧ t.s = sInf
      · have HE := Lib.hid (hE.trans (if_pos h1))
        have HA := Lib.hid (hA.trans (by simp [h1] : _ = true))
        clear hE h1 hA
        go_enter Tryd.func15, Tryd.ntmps15
        go_wp2_with fail
        refine (rtime_any _ _).mono ?_
        rw [HT.out]
        rintro e w1 ⟨rfl, rfl⟩
        go_wp2_with fail
        refine HC.out.mono ?_
        rintro e w2 ⟨rfl, hb2⟩
        have hB := hb0.trans (hb2.mono (by simp))
        have hh2 := keep_heap HH.out hb2
        have x0 := (cells_at hh2 0 _ rfl).1
        have x1 := (cells_at hh2 1 _ rfl).1
        have x2 := (cells_at hh2 2 _ rfl).1
        have x3 := (cells_at hh2 3 _ rfl).1
        have x4 := (cells_at hh2 4 _ rfl).1
        go_wp2_with fail
        refine (isatom_any f t _ sInf w2 (HV.out.keep hB)).mono ?_
        rw [HA.out]
        rintro e w3 ⟨rfl, hb3⟩
        have hB3 := hB.trans (hb3.mono hB.size)
        have y0 := keep_cell x0 hb3
        have y1 := keep_cell x1 hb3
        clear x0 x1 x2 x3 x4 hh2 hb2 hb3
        go_wp2_with fail
        go_ret2
        exact ⟨by rw [HE.out]; rfl, hB3⟩
      · have HA := Lib.hid (hA.trans (by simpa using h1 : _ = false))
        by_cases h2 : t.k = 0
        · have e0 : (t.k != 0) = false := by simp [h2]
          by_cases h3 : 0 ≤ t.n
          · have HE := Lib.hid ((hE.trans (if_neg h1)).trans (if_pos ⟨h2, h3⟩))
            have hd : decide (t.n < 0) = false := by simpa using h3
            clear hE h1 h2 hA
            go_enter Tryd.func15, Tryd.ntmps15
            go_wp2_with fail
            refine (rtime_any _ _).mono ?_
            rw [HT.out]
            rintro e w1 ⟨rfl, rfl⟩
            go_wp2_with fail
            refine HC.out.mono ?_
            rintro e w2 ⟨rfl, hb2⟩
            have hB := hb0.trans (hb2.mono (by simp))
            have hh2 := keep_heap HH.out hb2
            have x0 := (cells_at hh2 0 _ rfl).1
            have x1 := (cells_at hh2 1 _ rfl).1
            have x2 := (cells_at hh2 2 _ rfl).1
            have x3 := (cells_at hh2 3 _ rfl).1
            have x4 := (cells_at hh2 4 _ rfl).1
            go_wp2_with fail
            refine (isatom_any f t _ sInf w2 (HV.out.keep hB)).mono ?_
            rw [HA.out]
            rintro e w3 ⟨rfl, hb3⟩
            have hB3 := hB.trans (hb3.mono hB.size)
            have y0 := keep_cell x0 hb3
            have y1 := keep_cell x1 hb3
            clear x0 x1 x2 x3 x4 hh2 hb2 hb3
            go_wp2_with fail
            go_ret2
            exact ⟨by rw [HE.out]; rfl, hB3⟩
          · have HE := Lib.hid ((hE.trans (if_neg h1)).trans (if_neg (fun h => h3 h.2)))
            have hd : decide (t.n < 0) = true := by simp; omega
            clear hE h1 h2 hA
            go_enter Tryd.func15, Tryd.ntmps15
            go_wp2_with fail
            refine (rtime_any _ _).mono ?_
            rw [HT.out]
            rintro e w1 ⟨rfl, rfl⟩
            go_wp2_with fail
            refine HC.out.mono ?_
            rintro e w2 ⟨rfl, hb2⟩
            have hB := hb0.trans (hb2.mono (by simp))
            have hh2 := keep_heap HH.out hb2
            have x0 := (cells_at hh2 0 _ rfl).1
            have x1 := (cells_at hh2 1 _ rfl).1
            have x2 := (cells_at hh2 2 _ rfl).1
            have x3 := (cells_at hh2 3 _ rfl).1
            have x4 := (cells_at hh2 4 _ rfl).1
            go_wp2_with fail
            refine (isatom_any f t _ sInf w2 (HV.out.keep hB)).mono ?_
            rw [HA.out]
            rintro e w3 ⟨rfl, hb3⟩
            have hB3 := hB.trans (hb3.mono hB.size)
            have y0 := keep_cell x0 hb3
            have y1 := keep_cell x1 hb3
            clear x0 x1 x2 x3 x4 hh2 hb2 hb3
            go_wp2_with fail
            go_ret2
            exact ⟨by rw [HE.out]; rfl, hB3⟩
        · have e0 : (t.k != 0) = true := by simp [h2]
          have HE := Lib.hid ((hE.trans (if_neg h1)).trans (if_neg (fun h => h2 h.1)))
          clear hE h1 h2 hA
          go_enter Tryd.func15, Tryd.ntmps15
          go_wp2_with fail
          refine (rtime_any _ _).mono ?_
          rw [HT.out]
          rintro e w1 ⟨rfl, rfl⟩
          go_wp2_with fail
          refine HC.out.mono ?_
          rintro e w2 ⟨rfl, hb2⟩
          have hB := hb0.trans (hb2.mono (by simp))
          have hh2 := keep_heap HH.out hb2
          have x0 := (cells_at hh2 0 _ rfl).1
          have x1 := (cells_at hh2 1 _ rfl).1
          have x2 := (cells_at hh2 2 _ rfl).1
          have x3 := (cells_at hh2 3 _ rfl).1
          have x4 := (cells_at hh2 4 _ rfl).1
          go_wp2_with fail
          refine (isatom_any f t _ sInf w2 (HV.out.keep hB)).mono ?_
          rw [HA.out]
          rintro e w3 ⟨rfl, hb3⟩
          have hB3 := hB.trans (hb3.mono hB.size)
          have y0 := keep_cell x0 hb3
          have y1 := keep_cell x1 hb3
          clear x0 x1 x2 x3 x4 hh2 hb2 hb3
          go_wp2_with fail
          go_ret2
          exact ⟨by rw [HE.out]; rfl, hB3⟩
    · have hE : deadN now t = (0, 2) := by simp [deadN, hk]
      have hq : (checkN t == 0) = false := by simp [hk]
      generalize checkN t = c at *
      have HE := Lib.hid hE
      have HT := Lib.hid ht
      clear hE ht hk
      go_enter Tryd.func15, Tryd.ntmps15
      go_wp2_with fail
      refine (rtime_any _ _).mono ?_
      rw [HT.out]
      rintro e w1 ⟨rfl, rfl⟩
      go_wp2_with fail
      refine HC.out.mono ?_
      rintro e w2 ⟨rfl, hb2⟩
      go_wp2_with fail
      go_ret2
      exact ⟨by rw [HE.out]; rfl, hb0.trans (hb2.mono (by simp))⟩
end Go.Proofs.YtjganindmklaaaaDoor
