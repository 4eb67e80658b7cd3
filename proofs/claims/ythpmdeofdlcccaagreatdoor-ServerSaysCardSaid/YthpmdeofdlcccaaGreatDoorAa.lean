/- atoms: the table of letters; is, Prefix, fits, May, Name, and the reference's. Conditions: the table reads as laid; the text's length fits a number. -/
import Derived.Test.YthpmdeofdlcccaaGreatDoorK
namespace Go.Proofs.YthpmdeofdlcccaaGreatDoor
open Go.ChangeShapes Go.WideShapes Go.ChangeAt Go.RowKit
set_option linter.unusedVariables false
def Cells (w : World) (o : Nat) (L : List (Int × Int)) : Prop := ∀ j r, L[j]? = some r → w.cell? ⟨0, o + j * 2, none⟩ = some (.int .u8 r.1) ∧ w.cell? ⟨0, o + j * 2 + 1, none⟩ = some (.int .u8 r.2)
def inL (L : List (Int × Int)) (c : Int) : Bool := L.any fun r => decide (r.1 ≤ c) && decide (c ≤ r.2)
theorem inL_hit {L : List (Int × Int)} {c a b : Int} {k : Nat} (h : L[k]? = some (a, b)) (h1 : a ≤ c) (h2 : c ≤ b) : inL L c = true := by
  unfold inL
  rw [List.any_eq_true]
  exact ⟨(a, b), List.mem_of_getElem? h, by simp [h1, h2]⟩
theorem inL_next {L : List (Int × Int)} {c a b : Int} {k : Nat} (h : L[k]? = some (a, b)) (h0 : inL (L.take k) c = false) (h1 : ¬ (a ≤ c ∧ c ≤ b)) : inL (L.take (k + 1)) c = false := by
  rw [List.take_add_one, h]
  unfold inL at *
  rw [List.any_append, h0]
  simp
  intro ha
  apply Int.lt_of_not_ge
  intro hb
  exact h1 ⟨ha, hb⟩
set_option maxHeartbeats 1000000 in
theorem is_any (c : Int) (o cap : Nat) (L : List (Int × Int)) (hL : L.length ≤ 4) (w : World) (hw : Cells w o L) : Calls Tryz.prog 79 #[.int .u8 c, .slice (some ⟨0, o, none⟩) L.length cap] w (IsPost w (inL L c)) := by
  obtain ⟨n, hn⟩ : ∃ n, n = L.length := ⟨_, rfl⟩
  rw [← hn]
  have hn4 : n ≤ 4 := by omega
  have HW := Lib.hid hw
  have HL := Lib.hid hn
  clear hw hL hn
  go_enter Tryz.func79, Tryz.ntmps79
  go_wp2_with fail
  go_loopw [9] (fun kv wr => ∃ k : Nat, k ≤ n ∧ kv = .int .i64 k ∧ Below w.heap.size w wr ∧ Hid (inL (L.take k) c = false)) (fun kv wr => n - (intOf kv).toNat)
  case atStart => exact ⟨0, by omega, rfl, Below.refl _ _, Lib.hid (by simp [inL])⟩
  case round =>
    obtain ⟨k, hk, rfl, hB, HA⟩ := hrel
    by_cases hlt : k < n
    · obtain ⟨r, hr⟩ : ∃ r, L[k]? = some r := ⟨L[k]'(by rw [← HL.out]; exact hlt), by simp⟩
      obtain ⟨c0, c1⟩ := HW.out k r hr
      have d0 := keep_cell c0 hB
      have d1 := keep_cell c1 hB
      obtain ⟨a, b⟩ := r
      simp only at d0 d1
      have HR := Lib.hid hr
      clear c0 c1 hr
      by_cases i0 : a ≤ c
      · by_cases i1 : c ≤ b
        · rw [inL_hit HR.out i0 i1]
          go_wp2_with fail
          go_ret
          exact ⟨rfl, hB.alloc hB.size _⟩
        · go_wp2_with fail
          go_roundw
          case rel => exact ⟨k + 1, by omega, by go_num, hB.alloc hB.size _, Lib.hid (inL_next HR.out HA.out (fun h => i1 h.2))⟩
          case measure => simp [intOf]; omega
      · go_wp2_with fail
        go_roundw
        case rel => exact ⟨k + 1, by omega, by go_num, hB.alloc hB.size _, Lib.hid (inL_next HR.out HA.out (fun h => i0 h.1))⟩
        case measure => simp [intOf]; omega
    · have hkn : k = n := by omega
      subst hkn
      have e : inL L c = false := by
        have := HA.out
        rw [HL.out, List.take_length] at this
        exact this
      go_wp2_with fail
      go_ret
      exact ⟨by rw [e]; rfl, hB⟩
def letL : List (Int × Int) := [(97, 122), (65, 90), (48, 57), (95, 95)]
theorem letL_drop {w : World} (h : Cells w 0 letL) : Cells w 0 [(97, 122)] ∧ Cells w 2 [(65, 90)] ∧ Cells w 6 [(95, 95)] := by
  refine ⟨?_, ?_, ?_⟩
  · intro j r hj
    cases j with
    | zero => cases hj; exact h 0 _ rfl
    | succ j => simp at hj
  · intro j r hj
    cases j with
    | zero => cases hj; exact h 1 _ rfl
    | succ j => simp at hj
  · intro j r hj
    cases j with
    | zero => cases hj; exact h 3 _ rfl
    | succ j => simp at hj
theorem keepCells {w w' : World} {o : Nat} {L : List (Int × Int)} (h : Cells w o L) (hb : Below w.heap.size w w') : Cells w' o L := fun j r hj => ⟨keep_cell (h j r hj).1 hb, keep_cell (h j r hj).2 hb⟩
def isA (c : UInt8) : Bool := inL letL (c.toNat : Int)
def preN (l : List UInt8) : Nat := (l.takeWhile isA).length
def PrePost (w : World) (n : Nat) (x : Ending) (w' : World) : Prop := x = .returned (.int .i64 n) ∧ Below w.heap.size w w'
theorem preN_of (s : ByteArray) (k : Nat) (hk : k ≤ s.size) (ha : ∀ c ∈ s.data.toList.take k, isA c = true) (he : k = s.size ∨ ∃ h : k < s.size, isA s[k] = false) : preN s.data.toList = k := by
  have hs : s.data.toList = s.data.toList.take k ++ s.data.toList.drop k := (List.take_append_drop k _).symm
  have : s.data.toList.takeWhile isA = s.data.toList.take k := by
    conv => lhs; rw [hs]
    rw [List.takeWhile_append_of_pos ha]
    have : (s.data.toList.drop k).takeWhile isA = [] := by
      rcases he with rfl | ⟨h, hc⟩
      · have : s.data.toList.drop s.size = [] := List.drop_eq_nil_of_le (by simp)
        rw [this]; rfl
      · rw [List.drop_eq_getElem_cons (by simpa using h)]
        have : s.data.toList[k]'(by simpa using h) = s[k] := rfl
        rw [this, List.takeWhile_cons, hc]
        rfl
    rw [this, List.append_nil]
  unfold preN
  rw [this, List.length_take]
  simp
  omega
theorem take_snoc (s : ByteArray) (k : Nat) (h : k < s.size) : s.data.toList.take (k + 1) = s.data.toList.take k ++ [s[k]] := by
  rw [List.take_succ_eq_append_getElem (by simpa using h)]; rfl
theorem all_next {s : ByteArray} {k : Nat} (h : k < s.size) (ha : ∀ c ∈ s.data.toList.take k, isA c = true) (hc : isA s[k] = true) : ∀ c ∈ s.data.toList.take (k + 1), isA c = true := by
  intro c hm
  rw [take_snoc s k h] at hm
  rcases List.mem_append.1 hm with hm | hm
  · exact ha c hm
  · simp at hm; subst hm; exact hc
def PS (w0 w : World) : Prop := Cells w 0 letL ∧ Below w0.heap.size w0 w
theorem PS.keep {w0 w w' : World} (h : PS w0 w) (hb : Below w.heap.size w w') : PS w0 w' := ⟨keepCells h.1 hb, keep_below h.2 h.2.size hb⟩
set_option maxHeartbeats 1000000 in
theorem prefix_any (s : ByteArray) (hs : s.size ≤ 9223372036854775807) (w : World) (hw : Cells w 0 letL) : Calls Tryz.prog 92 #[.string s] w (PrePost w (preN s.data.toList)) := by
  have hPS : PS w w := ⟨hw, Below.refl _ _⟩
  clear hw
  go_enter Tryz.func92, Tryz.ntmps92
  go_wp2_with fail
  go_loopw [6] (fun kv wr => ∃ k : Nat, k ≤ s.size ∧ kv = .int .i64 k ∧ PS w wr ∧ Hid (∀ c ∈ s.data.toList.take k, isA c = true)) (fun kv wr => s.size - (intOf kv).toNat)
  case atStart => exact ⟨0, by omega, rfl, hPS, Lib.hid (by intro c hc; simp at hc)⟩
  case round =>
    obtain ⟨k, hk, rfl, hS0, HA⟩ := hrel
    by_cases hlt : k < s.size
    · go_wp2_with fail
      go_cut [14] (fun s14 wx => s14 = .bool (!isA s[k]) ∧ PS w wx)
      case first =>
        have hD : PS w wr.drew := ⟨fun j r hj => hS0.1 j r hj, hS0.2.drew⟩
        refine region_plan (PS w) [(0, 0), (1, 0), (2, 0), (3, 0), (4, 1), (5, 0)] (by kernel_rfl) (by kernel_rfl) (by kernel_rfl) hD ?_
        generalize wr.drew = W0 at hD ⊢
        iterate 4 (first | (refine plan_skip rfl ?_ ?_; (focus (rfl)); (try simp only [Act.put, List.setIfInBounds_toArray, List.set_cons_zero, List.set_cons_succ])) | (refine plan_take (v := ?_) rfl ?_ (fun w hSw => ?_) ?_; rotate_left; (focus (rfl)); (focus (unfold PS at hSw; (go_simp <;> with_reducible rfl))); (try simp only [Act.put, List.setIfInBounds_toArray, List.set_cons_zero, List.set_cons_succ])))
        refine plan_run rfl ?_ (fun K hK => ?_)
        focus (rfl)
        go_simp
        refine (is_any _ 0 4 letL (by decide) _ hD.1).mono ?_
        rintro e W1 ⟨rfl, hb1⟩
        have hS1 := hD.keep hb1
        refine hK.out _ _ hS1 ?_
        clear hK K hb1
        (try simp only [Act.put, List.setIfInBounds_toArray, List.set_cons_zero, List.set_cons_succ])
        iterate 1 (first | (refine plan_skip rfl ?_ ?_; (focus (rfl)); (try simp only [Act.put, List.setIfInBounds_toArray, List.set_cons_zero, List.set_cons_succ])) | (refine plan_take (v := ?_) rfl ?_ (fun w hSw => ?_) ?_; rotate_left; (focus (rfl)); (focus (unfold PS at hSw; (go_simp <;> with_reducible rfl))); (try simp only [Act.put, List.setIfInBounds_toArray, List.set_cons_zero, List.set_cons_succ])))
        refine plan_done ?_
        go_wp2_with fail
        go_meet
        exact ⟨rfl, hS1⟩
      case rest =>
        obtain ⟨rfl, hS1⟩ := hcut
        cases hc : isA s[k]
        · go_wp2_with fail
          go_ret
          exact ⟨by rw [preN_of s k hk HA.out (.inr ⟨hlt, hc⟩)]; rfl, hS1.2⟩
        · have HN := Lib.hid (all_next hlt HA.out hc)
          go_wp2_with fail
          go_roundw
          case rel => exact ⟨k + 1, by omega, by go_num, hS1, HN⟩
          case measure => simp [intOf]; omega
    · have hkn : k = s.size := by omega
      subst hkn
      go_wp2_with fail
      go_ret
      exact ⟨by rw [preN_of s _ hk HA.out (.inl rfl)]; rfl, hS0.2⟩
set_option maxHeartbeats 1000000 in
theorem letter26 (c : UInt8) (w : World) : Calls Tryz.prog 95 #[.int .u8 c.toNat] w fun e w' => e = .returned (.bool (isA c)) ∧ w' = w := by
  have e : isA c = ((decide ((97 : Int) ≤ c.toNat) && decide ((c.toNat : Int) ≤ 122)) || ((decide ((65 : Int) ≤ c.toNat) && decide ((c.toNat : Int) ≤ 90)) || ((decide ((48 : Int) ≤ c.toNat) && decide ((c.toNat : Int) ≤ 57)) || ((decide ((95 : Int) ≤ c.toNat) && decide ((c.toNat : Int) ≤ 95)))))) := by
    simp [isA, inL, letL]
  rw [e]
  clear e
  generalize (c.toNat : Int) = z
  go_enter Tryz.func95, Tryz.ntmps95
  go_wp2_with fail
  all_goals
    go_ret
    refine ⟨?_, rfl⟩
    first
    | rfl
    | (refine congrArg (fun b => Ending.returned (Value.bool b)) (Bool.eq_iff_iff.2 ?_); simp; omega)
set_option maxHeartbeats 1000000 in
theorem refprefix_any (s : ByteArray) (hs : s.size ≤ 9223372036854775807) (w : World) : Calls Tryz.prog 82 #[.string s] w (PrePost w (preN s.data.toList)) := by
  go_enter Tryz.func82, Tryz.ntmps82
  go_wp2_with fail
  go_loop [3] (fun kv => ∃ k : Nat, k ≤ s.size ∧ kv = .int .i64 k ∧ Hid (∀ c ∈ s.data.toList.take k, isA c = true)) (fun kv => s.size - (intOf kv).toNat)
  case atStart => exact ⟨0, by omega, rfl, Lib.hid (by intro c hc; simp at hc)⟩
  case round =>
    obtain ⟨k, hk, rfl, HA⟩ := hrel
    by_cases hlt : k < s.size
    · have HL := Lib.hid (letter26 s[k])
      cases hc : isA s[k]
      · rw [hc] at HL
        have HP := Lib.hid (preN_of s k hk HA.out (.inr ⟨hlt, hc⟩))
        clear hc HA
        go_wp2_with (go_at_call 95; refine (HL.out _).mono ?_; rintro e w1 ⟨rfl, rfl⟩)
        go_ret
        exact ⟨by rw [HP.out]; rfl, Below.refl _ _⟩
      · rw [hc] at HL
        have HN := Lib.hid (all_next hlt HA.out hc)
        clear hc HA
        go_wp2_with (go_at_call 95; refine (HL.out _).mono ?_; rintro e w1 ⟨rfl, rfl⟩)
        go_round
        case rel => exact ⟨k + 1, by omega, by go_num, HN⟩
        case measure => simp [intOf]; omega
    · have hkn : k = s.size := by omega
      subst hkn
      have HP := Lib.hid (preN_of s _ hk HA.out (.inl rfl))
      go_wp2_with fail
      go_ret
      exact ⟨by rw [HP.out]; rfl, Below.refl _ _⟩
def fitsB (l : List UInt8) : Bool := decide (1 ≤ l.length) && (decide (l.length ≤ 32) && decide (preN l = l.length))
def lowB (l : List UInt8) : Bool := match l with | [] => false | c :: _ => inL [(97, 122)] c.toNat
def upB (l : List UInt8) : Bool := match l with | [] => false | c :: _ => inL [(65, 90)] c.toNat || inL [(95, 95)] c.toNat
def mayS (s : ByteArray) : Bool := fitsB s.data.toList && lowB s.data.toList
def nameS (s : ByteArray) : Bool := fitsB s.data.toList && upB s.data.toList
theorem fitsB_eq (s : ByteArray) : fitsB s.data.toList = (decide (1 ≤ s.size) && (decide (s.size ≤ 32) && decide (preN s.data.toList = s.size))) := by
  have hl : s.data.toList.length = s.size := by simp
  rw [fitsB, hl]
theorem fits24 (s : ByteArray) (hs : s.size ≤ 9223372036854775807) (w : World) (hw : Cells w 0 letL) : Calls Tryz.prog 78 #[.string s] w (IsPost w (fitsB s.data.toList)) := by
  have HC := Lib.hid (prefix_any s hs w hw)
  rw [fitsB_eq]
  generalize preN s.data.toList = n at *
  by_cases h1 : 1 ≤ s.size
  · by_cases h2 : s.size ≤ 32
    · have e : (decide (1 ≤ s.size) && (decide (s.size ≤ 32) && decide (n = s.size))) = ((n : Int) == (s.size : Int)) := by rw [Bool.eq_iff_iff]; simp [h1, h2]; omega
      rw [e]
      clear e
      go_enter Tryz.func78, Tryz.ntmps78
      go_wp2_with (go_at_call 92; refine HC.out.mono ?_; rintro e w1 ⟨rfl, hb1⟩)
      go_ret
      exact ⟨rfl, hb1⟩
    · have e : (decide (1 ≤ s.size) && (decide (s.size ≤ 32) && decide (n = s.size))) = false := by simp [h2]
      rw [e]
      go_enter Tryz.func78, Tryz.ntmps78
      go_wp2_with fail
      go_ret
      exact ⟨rfl, Below.refl _ _⟩
  · have e : (decide (1 ≤ s.size) && (decide (s.size ≤ 32) && decide (n = s.size))) = false := by simp [h1]
    rw [e]
    go_enter Tryz.func78, Tryz.ntmps78
    go_wp2_with fail
    go_ret
    exact ⟨rfl, Below.refl _ _⟩
theorem fitsB_pos {s : ByteArray} (h : fitsB s.data.toList = true) : 0 < s.size := by
  rw [fitsB_eq] at h
  simp at h
  omega
theorem head_eq {s : ByteArray} (h : 0 < s.size) : ∃ t, s.data.toList = s[0] :: t := by
  have hl : 0 < s.data.toList.length := by simpa using h
  have e0 : s.data.toList[0] = s[0] := rfl
  cases e : s.data.toList with
  | nil => rw [e] at hl; simp at hl
  | cons a t => simp only [e] at e0; simp at e0; rw [← e0]; exact ⟨t, rfl⟩
theorem may7 (s : ByteArray) (hs : s.size ≤ 9223372036854775807) (w : World) (hw : Cells w 0 letL) : Calls Tryz.prog 52 #[.string s] w (IsPost w (mayS s)) := by
  have hPS : PS w w := ⟨hw, Below.refl _ _⟩
  have HC : ∀ W, Cells W 0 letL → Calls Tryz.prog 78 #[.string s] W (IsPost W (fitsB s.data.toList)) := fun W h => fits24 s hs W h
  clear hw
  cases hf : fitsB s.data.toList
  · have e : mayS s = false := by rw [mayS, hf]; rfl
    rw [e]
    rw [hf] at HC
    have HC := Lib.hid HC
    clear hf e
    go_enter Tryz.func52, Tryz.ntmps52
    go_wp2_with fail
    have hD : PS w w.drew := ⟨fun j r hj => hPS.1 j r hj, hPS.2.drew⟩
    refine region_plan (PS w) [(0, 0), (1, 1), (2, 0), (3, 0), (4, 0), (5, 0), (6, 1), (7, 0), (8, 0)] (by kernel_rfl) (by kernel_rfl) (by kernel_rfl) hD ?_
    generalize w.drew = W0 at hD ⊢
    iterate 1 (first | (refine plan_skip rfl ?_ ?_; (focus (rfl)); (try simp only [Act.put, List.setIfInBounds_toArray, List.set_cons_zero, List.set_cons_succ])) | (refine plan_take (v := ?_) rfl ?_ (fun w hSw => ?_) ?_; rotate_left; (focus (rfl)); (focus (unfold PS at hSw; (go_simp <;> with_reducible rfl))); (try simp only [Act.put, List.setIfInBounds_toArray, List.set_cons_zero, List.set_cons_succ])))
    refine plan_run rfl ?_ (fun K hK => ?_)
    focus (rfl)
    go_simp
    refine (HC.out _ hD.1).mono ?_
    rintro e W1 ⟨rfl, hb1⟩
    have hS1 := hD.keep hb1
    refine hK.out _ _ hS1 ?_
    clear hK K hb1
    (try simp only [Act.put, List.setIfInBounds_toArray, List.set_cons_zero, List.set_cons_succ])
    iterate 4 (first | (refine plan_skip rfl ?_ ?_; (focus (rfl)); (try simp only [Act.put, List.setIfInBounds_toArray, List.set_cons_zero, List.set_cons_succ])) | (refine plan_take (v := ?_) rfl ?_ (fun w hSw => ?_) ?_; rotate_left; (focus (rfl)); (focus (unfold PS at hSw; (go_simp <;> with_reducible rfl))); (try simp only [Act.put, List.setIfInBounds_toArray, List.set_cons_zero, List.set_cons_succ])))
    (refine plan_run_skip rfl ?_ hS1 ?_; (focus (rfl)); (try simp only [Act.put, List.setIfInBounds_toArray, List.set_cons_zero, List.set_cons_succ]))
    iterate 2 (first | (refine plan_skip rfl ?_ ?_; (focus (rfl)); (try simp only [Act.put, List.setIfInBounds_toArray, List.set_cons_zero, List.set_cons_succ])) | (refine plan_take (v := ?_) rfl ?_ (fun w hSw => ?_) ?_; rotate_left; (focus (rfl)); (focus (unfold PS at hSw; (go_simp <;> with_reducible rfl))); (try simp only [Act.put, List.setIfInBounds_toArray, List.set_cons_zero, List.set_cons_succ])))
    refine plan_done ?_
    go_wp2_with fail
    go_ret
    exact ⟨rfl, hS1.2⟩
  · have hp := fitsB_pos hf
    obtain ⟨t, ht⟩ := head_eq hp
    have e : mayS s = inL [(97, 122)] s[0].toNat := by rw [mayS, hf, ht]; rfl
    rw [e]
    rw [hf] at HC
    have HC := Lib.hid HC
    clear hf ht e
    go_enter Tryz.func52, Tryz.ntmps52
    go_wp2_with fail
    have hD : PS w w.drew := ⟨fun j r hj => hPS.1 j r hj, hPS.2.drew⟩
    refine region_plan (PS w) [(0, 0), (1, 1), (2, 0), (3, 0), (4, 0), (5, 0), (6, 1), (7, 0), (8, 0)] (by kernel_rfl) (by kernel_rfl) (by kernel_rfl) hD ?_
    generalize w.drew = W0 at hD ⊢
    iterate 1 (first | (refine plan_skip rfl ?_ ?_; (focus (rfl)); (try simp only [Act.put, List.setIfInBounds_toArray, List.set_cons_zero, List.set_cons_succ])) | (refine plan_take (v := ?_) rfl ?_ (fun w hSw => ?_) ?_; rotate_left; (focus (rfl)); (focus (unfold PS at hSw; (go_simp <;> with_reducible rfl))); (try simp only [Act.put, List.setIfInBounds_toArray, List.set_cons_zero, List.set_cons_succ])))
    refine plan_run rfl ?_ (fun K hK => ?_)
    focus (rfl)
    go_simp
    refine (HC.out _ hD.1).mono ?_
    rintro e W1 ⟨rfl, hb1⟩
    have hS1 := hD.keep hb1
    refine hK.out _ _ hS1 ?_
    clear hK K hb1
    (try simp only [Act.put, List.setIfInBounds_toArray, List.set_cons_zero, List.set_cons_succ])
    iterate 4 (first | (refine plan_skip rfl ?_ ?_; (focus (rfl)); (try simp only [Act.put, List.setIfInBounds_toArray, List.set_cons_zero, List.set_cons_succ])) | (refine plan_take (v := ?_) rfl ?_ (fun w hSw => ?_) ?_; rotate_left; (focus (rfl)); (focus (unfold PS at hSw; (go_simp <;> with_reducible rfl))); (try simp only [Act.put, List.setIfInBounds_toArray, List.set_cons_zero, List.set_cons_succ])))
    refine plan_run rfl ?_ (fun K hK => ?_)
    focus (rfl)
    go_simp
    refine (is_any _ 0 4 [(97, 122)] (by decide) _ (letL_drop hS1.1).1).mono ?_
    rintro e W2 ⟨rfl, hb2⟩
    have hS2 := hS1.keep hb2
    refine hK.out _ _ hS2 ?_
    clear hK K hb2
    (try simp only [Act.put, List.setIfInBounds_toArray, List.set_cons_zero, List.set_cons_succ])
    iterate 2 (first | (refine plan_skip rfl ?_ ?_; (focus (rfl)); (try simp only [Act.put, List.setIfInBounds_toArray, List.set_cons_zero, List.set_cons_succ])) | (refine plan_take (v := ?_) rfl ?_ (fun w hSw => ?_) ?_; rotate_left; (focus (rfl)); (focus (unfold PS at hSw; (go_simp <;> with_reducible rfl))); (try simp only [Act.put, List.setIfInBounds_toArray, List.set_cons_zero, List.set_cons_succ])))
    refine plan_done ?_
    go_wp2_with fail
    go_ret
    exact ⟨rfl, hS2.2⟩
theorem inL_one (a b c : Int) : inL [(a, b)] c = (decide (a ≤ c) && decide (c ≤ b)) := by simp [inL]
theorem mayS_eq (s : ByteArray) (h : 0 < s.size) : mayS s = (decide (s.size ≤ 32) && decide (preN s.data.toList = s.size) && (decide ((97 : Int) ≤ s[0].toNat) && decide ((s[0].toNat : Int) ≤ 122))) := by
  obtain ⟨t, ht⟩ := head_eq h
  have e : lowB s.data.toList = inL [(97, 122)] s[0].toNat := by rw [ht]; rfl
  have h1 : decide (1 ≤ s.size) = true := by simp; omega
  rw [mayS, fitsB_eq, e, inL_one, h1, Bool.true_and]
theorem nameS_eq (s : ByteArray) (h : 0 < s.size) : nameS s = (decide (s.size ≤ 32) && decide (preN s.data.toList = s.size) && ((decide ((65 : Int) ≤ s[0].toNat) && decide ((s[0].toNat : Int) ≤ 90)) || ((s[0].toNat : Int) == 95))) := by
  obtain ⟨t, ht⟩ := head_eq h
  have e : upB s.data.toList = (inL [(65, 90)] s[0].toNat || inL [(95, 95)] s[0].toNat) := by rw [ht]; rfl
  have h1 : decide (1 ≤ s.size) = true := by simp; omega
  have h2 : (decide ((95 : Int) ≤ s[0].toNat) && decide ((s[0].toNat : Int) ≤ 95)) = ((s[0].toNat : Int) == 95) := by rw [Bool.eq_iff_iff]; simp; omega
  rw [nameS, fitsB_eq, e, inL_one, inL_one, h1, Bool.true_and, h2]
theorem refmay8 (s : ByteArray) (hs : s.size ≤ 9223372036854775807) (w : World) : Calls Tryz.prog 54 #[.string s] w (IsPost w (mayS s)) := by
  have HC := Lib.hid (refprefix_any s hs w)
  by_cases h0 : 0 < s.size
  · rw [mayS_eq s h0]
    generalize preN s.data.toList = n at HC ⊢
    by_cases h1 : s.size ≤ 32
    · by_cases h2 : (97 : Int) ≤ s[0].toNat
      · by_cases h3 : (s[0].toNat : Int) ≤ 122
        · have e : (decide (s.size ≤ 32) && decide (n = s.size) && (decide ((97 : Int) ≤ s[0].toNat) && decide ((s[0].toNat : Int) ≤ 122))) = ((n : Int) == (s.size : Int)) := by rw [Bool.eq_iff_iff]; simp [h1, h2, h3]; omega
          rw [e]
          clear e
          go_enter Tryz.func54, Tryz.ntmps54
          go_wp2_with (go_at_call 82; refine HC.out.mono ?_; rintro e w1 ⟨rfl, hb1⟩)
          go_ret
          exact ⟨rfl, hb1⟩
        · have e : (decide (s.size ≤ 32) && decide (n = s.size) && (decide ((97 : Int) ≤ s[0].toNat) && decide ((s[0].toNat : Int) ≤ 122))) = false := by simp [h3]
          rw [e]
          clear e
          go_enter Tryz.func54, Tryz.ntmps54
          go_wp2_with fail
          go_ret
          exact ⟨rfl, Below.refl _ _⟩
      · have e : (decide (s.size ≤ 32) && decide (n = s.size) && (decide ((97 : Int) ≤ s[0].toNat) && decide ((s[0].toNat : Int) ≤ 122))) = false := by simp [h2]
        rw [e]
        clear e
        go_enter Tryz.func54, Tryz.ntmps54
        go_wp2_with fail
        go_ret
        exact ⟨rfl, Below.refl _ _⟩
    · have e : (decide (s.size ≤ 32) && decide (n = s.size) && (decide ((97 : Int) ≤ s[0].toNat) && decide ((s[0].toNat : Int) ≤ 122))) = false := by simp [h1]
      rw [e]
      clear e
      go_enter Tryz.func54, Tryz.ntmps54
      go_wp2_with fail
      go_ret
      exact ⟨rfl, Below.refl _ _⟩
  · have e : mayS s = false := by
      have h1 : decide (1 ≤ s.size) = false := decide_eq_false (by omega)
      rw [mayS, fitsB_eq, h1]; rfl
    rw [e]
    clear e
    go_enter Tryz.func54, Tryz.ntmps54
    go_wp2_with fail
    go_ret
    exact ⟨rfl, Below.refl _ _⟩
end Go.Proofs.YthpmdeofdlcccaaGreatDoor
