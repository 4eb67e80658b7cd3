/- ints.Do at each operation, and where it is none. Conditions: as each theorem says. -/
import Derived.Test.YtjjlfaknebbhfaaIc
namespace Go.Proofs.Ytjjlfaknebbhfaa
open Go.ChangeShapes Go.WideShapes Go.ChangeAt Go.RowKit
set_option linter.unusedVariables false
def DoPost (w : World) (n e : Int) (x : Ending) (w' : World) : Prop := x = .returned (.tuple #[.int .i64 n, .int .i64 e]) ∧ Below w.heap.size w w'
def lim (n : Int) : Int × Int := if mayB n then (n, 0) else (0, 11)
set_option maxHeartbeats 1000000 in
theorem Do_add (a b : Int) (ha : mayB a = true) (hb : mayB b = true) (w : World) :
    Calls Try.prog 15 #[.string ⟨#[43]⟩, .int .i64 a, .int .i64 b] w (DoPost w (lim (a + b)).1 (lim (a + b)).2) := by
  have h1 := (mayB_iff a).1 ha
  have h2 := (mayB_iff b).1 hb
  cases hn : mayB (a + b)
  · have e1 : lim (a + b) = (0, 11) := by simp [lim, hn]
    rw [e1]
    go_enter Try.func15, Try.ntmps15
    go_wp2_with (first | (go_at_call 26; refine (ways_any _).mono ?_; rintro e w1 ⟨r, p, q, rfl, hm, hp, hq, hb1⟩) | (at_lookup; refine wpList_lookup_there rfl (.tmp 13) (.tmp 14) 49 rfl 9 47 Try.underlying49 Try.underlying9 r _ _ rfl hm ⟨#[43]⟩ rfl 0 (.func (.func 30) #[] #[]) (by rfl) ?_) | (go_at_call 14; refine (may14 _ _).mono ?_; rintro e w' ⟨rfl, rfl⟩) | go_in)
    go_ret2
    exact ⟨rfl, hb1⟩
  · have e1 : lim (a + b) = (a + b, 0) := by simp [lim, hn]
    rw [e1]
    go_enter Try.func15, Try.ntmps15
    go_wp2_with (first | (go_at_call 26; refine (ways_any _).mono ?_; rintro e w1 ⟨r, p, q, rfl, hm, hp, hq, hb1⟩) | (at_lookup; refine wpList_lookup_there rfl (.tmp 13) (.tmp 14) 49 rfl 9 47 Try.underlying49 Try.underlying9 r _ _ rfl hm ⟨#[43]⟩ rfl 0 (.func (.func 30) #[] #[]) (by rfl) ?_) | (go_at_call 14; refine (may14 _ _).mono ?_; rintro e w' ⟨rfl, rfl⟩) | go_in)
    go_ret2
    exact ⟨rfl, hb1⟩
set_option maxHeartbeats 1000000 in
theorem Do_sub (a b : Int) (ha : mayB a = true) (hb : mayB b = true) (w : World) :
    Calls Try.prog 15 #[.string ⟨#[45]⟩, .int .i64 a, .int .i64 b] w (DoPost w (lim (a - b)).1 (lim (a - b)).2) := by
  have h1 := (mayB_iff a).1 ha
  have h2 := (mayB_iff b).1 hb
  cases hn : mayB (a - b)
  · have e1 : lim (a - b) = (0, 11) := by simp [lim, hn]
    rw [e1]
    go_enter Try.func15, Try.ntmps15
    go_wp2_with (first | (go_at_call 26; refine (ways_any _).mono ?_; rintro e w1 ⟨r, p, q, rfl, hm, hp, hq, hb1⟩) | (at_lookup; refine wpList_lookup_there rfl (.tmp 13) (.tmp 14) 49 rfl 9 47 Try.underlying49 Try.underlying9 r _ _ rfl hm ⟨#[45]⟩ rfl 1 (.func (.func 31) #[] #[]) (by rfl) ?_) | (go_at_call 14; refine (may14 _ _).mono ?_; rintro e w' ⟨rfl, rfl⟩) | go_in)
    go_ret2
    exact ⟨rfl, hb1⟩
  · have e1 : lim (a - b) = (a - b, 0) := by simp [lim, hn]
    rw [e1]
    go_enter Try.func15, Try.ntmps15
    go_wp2_with (first | (go_at_call 26; refine (ways_any _).mono ?_; rintro e w1 ⟨r, p, q, rfl, hm, hp, hq, hb1⟩) | (at_lookup; refine wpList_lookup_there rfl (.tmp 13) (.tmp 14) 49 rfl 9 47 Try.underlying49 Try.underlying9 r _ _ rfl hm ⟨#[45]⟩ rfl 1 (.func (.func 31) #[] #[]) (by rfl) ?_) | (go_at_call 14; refine (may14 _ _).mono ?_; rintro e w' ⟨rfl, rfl⟩) | go_in)
    go_ret2
    exact ⟨rfl, hb1⟩
theorem lim_big {a b : Int} (h : 576460752303423488 < a.natAbs * b.natAbs) : lim (a * b) = (0, 11) := by
  have hp := natAbs_mul_eq a b
  have : mayB (a * b) = false := by
    by_cases hm : mayB (a * b) = true
    · have h1 := (mayB_iff _).1 hm
      obtain ⟨q1, q2, q3, q4⟩ := hp
      generalize a.natAbs * b.natAbs = q at *
      generalize a * b = r at *
      exfalso
      by_cases ca : a < 0
      · by_cases cb : b < 0
        · have := q1 ⟨ca, cb⟩; omega
        · have := q3 ⟨ca, cb⟩; omega
      · by_cases cb : b < 0
        · have := q4 ⟨ca, cb⟩; omega
        · have := q2 ⟨ca, cb⟩; omega
    · simpa using hm
  simp [lim, this]
set_option maxHeartbeats 1000000 in
theorem Do_mul (a b : Int) (ha : mayB a = true) (hb : mayB b = true) (w : World) :
    Calls Try.prog 15 #[.string ⟨#[42]⟩, .int .i64 a, .int .i64 b] w (DoPost w (lim (a * b)).1 (lim (a * b)).2) := by
  by_cases hbig : 576460752303423488 < a.natAbs * b.natAbs
  · rw [lim_big hbig]
    go_enter Try.func15, Try.ntmps15
    go_wp2_with (first | (go_at_call 26; refine (ways_any _).mono ?_; rintro e w1 ⟨r, p, q, rfl, hm, hp, hq, hb1⟩) | (at_lookup; refine wpList_lookup_there rfl (.tmp 13) (.tmp 14) 49 rfl 9 47 Try.underlying49 Try.underlying9 r _ _ rfl hm ⟨#[42]⟩ rfl 2 (.func (.func 32) #[] #[]) (by rfl) ?_) | (go_at_call 14; refine (may14 _ _).mono ?_; rintro e w' ⟨rfl, rfl⟩) | (go_at_call 32; refine (times_big a b ha hb hbig _).mono ?_; rintro e w' ⟨rfl, rfl⟩) | go_in)
    go_ret2
    exact ⟨rfl, hb1⟩
  · have hsm : a.natAbs * b.natAbs ≤ 576460752303423488 := by omega
    have T := fun w => times_small a b ha hb hsm w
    obtain ⟨m, hm0⟩ : ∃ m, m = a * b := ⟨_, rfl⟩
    rw [← hm0] at T ⊢
    clear hm0 hsm hbig
    cases hn : mayB m
    · have e1 : lim m = (0, 11) := by simp [lim, hn]
      rw [e1]
      go_enter Try.func15, Try.ntmps15
      go_wp2_with (first | (go_at_call 26; refine (ways_any _).mono ?_; rintro e w1 ⟨r, p, q, rfl, hm, hp, hq, hb1⟩) | (at_lookup; refine wpList_lookup_there rfl (.tmp 13) (.tmp 14) 49 rfl 9 47 Try.underlying49 Try.underlying9 r _ _ rfl hm ⟨#[42]⟩ rfl 2 (.func (.func 32) #[] #[]) (by rfl) ?_) | (go_at_call 14; refine (may14 _ _).mono ?_; rintro e w' ⟨rfl, rfl⟩) | (go_at_call 32; refine (T _).mono ?_; rintro e w' ⟨rfl, rfl⟩) | go_in)
      go_ret2
      exact ⟨rfl, hb1⟩
    · have e1 : lim m = (m, 0) := by simp [lim, hn]
      rw [e1]
      go_enter Try.func15, Try.ntmps15
      go_wp2_with (first | (go_at_call 26; refine (ways_any _).mono ?_; rintro e w1 ⟨r, p, q, rfl, hm, hp, hq, hb1⟩) | (at_lookup; refine wpList_lookup_there rfl (.tmp 13) (.tmp 14) 49 rfl 9 47 Try.underlying49 Try.underlying9 r _ _ rfl hm ⟨#[42]⟩ rfl 2 (.func (.func 32) #[] #[]) (by rfl) ?_) | (go_at_call 14; refine (may14 _ _).mono ?_; rintro e w' ⟨rfl, rfl⟩) | (go_at_call 32; refine (T _).mono ?_; rintro e w' ⟨rfl, rfl⟩) | go_in)
      go_ret2
      exact ⟨rfl, hb1⟩
theorem tdiv_bd {a b : Int} (h : -576460752303423488 ≤ a ∧ a ≤ 576460752303423487) (hb : b ≠ 0) : -576460752303423488 ≤ a.tdiv b ∧ a.tdiv b ≤ 576460752303423488 := by
  have h1 : (a.tdiv b).natAbs ≤ a.natAbs := by
    rw [Int.natAbs_tdiv]
    exact Nat.div_le_self _ _
  omega
theorem tmod_bd {a b : Int} (h : -576460752303423488 ≤ a ∧ a ≤ 576460752303423487) : -576460752303423488 ≤ a.tmod b ∧ a.tmod b ≤ 576460752303423487 := by
  have h1 : (a.tmod b).natAbs ≤ a.natAbs := by
    rw [Int.natAbs_tmod]
    exact Nat.mod_le _ _
  rcases Int.le_total 0 a with h0 | h0
  · have := Int.tmod_nonneg b h0
    omega
  · have := Int.tmod_nonneg b (show 0 ≤ -a by omega)
    rw [Int.neg_tmod] at this
    omega
set_option maxHeartbeats 1000000 in
theorem Do_div (a b : Int) (ha : mayB a = true) (hb : mayB b = true) (hb0 : b ≠ 0) (w : World) :
    Calls Try.prog 15 #[.string ⟨#[100, 105, 118]⟩, .int .i64 a, .int .i64 b] w (DoPost w (lim (a.tdiv b)).1 (lim (a.tdiv b)).2) := by
  have h1 := (mayB_iff a).1 ha
  have h2 := (mayB_iff b).1 hb
  have hz : (b == 0) = false := by simpa using hb0
  have hq1 : -576460752303423488 ≤ a.tdiv b ∧ a.tdiv b ≤ 576460752303423488 := tdiv_bd h1 hb0
  have hq2 := hq1.1
  have hq3 := hq1.2
  cases hn : mayB (a.tdiv b)
  · have e1 : lim (a.tdiv b) = (0, 11) := by simp [lim, hn]
    rw [e1]
    go_enter Try.func15, Try.ntmps15
    go_wp2_with (first | (go_at_call 26; refine (ways_any _).mono ?_; rintro e w1 ⟨r, p, q, rfl, hm, hp, hq, hb1⟩) | (at_lookup; refine wpList_lookup_there rfl (.tmp 13) (.tmp 14) 49 rfl 9 47 Try.underlying49 Try.underlying9 r _ _ rfl hm ⟨#[100, 105, 118]⟩ rfl 3 (.func (.func 39) #[] #[.pointer (some p)]) (by rfl) ?_) | (go_at_call 14; refine (may14 _ _).mono ?_; rintro e w' ⟨rfl, rfl⟩) | go_in)
    go_ret2
    exact ⟨rfl, hb1⟩
  · have e1 : lim (a.tdiv b) = (a.tdiv b, 0) := by simp [lim, hn]
    rw [e1]
    go_enter Try.func15, Try.ntmps15
    go_wp2_with (first | (go_at_call 26; refine (ways_any _).mono ?_; rintro e w1 ⟨r, p, q, rfl, hm, hp, hq, hb1⟩) | (at_lookup; refine wpList_lookup_there rfl (.tmp 13) (.tmp 14) 49 rfl 9 47 Try.underlying49 Try.underlying9 r _ _ rfl hm ⟨#[100, 105, 118]⟩ rfl 3 (.func (.func 39) #[] #[.pointer (some p)]) (by rfl) ?_) | (go_at_call 14; refine (may14 _ _).mono ?_; rintro e w' ⟨rfl, rfl⟩) | go_in)
    go_ret2
    exact ⟨rfl, hb1⟩
set_option maxHeartbeats 1000000 in
theorem Do_rem (a b : Int) (ha : mayB a = true) (hb : mayB b = true) (hb0 : b ≠ 0) (w : World) :
    Calls Try.prog 15 #[.string ⟨#[114, 101, 109]⟩, .int .i64 a, .int .i64 b] w (DoPost w (lim (a.tmod b)).1 (lim (a.tmod b)).2) := by
  have h1 := (mayB_iff a).1 ha
  have h2 := (mayB_iff b).1 hb
  have hz : (b == 0) = false := by simpa using hb0
  have hq1 := tmod_bd (b := b) h1
  have hq2 := hq1.1
  have hq3 := hq1.2
  cases hn : mayB (a.tmod b)
  · have e1 : lim (a.tmod b) = (0, 11) := by simp [lim, hn]
    rw [e1]
    go_enter Try.func15, Try.ntmps15
    go_wp2_with (first | (go_at_call 26; refine (ways_any _).mono ?_; rintro e w1 ⟨r, p, q, rfl, hm, hp, hq, hb1⟩) | (at_lookup; refine wpList_lookup_there rfl (.tmp 13) (.tmp 14) 49 rfl 9 47 Try.underlying49 Try.underlying9 r _ _ rfl hm ⟨#[114, 101, 109]⟩ rfl 4 (.func (.func 39) #[] #[.pointer (some q)]) (by rfl) ?_) | (go_at_call 14; refine (may14 _ _).mono ?_; rintro e w' ⟨rfl, rfl⟩) | go_in)
    go_ret2
    exact ⟨rfl, hb1⟩
  · have e1 : lim (a.tmod b) = (a.tmod b, 0) := by simp [lim, hn]
    rw [e1]
    go_enter Try.func15, Try.ntmps15
    go_wp2_with (first | (go_at_call 26; refine (ways_any _).mono ?_; rintro e w1 ⟨r, p, q, rfl, hm, hp, hq, hb1⟩) | (at_lookup; refine wpList_lookup_there rfl (.tmp 13) (.tmp 14) 49 rfl 9 47 Try.underlying49 Try.underlying9 r _ _ rfl hm ⟨#[114, 101, 109]⟩ rfl 4 (.func (.func 39) #[] #[.pointer (some q)]) (by rfl) ?_) | (go_at_call 14; refine (may14 _ _).mono ?_; rintro e w' ⟨rfl, rfl⟩) | go_in)
    go_ret2
    exact ⟨rfl, hb1⟩
set_option maxHeartbeats 1000000 in
theorem Do_div0 (a : Int) (ha : mayB a = true) (w : World) :
    Calls Try.prog 15 #[.string ⟨#[100, 105, 118]⟩, .int .i64 a, .int .i64 0] w (DoPost w 0 10) := by
  have hb : mayB 0 = true := by decide
  go_enter Try.func15, Try.ntmps15
  go_wp2_with (first | (go_at_call 26; refine (ways_any _).mono ?_; rintro e w1 ⟨r, p, q, rfl, hm, hp, hq, hb1⟩) | (at_lookup; refine wpList_lookup_there rfl (.tmp 13) (.tmp 14) 49 rfl 9 47 Try.underlying49 Try.underlying9 r _ _ rfl hm ⟨#[100, 105, 118]⟩ rfl 3 (.func (.func 39) #[] #[.pointer (some p)]) (by rfl) ?_) | (go_at_call 14; refine (may14 _ _).mono ?_; rintro e w' ⟨rfl, rfl⟩) | go_in)
  go_ret2
  exact ⟨rfl, hb1⟩
set_option maxHeartbeats 1000000 in
theorem Do_rem0 (a : Int) (ha : mayB a = true) (w : World) :
    Calls Try.prog 15 #[.string ⟨#[114, 101, 109]⟩, .int .i64 a, .int .i64 0] w (DoPost w 0 10) := by
  have hb : mayB 0 = true := by decide
  go_enter Try.func15, Try.ntmps15
  go_wp2_with (first | (go_at_call 26; refine (ways_any _).mono ?_; rintro e w1 ⟨r, p, q, rfl, hm, hp, hq, hb1⟩) | (at_lookup; refine wpList_lookup_there rfl (.tmp 13) (.tmp 14) 49 rfl 9 47 Try.underlying49 Try.underlying9 r _ _ rfl hm ⟨#[114, 101, 109]⟩ rfl 4 (.func (.func 39) #[] #[.pointer (some q)]) (by rfl) ?_) | (go_at_call 14; refine (may14 _ _).mono ?_; rintro e w' ⟨rfl, rfl⟩) | go_in)
  go_ret2
  exact ⟨rfl, hb1⟩
theorem find_total (k : ByteArray) : ∀ (l : List (ByteArray × Value × Nat)) (n : Nat), Instr.findNow .string (.string k) (l.map fun x => ⟨.string x.1, x.2.1, x.2.2⟩) n = some none ∨ ∃ i v, Instr.findNow .string (.string k) (l.map fun x => ⟨.string x.1, x.2.1, x.2.2⟩) n = some (some (i, v))
  | [], _ => .inl rfl
  | x :: l, n => by
    by_cases h : (k == x.1) = true
    · exact .inr ⟨n, x.2.1, by simp [Instr.findNow, Instr.sameNow, h]⟩
    · have := find_total k l (n + 1)
      have h' : (k == x.1) = false := by simpa using h
      simpa [Instr.findNow, Instr.sameNow, h'] using this
theorem wEs_total (k : ByteArray) (p q : Addr) : Instr.findNow .string (.string k) (wEs p q).toList 0 = some none ∨ ∃ i v, Instr.findNow .string (.string k) (wEs p q).toList 0 = some (some (i, v)) :=
  find_total k [(⟨#[43]⟩, .func (.func 30) #[] #[], 0), (⟨#[45]⟩, .func (.func 31) #[] #[], 1), (⟨#[42]⟩, .func (.func 32) #[] #[], 2), (⟨#[100, 105, 118]⟩, .func (.func 39) #[] #[.pointer (some p)], 3), (⟨#[114, 101, 109]⟩, .func (.func 39) #[] #[.pointer (some q)], 4)] 0
theorem zero47 (w : World) : (zeroValue 47).run Try.prog w = .ok .nilFunc w := by kernel_rfl
theorem wEs_none {k : ByteArray} (p q : Addr) (h1 : (k == ⟨#[43]⟩) = false) (h2 : (k == ⟨#[45]⟩) = false) (h3 : (k == ⟨#[42]⟩) = false) (h4 : (k == ⟨#[100, 105, 118]⟩) = false) (h5 : (k == ⟨#[114, 101, 109]⟩) = false) :
    Instr.findNow .string (.string k) (wEs p q).toList 0 = some none := by
  simp [wEs, Instr.findNow, Instr.sameNow, h1, h2, h3, h4, h5]
set_option maxHeartbeats 1000000 in
theorem Do_none (k : ByteArray) (a b : Int) (h1 : (k == ⟨#[43]⟩) = false) (h2 : (k == ⟨#[45]⟩) = false) (h3 : (k == ⟨#[42]⟩) = false) (h4 : (k == ⟨#[100, 105, 118]⟩) = false) (h5 : (k == ⟨#[114, 101, 109]⟩) = false) (w : World) :
    Calls Try.prog 15 #[.string k, .int .i64 a, .int .i64 b] w (DoPost w 0 2) := by
  have hf := fun p q => wEs_none p q h1 h2 h3 h4 h5
  have HF := hf
  clear hf h1 h2 h3 h4 h5
  go_enter Try.func15, Try.ntmps15
  go_wp2_with (first | (go_at_call 26; refine (ways_any _).mono ?_; rintro e w1 ⟨r, p, q, rfl, hm, hp, hq, hb1⟩) | (at_lookup; refine wpList_lookup_not rfl (.tmp 13) (.tmp 14) 49 rfl 9 47 Try.underlying49 Try.underlying9 r _ _ rfl hm k rfl _ (HF p q) (zero47 _) ?_))
  go_ret2
  exact ⟨rfl, hb1⟩
set_option maxHeartbeats 1000000 in
theorem Do_arg (k : ByteArray) (a b : Int) (h : ¬ (mayB a = true ∧ mayB b = true)) (w : World) :
    Calls Try.prog 15 #[.string k, .int .i64 a, .int .i64 b] w (DoPost w 0 2) := by
  by_cases ha : mayB a = true
  · have hb : mayB b = false := by
      by_cases hb : mayB b = true
      · exact absurd ⟨ha, hb⟩ h
      · simpa using hb
    go_enter Try.func15, Try.ntmps15
    go_wp2_with (first | (go_at_call 26; refine (ways_any _).mono ?_; rintro e w1 ⟨r, p, q, rfl, hm, hp, hq, hb1⟩; rcases wEs_total k p q with hf | ⟨i, v, hf⟩) | (at_lookup; refine wpList_lookup_not rfl (.tmp 13) (.tmp 14) 49 rfl 9 47 Try.underlying49 Try.underlying9 r _ _ rfl hm k rfl _ hf (zero47 _) ?_) | (at_lookup; refine wpList_lookup_there rfl (.tmp 13) (.tmp 14) 49 rfl 9 47 Try.underlying49 Try.underlying9 r _ _ rfl hm k rfl i v hf ?_) | (go_at_call 14; refine (may14 _ _).mono ?_; rintro e w' ⟨rfl, rfl⟩))
    all_goals
      go_ret2
      exact ⟨rfl, hb1⟩
  · have ha : mayB a = false := by simpa using ha
    go_enter Try.func15, Try.ntmps15
    go_wp2_with (first | (go_at_call 26; refine (ways_any _).mono ?_; rintro e w1 ⟨r, p, q, rfl, hm, hp, hq, hb1⟩; rcases wEs_total k p q with hf | ⟨i, v, hf⟩) | (at_lookup; refine wpList_lookup_not rfl (.tmp 13) (.tmp 14) 49 rfl 9 47 Try.underlying49 Try.underlying9 r _ _ rfl hm k rfl _ hf (zero47 _) ?_) | (at_lookup; refine wpList_lookup_there rfl (.tmp 13) (.tmp 14) 49 rfl 9 47 Try.underlying49 Try.underlying9 r _ _ rfl hm k rfl i v hf ?_) | (go_at_call 14; refine (may14 _ _).mono ?_; rintro e w' ⟨rfl, rfl⟩))
    all_goals
      go_ret2
      exact ⟨rfl, hb1⟩
end Go.Proofs.Ytjjlfaknebbhfaa
