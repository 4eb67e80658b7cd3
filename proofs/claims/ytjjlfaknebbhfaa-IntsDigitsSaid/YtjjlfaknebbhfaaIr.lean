/- The reference of chapter 1: May, Arith, product, Do; the plain function that tells both Do's. Conditions: as each theorem says. -/
import Derived.Test.YtjjlfaknebbhfaaIm
namespace Go.Proofs.Ytjjlfaknebbhfaa
open Go.ChangeShapes Go.WideShapes Go.ChangeAt Go.RowKit
set_option linter.unusedVariables false
theorem may22 (n : Int) (w : World) : Calls Try.prog 22 #[.int .i64 n] w fun e w' => e = .returned (.bool (mayB n)) ∧ w' = w := by
  by_cases h1 : -576460752303423488 ≤ n
  · by_cases h2 : n ≤ 576460752303423487
    · have : mayB n = true := (mayB_iff n).2 ⟨h1, h2⟩
      rw [this]
      go_enter Try.func22, Try.ntmps22
      go_wp2
      go_ret
      exact ⟨rfl, rfl⟩
    · have : mayB n = false := by simp [mayB]; omega
      rw [this]
      go_enter Try.func22, Try.ntmps22
      go_wp2
      go_ret
      exact ⟨rfl, rfl⟩
  · have : mayB n = false := by simp [mayB]; omega
    rw [this]
    go_enter Try.func22, Try.ntmps22
    go_wp2
    go_ret
    exact ⟨rfl, rfl⟩
theorem ba_beq (a b : ByteArray) : (a == b) = true ↔ a = b := by
  obtain ⟨x⟩ := a
  obtain ⟨y⟩ := b
  constructor
  · intro h
    have e : x = y := by simpa using (show (x == y) = true from h)
    rw [e]
  · intro h
    cases h
    show (x == x) = true
    simp
theorem bytes_ne {a b : ByteArray} (h : (a == b) = false) : a ≠ b := fun e => by
  have := (ba_beq a b).2 e
  rw [h] at this
  cases this
theorem ne_bytes {a b : ByteArray} (h : a ≠ b) : (a == b) = false := by
  cases e : a == b
  · rfl
  · exact absurd ((ba_beq a b).1 e) h
theorem str_ne {k : ByteArray} {l : List UInt8} (h : (k == ⟨l.toArray⟩) = false) : (k.toList == l) = false := by
  have h' := (bytes_ne h)
  rw [beq_eq_false_iff_ne]
  intro e
  apply h'
  subst e
  cases k
  simp [ByteArray.toList_eq]
def isOp (k : ByteArray) : Bool := k == ⟨#[43]⟩ || k == ⟨#[45]⟩ || k == ⟨#[42]⟩ || k == ⟨#[100, 105, 118]⟩ || k == ⟨#[114, 101, 109]⟩
theorem op_split (k : ByteArray) : k = ⟨#[43]⟩ ∨ k = ⟨#[45]⟩ ∨ k = ⟨#[42]⟩ ∨ k = ⟨#[100, 105, 118]⟩ ∨ k = ⟨#[114, 101, 109]⟩ ∨
    ((k == ⟨#[43]⟩) = false ∧ (k == ⟨#[45]⟩) = false ∧ (k == ⟨#[42]⟩) = false ∧ (k == ⟨#[100, 105, 118]⟩) = false ∧ (k == ⟨#[114, 101, 109]⟩) = false) := by
  by_cases h1 : k = ⟨#[43]⟩
  · exact .inl h1
  by_cases h2 : k = ⟨#[45]⟩
  · exact .inr (.inl h2)
  by_cases h3 : k = ⟨#[42]⟩
  · exact .inr (.inr (.inl h3))
  by_cases h4 : k = ⟨#[100, 105, 118]⟩
  · exact .inr (.inr (.inr (.inl h4)))
  by_cases h5 : k = ⟨#[114, 101, 109]⟩
  · exact .inr (.inr (.inr (.inr (.inl h5))))
  exact .inr (.inr (.inr (.inr (.inr ⟨ne_bytes h1, ne_bytes h2, ne_bytes h3, ne_bytes h4, ne_bytes h5⟩))))
theorem arith24 (k : ByteArray) (w : World) : Calls Try.prog 24 #[.string k] w fun e w' => e = .returned (.bool (isOp k)) ∧ w' = w := by
  rcases op_split k with rfl | rfl | rfl | rfl | rfl | ⟨h1, h2, h3, h4, h5⟩
  · go_enter Try.func24, Try.ntmps24
    go_wp2
    go_ret
    exact ⟨rfl, rfl⟩
  · go_enter Try.func24, Try.ntmps24
    go_wp2
    go_ret
    exact ⟨rfl, rfl⟩
  · go_enter Try.func24, Try.ntmps24
    go_wp2
    go_ret
    exact ⟨rfl, rfl⟩
  · go_enter Try.func24, Try.ntmps24
    go_wp2
    go_ret
    exact ⟨rfl, rfl⟩
  · go_enter Try.func24, Try.ntmps24
    go_wp2
    go_ret
    exact ⟨rfl, rfl⟩
  · have e : isOp k = false := by simp only [isOp, h1, h2, h3, h4, h5]; rfl
    rw [e]
    have k1 := str_ne h1
    have k2 := str_ne h2
    have k3 := str_ne h3
    have k4 := str_ne h4
    have k5 := str_ne h5
    clear h1 h2 h3 h4 h5 e
    go_enter Try.func24, Try.ntmps24
    go_wp2
    go_ret
    exact ⟨rfl, rfl⟩

theorem wrap64_bd (x : Int) : -9223372036854775808 ≤ wrap64 x ∧ wrap64 x ≤ 9223372036854775807 := by unfold wrap64; omega
theorem wrap64_in {x : Int} (h : -9223372036854775808 ≤ x ∧ x ≤ 9223372036854775807) : wrap64 x = x := by unfold wrap64; omega
theorem tdiv_bd2 {n b : Int} (h : -9223372036854775808 ≤ n ∧ n ≤ 9223372036854775807) (hb : 2 ≤ b.natAbs) : -9223372036854775808 ≤ n.tdiv b ∧ n.tdiv b ≤ 9223372036854775807 := by
  have h1 : (n.tdiv b).natAbs ≤ n.natAbs / 2 := by
    rw [Int.natAbs_tdiv]
    exact Nat.div_le_div_left hb (by omega)
  omega
theorem far_big {a b : Int} (ha : mayB a = true) (h : ¬ (-9223372036854775808 ≤ a * b ∧ a * b ≤ 9223372036854775807)) : 2 ≤ b.natAbs := by
  have h1 := (mayB_iff a).1 ha
  by_cases hb : 2 ≤ b.natAbs
  · exact hb
  · have : b = 0 ∨ b = 1 ∨ b = -1 := by omega
    rcases this with rfl | rfl | rfl <;> omega
def ProdPost (a b : Int) (w : World) (x : Ending) (w' : World) : Prop := ∃ n ok, x = .returned (.tuple #[.int .i64 n, .bool ok]) ∧ w' = w ∧ ((mayB (a * b) = true ∧ n = a * b ∧ ok = true) ∨ (mayB (a * b) = false ∧ ok = false))
set_option maxHeartbeats 1000000 in
theorem product27 (a b : Int) (ha : mayB a = true) (w : World) : Calls Try.prog 27 #[.int .i64 a, .int .i64 b] w (ProdPost a b w) := by
  have hz : mayB 0 = true := by decide
  by_cases h0 : a = 0
  · subst h0
    go_enter Try.func27, Try.ntmps27
    go_wp2
    go_ret2
    exact ⟨_, _, rfl, rfl, .inl ⟨by rw [Int.zero_mul]; exact hz, by rw [Int.zero_mul], rfl⟩⟩
  · have z0 : (a == 0) = false := by simpa using h0
    by_cases h1 : b = 0
    · subst h1
      go_enter Try.func27, Try.ntmps27
      go_wp2
      go_ret2
      exact ⟨_, _, rfl, rfl, .inl ⟨by rw [Int.mul_zero]; exact hz, by rw [Int.mul_zero], rfl⟩⟩
    · have z1 : (b == 0) = false := by simpa using h1
      by_cases hf : -9223372036854775808 ≤ a * b ∧ a * b ≤ 9223372036854775807
      · have hn := wrap64_in hf
        have hd : (a * b).tdiv b = a := Int.mul_tdiv_cancel a h1
        have hm : (a * b).tmod b = 0 := Int.mul_tmod_left a b
        have hL : mayB (a * b) = true → ProdPost a b w (.returned (.tuple #[.int .i64 (a * b), .bool true])) w := fun h => ⟨_, _, rfl, rfl, .inl ⟨h, rfl, rfl⟩⟩
        have hR : mayB (a * b) = false → ProdPost a b w (.returned (.tuple #[.int .i64 (a * b), .bool false])) w := fun h => ⟨_, _, rfl, rfl, .inr ⟨h, rfl⟩⟩
        have HL := Lib.hid hL
        have HR := Lib.hid hR
        clear hL hR
        have wa : wrap64 a = a := wrap64_in (by have := (mayB_iff a).1 ha; omega)
        obtain ⟨m, hm0⟩ : ∃ m, m = a * b := ⟨_, rfl⟩
        have hww : wrap64 (a * b) = m := by rw [hn, hm0]
        rw [← hm0] at hd hm HL HR
        clear hn hf hm0
        cases hmay : mayB m
        · go_enter Try.func27, Try.ntmps27
          go_wp2_with (go_at_call 22; refine (may22 _ _).mono ?_; rintro e w' ⟨rfl, rfl⟩)
          go_ret2
          exact HR.out hmay
        · go_enter Try.func27, Try.ntmps27
          go_wp2_with (go_at_call 22; refine (may22 _ _).mono ?_; rintro e w' ⟨rfl, rfl⟩)
          go_ret2
          exact HL.out hmay
      · have hb2 := far_big ha hf
        have hmay : mayB (a * b) = false := by
          cases hm : mayB (a * b)
          · rfl
          · have := (mayB_iff _).1 hm
            omega
        have hbd := wrap64_bd (a * b)
        have hne : wrap64 (a * b) ≠ a * b := fun h => hf (by rw [h] at hbd; exact hbd)
        have hL : ∀ n, ProdPost a b w (.returned (.tuple #[.int .i64 n, .bool false])) w := fun n => ⟨_, _, rfl, rfl, .inr ⟨hmay, rfl⟩⟩
        have HL := Lib.hid hL
        clear hL
        obtain ⟨n, hn⟩ : ∃ n, wrap64 (a * b) = n := ⟨_, rfl⟩
        rw [hn] at hbd hne
        have hq := wrap64_in (tdiv_bd2 hbd hb2)
        have hE := Int.mul_tdiv_add_tmod n b
        clear hmay hf hb2
        by_cases c1 : n.tdiv b = a
        · have c2 : ¬ n.tmod b = 0 := by
            intro c2
            apply hne
            rw [c1, c2, Int.add_zero, Int.mul_comm] at hE
            exact hE.symm
          have d1 : (n.tdiv b == a) = true := by simpa using c1
          have d2 : (n.tmod b == 0) = false := by simpa using c2
          have wa : wrap64 a = a := wrap64_in (by have := (mayB_iff a).1 ha; omega)
          clear hE hne
          go_enter Try.func27, Try.ntmps27
          go_wp2_with (go_at_call 22; refine (may22 _ _).mono ?_; rintro e w' ⟨rfl, rfl⟩)
          go_ret2
          exact HL.out _
        · have d1 : (n.tdiv b == a) = false := by simpa using c1
          clear hE hne
          go_enter Try.func27, Try.ntmps27
          go_wp2_with (go_at_call 22; refine (may22 _ _).mono ?_; rintro e w' ⟨rfl, rfl⟩)
          go_ret2
          exact HL.out _
def doF (k : ByteArray) (a b : Int) : Int × Int :=
  if isOp k && (mayB a && mayB b) then
    (if k == ⟨#[43]⟩ then lim (a + b) else if k == ⟨#[45]⟩ then lim (a - b) else if k == ⟨#[42]⟩ then lim (a * b)
     else if b = 0 then (0, 10) else if k == ⟨#[100, 105, 118]⟩ then lim (a.tdiv b) else lim (a.tmod b)) else (0, 2)
theorem doF_add {a b : Int} (ha : mayB a = true) (hb : mayB b = true) : doF ⟨#[43]⟩ a b = lim (a + b) := by
  have : isOp ⟨#[43]⟩ = true := by rfl
  rw [doF, this, ha, hb]; rfl
theorem doF_sub {a b : Int} (ha : mayB a = true) (hb : mayB b = true) : doF ⟨#[45]⟩ a b = lim (a - b) := by
  have : isOp ⟨#[45]⟩ = true := by rfl
  rw [doF, this, ha, hb]; rfl
theorem doF_mul {a b : Int} (ha : mayB a = true) (hb : mayB b = true) : doF ⟨#[42]⟩ a b = lim (a * b) := by
  have : isOp ⟨#[42]⟩ = true := by rfl
  rw [doF, this, ha, hb]; rfl
theorem doF_div {a b : Int} (ha : mayB a = true) (hb : mayB b = true) (h : b ≠ 0) : doF ⟨#[100, 105, 118]⟩ a b = lim (a.tdiv b) := by
  have : isOp ⟨#[100, 105, 118]⟩ = true := by rfl
  have e : doF ⟨#[100, 105, 118]⟩ a b = if b = 0 then (0, 10) else lim (a.tdiv b) := by rw [doF, this, ha, hb]; rfl
  rw [e, if_neg h]
theorem doF_rem {a b : Int} (ha : mayB a = true) (hb : mayB b = true) (h : b ≠ 0) : doF ⟨#[114, 101, 109]⟩ a b = lim (a.tmod b) := by
  have : isOp ⟨#[114, 101, 109]⟩ = true := by rfl
  have e : doF ⟨#[114, 101, 109]⟩ a b = if b = 0 then (0, 10) else lim (a.tmod b) := by rw [doF, this, ha, hb]; rfl
  rw [e, if_neg h]
theorem doF_div0 {a : Int} (ha : mayB a = true) : doF ⟨#[100, 105, 118]⟩ a 0 = (0, 10) := by
  have : isOp ⟨#[100, 105, 118]⟩ = true := by rfl
  have hb : mayB 0 = true := by decide
  rw [doF, this, ha, hb]; rfl
theorem doF_rem0 {a : Int} (ha : mayB a = true) : doF ⟨#[114, 101, 109]⟩ a 0 = (0, 10) := by
  have : isOp ⟨#[114, 101, 109]⟩ = true := by rfl
  have hb : mayB 0 = true := by decide
  rw [doF, this, ha, hb]; rfl
theorem doF_arg {k : ByteArray} {a b : Int} (h : ¬ (mayB a = true ∧ mayB b = true)) : doF k a b = (0, 2) := by
  have e : (mayB a && mayB b) = false := by
    cases ha : mayB a <;> cases hb : mayB b <;> simp_all
  rw [doF, e, Bool.and_false]; rfl
theorem isOp_none {k : ByteArray} (h : (k == ⟨#[43]⟩) = false ∧ (k == ⟨#[45]⟩) = false ∧ (k == ⟨#[42]⟩) = false ∧ (k == ⟨#[100, 105, 118]⟩) = false ∧ (k == ⟨#[114, 101, 109]⟩) = false) : isOp k = false := by
  obtain ⟨h1, h2, h3, h4, h5⟩ := h
  simp only [isOp, h1, h2, h3, h4, h5]; rfl
theorem doF_none {k : ByteArray} {a b : Int} (h : isOp k = false) : doF k a b = (0, 2) := by
  rw [doF, h]; rfl
theorem Do_all (k : ByteArray) (a b : Int) (w : World) : Calls Try.prog 15 #[.string k, .int .i64 a, .int .i64 b] w (DoPost w (doF k a b).1 (doF k a b).2) := by
  by_cases h : mayB a = true ∧ mayB b = true
  · obtain ⟨ha, hb⟩ := h
    rcases op_split k with rfl | rfl | rfl | rfl | rfl | h
    · rw [doF_add ha hb]; exact Do_add a b ha hb w
    · rw [doF_sub ha hb]; exact Do_sub a b ha hb w
    · rw [doF_mul ha hb]; exact Do_mul a b ha hb w
    · by_cases h0 : b = 0
      · subst h0; rw [doF_div0 ha]; exact Do_div0 a ha w
      · rw [doF_div ha hb h0]; exact Do_div a b ha hb h0 w
    · by_cases h0 : b = 0
      · subst h0; rw [doF_rem0 ha]; exact Do_rem0 a ha w
      · rw [doF_rem ha hb h0]; exact Do_rem a b ha hb h0 w
    · rw [doF_none (isOp_none h)]; exact Do_none k a b h.1 h.2.1 h.2.2.1 h.2.2.2.1 h.2.2.2.2 w
  · rw [doF_arg h]; exact Do_arg k a b h w
def RDo (w : World) (n e : Int) (x : Ending) (w' : World) : Prop := x = .returned (.tuple #[.int .i64 n, .int .i64 e]) ∧ w' = w
set_option maxHeartbeats 1000000 in
theorem RDo_add (a b : Int) (ha : mayB a = true) (hb : mayB b = true) (w : World) :
    Calls Try.prog 19 #[.string ⟨#[43]⟩, .int .i64 a, .int .i64 b] w (RDo w (lim (a + b)).1 (lim (a + b)).2) := by
  have h1 := (mayB_iff a).1 ha
  have h2 := (mayB_iff b).1 hb
  have e0 : isOp ⟨#[43]⟩ = true := by rfl
  cases hn : mayB (a + b)
  · rw [lim_no hn]
    go_enter Try.func19, Try.ntmps19
    go_wp2_with (first | (go_at_call 24; refine (arith24 _ _).mono ?_; rintro e w' ⟨rfl, rfl⟩) | (go_at_call 22; refine (may22 _ _).mono ?_; rintro e w' ⟨rfl, rfl⟩))
    go_ret2
    exact ⟨rfl, rfl⟩
  · rw [lim_ok hn]
    go_enter Try.func19, Try.ntmps19
    go_wp2_with (first | (go_at_call 24; refine (arith24 _ _).mono ?_; rintro e w' ⟨rfl, rfl⟩) | (go_at_call 22; refine (may22 _ _).mono ?_; rintro e w' ⟨rfl, rfl⟩))
    go_ret2
    exact ⟨rfl, rfl⟩
set_option maxHeartbeats 1000000 in
theorem RDo_sub (a b : Int) (ha : mayB a = true) (hb : mayB b = true) (w : World) :
    Calls Try.prog 19 #[.string ⟨#[45]⟩, .int .i64 a, .int .i64 b] w (RDo w (lim (a - b)).1 (lim (a - b)).2) := by
  have h1 := (mayB_iff a).1 ha
  have h2 := (mayB_iff b).1 hb
  have e0 : isOp ⟨#[45]⟩ = true := by rfl
  cases hn : mayB (a - b)
  · rw [lim_no hn]
    go_enter Try.func19, Try.ntmps19
    go_wp2_with (first | (go_at_call 24; refine (arith24 _ _).mono ?_; rintro e w' ⟨rfl, rfl⟩) | (go_at_call 22; refine (may22 _ _).mono ?_; rintro e w' ⟨rfl, rfl⟩))
    go_ret2
    exact ⟨rfl, rfl⟩
  · rw [lim_ok hn]
    go_enter Try.func19, Try.ntmps19
    go_wp2_with (first | (go_at_call 24; refine (arith24 _ _).mono ?_; rintro e w' ⟨rfl, rfl⟩) | (go_at_call 22; refine (may22 _ _).mono ?_; rintro e w' ⟨rfl, rfl⟩))
    go_ret2
    exact ⟨rfl, rfl⟩
set_option maxHeartbeats 1000000 in
theorem RDo_div (a b : Int) (ha : mayB a = true) (hb : mayB b = true) (h0 : b ≠ 0) (w : World) :
    Calls Try.prog 19 #[.string ⟨#[100, 105, 118]⟩, .int .i64 a, .int .i64 b] w (RDo w (lim (a.tdiv b)).1 (lim (a.tdiv b)).2) := by
  have h1 := (mayB_iff a).1 ha
  have h2 := (mayB_iff b).1 hb
  have z0 : (b == 0) = false := by simpa using h0
  have e0 : isOp ⟨#[100, 105, 118]⟩ = true := by rfl
  have hq := tdiv_bd h1 h0
  have wq : wrap64 (a.tdiv b) = a.tdiv b := wrap64_in (by omega)
  cases hn : mayB (a.tdiv b)
  · rw [lim_no hn]
    go_enter Try.func19, Try.ntmps19
    go_wp2_with (first | (go_at_call 24; refine (arith24 _ _).mono ?_; rintro e w' ⟨rfl, rfl⟩) | (go_at_call 22; refine (may22 _ _).mono ?_; rintro e w' ⟨rfl, rfl⟩))
    go_ret2
    exact ⟨rfl, rfl⟩
  · rw [lim_ok hn]
    go_enter Try.func19, Try.ntmps19
    go_wp2_with (first | (go_at_call 24; refine (arith24 _ _).mono ?_; rintro e w' ⟨rfl, rfl⟩) | (go_at_call 22; refine (may22 _ _).mono ?_; rintro e w' ⟨rfl, rfl⟩))
    go_ret2
    exact ⟨rfl, rfl⟩
set_option maxHeartbeats 1000000 in
theorem RDo_div0 (a : Int) (ha : mayB a = true) (w : World) :
    Calls Try.prog 19 #[.string ⟨#[100, 105, 118]⟩, .int .i64 a, .int .i64 0] w (RDo w 0 10) := by
  have hb : mayB 0 = true := by decide
  have e0 : isOp ⟨#[100, 105, 118]⟩ = true := by rfl
  go_enter Try.func19, Try.ntmps19
  go_wp2_with (first | (go_at_call 24; refine (arith24 _ _).mono ?_; rintro e w' ⟨rfl, rfl⟩) | (go_at_call 22; refine (may22 _ _).mono ?_; rintro e w' ⟨rfl, rfl⟩))
  go_ret2
  exact ⟨rfl, rfl⟩
set_option maxHeartbeats 1000000 in
theorem RDo_rem (a b : Int) (ha : mayB a = true) (hb : mayB b = true) (h0 : b ≠ 0) (w : World) :
    Calls Try.prog 19 #[.string ⟨#[114, 101, 109]⟩, .int .i64 a, .int .i64 b] w (RDo w (lim (a.tmod b)).1 (lim (a.tmod b)).2) := by
  have h1 := (mayB_iff a).1 ha
  have h2 := (mayB_iff b).1 hb
  have z0 : (b == 0) = false := by simpa using h0
  have e0 : isOp ⟨#[114, 101, 109]⟩ = true := by rfl
  have hq := tdiv_bd h1 h0
  have wq : wrap64 (a.tdiv b) = a.tdiv b := wrap64_in (by omega)
  have hE := Int.tdiv_mul_add_tmod a b
  have hm := tmod_bd (b := b) h1
  have hs : a - a.tdiv b * b = a.tmod b := by omega
  have wm : wrap64 (a.tdiv b * b) = a.tdiv b * b := wrap64_in (by omega)
  have wr : wrap64 (a - a.tdiv b * b) = a.tmod b := by rw [hs]; exact wrap64_in (by omega)
  clear hE
  cases hn : mayB (a.tmod b)
  · rw [lim_no hn]
    go_enter Try.func19, Try.ntmps19
    go_wp2_with (first | (go_at_call 24; refine (arith24 _ _).mono ?_; rintro e w' ⟨rfl, rfl⟩) | (go_at_call 22; refine (may22 _ _).mono ?_; rintro e w' ⟨rfl, rfl⟩))
    go_ret2
    exact ⟨rfl, rfl⟩
  · rw [lim_ok hn]
    go_enter Try.func19, Try.ntmps19
    go_wp2_with (first | (go_at_call 24; refine (arith24 _ _).mono ?_; rintro e w' ⟨rfl, rfl⟩) | (go_at_call 22; refine (may22 _ _).mono ?_; rintro e w' ⟨rfl, rfl⟩))
    go_ret2
    exact ⟨rfl, rfl⟩
set_option maxHeartbeats 1000000 in
theorem RDo_rem0 (a : Int) (ha : mayB a = true) (w : World) :
    Calls Try.prog 19 #[.string ⟨#[114, 101, 109]⟩, .int .i64 a, .int .i64 0] w (RDo w 0 10) := by
  have hb : mayB 0 = true := by decide
  have e0 : isOp ⟨#[114, 101, 109]⟩ = true := by rfl
  go_enter Try.func19, Try.ntmps19
  go_wp2_with (first | (go_at_call 24; refine (arith24 _ _).mono ?_; rintro e w' ⟨rfl, rfl⟩) | (go_at_call 22; refine (may22 _ _).mono ?_; rintro e w' ⟨rfl, rfl⟩))
  go_ret2
  exact ⟨rfl, rfl⟩
set_option maxHeartbeats 1000000 in
theorem RDo_mul (a b : Int) (ha : mayB a = true) (hb : mayB b = true) (w : World) :
    Calls Try.prog 19 #[.string ⟨#[42]⟩, .int .i64 a, .int .i64 b] w (RDo w (lim (a * b)).1 (lim (a * b)).2) := by
  have e0 : isOp ⟨#[42]⟩ = true := by rfl
  go_enter Try.func19, Try.ntmps19
  go_wp2_with (first | (go_at_call 24; refine (arith24 _ _).mono ?_; rintro e w' ⟨rfl, rfl⟩) | (go_at_call 22; refine (may22 _ _).mono ?_; rintro e w' ⟨rfl, rfl⟩) | (go_at_call 27; refine (product27 a b ha _).mono ?_; rintro e w' ⟨n, ok, rfl, rfl, ⟨hm, rfl, rfl⟩ | ⟨hm, rfl⟩⟩))
  · go_ret2
    rw [lim_ok hm]
    exact ⟨rfl, rfl⟩
  · go_ret2
    rw [lim_no hm]
    exact ⟨rfl, rfl⟩
set_option maxHeartbeats 1000000 in
theorem RDo_arg (k : ByteArray) (a b : Int) (h : (isOp k && (mayB a && mayB b)) = false) (w : World) :
    Calls Try.prog 19 #[.string k, .int .i64 a, .int .i64 b] w (RDo w 0 2) := by
  cases e0 : isOp k
  · clear h
    go_enter Try.func19, Try.ntmps19
    go_wp2_with (first | (go_at_call 24; refine (arith24 _ _).mono ?_; rintro e w' ⟨rfl, rfl⟩) | (go_at_call 22; refine (may22 _ _).mono ?_; rintro e w' ⟨rfl, rfl⟩))
    go_ret2
    exact ⟨rfl, rfl⟩
  · cases ha : mayB a
    · clear h
      go_enter Try.func19, Try.ntmps19
      go_wp2_with (first | (go_at_call 24; refine (arith24 _ _).mono ?_; rintro e w' ⟨rfl, rfl⟩) | (go_at_call 22; refine (may22 _ _).mono ?_; rintro e w' ⟨rfl, rfl⟩))
      go_ret2
      exact ⟨rfl, rfl⟩
    · cases hb : mayB b
      · clear h
        go_enter Try.func19, Try.ntmps19
        go_wp2_with (first | (go_at_call 24; refine (arith24 _ _).mono ?_; rintro e w' ⟨rfl, rfl⟩) | (go_at_call 22; refine (may22 _ _).mono ?_; rintro e w' ⟨rfl, rfl⟩))
        go_ret2
        exact ⟨rfl, rfl⟩
      · rw [e0, ha, hb] at h
        cases h
theorem RDo_all (k : ByteArray) (a b : Int) (w : World) : Calls Try.prog 19 #[.string k, .int .i64 a, .int .i64 b] w (RDo w (doF k a b).1 (doF k a b).2) := by
  cases h : isOp k && (mayB a && mayB b)
  · have : doF k a b = (0, 2) := by rw [doF, h]; rfl
    rw [this]; exact RDo_arg k a b h w
  · have ho : isOp k = true := by cases e : isOp k <;> simp_all
    have ha : mayB a = true := by cases e : mayB a <;> simp_all
    have hb : mayB b = true := by cases e : mayB b <;> simp_all
    rcases op_split k with rfl | rfl | rfl | rfl | rfl | h
    · rw [doF_add ha hb]; exact RDo_add a b ha hb w
    · rw [doF_sub ha hb]; exact RDo_sub a b ha hb w
    · rw [doF_mul ha hb]; exact RDo_mul a b ha hb w
    · by_cases h0 : b = 0
      · subst h0; rw [doF_div0 ha]; exact RDo_div0 a ha w
      · rw [doF_div ha hb h0]; exact RDo_div a b ha hb h0 w
    · by_cases h0 : b = 0
      · subst h0; rw [doF_rem0 ha]; exact RDo_rem0 a ha w
      · rw [doF_rem ha hb h0]; exact RDo_rem a b ha hb h0 w
    · rw [isOp_none h] at ho; cases ho
end Go.Proofs.Ytjjlfaknebbhfaa
