/- The map of operations in package ints, made and asked; what each operation does. No conditions beyond those stated. -/
import Derived.Test.YtjjlfaknebbhfaaK
import Derived.Test.YtjjlfaknebbhfaaSh
import Derived.Maps.OwnOps
import Derived.MapKept
namespace Go.Proofs.Ytjjlfaknebbhfaa
open Go.ChangeShapes Go.WideShapes Go.ChangeAt Go.RowKit
set_option linter.unusedVariables false
section
variable {P : Program} {w : World} {ops : Array Oper} {rest : List Oper} {o : Oper} {a : Act} {Q : Exit → Act → World → Prop}
theorem isKey_string (s : ByteArray) : MapKept.IsKey .string (.string s) := by
  first | exact ⟨s, rfl⟩ | (simp [MapKept.IsKey]) | trivial
theorem wpList_insert_new (hg : o.guard = none) (m k x : Operand) (t : TypeId) (hop : o.op = Op.insert t m k x) (kt et : TypeId) (h1 : P.underlying t = some (.map kt et)) (h2 : P.underlying kt = some .string)
    (r : Nat) (es : Array MapEntry) (c : Nat) (hm : a.eval m = .map (some r)) (hb : w.heap[r]? = some (.map es c)) (s : ByteArray) (hk : a.eval k = .string s)
    (hf : Instr.findNow .string (.string s) es.toList 0 = some none)
    (hK : ∀ w', w'.heap[r]? = some (.map (es.push ⟨.string s, a.eval x, c⟩) (c + 1)) → w.grownBy w' (some r) → w'.heap.size = w.heap.size → wpList P ops Q rest (a.put o.dst undef) w') : wpList P ops Q (o :: rest) a w := by
  refine wpList_plain hg fun K hK' => ?_
  have hc := MapKept.run_checkKey (P := P) (w := w) h2 (isKey_string s) false 9999
  have hrun : (Instr.mapUpdate t (.map (some r)) (.string s) (a.eval x)).run P w = .ok () { w with heap := w.heap.setIfInBounds r (.map (es.push ⟨.string s, a.eval x, c⟩) (c + 1)) } := by
    have e1 := MapKept.run_getObj_map (P := P) hb
    have e2 := MapKept.run_setObj_map (P := P) (.map (es.push ⟨.string s, a.eval x, c⟩) (c + 1)) hb
    simp [Instr.mapUpdate, run_underlying h1, e1, hc, Instr.findKey, run_underlying h2, hf, Result.andThen, e2]
  unfold Oper.wp
  simp [execOp, hop, hm, hk, hrun, Result.andThen]
  have hlt : r < w.heap.size := by
    rcases Nat.lt_or_ge r w.heap.size with h | h
    · exact h
    · rw [Array.getElem?_eq_none h] at hb; cases hb
  refine hK' _ _ (hK _ ?_ ⟨rfl, rfl, rfl, by simp, ?_⟩ (by simp))
  · simp [hlt]
  · intro i hi hne
    simp only [Array.getElem?_setIfInBounds]
    rw [if_neg (by intro h; exact hne (by rw [h]))]
theorem wpList_lookup_there (hg : o.guard = none) (m k : Operand) (t : TypeId) (hop : o.op = Op.lookup t m k true) (kt et : TypeId) (h1 : P.underlying t = some (.map kt et)) (h2 : P.underlying kt = some .string)
    (r : Nat) (es : Array MapEntry) (c : Nat) (hm : a.eval m = .map (some r)) (hb : w.heap[r]? = some (.map es c)) (s : ByteArray) (hk : a.eval k = .string s) (i : Nat) (v : Value)
    (hf : Instr.findNow .string (.string s) es.toList 0 = some (some (i, v)))
    (hK : wpList P ops Q rest (a.put o.dst (.tuple #[v, .bool true])) w) : wpList P ops Q (o :: rest) a w := by
  refine wpList_plain hg fun K hK' => ?_
  have hc := MapKept.run_checkKey (P := P) (w := w) h2 (isKey_string s) es.isEmpty 9999
  have hrun : (Instr.lookup t (.map (some r)) (.string s) true).run P w = .ok (.tuple #[v, .bool true]) w := by
    have e1 := MapKept.run_getObj_map (P := P) hb
    simp [Instr.lookup, run_underlying h1, e1, hc, Instr.findKey, run_underlying h2, hf, Result.andThen]
  unfold Oper.wp
  simp [execOp, hop, hm, hk, hrun, Result.andThen]
  exact hK' _ _ hK
theorem wpList_lookup_not (hg : o.guard = none) (m k : Operand) (t : TypeId) (hop : o.op = Op.lookup t m k true) (kt et : TypeId) (h1 : P.underlying t = some (.map kt et)) (h2 : P.underlying kt = some .string)
    (r : Nat) (es : Array MapEntry) (c : Nat) (hm : a.eval m = .map (some r)) (hb : w.heap[r]? = some (.map es c)) (s : ByteArray) (hk : a.eval k = .string s) (z : Value)
    (hf : Instr.findNow .string (.string s) es.toList 0 = some none) (hz : (zeroValue et).run P w = .ok z w)
    (hK : wpList P ops Q rest (a.put o.dst (.tuple #[z, .bool false])) w) : wpList P ops Q (o :: rest) a w := by
  refine wpList_plain hg fun K hK' => ?_
  have hc := MapKept.run_checkKey (P := P) (w := w) h2 (isKey_string s) es.isEmpty 9999
  have hrun : (Instr.lookup t (.map (some r)) (.string s) true).run P w = .ok (.tuple #[z, .bool false]) w := by
    have e1 := MapKept.run_getObj_map (P := P) hb
    simp [Instr.lookup, run_underlying h1, e1, hc, Instr.findKey, run_underlying h2, hf, hz, Result.andThen]
  unfold Oper.wp
  simp [execOp, hop, hm, hk, hrun, Result.andThen]
  exact hK' _ _ hK
end
theorem over_any (w : World) (f : FuncId) : Calls Try.prog 33 #[.func (.func f) #[] #[]] w fun e w' => e = .returned (.func (.func 39) #[] #[.pointer (some ⟨w.heap.size, 0, none⟩)]) ∧ w' = w.alloc (.cells #[.func (.func f) #[] #[]] 60) := by
  go_enter Try.func33, Try.ntmps33
  go_wp2
  go_ret
  exact ⟨rfl, rfl⟩

def wEs (p q : Addr) : Array MapEntry := #[⟨.string ⟨#[43]⟩, .func (.func 30) #[] #[], 0⟩, ⟨.string ⟨#[45]⟩, .func (.func 31) #[] #[], 1⟩, ⟨.string ⟨#[42]⟩, .func (.func 32) #[] #[], 2⟩,
  ⟨.string ⟨#[100, 105, 118]⟩, .func (.func 39) #[] #[.pointer (some p)], 3⟩, ⟨.string ⟨#[114, 101, 109]⟩, .func (.func 39) #[] #[.pointer (some q)], 4⟩]
def WaysPost (w : World) (e : Ending) (w' : World) : Prop :=
  ∃ r p q, e = .returned (.map (some r)) ∧ w'.heap[r]? = some (.map (wEs p q) 5) ∧ w'.cell? p = some (.func (.func 34) #[] #[]) ∧ w'.cell? q = some (.func (.func 35) #[] #[]) ∧ Below w.heap.size w w'
theorem grown_keep {w w' : World} {r : Nat} (h : w.grownBy w' (some r)) (hs : w'.heap.size = w.heap.size) {B : Nat} {W : World} (hb : Below B W w) (hr : B ≤ r) (hB : B ≤ w.heap.size) : Below B W w' :=
  hb.trans ⟨h.os, h.tape, h.output, h.size, fun k hk => h.block k (by omega) (by intro e; injection e with e; omega)⟩
theorem grown_cell {w w' : World} {r : Nat} (h : w.grownBy w' (some r)) {p : Addr} {v : Value} (hc : w.cell? p = some v) (hne : p.block ≠ r) : w'.cell? p = some v :=
  (World.cell?_of_block (h.block p.block (World.block_lt_of_cell? w _ hc) (by intro e; injection e with e; exact hne e))).trans hc
theorem ways_any (w : World) : Calls Try.prog 26 #[] w (WaysPost w) := by
  have hmm := @run_makeMap Try.prog
  go_enter Try.func26, Try.ntmps26
  have hsz : (w.alloc (.map #[] 0)).heap.size = w.heap.size + 1 := by simp
  go_wp2_with (first | ((refine wpList_insert_new rfl (.tmp 1) (.const (.string ⟨#[43]⟩)) (.func 30) 49 rfl 9 47 Try.underlying49 Try.underlying9 w.heap.size #[] 0 rfl (by exact heap_alloc_new w _) ⟨#[43]⟩ rfl (by rfl) ?_); intro w1 hm1 hg1 hs1) | (refine wpList_insert_new rfl (.tmp 1) (.const (.string ⟨#[45]⟩)) (.func 31) 49 rfl 9 47 Try.underlying49 Try.underlying9 w.heap.size _ 1 rfl hm1 ⟨#[45]⟩ rfl (by rfl) ?_; intro w2 hm2 hg2 hs2) | (refine wpList_insert_new rfl (.tmp 1) (.const (.string ⟨#[42]⟩)) (.func 32) 49 rfl 9 47 Try.underlying49 Try.underlying9 w.heap.size _ 2 rfl hm2 ⟨#[42]⟩ rfl (by rfl) ?_; intro w3 hm3 hg3 hs3; have k3 : w.heap.size < w3.heap.size := (by rw [hs3, hs2, hs1]; simp)) | (go_at_call 33; refine (over_any _ _).mono ?_; rintro e w' ⟨rfl, rfl⟩) | (refine wpList_insert_new rfl (.tmp 1) (.const (.string ⟨#[100, 105, 118]⟩)) (.tmp 2) 49 rfl 9 47 Try.underlying49 Try.underlying9 w.heap.size _ 3 rfl (by exact (Below.heap_alloc w3 _ _ (by omega)).trans hm3) ⟨#[100, 105, 118]⟩ rfl (by rfl) ?_; intro w4 hm4 hg4 hs4; have k4 : w.heap.size < w4.heap.size := (by rw [hs4]; simp; omega)) | (refine wpList_insert_new rfl (.tmp 1) (.const (.string ⟨#[114, 101, 109]⟩)) (.tmp 3) 49 rfl 9 47 Try.underlying49 Try.underlying9 w.heap.size _ 4 rfl (by exact (Below.heap_alloc w4 _ _ (by omega)).trans hm4) ⟨#[114, 101, 109]⟩ rfl (by rfl) ?_; intro w5 hm5 hg5 hs5))
  go_ret
  have z3 : w3.heap.size = w.heap.size + 1 := by rw [hs3, hs2, hs1]; simp
  have z4 : w4.heap.size = w.heap.size + 1 + 1 := by rw [hs4]; simp [z3]
  have z5 : w5.heap.size = w.heap.size + 1 + 1 + 1 := by rw [hs5]; simp [z4]
  refine ⟨w.heap.size, ⟨w.heap.size + 1, 0, none⟩, ⟨w.heap.size + 1 + 1, 0, none⟩, rfl, hm5, ?_, ?_, ?_⟩
  · have c0 : (w3.alloc (.cells #[.func (.func 34) #[] #[]] 60)).cell? ⟨w.heap.size + 1, 0, none⟩ = some (.func (.func 34) #[] #[]) := by rw [← z3]; simp [go_sem]
    have c1 := grown_cell hg4 c0 (by simp)
    exact grown_cell hg5 (keep_cell c1 (Below.alloc (Below.refl _ _) (Nat.le_refl _) _)) (by simp)
  · have c0 : (w4.alloc (.cells #[.func (.func 35) #[] #[]] 60)).cell? ⟨w.heap.size + 1 + 1, 0, none⟩ = some (.func (.func 35) #[] #[]) := by rw [← z4]; simp [go_sem]
    exact grown_cell hg5 c0 (by simp; omega)
  · have b0 : Below w.heap.size w (w.alloc (.map #[] 0)) := Below.alloc (Below.refl _ _) (Nat.le_refl _) _
    have b1 := grown_keep hg1 hs1 b0 (Nat.le_refl _) (by simp)
    have b2 := grown_keep hg2 hs2 b1 (Nat.le_refl _) (by rw [hs1]; simp)
    have b3 := grown_keep hg3 hs3 b2 (Nat.le_refl _) (by rw [hs2, hs1]; simp)
    have b4 := grown_keep hg4 hs4 (b3.alloc (by omega) _) (Nat.le_refl _) (by simp; omega)
    exact grown_keep hg5 hs5 (b4.alloc (by omega) _) (Nat.le_refl _) (by simp; omega)
def mayB (n : Int) : Bool := decide (-576460752303423488 ≤ n) && decide (n ≤ 576460752303423487)
theorem mayB_iff (n : Int) : mayB n = true ↔ -576460752303423488 ≤ n ∧ n ≤ 576460752303423487 := by simp [mayB]
theorem may14 (n : Int) (w : World) : Calls Try.prog 14 #[.int .i64 n] w fun e w' => e = .returned (.bool (mayB n)) ∧ w' = w := by
  by_cases h1 : -576460752303423488 ≤ n
  · by_cases h2 : n ≤ 576460752303423487
    · have : mayB n = true := (mayB_iff n).2 ⟨h1, h2⟩
      rw [this]
      go_enter Try.func14, Try.ntmps14
      go_wp2
      go_ret
      exact ⟨rfl, rfl⟩
    · have : mayB n = false := by simp [mayB]; omega
      rw [this]
      have hd : decide (n ≤ 576460752303423487) = false := by simpa using h2
      go_enter Try.func14, Try.ntmps14
      go_wp2
      go_ret
      exact ⟨rfl, rfl⟩
  · have : mayB n = false := by simp [mayB]; omega
    rw [this]
    have hd : decide (-576460752303423488 ≤ n) = false := by simpa using h1
    go_enter Try.func14, Try.ntmps14
    go_wp2
    go_ret
    exact ⟨rfl, rfl⟩
def mhi (x y : Nat) : Nat := x * y / 18446744073709551616
def mlo (x y : Nat) : Nat := x * y % 18446744073709551616
theorem mul_any (x y : Nat) (hx : x ≤ 576460752303423488) (hy : y ≤ 576460752303423488) (w : World) :
    Calls Try.prog 38 #[.int .u64 x, .int .u64 y] w fun e w' => e = .returned (.tuple #[.int .u64 (mhi x y), .int .u64 (mlo x y)]) ∧ w' = w := Try.bits_Mul64 x y (by omega) (by omega) w
theorem mhi_big {x y : Nat} (h : 576460752303423488 < x * y) : 0 < mhi x y ∨ 576460752303423488 < mlo x y := by unfold mhi mlo; omega
theorem mhi_small {x y : Nat} (h : x * y ≤ 576460752303423488) : mhi x y = 0 ∧ mlo x y = x * y := by unfold mhi mlo; omega
theorem mlo_lt (x y : Nat) : mlo x y < 18446744073709551616 := by unfold mlo; omega
end Go.Proofs.Ytjjlfaknebbhfaa
