/- Lemmas for the walk of window.found: slices of integers, what append leaves, the closure late. No conditions. -/
import Derived.Test.YtjjlfaknebbhfaaWm
namespace Go.Proofs.Ytjjlfaknebbhfaa
open Go.ChangeShapes Go.WideShapes Go.ChangeAt Go.RowKit
set_option linter.unusedVariables false
/-- a slice of integers: empty, or its cells lie there -/
def SlI (w : World) (v : Value) (xs : List Int) : Prop :=
  ∃ ao cap, v = .slice ao xs.length cap ∧ xs.length ≤ cap ∧ cap ≤ 9223372036854775807 ∧ (xs = [] ∧ (ao = none → cap = 0) ∨ ∃ b off, ao = some ⟨b, off, none⟩ ∧ b < w.heap.size ∧ xs ≠ [] ∧ ∀ i, i < xs.length → w.cell? ⟨b, off + i, none⟩ = some (.int .i64 (xs.getD i 0)))
theorem SlI.keep {w w' : World} {v : Value} {xs : List Int} (h : SlI w v xs) (hb : Below w.heap.size w w') : SlI w' v xs := by
  obtain ⟨ao, cap, h1, h2, h3, h4⟩ := h
  refine ⟨ao, cap, h1, h2, h3, h4.imp id ?_⟩
  rintro ⟨b, off, e1, e2, e3, e4⟩
  exact ⟨b, off, e1, Nat.lt_of_lt_of_le e2 hb.size, e3, fun i hi => (hb.cell (by exact e2)).trans (e4 i hi)⟩
theorem may_empty (w : World) (ao : Option Addr) (cap : Nat) :
    Calls Try.prog 28 #[.slice ao 0 cap] w fun e w' => e = .returned (.bool true) ∧ Below w.heap.size w w' := by
  go_enter Try.func28, Try.ntmps28
  go_wp2_with (go_at_call 36; refine (all_any _).mono ?_; rintro e w1 ⟨rfl, hb1⟩)
  have := hb1.size
  refine wp_loop_rounds 1 ?_
  rw [rounds_succ]
  go_wp2
  go_ret
  exact ⟨rfl, hb1.alloc (by omega) _⟩
theorem may_sl (w : World) (v : Value) (xs : List Int) (h : SlI w v xs) :
    Calls Try.prog 28 #[v] w fun e w' => e = .returned (.bool (wmay xs)) ∧ Below w.heap.size w w' := by
  obtain ⟨ao, cap, rfl, h2, h3, h4⟩ := h
  rcases h4 with ⟨rfl, _⟩ | ⟨b, off, rfl, e2, e3, e4⟩
  · exact may_empty w ao cap
  · exact may_any w b off cap xs (by omega) e2 e4
theorem late_any (w : World) (k : Nat) (now maxT x : Int) (pn pl pm : Addr) (b off cap n : Nat) (hk : k < n) (hn : n ≤ 9223372036854775807)
    (h1 : w.cell? pn = some (.int .i64 now)) (h2 : w.cell? pl = some (.slice (some ⟨b, off, none⟩) n cap)) (h3 : w.cell? pm = some (.int .i64 maxT))
    (h4 : w.cell? ⟨b, off + k, none⟩ = some (.int .i64 x)) (hr : -9223372036854775808 ≤ now - x ∧ now - x ≤ 9223372036854775807) :
    Calls Try.prog 29 #[.int .i64 k, .pointer (some pn), .pointer (some pl), .pointer (some pm)] w fun e w' => e = .returned (.bool (decide (now - x ≤ maxT))) ∧ ∃ m, w' = w.drewN m := by
  have i1 : (0 : Int) ≤ (k : Int) := by omega
  have i2 : (k : Int) < (n : Int) := by omega
  go_enter Try.func29, Try.ntmps29
  go_wp2_with fail
  go_quiet (fail)
  go_wp2
  go_ret
  exact ⟨rfl, _, rfl⟩
theorem Try_info3 : (Try.prog.info? 3).map (fun i => (i.zero, i.size, i.bytes)) = some (some (.int .i64 0), 1, 8) := by kernel_rfl
def lastOk (xs : List Int) (now : Int) : Bool := decide (xs = []) || decide (xs.getD (xs.length - 1) 0 ≤ now)
def fvalid (xs : List Int) (now maxT : Int) : Bool :=
  wmay ((xs ++ [now]).drop (min xs.length 1)) && wmay xs && decide (0 ≤ maxT) && decide (maxT ≤ 1073741824) && lastOk xs now
theorem own_facts {w : World} {base e n : Nat} {v : Value} {xs : List Value} (h : w.ownsRow base e 1 v n xs) (hn : 0 < n) :
    ∃ g cap, v = .slice (some ⟨g, 0, none⟩) n cap ∧ base ≤ g ∧ g < w.heap.size ∧ n ≤ cap ∧ cap ≤ 9223372036854775807 ∧ ∀ j u, xs[j]? = some u → w.cell? ⟨g, j, none⟩ = some u := by
  obtain ⟨hl, h2⟩ := h
  rcases h2 with ⟨_, h0⟩ | ⟨g, cap, cur, hv, hg, hh, h3, h4, h5, h6⟩
  · omega
  · refine ⟨g, cap, hv, hg, ?_, h3, by unfold maxLen at h4; omega, fun j u hj => ?_⟩
    · rcases Nat.lt_or_ge g w.heap.size with h | h
      · exact h
      · rw [Array.getElem?_eq_none h] at hh; cases hh
    · rw [← h6] at hj
      have hj' : cur[j]? = some u := by
        rw [List.getElem?_take] at hj
        split at hj
        · simpa using hj
        · cases hj
      simp [World.cell?, hh, hj']
theorem SlI.cells {w : World} {a : Addr} {cap : Nat} {xs : List Int} (h : SlI w (.slice (some a) xs.length cap) xs) : ∀ b, some a = some b → ∀ j u, (xs.map (Value.int .i64))[j]? = some u → w.cell? (b.add j) = some u := by
  obtain ⟨ao, cap', h1, h2, h3, h4⟩ := h
  rintro b hb j u hj
  obtain rfl := Option.some.inj hb
  injection h1 with e1 _ _
  rcases h4 with ⟨rfl, _⟩ | ⟨b', off, rfl, e2, e3, e4⟩
  · simp at hj
  · obtain rfl := Option.some.inj e1
    rw [List.getElem?_map] at hj
    rcases Nat.lt_or_ge j xs.length with hl | hl
    · have := e4 j hl
      rw [List.getD_eq_getElem?_getD, List.getElem?_eq_getElem hl] at this
      rw [List.getElem?_eq_getElem hl] at hj
      simp at hj
      subst hj
      simp at this
      rw [Addr.add_lit]
      exact this
    · rw [List.getElem?_eq_none hl] at hj; simp at hj
theorem one_new (w : World) (u : Value) (t : TypeId) : ∀ j x, [u][j]? = some x → (w.alloc (.cells #[u] t)).cell? ((⟨w.heap.size, 0, none⟩ : Addr).add j) = some x := by
  intro j x hj
  match j, hj with
  | 0, hj => simp at hj; subst hj; simp [go_sem]
theorem shift_get (xs : List Int) (now : Int) (j : Nat) (hj : j < xs.length) : ((xs.map (Value.int .i64)) ++ [Value.int .i64 now])[1 + j]? = some (.int .i64 (((xs ++ [now]).drop 1).getD j 0)) := by
  have : (xs.map (Value.int .i64)) ++ [Value.int .i64 now] = (xs ++ [now]).map (Value.int .i64) := by simp
  rw [this, List.getElem?_map, List.getD_eq_getElem?_getD, List.getElem?_drop]
  rw [List.getElem?_eq_getElem (by simp; omega)]
  rfl
theorem SlI_shift (xs : List Int) (now : Int) (g c : Nat) (w : World) (q2 : g < w.heap.size) (q3 : xs.length + 1 ≤ c) (q4 : c ≤ 9223372036854775807) (q5 : ∀ j u, (xs.map (Value.int .i64) ++ [Value.int .i64 now])[j]? = some u → w.cell? ⟨g, j, none⟩ = some u) (hne : 0 < xs.length) (ys : List Int) (hy : Hid (ys = (xs ++ [now]).drop 1)) :
    SlI w (.slice (some ⟨g, 1, none⟩) xs.length (c - 1)) ys := by
  obtain rfl := hy.out
  refine ⟨some ⟨g, 1, none⟩, c - 1, ?_, ?_, by omega, .inr ⟨g, 1, rfl, q2, ?_, ?_⟩⟩
  · simp
  · simp; omega
  · intro h; have := congrArg List.length h; simp only [List.length_drop, List.length_append, List.length_cons, List.length_nil] at this; omega
  · intro i hi
    refine q5 _ _ (shift_get xs now i ?_)
    simpa using hi
theorem grown_below {W w' : World} (h : W.grownBy w' none) : Below W.heap.size W w' := ⟨h.os, h.tape, h.output, h.size, fun k hk => h.block k hk (by simp)⟩
end Go.Proofs.Ytjjlfaknebbhfaa
