/- atoms: going over a table (All), and the law's goes. Conditions: the table stands. -/
import Derived.Test.YtaldnommgjnnkaaDoorAd
import Derived.RangeFuncNested
import Derived.RangeFuncBound
import Derived.RangeFuncCalls
import Derived.RangeFuncLeaves
import Derived.Shelf.Abstract
import Derived.Shelf.RegionOpen
import Derived.OwnWalkIn
import Derived.TacticsInMore
import Derived.LoopNIn
import Derived.LoopIn
import Derived.RangeFuncBox
namespace Go.Proofs.YtaldnommgjnnkaaDoor
open Go.ChangeShapes Go.WideShapes Go.ChangeAt Go.RowKit Go.Shelf
set_option linter.unusedVariables false
attribute [local go_sem] Oper.semAt_some
abbrev AP := Nat × ByteArray
def encA (x : AP) : Array Value := #[.int .i64 x.1, .string x.2]
def allP (L : List ByteArray) : List AP := (List.range L.length).zip L
theorem allP_get {L : List ByteArray} {k : Nat} {s : ByteArray} (h : L[k]? = some s) : (allP L)[k]? = some (k, s) := by
  have hlt := (List.getElem?_eq_some_iff.1 h).1
  unfold allP
  rw [List.getElem?_zip_eq_some]
  exact ⟨by simp [hlt], h⟩
theorem allP_length (L : List ByteArray) : (allP L).length = L.length := by simp [allP]
theorem allP_take {L : List ByteArray} {k : Nat} {s : ByteArray} (h : L[k]? = some s) : (allP L).take (k + 1) = (allP L).take k ++ [(k, s)] := by
  rw [List.take_add_one, allP_get h]; rfl
/-- the table lies below n₀ -/
def TabLow (n₀ p mb : Nat) (rv : Value) : Prop := ∀ k, foot p mb rv k → k < n₀
theorem Tab.below {w w' : World} {base p mb most n₀ : Nat} {rv : Value} {L : List ByteArray} (h : Tab w base p mb rv most L) (hl : TabLow n₀ p mb rv) (hb : Below n₀ w w') (hn : n₀ ≤ w.heap.size) : Tab w' base p mb rv most L :=
  h.chg (Below.chg hb (fun k => n₀ ≤ k) (fun k h _ => h)) fun k hf hs => by have := hl k hf; omega
set_option maxRecDepth 100000 in
set_option maxHeartbeats 2000000 in
theorem all1_in (l Bn n₀ p mb most base : Nat) (rv : Value) (L : List ByteArray) (hBn : Bn < n₀) (hlow : TabLow n₀ p mb rv) (J Jx : List AP → World → Prop)
    (hY : ∀ pre x W, J pre W → pre.length < L.length → YieldAt Fence.wide (8 - 1) Tryd.prog l (encA x) W fun e W' =>
      (e = .returned (.bool true) ∧ J (pre ++ [x]) W' ∧ Below n₀ W W') ∨ (e = .returned (.bool false) ∧ Jx (pre ++ [x]) W'))
    (W : World) (hn₀ : n₀ ≤ W.heap.size) (hB : W.cell? ⟨Bn, 0, none⟩ = some (.pointer (some ⟨p, 0, none⟩))) (ht : Tab W base p mb rv most L) (h0 : J [] W) :
    CallsIn Fence.wide 8 Tryd.prog 28 #[.func (.yield l) #[] #[], .pointer (some ⟨Bn, 0, none⟩)] W fun e W' => (∃ v, e = .returned v) ∧
      ((∃ ys, ys = allP L ∧ J ys W') ∨ (∃ pre, pre <+: allP L ∧ Jx pre W')) := by
  have hL : L.length ≤ 65536 := by have := ht.2.2.2.1; have := ht.2.2.2.2.1; omega
  refine callsIn_of_wp Tryd.func28 rfl trivial ?_ rfl
  simp only [Tryd.ntmps28, List.size_toArray, List.length_cons, List.length_nil, Nat.reduceAdd, Nat.reduceSub, Array.replicate_succ, Array.replicate_zero, List.push_toArray, List.append_toArray, List.nil_append, List.cons_append]
  gi_wp2
  refine ⟨trivial, ?_⟩
  refine (callsIn_wide.2 (len_any W ht)).mono ?_
  rintro e w' ⟨rfl, rfl⟩
  gi_wp2
  gi_loopw [6] (fun i wr => ∃ k : Nat, k ≤ L.length ∧ i = .int .i64 k ∧ J ((allP L).take k) wr ∧ Below n₀ W wr)
    (fun i _ => L.length - (intOf i).toNat)
  case atStart => exact ⟨0, Nat.zero_le _, rfl, h0, Below.refl _ _⟩
  case round =>
    obtain ⟨k, hk, rfl, hJs, hnx⟩ := hrel
    by_cases hlt : k < L.length
    · obtain ⟨s, hs⟩ : ∃ s, L[k]? = some s := ⟨L[k], by simp [hlt]⟩
      have htr := ht.below hlow hnx hn₀
      have hcB := (hnx.cell (p := ⟨Bn, 0, none⟩) hBn).trans hB
      obtain ⟨fn, tmps, assign, body, hy, hR⟩ := hY _ (k, s) wr hJs (by rw [List.length_take, allP_length]; omega)
      dsimp only [encA] at hy
      have hr := tab_row htr
      obtain ⟨c0, c1, c2, c3, c4, ao, c, hrv, c5⟩ := htr.cells
      rw [hrv] at hr
      obtain ⟨b, off, rfl, hbs, hcell⟩ := hr.at (i := k) (u := .string s) (by simp [hs])
      rw [hrv] at c2
      have hta := allP_take hs
      have HT := Lib.hid hta
      have HRV := Lib.hid hrv
      have HHT := Lib.hid ht
      clear c0 c1 c3 c4 hr htr hs hta hrv ht
      gi_wp2
      refine hR.mono ?_
      rintro e W3 (⟨rfl, hJ3, hk3⟩ | ⟨rfl, hJx3⟩)
      · clear hcB c2 hcell
        gi_wp2
        go_roundw
        case rel => exact ⟨k + 1, by omega, by simp, by rw [HT.out]; exact hJ3, hnx.trans hk3⟩
        case measure => simp [intOf]; omega
      · gi_wp2
        refine bodyPost_ret (results_none rfl _ _ _) rfl ?_
        exact ⟨⟨_, rfl⟩, .inr ⟨_, by rw [← HT.out]; exact List.take_prefix _ _, hJx3⟩⟩
    · obtain rfl : k = L.length := by omega
      gi_wp2
      go_end0
      exact ⟨⟨_, rfl⟩, .inl ⟨_, rfl, by rw [List.take_of_length_le (by rw [allP_length]; exact Nat.le_refl _)] at hJs; exact hJs⟩⟩
theorem all_stops (Bn n₀ p mb most base : Nat) (rv : Value) (L : List ByteArray) (w : World) (hBn : Bn < n₀) (hlow : TabLow n₀ p mb rv) (hn₀ : n₀ ≤ w.heap.size) (hB : w.cell? ⟨Bn, 0, none⟩ = some (.pointer (some ⟨p, 0, none⟩))) (ht : Tab w base p mb rv most L) :
    SeqStopsK Fence.wide 8 Tryd.prog 28 #[.pointer (some ⟨Bn, 0, none⟩)] encA (Below n₀) (fun ys => ys = allP L) (fun pre => pre <+: allP L) L.length w := fun l J Jx W hW _ _ hY h0 =>
  all1_in l Bn n₀ p mb most base rv L hBn hlow J Jx hY W (Nat.le_trans hn₀ hW.size) (keep_cell hB hW) (ht.keep hW) h0
theorem all_in (p : Addr) (w : World) : Calls Tryd.prog 27 #[.pointer (some p)] w fun e w' => e = .returned (.func (.func 28) #[] #[.pointer (some ⟨w.heap.size, 0, none⟩)]) ∧ w' = w.alloc (.cells #[.pointer (some p)] 26) := by
  go_enter Tryd.func27, Tryd.ntmps27
  go_wp2_with fail
  go_ret
  exact ⟨rfl, rfl⟩
end Go.Proofs.YtaldnommgjnnkaaDoor
