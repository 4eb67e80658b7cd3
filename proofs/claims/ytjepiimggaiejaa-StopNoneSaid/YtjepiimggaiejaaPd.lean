/- stop: the iterator over who is still to be ended. Conditions: at most 40 records. -/
import Derived.Test.YtjepiimggaiejaaPc
import Derived.Test.YtjepiimggaiejaaRf
import Derived.Sort.QuietIn
namespace Go.Proofs.Ytjepiimggaiejaa
open Go.ChangeShapes Go.WideShapes Go.ChangeAt Go.RowKit Go.Shelf
set_option linter.unusedVariables false
attribute [local go_sem] Oper.semAt_some
/-- the places of who has a pid, from below k down -/
def dn (ps : List Int) : Nat → List Nat
  | 0 => []
  | k + 1 => if 0 < ps.getD k 0 then k :: dn ps k else dn ps k
theorem dn_len (ps : List Int) : ∀ k, (dn ps k).length ≤ k
  | 0 => by simp [dn]
  | k + 1 => by
    have := dn_len ps k
    rw [dn]
    split
    · simp; omega
    · omega
theorem dn_pos {ps : List Int} {k : Nat} (h0 : 0 < ps.getD k 0) : dn ps (k + 1) = k :: dn ps k := by rw [dn, if_pos h0]
theorem dn_not {ps : List Int} {k : Nat} (h0 : ¬ 0 < ps.getD k 0) : dn ps (k + 1) = dn ps k := by rw [dn, if_neg h0]
def dnF (n : Nat) (ps : List Int) : Nat → List (Fin n)
  | 0 => []
  | k + 1 => if h : k < n then (if 0 < ps.getD k 0 then ⟨k, h⟩ :: dnF n ps k else dnF n ps k) else dnF n ps k
theorem dnF_vals (n : Nat) (ps : List Int) : ∀ k, k ≤ n → (dnF n ps k).map Fin.val = dn ps k
  | 0, _ => rfl
  | k + 1, h => by
    rw [dnF, dif_pos (by omega), dn]
    split
    · rw [List.map_cons, dnF_vals n ps k (by omega)]
    · exact dnF_vals n ps k (by omega)
theorem dnF_len {n : Nat} {ps : List Int} {k : Nat} (h : k ≤ n) : (dnF n ps k).length ≤ k := by
  have h1 := congrArg List.length (dnF_vals n ps k h)
  have h2 := dn_len ps k
  simp at h1
  omega
theorem dnF_pos {n : Nat} {ps : List Int} {k : Nat} (h : k < n) (h0 : 0 < ps.getD k 0) : dnF n ps (k + 1) = ⟨k, h⟩ :: dnF n ps k := by rw [dnF, dif_pos h, if_pos h0]
theorem dnF_not {n : Nat} {ps : List Int} {k : Nat} (h : k < n) (h0 : ¬ 0 < ps.getD k 0) : dnF n ps (k + 1) = dnF n ps k := by rw [dnF, dif_pos h, if_neg h0]
/-- what the iterator reads -/
structure ItS (R : List Rc) (ao : Option Addr) (cap q pf pn : Nat) (W : World) : Prop where
  recs : W.cell? ⟨q, 28, none⟩ = some (.slice ao R.length cap)
  fp : W.cell? ⟨pf, 0, none⟩ = some (.pointer (some ⟨q, 0, none⟩))
  np : W.cell? ⟨pn, 0, none⟩ = some (.int .i64 R.length)
  row : RRow W ao R
theorem from_any (w : World) (R : List Rc) (ao : Option Addr) (cap q : Nat) (h1 : w.cell? ⟨q, 28, none⟩ = some (.slice ao R.length cap)) (h2 : w.cell? ⟨q, 12, none⟩ = some (.int .i64 0)) :
    Calls Try.prog 14 #[.pointer (some ⟨q, 0, none⟩)] w fun e w' => e = .returned (.func (.func 20) #[] #[.pointer (some ⟨w.heap.size + 1, 0, none⟩), .pointer (some ⟨w.heap.size, 0, none⟩)]) ∧
      w' = (w.alloc (.cells #[.pointer (some ⟨q, 0, none⟩)] 72)).alloc (.cells #[.int .i64 R.length] 3) := by
  have hq := World.block_lt_of_cell? w _ h1
  go_enter Try.func14, Try.ntmps14
  go_wp2_with fail
  go_ret
  exact ⟨rfl, rfl⟩
set_option maxRecDepth 100000 in
set_option maxHeartbeats 2000000 in
theorem from1_in (l : Nat) (R : List Rc) (hR : R.length ≤ 40) (hok : ∀ r ∈ R, r.ok) (ao : Option Addr) (cap q pf pn : Nat) (J Jx : List (Fin R.length) → World → Prop) (T : World → Prop)
    (hJ : ∀ pre W, J pre W → ItS R ao cap q pf pn W) (hT : ∀ pre W, J pre W → T W)
    (hY : ∀ pre (x : Fin R.length) W1, J pre W1 → pre.length < 41 → YieldAt Fence.wide (8 - 1) Try.prog l #[.int .i64 x.val] W1 fun e W' => (e = .returned (.bool true) ∧ J (pre ++ [x]) W') ∨ (e = .returned (.bool false) ∧ Jx (pre ++ [x]) W'))
    (W : World) (h0 : J [] W) :
    CallsIn Fence.wide 8 Try.prog 20 #[.func (.yield l) #[] #[], .pointer (some ⟨pn, 0, none⟩), .pointer (some ⟨pf, 0, none⟩)] W fun e W' => (∃ v, e = .returned v) ∧
      ((∃ xs, (xs = dnF R.length (pidsL R) R.length ∧ J xs W') ∧ T W') ∨ (∃ pre, (pre ≠ [] ∧ pre <+: dnF R.length (pidsL R) R.length) ∧ Jx pre W')) := by
  obtain ⟨a0, a1, a2, HA⟩ := hJ _ _ h0
  clear HA
  refine callsIn_of_wp Try.func20 rfl trivial ?_ rfl
  simp only [Try.ntmps20, List.size_toArray, List.length_cons, List.length_nil, Nat.reduceAdd, Nat.reduceSub, Array.replicate_succ, Array.replicate_zero, List.push_toArray, List.append_toArray, List.nil_append, List.cons_append]
  gi_wp2
  gi_loopw [4] (fun kv wr => ∃ (K : Nat) (pre : List (Fin R.length)), K ≤ R.length ∧ kv = .int .i64 ((K : Int) - 1) ∧ J pre wr ∧ Hid (dnF R.length (pidsL R) R.length = pre ++ dnF R.length (pidsL R) K))
    (fun kv _ => (intOf kv + 1).toNat)
  case atStart => exact ⟨R.length, [], Nat.le_refl _, rfl, h0, Lib.hid rfl⟩
  case round =>
    clear a0 a1 a2 h0
    obtain ⟨K, pre, hK, rfl, hJp, HD⟩ := hrel
    obtain ⟨a0, a1, a2, HA⟩ := hJ _ _ hJp
    cases K with
    | zero =>
      have HA' := Lib.hid HA
      clear HA
      gi_wp2
      go_end0
      exact ⟨⟨_, rfl⟩, .inl ⟨pre, ⟨by have := HD.out; simp [dnF] at this; exact this.symm, hJp⟩, hT _ _ hJp⟩⟩
    | succ k =>
      obtain ⟨r, hr⟩ : ∃ r, R[k]? = some r := ⟨R[k], by simp⟩
      obtain ⟨b, off, rfl, hb, hat⟩ := HA k r hr
      have hp := hat.pid
      obtain ⟨hp1, hp2⟩ := hok r (List.mem_of_getElem? hr)
      have hg : (pidsL R).getD k 0 = r.p := by simp [pidsL, hr]
      have e1 : ((k + 1 : Nat) : Int) - 1 = k := by omega
      rw [e1]
      have HR := Lib.hid hr
      have HG := Lib.hid hg
      have HO := Lib.hid hok
      generalize r.p = p at *
      clear HA hr hg hat hok e1
      by_cases h0 : 0 < p
      · have d0 : decide (0 < p) = true := by simpa using h0
        have HS := Lib.hid (dnF_pos (n := R.length) (ps := pidsL R) (k := k) hK (by rw [HG.out]; exact h0))
        have hlen : pre.length < 41 := by
          have h1 := congrArg List.length HD.out
          have h2 := dnF_len (n := R.length) (ps := pidsL R) (Nat.le_refl _)
          simp at h1
          omega
        obtain ⟨fn, tmps, assign, body, hy, hR⟩ := hY _ ⟨k, hK⟩ wr hJp hlen
        have HR := Lib.hid hR
        clear hR h0
        gi_wp2
        refine HR.out.mono ?_
        rintro e W3 (⟨rfl, hJ3⟩ | ⟨rfl, hJx3⟩)
        · clear hy hp a0 a1 a2
          gi_wp2
          go_roundw
          case rel => exact ⟨k, pre ++ [⟨k, hK⟩], by omega, by go_num, hJ3, Lib.hid (by rw [HD.out, HS.out]; simp)⟩
          case measure => simp [intOf]
        · clear hy hp a0 a1 a2
          gi_wp2
          refine bodyPost_ret (results_none rfl _ _ _) rfl ⟨⟨_, rfl⟩, .inr ⟨pre ++ [⟨k, hK⟩], ⟨by simp, ⟨dnF R.length (pidsL R) k, ?_⟩⟩, hJx3⟩⟩
          rw [HD.out, HS.out]
          simp
      · have d0 : decide (0 < p) = false := by simpa using h0
        have HS := Lib.hid (dnF_not (n := R.length) (ps := pidsL R) (k := k) hK (by rw [HG.out]; exact h0))
        clear h0
        gi_wp2
        refine ⟨fun f h => (by cases h), ?_⟩
        gi_wp2
        go_roundw
        case rel => exact ⟨k, pre, by omega, by go_num, hJp, Lib.hid (by rw [HD.out, HS.out])⟩
        case measure => simp [intOf]
end Go.Proofs.Ytjepiimggaiejaa
