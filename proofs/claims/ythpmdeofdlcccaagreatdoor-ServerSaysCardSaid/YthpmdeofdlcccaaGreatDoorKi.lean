/- a plan for a region that draws its order, within a loop over an iterator. No conditions. -/
import Derived.Test.YthpmdeofdlcccaaGreatDoorK
import Derived.RangeFuncCalls
import Derived.OrdersHeld
namespace Go.Proofs.YthpmdeofdlcccaaGreatDoor
open Go.ChangeShapes Go.WideShapes Go.ChangeAt Go.RowKit
set_option linter.unusedVariables false
def wideR (ro : Option Nat) : Fence := { Fence.wide with round := ro }
/-- Q where it is left as usual, else nothing -/
def OnlyN (Q : Exit → Act → World → Prop) : Exit → Act → World → Prop
  | .normal, a, w => Q .normal a w
  | _, _, _ => False
def noDefer (ops : Array Oper) : Bool := ops.all fun o => match o.op with | .defer _ => false | _ => true
theorem noDefer_at {ops : Array Oper} (h : noDefer ops = true) {i : Nat} {o : Oper} (hi : ops[i]? = some o) : ∀ c, o.op ≠ .defer c := by
  intro c e
  unfold noDefer at h
  rw [Array.all_eq_true] at h
  obtain ⟨hl, rfl⟩ := Array.getElem?_eq_some_iff.1 hi
  have := h i hl
  simp only [e] at this
  cases this
section
variable {P : Program} {ops : Array Oper} {Q : Exit → Act → World → Prop} {n : Nat}
theorem calls_wideR {ro : Option Nat} {f : FuncId} {args : Array Value} {w : World} {R : Ending → World → Prop} (h : Calls P f args w R) : CallsIn (wideR ro) n P f args w R :=
  (callsIn_wide (n := n)).2 h
theorem op_in {ro : Option Nat} {o : Oper} {a : Act} {w : World} {K : Act → World → Prop} (hd : ∀ c, o.op ≠ .defer c) (hq : ∀ e a w, e ≠ .normal → ¬ Q e a w) (h : o.wp P a w K Q) : o.wpIn (wideR ro) n P a w K Q := by
  refine ⟨fun f _ => trivial, ?_⟩
  show o.uponIn (wideR ro) n P a K Q ((o.semAt ro a.eval).run P w)
  rw [Oper.semAt_eq ro a.eval o hd]
  unfold Oper.wp at h
  generalize (execOp a.eval o).run P w = r at *
  cases r with
  | ok x w' =>
    cases x with
    | value v => exact h
    | skip => exact h
    | defer d => exact h
    | enter f args =>
      refine ⟨(fun h => by cases h), calls_wideR (Calls.mono h ?_)⟩
      intro e w'' he
      cases e with
      | returned v => exact he
      | panicked c => exact he
      | outgrown => exact he
    | row row args =>
      refine ⟨(fun h => by cases h), fun c cs _ => ?_⟩
      obtain ⟨v, w'', r, s⟩ := (h : Rows P row args w' fun v w'' => K (a.put o.dst v) w'') c cs
      exact ⟨v, w'', r, stepsIn_wide.2 s⟩
    | _ => exact h.elim
  | halt x w' =>
    cases x with
    | panic v => exact h
    | _ => exact h.elim
theorem op_in' {ro : Option Nat} {o : Oper} {a : Act} {w : World} {K : Act → World → Prop} (hd : ∀ c, o.op ≠ .defer c) (h : o.wp P a w K (fun _ _ _ => False)) : o.wpIn (wideR ro) n P a w K Q := by
  refine ⟨fun f _ => trivial, ?_⟩
  show o.uponIn (wideR ro) n P a K Q ((o.semAt ro a.eval).run P w)
  rw [Oper.semAt_eq ro a.eval o hd]
  unfold Oper.wp at h
  generalize (execOp a.eval o).run P w = r at *
  cases r with
  | ok x w' =>
    cases x with
    | value v => exact h
    | skip => exact h
    | defer d => exact h
    | enter f args =>
      refine ⟨(fun h => by cases h), calls_wideR (Calls.mono h ?_)⟩
      intro e w'' he
      cases e with
      | returned v => exact he
      | panicked c => exact he.elim
      | outgrown => obtain ⟨_, _, he⟩ := he; exact he.elim
    | row row args =>
      refine ⟨(fun h => by cases h), fun c cs _ => ?_⟩
      obtain ⟨v, w'', r, s⟩ := (h : Rows P row args w' fun v w'' => K (a.put o.dst v) w'') c cs
      exact ⟨v, w'', r, stepsIn_wide.2 s⟩
    | _ => exact h.elim
  | halt x w' =>
    cases x with
    | panic v => exact h.elim
    | _ => exact h.elim
theorem wpListIn_op {F : Fence} {rest : List Oper} {o : Oper} {a : Act} {w : World} (ro : Option Nat) (hF : F = wideR ro) (hgd : o.guard = none) (hd : ∀ c, o.op ≠ .defer c)
    (h : o.wp P a w (fun a' w' => wpListIn F n P ops Q rest a' w') (fun _ _ _ => False)) : wpListIn F n P ops Q (o :: rest) a w := by
  subst hF
  exact wpListIn_plain hgd fun K hK => op_in' hd (Oper.wp_mono (fun a w h => hK a w h) h)
theorem stop_opIn {F : Fence} {o : Oper} {rest : List Oper} {a : Act} {w : World} (h : Hid (wpListIn F n P ops Q (o :: rest) a w)) : wpListIn F n P ops Q (o :: rest) a w := h.out
theorem ops_in {ro : Option Nat} (hd : noDefer ops = true) (hq : ∀ e a w, e ≠ .normal → ¬ Q e a w) : ∀ (l : List Nat) (a : Act) (w : World), wpOps P ops Q l a w → wpOpsIn (wideR ro) n P ops Q l a w
  | [], a, w, h => h
  | i :: rest, a, w, h => by
    unfold wpOps at h
    unfold wpOpsIn
    split
    · rename_i h0
      simp only [h0] at h
      exact ops_in hd hq rest a w h
    · rename_i o h0
      simp only [h0] at h
      split
      · rename_i hw
        simp only [hw, if_true] at h
        rcases h with h | ⟨_, a', w', h⟩
        · exact op_in (noDefer_at hd h0) hq (Oper.wp_mono (fun a' w' h' => ops_in hd hq rest a' w' h') h)
        · exact absurd h (hq _ _ _ (by simp))
      · rename_i hw
        simp only [hw] at h
        exact ⟨fun f _ => trivial, ops_in hd hq rest _ w h⟩
theorem region_plan_in {F : Fence} (ro : Option Nat) (hF : F = wideR ro) {id : Nat} {a : Act} {w : World} (S : World → Prop) (p : List (Nat × Nat)) (hm : P.follows .mixedOrders = true) (hs : Region.noSelect ops = true) (hd : noDefer ops = true)
    (hf : planFits .any ops p (Array.replicate ops.size false) ops.size = true) (hS : S w.drew) (h : planWp P ops (OnlyN Q) S p a w.drew) : (Code.region id ops true).wpIn F n P Q a w := by
  subst hF
  have h1 := plan_held hs (Q := OnlyN Q) (fun _ _ _ _ _ h => h.elim) p _ _ _ _ hf hS h
  have h2 := wpAny_of_held _ _ _ _ h1
  refine wpIn_mono (wpIn_region_draw (Q := OnlyN Q) fun t => ?_) (fun e a w h => ?_)
  · refine ops_in hd (fun e a w he h => ?_) _ _ _ ?_
    · cases e <;> first | exact he rfl | exact h
    · simp only [Region.schedule, hm, Bool.true_or, if_true]
      exact wpAny_sound ops.size t _ a _ h2
  · cases e <;> first | exact h | exact h.elim
theorem plan_done_in {S : World → Prop} {a : Act} {w : World} (h : Q .normal a w) : planWp P ops (OnlyN Q) S [] a w := h
end
section
variable {P : Program} {w : World}
theorem run_loadVar_slice (p : Addr) (ty e : TypeId) {v : Value} (hu : P.underlying ty = some (.slice e)) (hc : w.cell? p = some v) : (loadVar ty p).run P w = .ok v w := by
  have hagg : (isAgg ty).run P w = .ok false w := by
    unfold isAgg
    rw [Sem.run_bind, run_underlying hu w]
    rfl
  simp [loadVar, Sem.run_bind, hagg, go_sem, hc]
theorem results_slice {fn : Func} {p : Tmp} {ty e : TypeId} (h : fn.results = #[.cell p ty]) (hu : P.underlying ty = some (.slice e)) {tmps : Array Value} {a : Addr} {v : Value} (hp : tmps.getD p undef = .pointer (some a)) (hc : w.cell? a = some v) :
    (results fn tmps).run P w = .ok v w := by
  have hp' : tmps[p]?.getD undef = .pointer (some a) := by simpa using hp
  simp [results, h, hp', asAddr, run_loadVar_slice a ty e hu hc]
theorem op_append_own2 {o : Oper} {a : Act} {K : Act → World → Prop} {Q : Exit → Act → World → Prop} (s x : Operand) (t : TypeId)
    (ho : o.op = .call { callee := .builtin .append, args := #[s, x], argTypes := #[t, t] })
    (base : Nat) (e : TypeId) (i : TypeInfo) (z : Value) (size bytes : Nat) (ht : P.underlying t = some (.slice e)) (hi : P.info? e = some i) (hz : i.zero = some z)
    (hsize : i.size = size) (hby : i.bytes = bytes) (hzs : z.cells.size = size) (hsz : 0 < size)
    (v : Value) (n : Nat) (xs : List Value) (hs : a.eval s = v) (hown : w.ownsRow base e size v n xs)
    (ad : Addr) (m c : Nat) (news : List Value) (hx : a.eval x = .slice (some ad) m c) (hl : news.length = m * size) (hnews : ∀ j u, news[j]? = some u → w.cell? (ad.add j) = some u) (h1 : ∀ u ∈ news, u.oneCell' = true)
    (h63 : n + m ≤ maxLen) (hbytes : (n + m) * bytes ≤ 140737488355328) (hbase : base ≤ w.heap.size)
    (h : ∀ v' w', w'.ownsRow base e size v' (n + m) (xs ++ news) → w.grownBy w' v.ownBlock → (v'.ownBlock = v.ownBlock ∨ v'.ownBlock = some w.heap.size) → K (a.put o.dst v') w') : Oper.wp P o a w K Q := by
  obtain ⟨v', w', hr, h2, h3, h4⟩ := run_append_own (P := P) w base t o.type e i z size bytes ht hi hz hsize hby hzs hsz v n xs hown ad m c news hl hnews h1 h63 hbytes hbase
  have h5 := run_append_where (P := P) base t o.type e i z size bytes ht hi hz hsize hby v n xs hown ad m c news hl hnews h1 h63 hbytes v' w' hr
  unfold Oper.wp execOp
  simp only [ho, resolve, invoke, builtin, Sem.run_bind, Sem.run_pure, Result.andThen_ok, List.map_toArray, List.map_cons, List.map_nil, hs, hx, hr]
  exact h v' w' h2 h3 h5
end
end Go.Proofs.YthpmdeofdlcccaaGreatDoor
