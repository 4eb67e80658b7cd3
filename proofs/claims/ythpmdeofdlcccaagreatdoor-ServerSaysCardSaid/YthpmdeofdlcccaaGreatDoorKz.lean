/- a plan for a region that draws its order and whose last operation turns what the others read. No conditions. -/
import Derived.Test.YthpmdeofdlcccaaGreatDoorKi
namespace Go.Proofs.YthpmdeofdlcccaaGreatDoor
open Go.ChangeShapes Go.WideShapes Go.ChangeAt Go.RowKit
set_option linter.unusedVariables false
/-- number z waits for number i -/
def waits (md : Region.Mode) (ops : Array Oper) (z i : Nat) : Bool := match ops[z]? with | some o => o.after.any fun e => Region.binds md e && e.on == i | none => false
section
variable (P : Program) (md : Region.Mode) (ops : Array Oper) (Q : Exit → Act → World → Prop) (S : World → Prop) (z : Nat)
def wpAnyZ : Nat → Array Bool → Act → World → Prop
  | 0, listed, a, w => Region.ready md ops listed = [] ∧ Q .normal a w
  | fuel + 1, listed, a, w => (Region.ready md ops listed = [] → Q .normal a w) ∧ ∀ i ∈ Region.ready md ops listed, wpOp P ops Q i (fun a' w' => (i ≠ z → S w') ∧ wpAnyZ fuel (listed.setIfInBounds i true) a' w') a w
def planWpZ : List (Nat × Nat) → Act → World → Prop
  | [], a, w => Q .normal a w
  | (i, 0) :: p, a, w => ∃ oi v, ops[i]? = some oi ∧ YieldsIf P ops S oi v a ∧ planWpZ p (a.put oi.dst v) w
  | (i, 1) :: p, a, w => wpOp P ops Q i (fun a' w' => (i ≠ z → S w') ∧ planWpZ p a' w') a w
  | (i, j + 2) :: p, a, w => wpOp P ops Q i (fun a' w' => (i ≠ z → S w') ∧ wpOp P ops Q j (fun a' w' => (j ≠ z → S w') ∧ planWpZ p a' w') a' w') a w ∧
      wpOp P ops Q j (fun a' w' => (j ≠ z → S w') ∧ wpOp P ops Q i (fun a' w' => (i ≠ z → S w') ∧ planWpZ p a' w') a' w') a w
end
def planFitsZ (md : Region.Mode) (ops : Array Oper) (z : Nat) : List (Nat × Nat) → Array Bool → Nat → Bool
  | [], l, n => (Region.ready md ops l).isEmpty && n == 0
  | (i, 0) :: p, l, n => n != 0 && i != z && waits md ops z i && Region.free md ops l i && (Region.ready md ops l).contains i && planFitsZ md ops z p (l.setIfInBounds i true) (n - 1)
  | (i, 1) :: p, l, n => n != 0 && (Region.ready md ops l == [i]) && (i != z || p.isEmpty) && planFitsZ md ops z p (l.setIfInBounds i true) (n - 1)
  | (i, j + 2) :: p, l, n => n != 0 && n != 1 && i != z && j != z && (Region.ready md ops l == [i, j]) && (Region.ready md ops (l.setIfInBounds i true) == [j]) && (Region.ready md ops (l.setIfInBounds j true) == [i]) &&
      planFitsZ md ops z p ((l.setIfInBounds i true).setIfInBounds j true) (n - 2) && planFitsZ md ops z p ((l.setIfInBounds j true).setIfInBounds i true) (n - 2)
section
variable {P : Program} {ops : Array Oper} {Q : Exit → Act → World → Prop} {S : World → Prop} {md : Region.Mode} {z : Nat}
theorem wpAny_of_Z : ∀ (fuel : Nat) (listed : Array Bool) (a : Act) (w : World), wpAnyZ P md ops Q S z fuel listed a w → wpAny P md ops Q fuel listed a w
  | 0, _, _, _, h => h
  | fuel + 1, _, _, _, h => ⟨h.1, fun i hi => wpOp_mono (fun a' w' h' => wpAny_of_Z fuel _ a' w' h'.2) (h.2 i hi)⟩
theorem wpAnyZ_first {i : Nat} {oi : Oper} {v : Value} (hi : ops[i]? = some oi) (hsel : ∀ (j : Nat) (o : Oper) cs b, ops[j]? = some o → o.op ≠ .select cs b)
    (hQ : ∀ c a w, Q (.panic c) (a.put oi.dst v) w → Q (.panic c) a w) (hz : waits md ops z i = true) (hiz : i ≠ z) :
    ∀ (fuel : Nat) (listed : Array Bool) (a : Act) (w : World),
      (∀ j oj, ops[j]? = some oj → j ≠ i → listed.getD j true = false → (∀ e ∈ oj.after, Region.binds md e = true → e.on ≠ i) → oi.apart ops oj = true) →
      i ∈ Region.ready md ops listed → YieldsIf P ops S oi v a → S w →
      wpAnyZ P md ops Q S z fuel (listed.setIfInBounds i true) (a.put oi.dst v) w → wpAnyZ P md ops Q S z (fuel + 1) listed a w := by
  intro fuel
  induction fuel with
  | zero =>
    intro listed a w _ hr hy hS H
    refine ⟨fun h => (by rw [h] at hr; cases hr), fun j hj => ?_⟩
    by_cases hji : j = i
    · subst hji; exact hy.wpOp hi hS ⟨fun _ => hS, H⟩
    · have := ready_mono hj hji
      rw [H.1] at this
      cases this
  | succ fuel ih =>
    intro listed a w hfree hr hy hS H
    refine ⟨fun h => (by rw [h] at hr; cases hr), fun j hj => ?_⟩
    by_cases hji : j = i
    · subst hji; exact hy.wpOp hi hS ⟨fun _ => hS, H⟩
    · have h1 := H.2 j (ready_mono hj hji)
      obtain ⟨hjun, oj, hoj, hall⟩ := mem_ready.1 hj
      have hnot : ∀ e ∈ oj.after, Region.binds md e = true → e.on ≠ i := fun e he hb heq => by
        have h1 := hall e he hb
        have h0 := (mem_ready.1 hr).1
        rw [heq] at h1
        rcases Nat.lt_or_ge i listed.size with h' | h'
        · simp [h'] at h0 h1; rw [h0] at h1; cases h1
        · simp [Array.getElem?_eq_none h'] at h1
      have hjz : j ≠ z := by
        rintro rfl
        unfold waits at hz
        rw [hoj] at hz
        simp only [Array.any_eq_true, Bool.and_eq_true, beq_iff_eq] at hz
        obtain ⟨n, hn, hb, he⟩ := hz
        exact hnot _ (Array.getElem_mem hn) hb he
      have h2 := wpOp_putIf hoj (hfree j oj hoj hji hjun hnot) (fun cs b => hsel i oi cs b hi) (fun cs b => hsel j oj cs b hoj) hQ hy h1
      have hfree' : ∀ k ok, ops[k]? = some ok → k ≠ i → (listed.setIfInBounds j true).getD k true = false →
          (∀ e ∈ ok.after, Region.binds md e = true → e.on ≠ i) → oi.apart ops ok = true := fun k ok hk hki hun hno => by
        refine hfree k ok hk hki ?_ hno
        by_cases hjk : j = k
        · subst hjk; exact hjun
        · rw [getD_set_ne true hjk] at hun; exact hun
      refine wpOp_mono (fun a' w' h3 => ⟨h3.2.1, ih (listed.setIfInBounds j true) a' w' hfree' (ready_mono hr (Ne.symm hji)) h3.1 (h3.2.1 hjz) ?_⟩) h2
      rw [Array.setIfInBounds_comm _ _ hji]
      exact h3.2.2
theorem wpAnyZ_one {i n : Nat} {l : Array Bool} {a : Act} {w : World} (h1 : Region.ready md ops l = [i]) (h : wpOp P ops Q i (fun a' w' => (i ≠ z → S w') ∧ wpAnyZ P md ops Q S z n (l.setIfInBounds i true) a' w') a w) :
    wpAnyZ P md ops Q S z (n + 1) l a w := by
  refine ⟨fun h0 => absurd (h1 ▸ h0) (by simp), fun j hj => ?_⟩
  rw [h1] at hj
  obtain rfl : j = i := by simpa using hj
  exact h
theorem planZ_held (hs : Region.noSelect ops = true) (hQ : ∀ c a d v w, Q (.panic c) (Act.put a d v) w → Q (.panic c) a w) :
    ∀ (p : List (Nat × Nat)) (l : Array Bool) (n : Nat) (a : Act) (w : World), planFitsZ md ops z p l n = true → (p ≠ [] → S w) → planWpZ P ops Q S z p a w → wpAnyZ P md ops Q S z n l a w
  | [], l, n, a, w, hf, _, h => by
    simp only [planFitsZ, Bool.and_eq_true, beq_iff_eq] at hf
    obtain ⟨h1, rfl⟩ := hf
    exact ⟨by simpa using h1, h⟩
  | (i, 0) :: p, l, n, a, w, hf, hS, h => by
    simp only [planFitsZ, Bool.and_eq_true, bne_iff_ne] at hf
    obtain ⟨⟨⟨⟨⟨h0, hz⟩, hw⟩, h1⟩, h2⟩, h3⟩ := hf
    obtain ⟨oi, v, e1, e2, e3⟩ := h
    obtain ⟨m, rfl⟩ : ∃ m, n = m + 1 := ⟨n - 1, by omega⟩
    have hS' := hS (by simp)
    exact wpAnyZ_first e1 (Region.noSelect_spec hs) (fun c a w => hQ c a _ _ w) hw hz m l a w (Region.free_spec e1 h1) (by simpa using h2) e2 hS' (planZ_held hs hQ p _ _ _ _ (by simpa using h3) (fun _ => hS') e3)
  | (i, 1) :: p, l, n, a, w, hf, _, h => by
    simp only [planFitsZ, Bool.and_eq_true, bne_iff_ne, beq_iff_eq, Bool.or_eq_true] at hf
    obtain ⟨⟨⟨h0, h1⟩, hz⟩, h2⟩ := hf
    obtain ⟨m, rfl⟩ : ∃ m, n = m + 1 := ⟨n - 1, by omega⟩
    exact wpAnyZ_one h1 (wpOp_mono (fun a' w' h' => ⟨h'.1, planZ_held hs hQ p _ _ _ _ (by simpa using h2) (fun hp => by
      rcases hz with hz | hz
      · exact h'.1 hz
      · exact absurd (List.isEmpty_iff.1 hz) hp) h'.2⟩) h)
  | (i, j + 2) :: p, l, n, a, w, hf, _, h => by
    simp only [planFitsZ, Bool.and_eq_true, bne_iff_ne, beq_iff_eq] at hf
    obtain ⟨⟨⟨⟨⟨⟨⟨⟨h0, h00⟩, hiz⟩, hjz⟩, h1⟩, h2⟩, h3⟩, h4⟩, h5⟩ := hf
    obtain ⟨m, rfl⟩ : ∃ m, n = m + 1 + 1 := ⟨n - 2, by omega⟩
    refine ⟨fun h0 => absurd (h1 ▸ h0) (by simp), fun k hk => ?_⟩
    rw [h1] at hk
    have hk' : k = i ∨ k = j := by simpa using hk
    rcases hk' with rfl | rfl
    · exact wpOp_mono (fun a' w' h' => ⟨h'.1, wpAnyZ_one h2 (wpOp_mono (fun a' w' h' => ⟨h'.1, planZ_held hs hQ p _ _ _ _ (by simpa using h4) (fun _ => h'.1 hjz) h'.2⟩) h'.2)⟩) h.1
    · exact wpOp_mono (fun a' w' h' => ⟨h'.1, wpAnyZ_one h3 (wpOp_mono (fun a' w' h' => ⟨h'.1, planZ_held hs hQ p _ _ _ _ (by simpa using h5) (fun _ => h'.1 hiz) h'.2⟩) h'.2)⟩) h.2
/-- A region that draws its order, by a plan; number z, the last one, may turn what the others read. -/
theorem region_planZ {id : Nat} {a : Act} {w : World} (z : Nat) (S : World → Prop) (p : List (Nat × Nat)) (hm : P.follows .mixedOrders = true) (hs : Region.noSelect ops = true)
    (hf : planFitsZ .any ops z p (Array.replicate ops.size false) ops.size = true) (hS : S w.drew) (h : planWpZ P ops (NoPanic Q) S z p a w.drew) : (Code.region id ops true).wp P Q a w :=
  wp_region_noPanic (wp_region_any hm (wpAny_of_Z _ _ _ _ (planZ_held hs (fun _ _ _ _ _ h => h.elim) p _ _ _ _ hf (fun _ => hS) h)))
theorem region_planZ_in {F : Fence} {n : Nat} (ro : Option Nat) (hF : F = wideR ro) {id : Nat} {a : Act} {w : World} (z : Nat) (S : World → Prop) (p : List (Nat × Nat)) (hm : P.follows .mixedOrders = true) (hs : Region.noSelect ops = true) (hd : noDefer ops = true)
    (hf : planFitsZ .any ops z p (Array.replicate ops.size false) ops.size = true) (hS : S w.drew) (h : planWpZ P ops (OnlyN Q) S z p a w.drew) : (Code.region id ops true).wpIn F n P Q a w := by
  subst hF
  have h1 := planZ_held hs (Q := OnlyN Q) (fun _ _ _ _ _ h => h.elim) p _ _ _ _ hf (fun _ => hS) h
  have h2 := wpAny_of_Z _ _ _ _ h1
  refine wpIn_mono (wpIn_region_draw (Q := OnlyN Q) fun t => ?_) (fun e a w h => ?_)
  · refine ops_in hd (fun e a w he h => ?_) _ _ _ ?_
    · cases e <;> first | exact he rfl | exact h
    · simp only [Region.schedule, hm, Bool.true_or, if_true]
      exact wpAny_sound ops.size t _ a _ h2
  · cases e <;> first | exact h | exact h.elim
theorem planZ_done {a : Act} {w : World} (h : Q .normal a w) : planWpZ P ops (NoPanic Q) S z [] a w := h
theorem planZ_done_in {a : Act} {w : World} (h : Q .normal a w) : planWpZ P ops (OnlyN Q) S z [] a w := h
theorem planZ_take {i : Nat} {p : List (Nat × Nat)} {a : Act} {w : World} {oi : Oper} {l : List Oper} {v : Value} (h0 : l[i]? = some oi) (h1 : Region.wanted oi (yielded l.toArray a.tmps) = true)
    (h2 : ∀ w, S w → (execOp a.eval oi).run P w = .ok (.value v) w) (h : planWpZ P l.toArray Q S z p (a.put oi.dst v) w) : planWpZ P l.toArray Q S z ((i, 0) :: p) a w :=
  ⟨oi, v, by simpa using h0, .inl ⟨h1, h2⟩, h⟩
theorem planZ_skip {i : Nat} {p : List (Nat × Nat)} {a : Act} {w : World} {oi : Oper} {l : List Oper} (h0 : l[i]? = some oi) (h1 : Region.wanted oi (yielded l.toArray a.tmps) = false)
    (h : planWpZ P l.toArray Q S z p (a.put oi.dst undef) w) : planWpZ P l.toArray Q S z ((i, 0) :: p) a w :=
  ⟨oi, undef, by simpa using h0, .inr ⟨h1, rfl⟩, h⟩
theorem planZ_op {i : Nat} {G : Act → World → Prop} {a : Act} {w : World} {oi : Oper} {l : List Oper} (h0 : l[i]? = some oi) (h1 : Region.wanted oi (yielded l.toArray a.tmps) = true)
    (h : ∀ K : Act → World → Prop, Shut (∀ a' w', (i ≠ z → S w') → G a' w' → K a' w') → Oper.wp P oi a w K Q) : wpOp P l.toArray Q i (fun a' w' => (i ≠ z → S w') ∧ G a' w') a w := by
  unfold wpOp
  have h0' : l.toArray[i]? = some oi := by simpa using h0
  simp only [h0', h1, if_true]
  exact .inl (h _ fun a' w' h1 h2 => ⟨h1, h2⟩)
theorem planZ_run {i : Nat} {p : List (Nat × Nat)} {a : Act} {w : World} {oi : Oper} {l : List Oper} (h0 : l[i]? = some oi) (h1 : Region.wanted oi (yielded l.toArray a.tmps) = true)
    (h : ∀ K : Act → World → Prop, Shut (∀ a' w', (i ≠ z → S w') → planWpZ P l.toArray Q S z p a' w' → K a' w') → Oper.wp P oi a w K Q) : planWpZ P l.toArray Q S z ((i, 1) :: p) a w :=
  planZ_op h0 h1 h
theorem planZ_run_skip {i : Nat} {p : List (Nat × Nat)} {a : Act} {w : World} {oi : Oper} {l : List Oper} (h0 : l[i]? = some oi) (h1 : Region.wanted oi (yielded l.toArray a.tmps) = false)
    (hS : i ≠ z → S w) (h : planWpZ P l.toArray Q S z p (a.put oi.dst undef) w) : planWpZ P l.toArray Q S z ((i, 1) :: p) a w := by
  show wpOp _ _ _ _ _ _ _
  unfold wpOp
  have h0' : l.toArray[i]? = some oi := by simpa using h0
  simp only [h0', h1]
  exact ⟨hS, h⟩
end
section
variable {P : Program} {w : World}
theorem op_append_any {o : Oper} {a : Act} {K : Act → World → Prop} {Q : Exit → Act → World → Prop} (s x : Operand) (t : TypeId)
    (ho : o.op = .call { callee := .builtin .append, args := #[s, x], argTypes := #[t, t] })
    (base : Nat) (e : TypeId) (i : TypeInfo) (z : Value) (size bytes : Nat) (ht : P.underlying t = some (.slice e)) (hi : P.info? e = some i) (hz : i.zero = some z)
    (hsize : i.size = size) (hby : i.bytes = bytes) (hzs : z.cells.size = size) (hsz : 0 < size)
    (v : Value) (n : Nat) (xs : List Value) (hs : a.eval s = v) (hown : w.ownsRow base e size v n xs)
    (ao : Option Addr) (m c : Nat) (news : List Value) (hx : a.eval x = .slice ao m c) (hl : news.length = m * size) (hno : ao = none → m = 0 ∧ c = 0) (hnews : ∀ ad, ao = some ad → ∀ (j : Nat) (u : Value), news[j]? = some u → w.cell? (ad.add j) = some u) (h1 : ∀ u ∈ news, u.oneCell' = true)
    (h63 : n + m ≤ maxLen) (hbytes : (n + m) * bytes ≤ 140737488355328) (hbase : base ≤ w.heap.size)
    (h : ∀ v' w', w'.ownsRow base e size v' (n + m) (xs ++ news) → w.grownBy w' v.ownBlock → (v'.ownBlock = v.ownBlock ∨ v'.ownBlock = some w.heap.size) → K (a.put o.dst v') w') : Oper.wp P o a w K Q := by
  cases ao with
  | none =>
    obtain ⟨rfl, rfl⟩ := hno rfl
    obtain rfl : news = [] := List.eq_nil_of_length_eq_zero (by omega)
    have hrun := run_append_owned_none (P := P) (w := w) base t o.type e i size ht hi v n xs hown
    have h' := h v w (by simpa using hown) (World.grownBy.refl w _) (.inl rfl)
    unfold Oper.wp
    simp [execOp, ho, resolve, invoke, builtin, hs, hx, hrun, Result.andThen]
    exact h'
  | some ad => exact op_append_own2 s x t ho base e i z size bytes ht hi hz hsize hby hzs hsz v n xs hs hown ad m c news hx hl (hnews ad rfl) h1 h63 hbytes hbase h
end
end Go.Proofs.YthpmdeofdlcccaaGreatDoor
