/- a plan for a region that draws its order, some of whose operations turn what others have read: the condition on the world turns with them. No conditions. -/
import Derived.Test.YtemgnljegbaobaaGreatDoorKi
namespace Go.Proofs.YtemgnljegbaobaaGreatDoor
open Go.ChangeShapes Go.WideShapes Go.ChangeAt Go.RowKit
set_option linter.unusedVariables false
/-- who waits for number i, at once or by others -/
def waitSet (md : Region.Mode) (ops : Array Oper) (i : Nat) : List Nat :=
  (List.range ops.size).foldl (fun B k => match ops[k]? with | some o => if o.after.any (fun e => Region.binds md e && (e.on == i || B.contains e.on)) then k :: B else B | none => B) []
/-- each of B waits for i or for one of B; none has come up -/
def waitOk (md : Region.Mode) (ops : Array Oper) (i : Nat) (l : Array Bool) (B : List Nat) : Bool :=
  B.all fun k => !l.getD k true && !l.getD k false && match ops[k]? with | some o => o.after.any (fun e => Region.binds md e && (e.on == i || B.contains e.on)) | none => false
theorem waitOk_spec {md : Region.Mode} {ops : Array Oper} {i : Nat} {l : Array Bool} {B : List Nat} (h : waitOk md ops i l B = true) {k : Nat} (hk : k ∈ B) :
    l.getD k true = false ∧ l.getD k false = false ∧ ∃ o e, ops[k]? = some o ∧ e ∈ o.after ∧ Region.binds md e = true ∧ (e.on = i ∨ e.on ∈ B) := by
  unfold waitOk at h
  have h1 := List.all_eq_true.1 h k hk
  simp only [Bool.and_eq_true, Bool.not_eq_true'] at h1
  obtain ⟨⟨h1, h2⟩, h3⟩ := h1
  refine ⟨h1, h2, ?_⟩
  cases ho : ops[k]? with
  | none => rw [ho] at h3; cases h3
  | some o =>
    rw [ho] at h3
    simp only [Array.any_eq_true, Bool.and_eq_true, Bool.or_eq_true, beq_iff_eq] at h3
    obtain ⟨n, hn, hb, he⟩ := h3
    refine ⟨o, _, rfl, Array.getElem_mem hn, hb, he.imp id fun h => by simpa using h⟩
section
variable (P : Program) (md : Region.Mode) (ops : Array Oper) (Q : Exit → Act → World → Prop) (tn : List Nat)
def wpAnyD : Nat → Array Bool → (World → Prop) → Act → World → Prop
  | 0, listed, _, a, w => Region.ready md ops listed = [] ∧ Q .normal a w
  | fuel + 1, listed, S, a, w => (Region.ready md ops listed = [] → Q .normal a w) ∧
      ∀ i ∈ Region.ready md ops listed, wpOp P ops Q i (fun a' w' => ∃ S' : World → Prop, (tn.contains i = false → S' = S) ∧ S' w' ∧ wpAnyD fuel (listed.setIfInBounds i true) S' a' w') a w
def planWpD : List (Nat × Nat) → (World → Prop) → Act → World → Prop
  | [], _, a, w => Q .normal a w
  | (i, 0) :: p, S, a, w => ∃ oi v, ops[i]? = some oi ∧ YieldsIf P ops S oi v a ∧ planWpD p S (a.put oi.dst v) w
  | (i, 1) :: p, S, a, w => wpOp P ops Q i (fun a' w' => ∃ S' : World → Prop, (tn.contains i = false → S' = S) ∧ S' w' ∧ planWpD p S' a' w') a w
  | (i, j + 2) :: p, S, a, w => wpOp P ops Q i (fun a' w' => S w' ∧ wpOp P ops Q j (fun a' w' => S w' ∧ planWpD p S a' w') a' w') a w ∧
      wpOp P ops Q j (fun a' w' => S w' ∧ wpOp P ops Q i (fun a' w' => S w' ∧ planWpD p S a' w') a' w') a w
end
def planFitsD (md : Region.Mode) (ops : Array Oper) (tn : List Nat) : List (Nat × Nat) → Array Bool → Nat → Bool
  | [], l, n => (Region.ready md ops l).isEmpty && n == 0
  | (i, 0) :: p, l, n => n != 0 && !tn.contains i && (tn.all fun t => l.getD t true || (waitSet md ops i).contains t) && waitOk md ops i l (waitSet md ops i) && !l.getD i false && Region.free md ops l i && (Region.ready md ops l).contains i && planFitsD md ops tn p (l.setIfInBounds i true) (n - 1)
  | (i, 1) :: p, l, n => n != 0 && (Region.ready md ops l == [i]) && planFitsD md ops tn p (l.setIfInBounds i true) (n - 1)
  | (i, j + 2) :: p, l, n => n != 0 && n != 1 && !tn.contains i && !tn.contains j && (Region.ready md ops l == [i, j]) && (Region.ready md ops (l.setIfInBounds i true) == [j]) && (Region.ready md ops (l.setIfInBounds j true) == [i]) &&
      planFitsD md ops tn p ((l.setIfInBounds i true).setIfInBounds j true) (n - 2) && planFitsD md ops tn p ((l.setIfInBounds j true).setIfInBounds i true) (n - 2)
section
variable {P : Program} {ops : Array Oper} {Q : Exit → Act → World → Prop} {S : World → Prop} {md : Region.Mode} {tn : List Nat}
theorem wpAny_of_D : ∀ (fuel : Nat) (listed : Array Bool) (S : World → Prop) (a : Act) (w : World), wpAnyD P md ops Q tn fuel listed S a w → wpAny P md ops Q fuel listed a w
  | 0, _, _, _, _, h => h
  | fuel + 1, _, _, _, _, h => ⟨h.1, fun i hi => wpOp_mono (fun a' w' ⟨S', _, _, h'⟩ => wpAny_of_D fuel _ S' a' w' h') (h.2 i hi)⟩
theorem wpAnyD_first {i : Nat} {oi : Oper} {v : Value} (hi : ops[i]? = some oi) (hsel : ∀ (j : Nat) (o : Oper) cs b, ops[j]? = some o → o.op ≠ .select cs b)
    (hQ : ∀ c a w, Q (.panic c) (a.put oi.dst v) w → Q (.panic c) a w) (hit : tn.contains i = false) (B : List Nat) (hB : ∀ k ∈ B, ∃ o e, ops[k]? = some o ∧ e ∈ o.after ∧ Region.binds md e = true ∧ (e.on = i ∨ e.on ∈ B)) :
    ∀ (fuel : Nat) (listed : Array Bool) (a : Act) (w : World), (∀ k ∈ B, listed.getD k true = false ∧ listed.getD k false = false) → listed.getD i false = false → (∀ t, tn.contains t = true → listed.getD t true = false → t ∈ B) →
      (∀ j oj, ops[j]? = some oj → j ≠ i → listed.getD j true = false → (∀ e ∈ oj.after, Region.binds md e = true → e.on ≠ i) → oi.apart ops oj = true) →
      i ∈ Region.ready md ops listed → YieldsIf P ops S oi v a → S w →
      wpAnyD P md ops Q tn fuel (listed.setIfInBounds i true) S (a.put oi.dst v) w → wpAnyD P md ops Q tn (fuel + 1) listed S a w := by
  intro fuel
  induction fuel with
  | zero =>
    intro listed a w _ _ _ _ hr hy hS H
    refine ⟨fun h => (by rw [h] at hr; cases hr), fun j hj => ?_⟩
    by_cases hji : j = i
    · subst hji; exact hy.wpOp hi hS ⟨S, fun _ => rfl, hS, H⟩
    · have := ready_mono hj hji
      rw [H.1] at this
      cases this
  | succ fuel ih =>
    intro listed a w hBl hil hT hfree hr hy hS H
    refine ⟨fun h => (by rw [h] at hr; cases hr), fun j hj => ?_⟩
    by_cases hji : j = i
    · subst hji; exact hy.wpOp hi hS ⟨S, fun _ => rfl, hS, H⟩
    · have h1 := H.2 j (ready_mono hj hji)
      obtain ⟨hjun, oj, hoj, hall⟩ := mem_ready.1 hj
      have hnot : ∀ e ∈ oj.after, Region.binds md e = true → e.on ≠ i := fun e he hb heq => by
        have h1 := hall e he hb
        rw [heq, hil] at h1
        cases h1
      have hjB : j ∉ B := fun hjB => by
        obtain ⟨o, e, ho, he, hb, h2⟩ := hB j hjB
        obtain rfl : o = oj := Option.some.inj (ho.symm.trans hoj)
        have h3 := hall e he hb
        rcases h2 with h2 | h2
        · rw [h2, hil] at h3; cases h3
        · rw [(hBl _ h2).2] at h3; cases h3
      have hjt : tn.contains j = false := by
        cases hc : tn.contains j
        · rfl
        · exact absurd (hT j hc hjun) hjB
      have h2 := wpOp_putIf hoj (hfree j oj hoj hji hjun hnot) (fun cs b => hsel i oi cs b hi) (fun cs b => hsel j oj cs b hoj) hQ hy h1
      have hset : ∀ k d, j ≠ k → (listed.setIfInBounds j true).getD k d = listed.getD k d := fun k d hk => getD_set_ne d hk
      have hfree' : ∀ k ok, ops[k]? = some ok → k ≠ i → (listed.setIfInBounds j true).getD k true = false →
          (∀ e ∈ ok.after, Region.binds md e = true → e.on ≠ i) → oi.apart ops ok = true := fun k ok hk hki hun hno => by
        refine hfree k ok hk hki ?_ hno
        by_cases hjk : j = k
        · subst hjk; exact hjun
        · rw [getD_set_ne true hjk] at hun; exact hun
      refine wpOp_mono (fun a' w' h3 => ?_) h2
      obtain ⟨hy', S', hS1, hS2, h4⟩ := h3
      obtain rfl := hS1 hjt
      refine ⟨_, fun _ => rfl, hS2, ih (listed.setIfInBounds j true) a' w' (fun k hk => ?_) ?_ (fun t ht hu => ?_) hfree' (ready_mono hr (Ne.symm hji)) hy' hS2 ?_⟩
      · have hjk : j ≠ k := fun e => hjB (e ▸ hk)
        rw [hset k _ hjk, hset k _ hjk]
        exact hBl k hk
      · rw [hset i _ hji]; exact hil
      · by_cases hjt' : j = t
        · subst hjt'; rw [ht] at hjt; cases hjt
        · rw [hset t _ hjt'] at hu; exact hT t ht hu
      · rw [Array.setIfInBounds_comm _ _ hji]
        exact h4
theorem wpAnyD_one {i n : Nat} {l : Array Bool} {a : Act} {w : World} (h1 : Region.ready md ops l = [i])
    (h : wpOp P ops Q i (fun a' w' => ∃ S' : World → Prop, (tn.contains i = false → S' = S) ∧ S' w' ∧ wpAnyD P md ops Q tn n (l.setIfInBounds i true) S' a' w') a w) :
    wpAnyD P md ops Q tn (n + 1) l S a w := by
  refine ⟨fun h0 => absurd (h1 ▸ h0) (by simp), fun j hj => ?_⟩
  rw [h1] at hj
  obtain rfl : j = i := by simpa using hj
  exact h
theorem planD_held (hs : Region.noSelect ops = true) (hQ : ∀ c a d v w, Q (.panic c) (Act.put a d v) w → Q (.panic c) a w) :
    ∀ (p : List (Nat × Nat)) (l : Array Bool) (n : Nat) (S : World → Prop) (a : Act) (w : World), planFitsD md ops tn p l n = true → S w → planWpD P ops Q tn p S a w → wpAnyD P md ops Q tn n l S a w
  | [], l, n, S, a, w, hf, _, h => by
    simp only [planFitsD, Bool.and_eq_true, beq_iff_eq] at hf
    obtain ⟨h1, rfl⟩ := hf
    exact ⟨by simpa using h1, h⟩
  | (i, 0) :: p, l, n, S, a, w, hf, hS, h => by
    simp only [planFitsD, Bool.and_eq_true, bne_iff_ne, Bool.not_eq_true'] at hf
    obtain ⟨⟨⟨⟨⟨⟨⟨h0, hit⟩, hT⟩, hW⟩, hil⟩, h1⟩, h2⟩, h3⟩ := hf
    obtain ⟨oi, v, e1, e2, e3⟩ := h
    obtain ⟨m, rfl⟩ : ∃ m, n = m + 1 := ⟨n - 1, by omega⟩
    refine wpAnyD_first e1 (Region.noSelect_spec hs) (fun c a w => hQ c a _ _ w) hit (waitSet md ops i) (fun k hk => (waitOk_spec hW hk).2.2) m l a w (fun k hk => ⟨(waitOk_spec hW hk).1, (waitOk_spec hW hk).2.1⟩) hil (fun t ht hu => ?_) (Region.free_spec e1 h1) (by simpa using h2) e2 hS
      (planD_held hs hQ p _ _ _ _ _ (by simpa using h3) hS e3)
    have h4 := List.all_eq_true.1 hT t (by simpa using ht)
    rw [hu] at h4
    simpa using h4
  | (i, 1) :: p, l, n, S, a, w, hf, _, h => by
    simp only [planFitsD, Bool.and_eq_true, bne_iff_ne, beq_iff_eq] at hf
    obtain ⟨⟨h0, h1⟩, h2⟩ := hf
    obtain ⟨m, rfl⟩ : ∃ m, n = m + 1 := ⟨n - 1, by omega⟩
    exact wpAnyD_one h1 (wpOp_mono (fun a' w' ⟨S', e1, e2, h'⟩ => ⟨S', e1, e2, planD_held hs hQ p _ _ _ _ _ (by simpa using h2) e2 h'⟩) h)
  | (i, j + 2) :: p, l, n, S, a, w, hf, _, h => by
    simp only [planFitsD, Bool.and_eq_true, bne_iff_ne, beq_iff_eq, Bool.not_eq_true'] at hf
    obtain ⟨⟨⟨⟨⟨⟨⟨⟨h0, h00⟩, hiz⟩, hjz⟩, h1⟩, h2⟩, h3⟩, h4⟩, h5⟩ := hf
    obtain ⟨m, rfl⟩ : ∃ m, n = m + 1 + 1 := ⟨n - 2, by omega⟩
    refine ⟨fun h0 => absurd (h1 ▸ h0) (by simp), fun k hk => ?_⟩
    rw [h1] at hk
    have hk' : k = i ∨ k = j := by simpa using hk
    rcases hk' with rfl | rfl
    · exact wpOp_mono (fun a' w' h' => ⟨S, fun _ => rfl, h'.1, wpAnyD_one h2 (wpOp_mono (fun a' w' h' => ⟨S, fun _ => rfl, h'.1, planD_held hs hQ p _ _ _ _ _ (by simpa using h4) h'.1 h'.2⟩) h'.2)⟩) h.1
    · exact wpOp_mono (fun a' w' h' => ⟨S, fun _ => rfl, h'.1, wpAnyD_one h3 (wpOp_mono (fun a' w' h' => ⟨S, fun _ => rfl, h'.1, planD_held hs hQ p _ _ _ _ _ (by simpa using h5) h'.1 h'.2⟩) h'.2)⟩) h.2
/-- A region that draws its order, by a plan; the numbers tn may turn what others have read, and the condition with it. -/
theorem region_planD {id : Nat} {a : Act} {w : World} (tn : List Nat) (S : World → Prop) (p : List (Nat × Nat)) (hm : P.follows .mixedOrders = true) (hs : Region.noSelect ops = true)
    (hf : planFitsD .any ops tn p (Array.replicate ops.size false) ops.size = true) (hS : S w.drew) (h : planWpD P ops (NoPanic Q) tn p S a w.drew) : (Code.region id ops true).wp P Q a w :=
  wp_region_noPanic (wp_region_any hm (wpAny_of_D _ _ _ _ _ (planD_held hs (fun _ _ _ _ _ h => h.elim) p _ _ _ _ _ hf hS h)))
theorem region_planD_in {F : Fence} {n : Nat} (ro : Option Nat) (hF : F = wideR ro) {id : Nat} {a : Act} {w : World} (tn : List Nat) (S : World → Prop) (p : List (Nat × Nat)) (hm : P.follows .mixedOrders = true) (hs : Region.noSelect ops = true) (hd : noDefer ops = true)
    (hf : planFitsD .any ops tn p (Array.replicate ops.size false) ops.size = true) (hS : S w.drew) (h : planWpD P ops (OnlyN Q) tn p S a w.drew) : (Code.region id ops true).wpIn F n P Q a w := by
  subst hF
  have h1 := planD_held hs (Q := OnlyN Q) (fun _ _ _ _ _ h => h.elim) p _ _ _ _ _ hf hS h
  have h2 := wpAny_of_D _ _ _ _ _ h1
  refine wpIn_mono (wpIn_region_draw (Q := OnlyN Q) fun t => ?_) (fun e a w h => ?_)
  · refine ops_in hd (fun e a w he h => ?_) _ _ _ ?_
    · cases e <;> first | exact he rfl | exact h
    · simp only [Region.schedule, hm, Bool.true_or, if_true]
      exact wpAny_sound ops.size t _ a _ h2
  · cases e <;> first | exact h | exact h.elim
theorem planD_done {a : Act} {w : World} (h : Q .normal a w) : planWpD P ops (NoPanic Q) tn [] S a w := h
theorem planD_done_in {a : Act} {w : World} (h : Q .normal a w) : planWpD P ops (OnlyN Q) tn [] S a w := h
theorem planD_take {i : Nat} {p : List (Nat × Nat)} {a : Act} {w : World} {oi : Oper} {l : List Oper} {v : Value} (h0 : l[i]? = some oi) (h1 : Region.wanted oi (yielded l.toArray a.tmps) = true)
    (h2 : ∀ w, S w → (execOp a.eval oi).run P w = .ok (.value v) w) (h : planWpD P l.toArray Q tn p S (a.put oi.dst v) w) : planWpD P l.toArray Q tn ((i, 0) :: p) S a w :=
  ⟨oi, v, by simpa using h0, .inl ⟨h1, h2⟩, h⟩
theorem planD_skip {i : Nat} {p : List (Nat × Nat)} {a : Act} {w : World} {oi : Oper} {l : List Oper} (h0 : l[i]? = some oi) (h1 : Region.wanted oi (yielded l.toArray a.tmps) = false)
    (h : planWpD P l.toArray Q tn p S (a.put oi.dst undef) w) : planWpD P l.toArray Q tn ((i, 0) :: p) S a w :=
  ⟨oi, undef, by simpa using h0, .inr ⟨h1, rfl⟩, h⟩
theorem planD_run {i : Nat} {p : List (Nat × Nat)} {a : Act} {w : World} {oi : Oper} {l : List Oper} (h0 : l[i]? = some oi) (h1 : Region.wanted oi (yielded l.toArray a.tmps) = true)
    (h : ∀ K : Act → World → Prop, Shut (∀ a' w', S w' → planWpD P l.toArray Q tn p S a' w' → K a' w') → Oper.wp P oi a w K Q) : planWpD P l.toArray Q tn ((i, 1) :: p) S a w := by
  show wpOp _ _ _ _ _ _ _
  unfold wpOp
  have h0' : l.toArray[i]? = some oi := by simpa using h0
  simp only [h0', h1, if_true]
  exact .inl (h _ fun a' w' h1 h2 => ⟨S, fun _ => rfl, h1, h2⟩)
theorem planD_turn {i : Nat} {p : List (Nat × Nat)} {a : Act} {w : World} {oi : Oper} {l : List Oper} (ht : tn.contains i = true) (h0 : l[i]? = some oi) (h1 : Region.wanted oi (yielded l.toArray a.tmps) = true)
    (h : ∀ K : Act → World → Prop, Shut (∀ (S' : World → Prop) a' w', S' w' → planWpD P l.toArray Q tn p S' a' w' → K a' w') → Oper.wp P oi a w K Q) : planWpD P l.toArray Q tn ((i, 1) :: p) S a w := by
  show wpOp _ _ _ _ _ _ _
  unfold wpOp
  have h0' : l.toArray[i]? = some oi := by simpa using h0
  simp only [h0', h1, if_true]
  exact .inl (h _ fun S' a' w' h1 h2 => ⟨S', (fun h => by rw [ht] at h; cases h), h1, h2⟩)
theorem planD_run_skip {i : Nat} {p : List (Nat × Nat)} {a : Act} {w : World} {oi : Oper} {l : List Oper} (h0 : l[i]? = some oi) (h1 : Region.wanted oi (yielded l.toArray a.tmps) = false)
    (hS : S w) (h : planWpD P l.toArray Q tn p S (a.put oi.dst undef) w) : planWpD P l.toArray Q tn ((i, 1) :: p) S a w := by
  show wpOp _ _ _ _ _ _ _
  unfold wpOp
  have h0' : l.toArray[i]? = some oi := by simpa using h0
  simp only [h0', h1]
  exact ⟨S, fun _ => rfl, hS, h⟩
theorem planD_op {i : Nat} {G : Act → World → Prop} {a : Act} {w : World} {oi : Oper} {l : List Oper} (h0 : l[i]? = some oi) (h1 : Region.wanted oi (yielded l.toArray a.tmps) = true)
    (h : ∀ K : Act → World → Prop, Shut (∀ a' w', S w' → G a' w' → K a' w') → Oper.wp P oi a w K Q) : wpOp P l.toArray Q i (fun a' w' => S w' ∧ G a' w') a w := by
  unfold wpOp
  have h0' : l.toArray[i]? = some oi := by simpa using h0
  simp only [h0', h1, if_true]
  exact .inl (h _ fun a' w' h1 h2 => ⟨h1, h2⟩)
end
end Go.Proofs.YtemgnljegbaobaaGreatDoor
