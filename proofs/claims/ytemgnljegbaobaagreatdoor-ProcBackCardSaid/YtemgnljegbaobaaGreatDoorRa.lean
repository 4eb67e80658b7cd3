/- what can be read as data, leaf by leaf, and no greater than memory. No conditions. -/
import Derived.Test.YtemgnljegbaobaaGreatDoorFl
import Derived.SizedLaws
namespace Go.Proofs.YtemgnljegbaobaaGreatDoor
open Go.ChangeShapes Go.WideShapes Go.ChangeAt Go.RowKit
set_option linter.unusedVariables false
section
variable {H : Type} {P : Program}
/-- what came in is no greater than memory -/
def Sz (P : Program) (t : TypeId) (d : DataW H) : Prop := ∀ n ∈ d.weights P t, n ≤ reachBytes
theorem weights_all {e : TypeId} : ∀ {ds : List (DataW H)} {d : DataW H}, d ∈ ds → ∀ n ∈ d.weights P e, n ∈ DataW.weightsAll P e ds
  | d0 :: ds, d, hd, n, hn => by
    simp only [DataW.weightsAll, List.mem_append]
    rcases List.mem_cons.1 hd with rfl | hd
    · exact .inl hn
    · exact .inr (weights_all hd n hn)
theorem Sz.len {t e : TypeId} {elems spare : List (DataW H)} (hu : P.underlying t = some (.slice e)) (h : Sz P t (.slice elems spare)) : (elems.length + spare.length) * P.bytesOf e ≤ reachBytes :=
  h _ (by simp [DataW.weights, hu])
theorem Sz.elem {t e : TypeId} {elems spare : List (DataW H)} (hu : P.underlying t = some (.slice e)) (h : Sz P t (.slice elems spare)) {d : DataW H} (hd : d ∈ elems) : Sz P e d :=
  fun n hn => h n (by simp [DataW.weights, hu]; exact .inr (.inl (weights_all hd n hn)))
theorem Sz.field {t : TypeId} {fs : Array Field} {parts : List (DataW H)} (hu : P.underlying t = some (.struct fs)) (h : Sz P t (.agg parts)) {j : Nat} {f : Field} {d : DataW H} (hf : fs[j]? = some f) (hd : parts[j]? = some d) : Sz P f.type d :=
  fun n hn => h n (by simp only [DataW.weights, hu]; exact DataW.weights_mem_each (j := j) (by simp [hf]) hd n hn)
theorem sz_of {ts : List TypeId} {ds : List (DataW H)} (h : (DataW.weightsEach P ts ds).all (· ≤ reachBytes) = true) {j : Nat} {t : TypeId} {d : DataW H} (ht : ts[j]? = some t) (hd : ds[j]? = some d) : Sz P t d :=
  fun n hn => by simpa using List.all_eq_true.1 h _ (DataW.weights_mem_each ht hd n hn)
end
section
variable {H : Type} {enc : TypeId × Value → H} {P : Program} {W : World}
/-- what is read, and its size with it -/
def RdS (enc : TypeId × Value → H) (P : Program) (W : World) (n : Nat) (t : TypeId) (cs : List Value) (Z : Prop) : Prop := ∃ x, Rd enc P W n t cs x ∧ (Z → Sz P t x.1)
theorem rd_field {t : TypeId} {fs : Array Field} {n : Nat} {cs : List Value} {Z : Prop} (hu : P.underlying t = some (.struct fs)) (h : RdS enc P W n t cs Z) (j : Nat) (f : Field) (hf : fs[j]? = some f) (o z : Nat) (ho : f.offset = o) (hz : P.cellsOf f.type = z) :
    cs.length = P.cellsOf t ∧ ∃ m, m < n ∧ RdS enc P W m f.type ((cs.drop o).take z) Z := by
  obtain ⟨x, h, hs⟩ := h
  obtain ⟨xs, m, rfl, hx, hcl, hxl, hall⟩ := DataW.trod_struct hu h
  have hj : j < xs.length := by rw [hxl]; exact (Array.getElem?_eq_some_iff.1 hf).1
  refine ⟨hcl, m, by omega, xs[j], ?_, fun hZ => ?_⟩
  · have := hall j f hf
    rw [List.getElem?_eq_getElem hj, ho, hz] at this
    exact this
  · have h1 := hs hZ
    rw [hx] at h1
    exact h1.field hu hf (by simp [hj])
/-- cells of a row's thing -/
def pc (xs : List Value) (i z : Nat) : List Value := (xs.drop (i * z)).take z
theorem pc_at {xs : List Value} {i z j : Nat} (hj : j < z) : (pc xs i z)[j]? = xs[i * z + j]? := by
  unfold pc
  rw [List.getElem?_take, if_pos hj, List.getElem?_drop]
theorem pc_flat {z : Nat} : ∀ (l : List (List Value)) (i : Nat) (c : List Value), (∀ x ∈ l, x.length = z) → l[i]? = some c → pc l.flatten i z = c
  | [], i, c, _, h => by simp at h
  | x :: l, 0, c, hl, h => by
    simp at h
    subst h
    have := hl x List.mem_cons_self
    unfold pc
    rw [List.flatten_cons, Nat.zero_mul, List.drop_zero, List.take_left' this]
  | x :: l, i + 1, c, hl, h => by
    have h0 := hl x List.mem_cons_self
    have ih := pc_flat l i c (fun y hy => hl y (List.mem_cons_of_mem _ hy)) (by simpa using h)
    unfold pc at ih ⊢
    rw [List.flatten_cons, List.drop_append, List.drop_of_length_le (by rw [h0, Nat.add_mul]; omega), List.nil_append]
    rw [show (i + 1) * z - x.length = i * z by rw [h0, Nat.add_mul]; omega]
    exact ih
theorem flat_len {z : Nat} : ∀ (l : List (List Value)), (∀ x ∈ l, x.length = z) → l.flatten.length = l.length * z
  | [], _ => by simp
  | x :: l, h => by
    rw [List.flatten_cons, List.length_append, h x List.mem_cons_self, flat_len l fun y hy => h y (List.mem_cons_of_mem _ hy), List.length_cons, Nat.add_mul]
    omega
/-- a slice's things, cell by cell -/
theorem rd_row {t e : TypeId} {z fuel : Nat} {v : Value} {Z : Prop} (hu : P.underlying t = some (.slice e)) (hz : P.cellsOf e = z) (h0 : 0 < z) (hb : 1 ≤ P.bytesOf e) (h : RdS enc P W fuel t [v] Z) :
    ∃ ao len cap xs, v = .slice ao len cap ∧ len ≤ cap ∧ cap ≤ 9223372036854775807 ∧ (Z → len ≤ 140737488355328) ∧ (ao = none → len = 0 ∧ cap = 0) ∧ xs.length = len * z ∧
      (len = 0 ∨ ∃ b off, ao = some ⟨b, off, none⟩ ∧ ∀ (j : Nat) (u : Value), xs[j]? = some u → W.cell? ⟨b, off + j, none⟩ = some u) ∧ ∀ i, i < len → (pc xs i z).length = z ∧ ∃ m, m < fuel ∧ RdS enc P W m e (pc xs i z) Z := by
  obtain ⟨x, h, hs⟩ := h
  rcases DataW.trod_slice hu h with ⟨e4, _⟩ | ⟨a, len, cap, elems, rest, n', hn, e4, e5, _, hlc, hcm, hel, hcell, _, _⟩
  · simp at e4
    subst e4
    exact ⟨none, 0, 0, [], rfl, Nat.le_refl _, by omega, fun _ => by omega, fun _ => ⟨rfl, rfl⟩, by simp, .inl rfl, fun i hi => by omega⟩
  · simp at e4
    subst e4
    unfold maxLen at hcm
    rw [hz] at hcell
    have key : ∀ i, i < len → ∃ cs : List Value, cs.length = z ∧ W.cells? 0 (a.add (i * z)) z = some cs ∧ RdS enc P W n' e cs Z := by
      intro i hi
      have hc := hcell i hi
      obtain ⟨y, hy⟩ : ∃ y, elems[i]? = some y := ⟨elems[i]'(by omega), List.getElem?_eq_getElem (by omega)⟩
      rw [hy] at hc
      obtain ⟨cs, hcs, ht⟩ := Option.bind_eq_some_iff.1 hc
      refine ⟨cs, (World.cells?_some hcs).2.1, hcs, y, ht, fun hZ => ?_⟩
      have h1 := hs hZ
      rw [e5] at h1
      exact h1.elem hu (List.mem_map_of_mem (List.mem_of_getElem? hy))
    obtain ⟨l, hl, hall⟩ := list_choose len key
    have hlen : ∀ x ∈ l, x.length = z := fun x hx => by
      obtain ⟨i, hi⟩ := List.getElem?_of_mem hx
      exact (hall i x hi).1
    refine ⟨some a, len, cap, l.flatten, rfl, hlc, hcm, fun hZ => ?_, (fun e => by cases e), by rw [flat_len l hlen, hl], ?_, fun i hi => ?_⟩
    · have h1 := hs hZ
      rw [e5] at h1
      have h5 := h1.len hu
      rw [List.length_map, List.length_map] at h5
      have h7 := reachBytes_lt
      have h8 : (elems.length + rest.length) * 1 ≤ (elems.length + rest.length) * P.bytesOf e := Nat.mul_le_mul_left _ hb
      omega
    · rcases Nat.eq_zero_or_pos len with h00 | h00
      · exact .inl h00
      · right
        obtain ⟨b, o, rfl⟩ : ∃ b o, a = ⟨b, o, none⟩ := by
          obtain ⟨c0, hc0⟩ : ∃ c, l[0]? = some c := ⟨_, List.getElem?_eq_getElem (by omega)⟩
          obtain ⟨q1, q2, q3⟩ := hall 0 c0 hc0
          have g := (World.cells?_some q2).2.2 0 (by omega)
          obtain ⟨u, hu0⟩ : ∃ u, c0[0]? = some u := ⟨_, List.getElem?_eq_getElem (by omega)⟩
          rw [hu0] at g
          simp [Addr.add] at g
          exact addr_none g
        refine ⟨b, o, rfl, fun j u hj => ?_⟩
        have hjl := (List.getElem?_eq_some_iff.1 hj).1
        rw [flat_len l hlen, hl] at hjl
        have hdm : j = j / z * z + j % z := by rw [Nat.mul_comm]; exact (Nat.div_add_mod j z).symm
        have hi : j / z < len := by rw [Nat.div_lt_iff_lt_mul h0]; exact hjl
        have hm : j % z < z := Nat.mod_lt _ h0
        obtain ⟨c, hc⟩ : ∃ c, l[j / z]? = some c := ⟨_, List.getElem?_eq_getElem (by omega)⟩
        obtain ⟨q1, q2, q3⟩ := hall _ c hc
        have g := (World.cells?_some q2).2.2 (j % z) hm
        have hpc := pc_flat l _ c hlen hc
        have h9 : c[j % z]? = some u := by rw [← hpc, pc_at hm, ← hdm]; exact hj
        rw [h9] at g
        simp only [addr_add] at g
        rw [show o + j = o + j / z * z + j % z by rw [Nat.add_assoc, ← hdm]]
        exact g
    · obtain ⟨c, hc⟩ : ∃ c, l[i]? = some c := ⟨_, List.getElem?_eq_getElem (by omega)⟩
      obtain ⟨q1, q2, q3⟩ := hall i c hc
      rw [pc_flat l i c hlen hc]
      exact ⟨q1, n', by omega, q3⟩
/-- a row's things, each of a code of so many cells -/
theorem rows_code {α : Type} {code : α → List Value} {z n : Nat} {xs : List Value} {Q : Nat → α → Prop} (hl : xs.length = n * z) (h : ∀ i, i < n → ∃ a, pc xs i z = code a ∧ Q i a) :
    ∃ l : List α, l.length = n ∧ xs = l.flatMap code ∧ ∀ i a, l[i]? = some a → Q i a := by
  obtain ⟨l, h1, h2⟩ := list_choose (Q := fun i a => pc xs i z = code a ∧ Q i a) n h
  refine ⟨l, h1, ?_, fun i a hi => (h2 i a hi).2⟩
  have go : ∀ (l : List α) (xs : List Value), xs.length = l.length * z → (∀ i a, l[i]? = some a → pc xs i z = code a) → xs = l.flatMap code := by
    intro l
    induction l with
    | nil => intro xs hx _; simp at hx; simp [hx]
    | cons a l ih =>
      intro xs hx hp
      have h0 := hp 0 a rfl
      unfold pc at h0
      rw [Nat.zero_mul, List.drop_zero] at h0
      have hx' : (xs.drop z).length = l.length * z := by rw [List.length_drop, hx, List.length_cons, Nat.add_mul]; omega
      have h3 := ih (xs.drop z) hx' fun i b hi => by
        have := hp (i + 1) b (by simpa using hi)
        unfold pc at this ⊢
        rw [List.drop_drop, show z + i * z = (i + 1) * z by rw [Nat.add_mul]; omega]
        exact this
      rw [List.flatMap_cons, ← h3, ← h0, List.take_append_drop]
  exact go l xs (by rw [h1]; exact hl) fun i a hi => (h2 i a hi).1
theorem rd_int {n : Nat} {t : TypeId} {k : IntKind} {u : Value} {Z : Prop} (hu : P.underlying t = some (.int k)) (h : RdS enc P W n t [u] Z) : ∃ a, u = .int k a ∧ (Lit.int k a).wf = true := by
  obtain ⟨x, h, -⟩ := h
  exact leaf_int hu h
theorem rd_bool {n : Nat} {t : TypeId} {u : Value} {Z : Prop} (hu : P.underlying t = some .bool) (h : RdS enc P W n t [u] Z) : ∃ a, u = .bool a := by
  obtain ⟨x, h, -⟩ := h
  exact leaf_bool hu h
theorem rd_str {n : Nat} {t : TypeId} {u : Value} {Z : Prop} (hu : P.underlying t = some .string) (h : RdS enc P W n t [u] Z) : ∃ a, u = .string a ∧ a.size ≤ 9223372036854775807 := by
  obtain ⟨x, h, -⟩ := h
  exact leaf_str hu h
theorem rd_slice {n : Nat} {t e : TypeId} {u : Value} {Z : Prop} (hu : P.underlying t = some (.slice e)) (h : RdS enc P W n t [u] Z) : ∃ ao len cap, u = .slice ao len cap := by
  obtain ⟨x, h, -⟩ := h
  exact leaf_slice hu h
end
end Go.Proofs.YtemgnljegbaobaaGreatDoor
