/- what can be read as data, leaf by leaf. No conditions. -/
/- terms as arguments: what can be read as data is a term in memory. -/
/- what the laws are handed: mail, turns, children, as terms whose rows lie in blocks that are there. No conditions. -/
/- what is too great: the law's guards tell some bool. Conditions: what is handed over reads. -/
/- a queue of mail: appended to, its first item taken. No conditions. -/
/- the law of taking, plain: what a unit's effects do to the law's state. No conditions. -/
/- what the listed variable gives the walks. -/
/- the law of acknowledging, plain: what a unit's effects do to the law's state. No conditions. -/
import Derived.Test.YtlmehfdaaommpaaDoorK
import Derived.ChangeArms
import Derived.DataReads
import Derived.Test.YtlmehfdaaommpaaDoorTx
import Derived.Test.YtlmehfdaaommpaaDoorMv3
import Derived.Test.YtlmehfdaaommpaaDoorMv4
import Derived.Test.YtlmehfdaaommpaaDoorTy
import Derived.Test.YtlmehfdaaommpaaDoorMv7
import Derived.Deep.Upon
import Derived.Test.YtlmehfdaaommpaaDoorMv9
import Derived.Test.YtlmehfdaaommpaaDoorAa
import Derived.Lib.LaidU8
import Derived.LaidMore
import Derived.ShutString
namespace Go.Proofs.YtlmehfdaaommpaaDoor
open Go.ChangeShapes Go.WideShapes Go.ChangeAt Go.RowKit
set_option linter.unusedVariables false
theorem list_choose {α : Type} {Q : Nat → α → Prop} : ∀ n : Nat, (∀ i, i < n → ∃ t, Q i t) → ∃ l : List α, l.length = n ∧ ∀ i t, l[i]? = some t → Q i t := by
  intro n
  induction n with
  | zero => intro _; exact ⟨[], rfl, by simp⟩
  | succ n ih =>
    intro h
    obtain ⟨l, h1, h2⟩ := ih fun i hi => h i (by omega)
    obtain ⟨t, ht⟩ := h n (by omega)
    refine ⟨l ++ [t], by simp [h1], fun i u hu => ?_⟩
    rcases Nat.lt_or_ge i n with hi | hi
    · exact h2 i u (by rw [List.getElem?_append_left (by omega)] at hu; exact hu)
    · have : i = n := by
        have := (List.getElem?_eq_some_iff.1 hu).1
        simp at this
        omega
      subst this
      rw [List.getElem?_append_right (by omega), h1] at hu
      simp at hu
      subst hu
      exact ht
theorem i8_bd {a : Int} (h : (Lit.int .i8 a).wf = true) : -128 ≤ a ∧ a ≤ 127 := by
  simp [Lit.wf, IntKind.min, IntKind.max, IntKind.signed, IntKind.bits] at h
  omega
theorem addr_none {w : World} {a : Addr} {v : Value} (h : w.cell? a = some v) : ∃ b o, a = ⟨b, o, none⟩ := by
  obtain ⟨b, o, sp⟩ := a
  have := World.cell?_spot h
  simp at this
  exact ⟨b, o, by rw [this]⟩
theorem addr_add (b o n : Nat) : (⟨b, o, none⟩ : Addr).add n = ⟨b, o + n, none⟩ := by
  unfold Addr.add
  split
  · rename_i h; rw [h]; rfl
  · rfl
def flatF (P : Program) (g : TypeId → Option (List TypeId)) : List Field → Nat → Option (List TypeId)
  | [], _ => some []
  | f :: fs, o => if f.offset = o then (g f.type).bind fun L => if L.length = P.cellsOf f.type then (flatF P g fs (o + L.length)).map (L ++ ·) else none else none
/-- a type's leaves, in order -/
def flat (P : Program) : Nat → TypeId → Option (List TypeId)
  | 0, _ => none
  | k + 1, t => match P.underlying t with
    | some (.struct fs) => (flatF P (flat P k) fs.toList 0).bind fun L => if L.length = P.cellsOf t then some L else none
    | some (.int _) => some [t]
    | some .bool => some [t]
    | some .string => some [t]
    | some (.slice _) => some [t]
    | _ => none
section
variable {H : Type} {enc : TypeId × Value → H} {P : Program} {W : World}
abbrev Rd (enc : TypeId × Value → H) (P : Program) (W : World) (n : Nat) (t : TypeId) (cs : List Value) (x : DataW H × List MemPlace) : Prop := DataW.trod enc P W 0 (fun _ => true) true n t cs = some x
theorem flat_trod : ∀ (k : Nat) (t : TypeId) (L : List TypeId) (fuel : Nat) (cs : List Value) (x : DataW H × List MemPlace), flat P k t = some L → Rd enc P W fuel t cs x →
    cs.length = L.length ∧ ∀ (i : Nat) (ty : TypeId), L[i]? = some ty → ∃ v n y, cs[i]? = some v ∧ n ≤ fuel ∧ Rd enc P W n ty [v] y := by
  intro k
  induction k with
  | zero => intro t L fuel cs x h; cases h
  | succ k ih =>
    intro t L fuel cs x h hx
    unfold flat at h
    have one : ∀ v, cs = [v] → L = [t] → cs.length = L.length ∧ ∀ (i : Nat) (ty : TypeId), L[i]? = some ty → ∃ v n y, cs[i]? = some v ∧ n ≤ fuel ∧ Rd enc P W n ty [v] y := by
      rintro v rfl rfl
      refine ⟨rfl, fun i ty hi => ?_⟩
      match i, hi with
      | 0, hi => simp at hi; subst hi; exact ⟨v, fuel, x, rfl, Nat.le_refl _, hx⟩
    split at h
    · rename_i fs hu
      obtain ⟨L', h1, h2⟩ := Option.bind_eq_some_iff.1 h
      split at h2
      · rename_i hlen
        obtain rfl := Option.some.inj h2
        obtain ⟨xs, n, hf, hxx, hcl, hxl, hall⟩ := DataW.trod_struct hu hx
        refine ⟨hcl.trans hlen.symm, ?_⟩
        have key : ∀ (fs' : List Field) (j o : Nat) (L1 : List TypeId), fs.toList.drop j = fs' → flatF P (flat P k) fs' o = some L1 → o + L1.length ≤ cs.length → ∀ (i : Nat) (ty : TypeId), L1[i]? = some ty → ∃ v m y, cs[o + i]? = some v ∧ m ≤ fuel ∧ Rd enc P W m ty [v] y := by
          intro fs'
          induction fs' with
          | nil => intro j o L1 _ h3 _ i ty hi; cases h3; simp at hi
          | cons f fs' ihf =>
            intro j o L1 hd h3 hle i ty hi
            rw [flatF] at h3
            split at h3
            · rename_i ho
              obtain ⟨La, h4, h5⟩ := Option.bind_eq_some_iff.1 h3
              split at h5
              · rename_i hla
                obtain ⟨Lb, h6, rfl⟩ := Option.map_eq_some_iff.1 h5
                rw [List.length_append] at hle
                have hfj : fs[j]? = some f := by
                  have : (fs.toList.drop j)[0]? = some f := by rw [hd]; rfl
                  simpa using this
                have hd' : fs.toList.drop (j + 1) = fs' := by
                  have := congrArg (List.drop 1) hd
                  simpa [List.drop_drop, Nat.add_comm] using this
                rcases Nat.lt_or_ge i La.length with hia | hia
                · rw [List.getElem?_append_left hia] at hi
                  have hjl : j < xs.length := by rw [hxl]; exact (Array.getElem?_eq_some_iff.1 hfj).1
                  have h7 := hall j f hfj
                  rw [List.getElem?_eq_getElem hjl] at h7
                  obtain ⟨_, h8⟩ := ih f.type La n _ _ h4 h7
                  obtain ⟨v, m, y, h9, h10, h11⟩ := h8 i ty hi
                  refine ⟨v, m, y, ?_, by omega, h11⟩
                  rw [List.getElem?_take, if_pos (by omega), List.getElem?_drop, ho] at h9
                  exact h9
                · rw [List.getElem?_append_right hia] at hi
                  obtain ⟨v, m, y, h9, h10, h11⟩ := ihf (j + 1) (o + La.length) Lb hd' h6 (by omega) (i - La.length) ty hi
                  exact ⟨v, m, y, by rw [← h9]; congr 1; omega, h10, h11⟩
              · cases h5
            · cases h3
        intro i ty hi
        have := key fs.toList 0 0 L' (by simp) h1 (by omega) i ty hi
        simpa using this
      · cases h2
    · rename_i ik hu
      obtain rfl := Option.some.inj h
      obtain ⟨m, e, _⟩ := DataW.trod_int hu hx
      exact one _ e rfl
    · rename_i hu
      obtain rfl := Option.some.inj h
      obtain ⟨m, e, _⟩ := DataW.trod_bool hu hx
      exact one _ e rfl
    · rename_i hu
      obtain rfl := Option.some.inj h
      obtain ⟨m, e, _⟩ := DataW.trod_string hu hx
      exact one _ e rfl
    · rename_i el hu
      obtain rfl := Option.some.inj h
      rcases DataW.trod_slice hu hx with ⟨e, _⟩ | ⟨a, len, cap, elems, rest, n', hn, e, _⟩
      · exact one _ e rfl
      · exact one _ e rfl
    · cases h
/-- a slice whose things have leaves -/
theorem elems_trod {k : Nat} {t e : TypeId} {L : List TypeId} {fuel : Nat} {v : Value} {x : DataW H × List MemPlace} (hu : P.underlying t = some (.slice e)) (hL : flat P k e = some L) (hc : P.cellsOf e = L.length) (h0 : 0 < L.length)
    (h : Rd enc P W fuel t [v] x) : ∃ ao len cap, v = .slice ao len cap ∧ len ≤ cap ∧ cap ≤ 9223372036854775807 ∧ (ao = none → len = 0 ∧ cap = 0) ∧
      ∀ (i : Nat), i < len → ∃ b off, ao = some ⟨b, off, none⟩ ∧ b < W.heap.size ∧ ∀ (j : Nat) (ty : TypeId), L[j]? = some ty → ∃ u n y, W.cell? ⟨b, off + i * L.length + j, none⟩ = some u ∧ n < fuel ∧ Rd enc P W n ty [u] y := by
  rcases DataW.trod_slice hu h with ⟨e4, _⟩ | ⟨a, len, cap, elems, rest, n', hn, e4, _, _, hlc, hcm, hel, hcell, _, _⟩
  · simp at e4
    subst e4
    exact ⟨none, 0, 0, rfl, Nat.le_refl _, by omega, fun _ => ⟨rfl, rfl⟩, fun i hi => by omega⟩
  · simp at e4
    subst e4
    unfold maxLen at hcm
    refine ⟨some a, len, cap, rfl, hlc, hcm, (fun h => by cases h), fun i hi => ?_⟩
    have hc' := hcell i hi
    rw [hc] at hc'
    obtain ⟨y, hy⟩ : ∃ y, elems[i]? = some y := ⟨elems[i]'(by omega), List.getElem?_eq_getElem (by omega)⟩
    rw [hy] at hc'
    obtain ⟨cs', hcs, ht⟩ := Option.bind_eq_some_iff.1 hc'
    obtain ⟨h1, h2⟩ := flat_trod k e L _ _ _ hL ht
    obtain ⟨_, _, hget⟩ := World.cells?_some hcs
    have ha : ∃ b o, a = ⟨b, o, none⟩ := by
      have h00 := hcell 0 (by omega)
      rw [hc] at h00
      obtain ⟨y', hy'⟩ : ∃ y, elems[0]? = some y := ⟨elems[0]'(by omega), List.getElem?_eq_getElem (by omega)⟩
      rw [hy'] at h00
      obtain ⟨cs0, hcs0, ht0⟩ := Option.bind_eq_some_iff.1 h00
      obtain ⟨h1', h2'⟩ := flat_trod k e L _ _ _ hL ht0
      obtain ⟨v0, n0, y0, hv0, _⟩ := h2' 0 _ (List.getElem?_eq_getElem h0)
      have g := (World.cells?_some hcs0).2.2 0 (by omega)
      rw [hv0] at g
      simp [Addr.add] at g
      exact addr_none g
    obtain ⟨b, o, rfl⟩ := ha
    refine ⟨b, o, rfl, ?_, fun j ty hj => ?_⟩
    · obtain ⟨v0, n0, y0, hv0, _⟩ := h2 0 _ (List.getElem?_eq_getElem h0)
      have g := hget 0 (by omega)
      simp only [addr_add] at g
      rw [hv0] at g
      exact World.block_lt_of_cell? W _ g
    · obtain ⟨u, n, y', h3, h4, h5⟩ := h2 j ty hj
      have hjl := (List.getElem?_eq_some_iff.1 hj).1
      have g := hget j hjl
      simp only [addr_add] at g
      rw [h3] at g
      exact ⟨u, n, y', g, by omega, h5⟩
theorem leaf_int {n : Nat} {t : TypeId} {k : IntKind} {u : Value} {y : DataW H × List MemPlace} (hu : P.underlying t = some (.int k)) (h : Rd enc P W n t [u] y) : ∃ a, u = .int k a ∧ (Lit.int k a).wf = true := by
  obtain ⟨a, e, _, hw⟩ := DataW.trod_int hu h
  simp at e
  exact ⟨a, e, hw⟩
theorem leaf_bool {n : Nat} {t : TypeId} {u : Value} {y : DataW H × List MemPlace} (hu : P.underlying t = some .bool) (h : Rd enc P W n t [u] y) : ∃ a, u = .bool a := by
  obtain ⟨a, e, _⟩ := DataW.trod_bool hu h
  simp at e
  exact ⟨a, e⟩
theorem leaf_str {n : Nat} {t : TypeId} {u : Value} {y : DataW H × List MemPlace} (hu : P.underlying t = some .string) (h : Rd enc P W n t [u] y) : ∃ a, u = .string a ∧ a.size ≤ 9223372036854775807 := by
  obtain ⟨a, e, _, hw⟩ := DataW.trod_string hu h
  simp at e
  unfold maxLen at hw
  exact ⟨a, e, by omega⟩
theorem leaf_slice {n : Nat} {t e : TypeId} {u : Value} {y : DataW H × List MemPlace} (hu : P.underlying t = some (.slice e)) (h : Rd enc P W n t [u] y) : ∃ ao len cap, u = .slice ao len cap := by
  rcases DataW.trod_slice hu h with ⟨e4, _⟩ | ⟨a, len, cap, elems, rest, n', hn, e4, _⟩
  · simp at e4; exact ⟨_, _, _, e4⟩
  · simp at e4; exact ⟨_, _, _, e4⟩
end
end Go.Proofs.YtlmehfdaaommpaaDoor
namespace Go.Proofs.YtlmehfdaaommpaaDoor
open Go.ChangeShapes Go.WideShapes Go.ChangeAt Go.RowKit
set_option linter.unusedVariables false
set_option maxRecDepth 100000
theorem tm_cells : Tryd.prog.cellsOf 25 = 5 := by kernel_rfl
theorem one_i8 : Tryd.prog.cellsOf 22 = 1 := by kernel_rfl
theorem one_i : Tryd.prog.cellsOf 3 = 1 := by kernel_rfl
theorem one_s : Tryd.prog.cellsOf 9 = 1 := by kernel_rfl
theorem one_lt : Tryd.prog.cellsOf 23 = 1 := by kernel_rfl
theorem tm_of_trod {H : Type} {enc : TypeId × Value → H} {W : World} : ∀ (fuel : Nat) (cs : List Value) (x : DataW H × List MemPlace), DataW.trod enc Tryd.prog W 0 (fun _ => true) true fuel 25 cs = some x →
    ∃ (t : Tm) (lv : Value), cs = [.int .i8 t.k, .int .i64 t.n, .string t.s, .string t.u, lv] ∧ fields t.k t.n t.s t.u ∧ Row fuel W lv t.l := by
  intro fuel
  induction fuel using Nat.strongRecOn with
  | ind fuel ih =>
    intro cs x h
    obtain ⟨xs, n, rfl, hx, hcl, hxl, hall⟩ := DataW.trod_struct Tryd.underlying25 h
    rw [tm_cells] at hcl
    obtain ⟨c0, c1, c2, c3, c4, rfl⟩ : ∃ c0 c1 c2 c3 c4, cs = [c0, c1, c2, c3, c4] := by
      match cs, hcl with
      | [c0, c1, c2, c3, c4], _ => exact ⟨c0, c1, c2, c3, c4, rfl⟩
    obtain ⟨y0, y1, y2, y3, y4, rfl⟩ : ∃ y0 y1 y2 y3 y4, xs = [y0, y1, y2, y3, y4] := by
      match xs, hxl with
      | [y0, y1, y2, y3, y4], _ => exact ⟨y0, y1, y2, y3, y4, rfl⟩
    have h0 : DataW.trod enc Tryd.prog W 0 (fun _ => true) true n 22 (([c0, c1, c2, c3, c4].drop 0).take (Tryd.prog.cellsOf 22)) = [y0, y1, y2, y3, y4][0]? := hall 0 _ rfl
    rw [one_i8] at h0
    have h1 : DataW.trod enc Tryd.prog W 0 (fun _ => true) true n 3 (([c0, c1, c2, c3, c4].drop 1).take (Tryd.prog.cellsOf 3)) = [y0, y1, y2, y3, y4][1]? := hall 1 _ rfl
    rw [one_i] at h1
    have h2 : DataW.trod enc Tryd.prog W 0 (fun _ => true) true n 9 (([c0, c1, c2, c3, c4].drop 2).take (Tryd.prog.cellsOf 9)) = [y0, y1, y2, y3, y4][2]? := hall 2 _ rfl
    rw [one_s] at h2
    have h3 : DataW.trod enc Tryd.prog W 0 (fun _ => true) true n 9 (([c0, c1, c2, c3, c4].drop 3).take (Tryd.prog.cellsOf 9)) = [y0, y1, y2, y3, y4][3]? := hall 3 _ rfl
    rw [one_s] at h3
    have h4 : DataW.trod enc Tryd.prog W 0 (fun _ => true) true n 23 (([c0, c1, c2, c3, c4].drop 4).take (Tryd.prog.cellsOf 23)) = [y0, y1, y2, y3, y4][4]? := hall 4 _ rfl
    rw [one_lt] at h4
    simp only [List.drop_zero, List.drop_succ_cons, List.take_succ_cons, List.take_zero] at h0 h1 h2 h3 h4
    obtain ⟨k, e0, _, w0⟩ := DataW.trod_int Tryd.underlying22 h0
    obtain ⟨m, e1, _, w1⟩ := DataW.trod_int Tryd.underlying3 h1
    obtain ⟨s, e2, _, w2⟩ := DataW.trod_string Tryd.underlying9 h2
    obtain ⟨u, e3, _, w3⟩ := DataW.trod_string Tryd.underlying9 h3
    simp at e0 e1 e2 e3
    subst e0 e1 e2 e3
    unfold maxLen at w2 w3
    have hf : fields k m s u := ⟨i8_bd w0, bd w1, by omega, by omega⟩
    rcases DataW.trod_slice Tryd.underlying23 h4 with ⟨e4, _⟩ | ⟨a, len, cap, elems, rest, n', hn, e4, _, _, hlc, hcm, hel, hcell, _, _⟩
    · simp at e4
      subst e4
      exact ⟨.mk k m s u [], _, rfl, hf, none, 0, rfl, Nat.le_refl _, by omega, by simp [Tm.l]⟩
    · simp at e4
      subst e4
      unfold maxLen at hcm
      subst hn
      have key : ∀ i, i < len → ∃ t : Tm, ∃ b o, a = ⟨b, o, none⟩ ∧ At (n' + 1) W b (o + i * 5) t := by
        intro i hi
        have hc := hcell i hi
        rw [tm_cells] at hc
        obtain ⟨y, hy⟩ : ∃ y, elems[i]? = some y := ⟨elems[i]'(by omega), List.getElem?_eq_getElem (by omega)⟩
        rw [hy] at hc
        obtain ⟨cs', hcs, ht⟩ := Option.bind_eq_some_iff.1 hc
        obtain ⟨t, lv, rfl, hf', hr'⟩ := ih n' (by omega) cs' y ht
        obtain ⟨_, _, hget⟩ := World.cells?_some hcs
        have g0 := hget 0 (by omega)
        have g1 := hget 1 (by omega)
        have g2 := hget 2 (by omega)
        have g3 := hget 3 (by omega)
        have g4 := hget 4 (by omega)
        obtain ⟨b, o, rfl⟩ : ∃ b o, a = ⟨b, o, none⟩ := by
          have h00 := hcell 0 (by omega)
          rw [tm_cells] at h00
          obtain ⟨y', hy'⟩ : ∃ y, elems[0]? = some y := ⟨elems[0]'(by omega), List.getElem?_eq_getElem (by omega)⟩
          rw [hy'] at h00
          obtain ⟨cs0, hcs0, ht0⟩ := Option.bind_eq_some_iff.1 h00
          obtain ⟨t0, lv0, rfl, _, _⟩ := ih n' (by omega) cs0 y' ht0
          have g := (World.cells?_some hcs0).2.2 0 (by omega)
          simp [Addr.add] at g
          exact addr_none g
        refine ⟨t, b, o, rfl, ?_⟩
        simp only [addr_add] at g0 g1 g2 g3 g4
        obtain ⟨k', m', s', u', l'⟩ := t
        exact At.shut hf' ⟨by simpa [Tm.k] using g0, by simpa [Tm.n] using g1, by simpa [Tm.s] using g2, by simpa [Tm.u] using g3, by simpa using g4⟩ hr'
      obtain ⟨l, hl1, hl2⟩ := list_choose len key
      exact ⟨.mk k m s u l, _, rfl, hf, some a, cap, by simp [Tm.l, hl1], by simp [Tm.l]; omega, by omega, fun i t hi => by
        obtain ⟨b, o, rfl, hat⟩ := hl2 i t hi
        exact ⟨b, o, rfl, hat.more⟩⟩
theorem At.le {f g : Nat} {w : World} {b o : Nat} {t : Tm} (h : At f w b o t) (hg : f ≤ g) : At g w b o t := by
  obtain ⟨d, rfl⟩ := Nat.le.dest hg
  clear hg
  induction d with
  | zero => exact h
  | succ d ih => exact ih.more
theorem Row.le {f g : Nat} {w : World} {v : Value} {l : List Tm} (h : Row f w v l) (hg : f ≤ g) : Row g w v l := by
  obtain ⟨ao, cap, h1, h2, h3, h4⟩ := h
  exact ⟨ao, cap, h1, h2, h3, fun i t hi => by
    obtain ⟨b, off, e, h5⟩ := h4 i t hi
    exact ⟨b, off, e, h5.le hg⟩⟩
theorem row_of_trod {H : Type} {enc : TypeId × Value → H} {W : World} {n : Nat} {v : Value} {y : DataW H × List MemPlace} (h : Rd enc Tryd.prog W n 23 [v] y) : ∃ l, Row n W v l := by
  rcases DataW.trod_slice Tryd.underlying23 h with ⟨e4, _⟩ | ⟨a, len, cap, elems, rest, n', hn, e4, _, _, hlc, hcm, hel, hcell, _, _⟩
  · simp at e4
    subst e4
    exact ⟨[], none, 0, rfl, Nat.le_refl _, by omega, by simp⟩
  · simp at e4
    subst e4
    unfold maxLen at hcm
    subst hn
    have key : ∀ i, i < len → ∃ t : Tm, ∃ b o, a = ⟨b, o, none⟩ ∧ At (n' + 1) W b (o + i * 5) t := by
      intro i hi
      have hc := hcell i hi
      rw [tm_cells] at hc
      obtain ⟨y, hy⟩ : ∃ y, elems[i]? = some y := ⟨elems[i]'(by omega), List.getElem?_eq_getElem (by omega)⟩
      rw [hy] at hc
      obtain ⟨cs', hcs, ht⟩ := Option.bind_eq_some_iff.1 hc
      obtain ⟨t, lv, rfl, hf', hr'⟩ := tm_of_trod n' cs' y ht
      obtain ⟨_, _, hget⟩ := World.cells?_some hcs
      have g0 := hget 0 (by omega)
      have g1 := hget 1 (by omega)
      have g2 := hget 2 (by omega)
      have g3 := hget 3 (by omega)
      have g4 := hget 4 (by omega)
      obtain ⟨b, o, rfl⟩ : ∃ b o, a = ⟨b, o, none⟩ := by
        have h00 := hcell 0 (by omega)
        rw [tm_cells] at h00
        obtain ⟨y', hy'⟩ : ∃ y, elems[0]? = some y := ⟨elems[0]'(by omega), List.getElem?_eq_getElem (by omega)⟩
        rw [hy'] at h00
        obtain ⟨cs0, hcs0, ht0⟩ := Option.bind_eq_some_iff.1 h00
        obtain ⟨t0, lv0, rfl, _, _⟩ := tm_of_trod n' cs0 y' ht0
        have g := (World.cells?_some hcs0).2.2 0 (by omega)
        simp [Addr.add] at g
        exact addr_none g
      refine ⟨t, b, o, rfl, ?_⟩
      simp only [addr_add] at g0 g1 g2 g3 g4
      obtain ⟨k', m', s', u', l'⟩ := t
      exact At.shut hf' ⟨by simpa [Tm.k] using g0, by simpa [Tm.n] using g1, by simpa [Tm.s] using g2, by simpa [Tm.u] using g3, by simpa using g4⟩ hr'
    obtain ⟨l, hl1, hl2⟩ := list_choose len key
    exact ⟨l, some a, cap, by simp [hl1], by omega, by omega, fun i t hi => by
      obtain ⟨b, o, rfl, hat⟩ := hl2 i t hi
      exact ⟨b, o, rfl, hat⟩⟩
theorem term_of_trod {H : Type} {enc : TypeId × Value → H} {W : World} {base : Nat} {v0 : Value} {d0 : DataW H} {p0 : List MemPlace} (hv0 : Value.okWide Tryd.prog W .any base 25 v0) (h0 : DataW.Trod enc Tryd.prog W 0 (fun _ => true) true 25 v0 d0 p0) : ∃ f t, TermV f W v0 t := by
  obtain ⟨cs, rfl, hsz⟩ := okWide_struct Tryd.underlying25 hv0
  obtain ⟨fuel, hf⟩ := h0
  obtain ⟨t, lv, e, h1, h2⟩ := tm_of_trod fuel _ _ hf
  refine ⟨fuel, t, h1, lv, ?_, h2⟩
  obtain ⟨l⟩ := cs
  simp [Value.cells] at e
  rw [e]
end Go.Proofs.YtlmehfdaaommpaaDoor
namespace Go.Proofs.YtlmehfdaaommpaaDoor
open Go.ChangeShapes Go.WideShapes Go.ChangeAt Go.RowKit
set_option linter.unusedVariables false
set_option linter.unusedSimpArgs false
set_option maxRecDepth 100000
/-- the blocks that are not there yet -/
abbrev M0 (W : World) : Nat → Prop := fun k => W.heap.size ≤ k
theorem te_of {W : World} {n : Nat} {k m : Int} {s u : ByteArray} {lv : Value} {l : List Tm} (hf : fields k m s u) (h : Row n W lv l) : ∃ x : TE, x.k = k ∧ x.n = m ∧ x.s = s ∧ x.u = u ∧ x.lv = lv ∧ TeOk (M0 W) W x := by
  obtain ⟨ao, cap, e, h2, h3, h4⟩ := h.toS
  refine ⟨⟨k, m, s, u, ao, cap, l⟩, rfl, rfl, rfl, rfl, e.symm, hf, n, ao, cap, rfl, h2, h3, fun i t hi => ?_⟩
  obtain ⟨b', off, e', h⟩ := h4 i t hi
  exact ⟨b', off, e', h.chg (Chg.refl (fun _ => False) W) (fun _ _ _ h => h) (fun k hk hl => Nat.not_le_of_lt hk) (Nat.le_refl _)⟩
/-- mail that reads -/
structure ItsOk (M : Nat → Prop) (W : World) (v : Value) (L : List It) : Prop where
  form : ∃ ao cap, v = .slice ao L.length cap ∧ L.length ≤ cap ∧ cap ≤ 9223372036854775807 ∧ (ao = none → cap = 0) ∧ ∀ i x, L[i]? = some x → ∃ b off, ao = some ⟨b, off, none⟩ ∧ ItAt W b (off + i * 6) x ∧ ¬ M b
  te : ∀ x ∈ L, TeOk M W x.x
theorem ItsOk.chg {M M' T : Nat → Prop} {w w' : World} {v : Value} {L : List It} (h : ItsOk M w v L) (hc : Chg T w w') (hT : ∀ k, T k → k < w.heap.size → M k) (hM : ∀ k, M' k → k < w.heap.size → M k) : ItsOk M' w' v L := by
  obtain ⟨⟨ao, cap, h1, h2, h3, h30, h4⟩, h5⟩ := h
  refine ⟨⟨ao, cap, h1, h2, h3, h30, fun i x hi => ?_⟩, fun x hx => (h5 x hx).chg hc hT hM⟩
  obtain ⟨b, off, e, ha, hb⟩ := h4 i x hi
  have hlt : b < w.heap.size := World.block_lt_of_cell? w _ ha.c0
  have ht : ¬ T b := fun h => hb (hT b h hlt)
  exact ⟨b, off, e, ⟨hc.cell ha.c0 ht, hc.cell ha.c1 ht, hc.cell ha.c2 ht, hc.cell ha.c3 ht, hc.cell ha.c4 ht, hc.cell ha.c5 ht⟩, fun h => hb (hM b h hlt)⟩
theorem ItsOk.keep {M : Nat → Prop} {w w' : World} {v : Value} {L : List It} (h : ItsOk M w v L) (hb : Below w.heap.size w w') : ItsOk M w' v L := h.chg (chg_of_below hb (fun _ => False)) (fun _ h => h.elim) (fun _ h _ => h)
theorem ItsOk.ml {M : Nat → Prop} {w : World} {v : Value} {L : List It} (h : ItsOk M w v L) : MlOk M w v L := by
  obtain ⟨⟨ao, cap, h1, h2, h3, h30, h4⟩, h5⟩ := h
  refine ⟨ao, cap, h1, h2, h3, fun x hx => ?_⟩
  have hx0 : L[0]? = some x := by rw [← List.head?_eq_getElem?]; exact hx
  obtain ⟨b, off, e, ha, hb⟩ := h4 0 x hx0
  exact ⟨h5 x (List.mem_of_getElem? hx0), b, off, e, by rw [Nat.zero_mul, Nat.add_zero] at ha; exact ha⟩
/-- a turn -/
structure Tn where
  mv : Value
  ml : List It
  byN : Int
  cls : Int
  got : TE
structure TnAt (W : World) (b o : Nat) (t : Tn) : Prop where
  c0 : W.cell? ⟨b, o, none⟩ = some t.mv
  c1 : W.cell? ⟨b, o + 1, none⟩ = some (.int .i64 t.byN)
  c2 : W.cell? ⟨b, o + 2, none⟩ = some (.int .i8 t.cls)
  c3 : W.cell? ⟨b, o + 3, none⟩ = some (.int .i8 t.got.k)
  c4 : W.cell? ⟨b, o + 4, none⟩ = some (.int .i64 t.got.n)
  c5 : W.cell? ⟨b, o + 5, none⟩ = some (.string t.got.s)
  c6 : W.cell? ⟨b, o + 6, none⟩ = some (.string t.got.u)
  c7 : W.cell? ⟨b, o + 7, none⟩ = some t.got.lv
structure TnsOk (W : World) (v : Value) (L : List Tn) : Prop where
  form : ∃ ao cap, v = .slice ao L.length cap ∧ L.length ≤ cap ∧ cap ≤ 9223372036854775807 ∧ ∀ i x, L[i]? = some x → ∃ b off, ao = some ⟨b, off, none⟩ ∧ TnAt W b (off + i * 8) x
  ml : ∀ x ∈ L, ItsOk (M0 W) W x.mv x.ml
  got : ∀ x ∈ L, TeOk (M0 W) W x.got
def itL : List TypeId := [22, 3, 9, 9, 23, 4]
def tnL : List TypeId := [46, 3, 22, 22, 3, 9, 9, 23]
def chL : List TypeId := [22, 3, 9, 9, 23, 22, 22, 3, 9, 9, 23, 26]
theorem flat_IT : flat Tryd.prog 4 61 = some itL := by kernel_rfl
theorem cells_IT : Tryd.prog.cellsOf 61 = 6 := by kernel_rfl
theorem flat_TN : flat Tryd.prog 4 48 = some tnL := by kernel_rfl
theorem cells_TN : Tryd.prog.cellsOf 48 = 8 := by kernel_rfl
theorem flat_CH : flat Tryd.prog 4 28 = some chL := by kernel_rfl
section
variable {H : Type} {enc : TypeId × Value → H} {W : World}
theorem its_of {n : Nat} {v : Value} {y : DataW H × List MemPlace} (h : Rd enc Tryd.prog W n 46 [v] y) : ∃ L, ItsOk (M0 W) W v L := by
  obtain ⟨ao, len, cap, rfl, h1, h2, h3, h4⟩ := elems_trod (k := 4) (L := itL) Tryd.underlying46 flat_IT cells_IT (by decide) h
  obtain ⟨L, rfl, hL⟩ := list_choose (Q := fun i (x : It) => (∃ b off, ao = some ⟨b, off, none⟩ ∧ ItAt W b (off + i * 6) x ∧ ¬ M0 W b) ∧ TeOk (M0 W) W x.x) len (fun i hi => by
    obtain ⟨b, off, e, hb, hj⟩ := h4 i hi
    obtain ⟨u0, n0, y0, c0, -, r0⟩ := hj 0 _ rfl
    obtain ⟨u1, n1, y1, c1, -, r1⟩ := hj 1 _ rfl
    obtain ⟨u2, n2, y2, c2, -, r2⟩ := hj 2 _ rfl
    obtain ⟨u3, n3, y3, c3, -, r3⟩ := hj 3 _ rfl
    obtain ⟨u4, n4, y4, c4, l4, r4⟩ := hj 4 _ rfl
    obtain ⟨u5, n5, y5, c5, -, r5⟩ := hj 5 _ rfl
    obtain ⟨a0, rfl, w0⟩ := leaf_int Tryd.underlying22 r0
    obtain ⟨a1, rfl, w1⟩ := leaf_int Tryd.underlying3 r1
    obtain ⟨a2, rfl, w2⟩ := leaf_str Tryd.underlying9 r2
    obtain ⟨a3, rfl, w3⟩ := leaf_str Tryd.underlying9 r3
    obtain ⟨l, hl⟩ := row_of_trod r4
    obtain ⟨a5, rfl⟩ := leaf_bool Tryd.underlying4 r5
    obtain ⟨x, e0, e1, e2, e3, e4, hx⟩ := te_of ⟨i8_bd w0, bd w1, w2, w3⟩ hl
    subst e0 e1 e2 e3 e4
    exact ⟨⟨x, a5⟩, ⟨b, off, e, ⟨c0, c1, c2, c3, c4, c5⟩, Nat.not_le_of_lt hb⟩, hx⟩)
  refine ⟨L, ⟨ao, cap, rfl, h1, h2, fun e => (h3 e).2, fun i x hi => (hL i x hi).1⟩, fun x hx => ?_⟩
  obtain ⟨i, hi⟩ := List.getElem?_of_mem hx
  exact (hL i x hi).2
theorem tns_of {n : Nat} {v : Value} {y : DataW H × List MemPlace} (h : Rd enc Tryd.prog W n 29 [v] y) : ∃ L, TnsOk W v L := by
  obtain ⟨ao, len, cap, rfl, h1, h2, h3, h4⟩ := elems_trod (k := 4) (L := tnL) Tryd.underlying29 flat_TN cells_TN (by decide) h
  obtain ⟨L, rfl, hL⟩ := list_choose (Q := fun i (x : Tn) => (∃ b off, ao = some ⟨b, off, none⟩ ∧ TnAt W b (off + i * 8) x) ∧ ItsOk (M0 W) W x.mv x.ml ∧ TeOk (M0 W) W x.got) len (fun i hi => by
    obtain ⟨b, off, e, hb, hj⟩ := h4 i hi
    obtain ⟨u0, n0, y0, c0, -, r0⟩ := hj 0 _ rfl
    obtain ⟨u1, n1, y1, c1, -, r1⟩ := hj 1 _ rfl
    obtain ⟨u2, n2, y2, c2, -, r2⟩ := hj 2 _ rfl
    obtain ⟨u3, n3, y3, c3, -, r3⟩ := hj 3 _ rfl
    obtain ⟨u4, n4, y4, c4, -, r4⟩ := hj 4 _ rfl
    obtain ⟨u5, n5, y5, c5, -, r5⟩ := hj 5 _ rfl
    obtain ⟨u6, n6, y6, c6, -, r6⟩ := hj 6 _ rfl
    obtain ⟨u7, n7, y7, c7, -, r7⟩ := hj 7 _ rfl
    obtain ⟨ml, hml⟩ := its_of r0
    obtain ⟨a1, rfl, w1⟩ := leaf_int Tryd.underlying3 r1
    obtain ⟨a2, rfl, w2⟩ := leaf_int Tryd.underlying22 r2
    obtain ⟨a3, rfl, w3⟩ := leaf_int Tryd.underlying22 r3
    obtain ⟨a4, rfl, w4⟩ := leaf_int Tryd.underlying3 r4
    obtain ⟨a5, rfl, w5⟩ := leaf_str Tryd.underlying9 r5
    obtain ⟨a6, rfl, w6⟩ := leaf_str Tryd.underlying9 r6
    obtain ⟨l, hl⟩ := row_of_trod r7
    obtain ⟨x, e0, e1, e2, e3, e4, hx⟩ := te_of ⟨i8_bd w3, bd w4, w5, w6⟩ hl
    subst e0 e1 e2 e3 e4
    exact ⟨⟨u0, ml, a1, a2, x⟩, ⟨b, off, e, ⟨c0, c1, c2, c3, c4, c5, c6, c7⟩⟩, hml, hx⟩)
  refine ⟨L, ⟨ao, cap, rfl, h1, h2, fun i x hi => (hL i x hi).1⟩, fun x hx => ?_, fun x hx => ?_⟩
  · obtain ⟨i, hi⟩ := List.getElem?_of_mem hx
    exact (hL i x hi).2.1
  · obtain ⟨i, hi⟩ := List.getElem?_of_mem hx
    exact (hL i x hi).2.2
theorem tes_of {n : Nat} {v : Value} {y : DataW H × List MemPlace} (h : Rd enc Tryd.prog W n 23 [v] y) : ∃ E, TesOk (M0 W) W v E := by
  obtain ⟨l, hl⟩ := row_of_trod h
  obtain ⟨E, -, hE⟩ := TesOk.of_row (M := M0 W) (hl.toS.chg (S' := Av (M0 W)) (Chg.refl (fun _ => False) W) (fun _ _ _ h => h) (fun k hk hl => Nat.not_le_of_lt hk) (Nat.le_refl _))
  exact ⟨E, hE⟩
theorem child_of {base : Nat} {v0 : Value} {d0 : DataW H} {p0 : List MemPlace} (hv0 : Value.okWide Tryd.prog W .any base 28 v0) (h0 : DataW.Trod enc Tryd.prog W 0 (fun _ => true) true 28 v0 d0 p0) :
    ∃ (c : Ch) (EA : List TE), v0 = .agg c.cells.toArray ∧ TesOk (M0 W) W c.ar EA ∧ c.m.size ≤ 9223372036854775807 := by
  obtain ⟨cs, rfl, hsz⟩ := okWide_struct Tryd.underlying28 hv0
  obtain ⟨fuel, hf⟩ := h0
  obtain ⟨h1, hj⟩ := flat_trod 4 28 chL _ _ _ flat_CH hf
  obtain ⟨u0, n0, y0, c0, -, r0⟩ := hj 0 _ rfl
  obtain ⟨u1, n1, y1, c1, -, r1⟩ := hj 1 _ rfl
  obtain ⟨u2, n2, y2, c2, -, r2⟩ := hj 2 _ rfl
  obtain ⟨u3, n3, y3, c3, -, r3⟩ := hj 3 _ rfl
  obtain ⟨u4, n4, y4, c4, -, r4⟩ := hj 4 _ rfl
  obtain ⟨u5, n5, y5, c5, -, r5⟩ := hj 5 _ rfl
  obtain ⟨u6, n6, y6, c6, -, r6⟩ := hj 6 _ rfl
  obtain ⟨u7, n7, y7, c7, -, r7⟩ := hj 7 _ rfl
  obtain ⟨u8, n8, y8, c8, -, r8⟩ := hj 8 _ rfl
  obtain ⟨u9, n9, y9, c9, -, r9⟩ := hj 9 _ rfl
  obtain ⟨u10, n10, y10, c10, -, r10⟩ := hj 10 _ rfl
  obtain ⟨u11, n11, y11, c11, -, r11⟩ := hj 11 _ rfl
  obtain ⟨a0, rfl, w0⟩ := leaf_int Tryd.underlying22 r0
  obtain ⟨a1, rfl, w1⟩ := leaf_int Tryd.underlying3 r1
  obtain ⟨a2, rfl, w2⟩ := leaf_str Tryd.underlying9 r2
  obtain ⟨a3, rfl, w3⟩ := leaf_str Tryd.underlying9 r3
  obtain ⟨l, hl⟩ := row_of_trod r4
  obtain ⟨x, e0, e1, e2, e3, e4, hx⟩ := te_of ⟨i8_bd w0, bd w1, w2, w3⟩ hl
  obtain ⟨a5, rfl, w5⟩ := leaf_int Tryd.underlying22 r5
  obtain ⟨a6, rfl, w6⟩ := leaf_int Tryd.underlying22 r6
  obtain ⟨a7, rfl, w7⟩ := leaf_int Tryd.underlying3 r7
  obtain ⟨a8, rfl, w8⟩ := leaf_str Tryd.underlying9 r8
  obtain ⟨a9, rfl, w9⟩ := leaf_str Tryd.underlying9 r9
  obtain ⟨E, hE⟩ := tes_of r10
  obtain ⟨ao, ac, e10, -⟩ := hE.slice
  obtain ⟨so, sn, sc, rfl⟩ := leaf_slice Tryd.underlying26 r11
  subst e0 e1 e2 e3 e4 e10
  refine ⟨⟨x, a5, a6, a7, a8, a9, ao, E.length, ac, so, sn, sc⟩, E, ?_, hE, w8⟩
  obtain ⟨cs⟩ := cs
  simp only [Value.cells] at h1 c0 c1 c2 c3 c4 c5 c6 c7 c8 c9 c10 c11
  match cs, h1, c0, c1, c2, c3, c4, c5, c6, c7, c8, c9, c10, c11 with
  | [e0, e1, e2, e3, e4, e5, e6, e7, e8, e9, e10, e11], _, c0, c1, c2, c3, c4, c5, c6, c7, c8, c9, c10, c11 =>
    simp at c0 c1 c2 c3 c4 c5 c6 c7 c8 c9 c10 c11
    subst c0 c1 c2 c3 c4 c5 c6 c7 c8 c9 c10 c11
    rfl
theorem turns_of {v0 : Value} {d0 : DataW H} {p0 : List MemPlace} {base : Nat} (hv0 : Value.okWide Tryd.prog W .any base 29 v0) (h0 : DataW.Trod enc Tryd.prog W 0 (fun _ => true) true 29 v0 d0 p0) : ∃ L, TnsOk W v0 L := by
  obtain ⟨_, _, _, rfl⟩ := okWide_slice Tryd.underlying29 hv0
  obtain ⟨fuel, hf⟩ := h0
  exact tns_of hf
end
end Go.Proofs.YtlmehfdaaommpaaDoor
namespace Go.Proofs.YtlmehfdaaommpaaDoor
open Go.ChangeShapes Go.WideShapes Go.ChangeAt Go.RowKit
set_option linter.unusedVariables false
set_option linter.unusedSimpArgs false
set_option maxRecDepth 100000
/-- some bool -/
def SomeB (w : World) (e : Ending) (w' : World) : Prop := ∃ b, e = .returned (.bool b) ∧ Below w.heap.size w w'
set_option maxHeartbeats 8000000 in
theorem galls_any (M : Nat → Prop) (w : World) (v : Value) (E : List TE) (h : TesOk M w v E) : Calls Tryd.prog 5 #[v] w (SomeB w) := by
  obtain ⟨ao, c, rfl, hc1, hc2⟩ := h.slice
  have HR := Lib.hid h
  clear h
  have hlen : E.length ≤ 9223372036854775807 := by omega
  generalize hn : E.length = n at *
  have HN := Lib.hid hn
  clear hn
  go_enter Tryd.func5, Tryd.ntmps5
  go_wp2_with fail
  go_loopw [3, 4] (fun nv iv wr => ∃ (i : Nat) (m : Int), i ≤ n ∧ iv = .int .i64 i ∧ nv = .int .i64 m ∧ 0 ≤ m ∧ m ≤ 9223372036854775807 ∧ Hid (Below w.heap.size w wr)) (fun _ iv _ => n - (intOf iv).toNat)
  case atStart => exact ⟨0, n, by omega, rfl, rfl, by omega, by omega, Lib.hid (Below.refl _ _)⟩
  case round =>
    obtain ⟨i, m, hi, rfl, rfl, hn0, hn1, HI⟩ := hrel
    by_cases hlt : i < n
    · by_cases hbig : m < 4000
      · have hd : decide (m < 4000) = true := by simpa using hbig
        obtain ⟨x, hx⟩ : ∃ x, E[i]? = some x := ⟨E[i]'(by rw [HN.out]; exact hlt), List.getElem?_eq_getElem _⟩
        obtain ⟨b, off, cap, e, hxk, c0, c1, c2, c3, c4⟩ := (HR.out.keep HI.out).at hx
        rw [HN.out] at e
        injection e with e1 e2 e3
        subst e1 e3
        have hsz := siz_le x.t 4000 (by omega)
        have HCALL := Lib.hid (size_any _ x.t _ wr 4000 hxk.tv.choose_spec (by omega) (by omega))
        have hwr : IntKind.i64.wrap (m + siz x.t 4000) = m + siz x.t 4000 := IntWalk.i64_in _ (by omega)
        have e4 : x.lv = .slice x.ao x.l.length x.cap := rfl
        rw [e4] at c4
        clear hx hxk e4
        go_wp2_with fail
        refine HCALL.out.mono ?_
        rintro e w2 ⟨rfl, hb2⟩
        have HB2 := Lib.hid (HI.out.trans (hb2.mono HI.out.size))
        clear HCALL hb2 c0 c1 c2 c3 c4 HI
        go_wp2_with fail
        go_roundw
        case rel => exact ⟨i + 1, m + siz x.t 4000, by omega, by go_num, rfl, by omega, by omega, HB2⟩
        case measure => simp [intOf]; omega
      · have hd : decide (m < 4000) = false := by simpa using hbig
        go_wp2_with fail
        go_ret
        exact ⟨_, rfl, HI.out⟩
    · obtain rfl : i = n := by omega
      go_wp2_with fail
      go_ret
      exact ⟨_, rfl, HI.out⟩
set_option maxHeartbeats 8000000 in
theorem g17_any (M : Nat → Prop) (w : World) (v : Value) (L : List It) (h : ItsOk M w v L) : Calls Tryd.prog 8 #[v] w (SomeB w) := by
  obtain ⟨ao, cap, rfl, h1, h2, h30, h3⟩ := h.form
  have HR := Lib.hid h
  clear h h3 h30
  have hlen : L.length ≤ 9223372036854775807 := by omega
  generalize hn : L.length = n at *
  have HN := Lib.hid hn
  clear hn
  go_enter Tryd.func8, Tryd.ntmps8
  by_cases h200 : (200 : Int) < n
  · have hd : decide ((200 : Int) < n) = true := by simpa using h200
    go_wp2_with fail
    go_ret
    exact ⟨_, rfl, Below.refl _ _⟩
  · have hd : decide ((200 : Int) < n) = false := by simpa using h200
    go_wp2_with fail
    go_loopw [3] (fun iv wr => ∃ i : Nat, i ≤ n ∧ iv = .int .i64 i ∧ Hid (Below w.heap.size w wr)) (fun iv _ => n - (intOf iv).toNat)
    case atStart => exact ⟨0, by omega, rfl, Lib.hid (Below.refl _ _)⟩
    case round =>
      obtain ⟨i, hi, rfl, HI⟩ := hrel
      by_cases hlt : i < n
      · obtain ⟨x, hx⟩ : ∃ x, L[i]? = some x := ⟨L[i]'(by rw [HN.out]; exact hlt), List.getElem?_eq_getElem _⟩
        have hk := HR.out.keep HI.out
        obtain ⟨ao', cap', e, -, -, -, hat⟩ := hk.form
        injection e with e1 e2 e3
        subst e1 e3
        obtain ⟨b, off, rfl, ha, -⟩ := hat i x hx
        have hxk := hk.te x (List.mem_of_getElem? hx)
        have HG := Lib.hid (great_any _ x.x.t _ wr hxk.tv.choose_spec)
        obtain ⟨c0, c1, c2, c3, c4, -⟩ := ha
        clear hx hxk hk hat e2
        go_wp2_with fail
        refine HG.out.mono ?_
        rintro e w2 ⟨rfl, hb2⟩
        have HB2 := Lib.hid (HI.out.trans (hb2.mono HI.out.size))
        clear HG hb2 c0 c1 c2 c3 c4 HI
        generalize greatB x.x.t = g at *
        cases g
        · go_wp2_with fail
          go_roundw
          case rel => exact ⟨i + 1, by omega, by go_num, HB2⟩
          case measure => simp [intOf]; omega
        · go_wp2_with fail
          go_ret
          exact ⟨_, rfl, HB2.out⟩
      · obtain rfl : i = n := by omega
        go_wp2_with fail
        go_ret
        exact ⟨_, rfl, HI.out⟩
end Go.Proofs.YtlmehfdaaommpaaDoor
namespace Go.Proofs.YtlmehfdaaommpaaDoor
open Go.ChangeShapes Go.WideShapes Go.ChangeAt Go.RowKit
set_option linter.unusedVariables false
set_option linter.unusedSimpArgs false
set_option maxRecDepth 100000
section
variable {P : Program}
/-- an append onto a slice that came keeps the tape -/
theorem append_tape {W : World} {e : TypeId} {size : Nat} {ao : Option Addr} {b off len cap : Nat} {olds : List Value} (hc : Came W size ao b off len cap olds)
    (t tx ty : TypeId) (i : TypeInfo) (z : Value) (bytes : Nat) (ht : P.underlying t = some (.slice e)) (hi : P.info? e = some i) (hz : i.zero = some z) (hsize : i.size = size) (hby : i.bytes = bytes) (hzs : z.cells.size = size)
    (x : Value) (n : Nat) (news : List Value) (hs : Src P size tx x n news W) (h63 : len + n ≤ maxLen) (hbytes : (len + n) * bytes ≤ 140737488355328) :
    ∃ v' w', (Builtin.append_ #[t, tx] ty #[.slice ao len cap, x]).run P W = .ok v' w' ∧ Upon W e size ao b off len cap olds w' v' n news (Upon.next len cap size 0 0 n) ∧ w'.tape = W.tape := by
  obtain ⟨v', w', hrun, hup⟩ := run_append_upon (P := P) hc t tx ty i z bytes ht hi hz hsize hby hzs (Upon.start (e := e) hc) x n news hs (by simpa using h63) (by simpa using hbytes)
  rw [Nat.zero_add, List.nil_append] at hup
  refine ⟨v', w', hrun, hup, ?_⟩
  subst hsize hby
  by_cases hfit : len + n ≤ cap
  · rcases Nat.eq_zero_or_pos cap with h0 | hcap
    · subst h0
      obtain rfl : n = 0 := by omega
      obtain rfl : news = [] := List.eq_nil_of_length_eq_zero (by simpa using hs.newsLen)
      rw [run_append_nothing (P := P) W t tx ty e i ht hi ao len 0 (by omega) x hs] at hrun
      injection hrun with _ hw
      rw [← hw]
    · have hao := hc.addr hcap
      subst hao
      have hnl := hs.newsLen
      have hin : ∀ j, j < news.length → j < (cap - len) * i.size := fun j hj => Nat.lt_of_lt_of_le hj (by rw [hnl]; exact Nat.mul_le_mul_right _ (by omega))
      rw [run_append_room_src (P := P) W t tx ty e i ht hi b off len cap x n news hs hfit (fun j hj => (hc.spare j (hin j hj)).1) (fun j hj => (hc.spare j (hin j hj)).2)] at hrun
      injection hrun with _ hw
      rw [← hw]
      exact (chg_cells news b (off + len * i.size) W).tape
  · have hold : (Builtin.firstCells i.size len (.slice ao len cap)).run P W.drew = .ok olds.toArray W.drew := by
      rcases Nat.eq_zero_or_pos cap with h0 | hcap
      · have hle := hc.le
        have hol := hc.oldsLen
        subst h0
        obtain rfl : len = 0 := by omega
        obtain rfl : olds = [] := List.eq_nil_of_length_eq_zero (by simpa using hol)
        cases ao with
        | none => exact run_firstCells_none W.drew i.size 0 0 0
        | some a' => exact run_firstCells_some W.drew i.size 0 a' 0 0 [] (by simp) (by intro _ _ h'; simp at h')
      · rw [hc.addr hcap]
        refine run_firstCells_some W.drew i.size len ⟨b, off, none⟩ len cap olds hc.oldsLen (fun j u hu => ?_)
        rw [Addr.add_lit]
        exact hc.olds j u hu
    have h63' : len + n ≤ 9223372036854775807 := by simpa [maxLen] using h63
    rw [run_append_grow_src (P := P) W t tx ty e i z ht hi hz ao len cap olds hold x n news hs (by omega) (by omega) (growslice_fits (by omega) hbytes)] at hrun
    injection hrun with _ hw
    rw [← hw]
    rfl
end
/-- the blocks that a law's loop may write: the frame's box, the queue's row -/
abbrev Mq (q mb : Nat) : Nat → Prop := fun k => k = q ∨ k = mb
def itsC (L : List It) : List Value := L.flatMap It.cells
theorem itsC_len (L : List It) : (itsC L).length = L.length * 6 := by
  induction L with
  | nil => rfl
  | cons x L ih =>
    have e : itsC (x :: L) = x.cells ++ itsC L := rfl
    rw [e, List.length_append, ih, List.length_cons]
    show 6 + _ = _
    omega
theorem itsC_at : ∀ (L : List It) (i j : Nat) (x : It), L[i]? = some x → j < 6 → (itsC L)[i * 6 + j]? = x.cells[j]?
  | [], i, j, x, h, hj => by simp at h
  | y :: L, 0, j, x, h, hj => by
    simp at h
    subst h
    have e : itsC (y :: L) = y.cells ++ itsC L := rfl
    rw [e, Nat.zero_mul, Nat.zero_add, List.getElem?_append_left (by show j < 6; omega)]
  | y :: L, i + 1, j, x, h, hj => by
    have e : itsC (y :: L) = y.cells ++ itsC L := rfl
    have h' : L[i]? = some x := by simpa using h
    rw [e, List.getElem?_append_right (by show 6 ≤ _; omega), show (i + 1) * 6 + j - y.cells.length = i * 6 + j by show (i + 1) * 6 + j - 6 = _; omega]
    exact itsC_at L i j x h' hj
/-- the queue -/
structure MqOk (q B : Nat) (w : World) (ao : Option Addr) (n cap mb : Nat) (L : List It) : Prop where
  hn : L.length = n
  came : ∃ off, Came w 6 ao mb off n cap (itsC L)
  max : cap ≤ 9223372036854775807
  te : ∀ x ∈ L, TeOk (Mq q mb) w x.x
  hmb : B ≤ mb
section
variable {q B : Nat} {w w' : World} {ao : Option Addr} {n cap mb : Nat} {L : List It}
theorem MqOk.start (q : Nat) {B : Nat} (w : World) {mb : Nat} (h : B ≤ mb) : MqOk q B w none 0 0 mb [] :=
  ⟨rfl, ⟨0, ⟨Nat.le_refl _, fun h => by omega, fun h => by omega, rfl, fun j u hj => by simp [itsC] at hj, fun j hj => by omega⟩⟩, by omega, (fun x hx => by cases hx), h⟩
theorem came_keep {size b off len cap : Nat} {ao : Option Addr} {olds : List Value} (h : Came w size ao b off len cap olds) {S : Nat → Prop} (hc : Chg S w w') (hb : ¬ S b) : Came w' size ao b off len cap olds := by
  refine ⟨h.le, h.addr, fun hcap => Nat.lt_of_lt_of_le (h.lt hcap) hc.size, h.oldsLen, fun j u hj => hc.cell (h.olds j u hj) hb, fun j hj => ?_⟩
  obtain ⟨g1, g2⟩ := h.spare j hj
  have hcap : 0 < cap := by
    rcases Nat.eq_zero_or_pos cap with h0 | h0
    · subst h0
      simp at hj
    · exact h0
  have hblk := hc.block b (h.lt hcap) hb
  exact ⟨by rw [World.cell?_of_block (a := ⟨b, _, none⟩) hblk]; exact g1, by rw [World.frozen?_of_block (a := ⟨b, _, none⟩) hblk]; exact g2⟩
theorem MqOk.chg (h : MqOk q B w ao n cap mb L) {S : Nat → Prop} (hc : Chg S w w') (hS : ∀ k, S k → k < w.heap.size → k = q) (hq : q ≠ mb) : MqOk q B w' ao n cap mb L := by
  obtain ⟨off, hcm⟩ := h.came
  have hmS : ¬ S mb ∨ cap = 0 := by
    rcases Nat.eq_zero_or_pos cap with h0 | h0
    · exact .inr h0
    · exact .inl fun hs => hq (hS mb hs (hcm.lt h0)).symm
  refine ⟨h.hn, ⟨off, ?_⟩, h.max, fun x hx => (h.te x hx).chg hc (fun k hk hl => .inl (hS k hk hl)) (fun k hk _ => hk), h.hmb⟩
  rcases hmS with hm | h0
  · exact came_keep hcm hc hm
  · subst h0
    have hle := hcm.le
    have hn0 : n = 0 := by omega
    refine ⟨hcm.le, hcm.addr, fun h => by omega, hcm.oldsLen, fun j u hj => ?_, fun j hj => by simp at hj⟩
    have := (List.getElem?_eq_some_iff.1 hj).1
    rw [hcm.oldsLen, hn0] at this
    omega
theorem MqOk.keep (h : MqOk q B w ao n cap mb L) (hb : Below w.heap.size w w') (hq : q ≠ mb) : MqOk q B w' ao n cap mb L := h.chg (chg_of_below hb (fun _ => False)) (fun _ h => h.elim) hq
theorem MqOk.at (h : MqOk q B w ao n cap mb L) {i : Nat} {x : It} (hx : L[i]? = some x) : ∃ off, ao = some ⟨mb, off, none⟩ ∧ ItAt w mb (off + i * 6) x := by
  obtain ⟨off, hcm⟩ := h.came
  have hil := (List.getElem?_eq_some_iff.1 hx).1
  have hle := hcm.le
  have hn := h.hn
  have key : ∀ j u, j < 6 → x.cells[j]? = some u → w.cell? ⟨mb, off + i * 6 + j, none⟩ = some u := fun j u hj hu => by
    rw [Nat.add_assoc]
    exact hcm.olds _ _ (by rw [itsC_at L i j x hx hj]; exact hu)
  exact ⟨off, hcm.addr (by omega), key 0 _ (by decide) rfl, key 1 _ (by decide) rfl, key 2 _ (by decide) rfl, key 3 _ (by decide) rfl, key 4 _ (by decide) rfl, key 5 _ (by decide) rfl⟩
theorem MqOk.ml (h : MqOk q B w ao n cap mb L) : MlOk (Mq q mb) w (.slice ao n cap) L := by
  obtain ⟨off, hcm⟩ := h.came
  refine ⟨ao, cap, by rw [h.hn], by rw [h.hn]; exact hcm.le, h.max, fun x hx => ?_⟩
  have hx0 : L[0]? = some x := by rw [← List.head?_eq_getElem?]; exact hx
  obtain ⟨off', e, ha⟩ := h.at hx0
  exact ⟨h.te x (List.mem_of_getElem? hx0), mb, off', e, by rw [Nat.zero_mul, Nat.add_zero] at ha; exact ha⟩
/-- the first one is taken -/
theorem MqOk.tl {x : It} (h : MqOk q B w ao n cap mb (x :: L)) : ∃ off, ao = some ⟨mb, off, none⟩ ∧ 1 ≤ n ∧ n ≤ cap ∧ MqOk q B w (if cap = 1 then some ⟨mb, off, none⟩ else some ⟨mb, off + 6, none⟩) (n - 1) (cap - 1) mb L := by
  obtain ⟨off, hcm⟩ := h.came
  have hle := hcm.le
  have hn : n = L.length + 1 := by rw [← h.hn]; rfl
  have hcap : 0 < cap := by omega
  have e : itsC (x :: L) = x.cells ++ itsC L := rfl
  have hx6 : x.cells.length = 6 := rfl
  refine ⟨off, hcm.addr hcap, by omega, hle, by omega, ⟨off + 6, ⟨by omega, fun h0 => if_neg (by omega), fun _ => hcm.lt hcap, by rw [itsC_len]; congr 1; omega, fun j u hj => ?_, fun j hj => ?_⟩⟩, by have := h.max; omega, fun y hy => h.te y (List.mem_cons_of_mem _ hy), h.hmb⟩
  · have := hcm.olds (6 + j) u (by rw [e, List.getElem?_append_right (by omega), hx6, Nat.add_sub_cancel_left]; exact hj)
    rw [← Nat.add_assoc] at this
    exact this
  · have := hcm.spare j (by rw [show cap - n = cap - 1 - (n - 1) by omega]; exact hj)
    rw [show off + 6 + (n - 1) * 6 + j = off + n * 6 + j by omega]
    exact this
/-- mail's cells, one behind the other -/
theorem its_cells {M : Nat → Prop} (h : ∀ i x, L[i]? = some x → ∃ b off, ao = some ⟨b, off, none⟩ ∧ ItAt w b (off + i * 6) x ∧ ¬ M b) : ∀ j u, (itsC L)[j]? = some u → ∃ b off, ao = some ⟨b, off, none⟩ ∧ w.cell? ⟨b, off + j, none⟩ = some u := by
  intro j u hj
  have hjl := (List.getElem?_eq_some_iff.1 hj).1
  rw [itsC_len] at hjl
  have hi : j / 6 < L.length := by omega
  obtain ⟨b, off, e, ha, -⟩ := h (j / 6) _ (List.getElem?_eq_getElem hi)
  refine ⟨b, off, e, ?_⟩
  have hr : j % 6 < 6 := Nat.mod_lt _ (by decide)
  have hj' := itsC_at L (j / 6) (j % 6) _ (List.getElem?_eq_getElem hi) hr
  rw [show j / 6 * 6 + j % 6 = j by omega, hj] at hj'
  generalize hm : j % 6 = r at *
  have ej : off + j = off + j / 6 * 6 + r := by omega
  rw [ej]
  match r, hr, hj' with
  | 0, _, hj' => injection hj' with hj'; rw [hj']; exact ha.c0
  | 1, _, hj' => injection hj' with hj'; rw [hj']; exact ha.c1
  | 2, _, hj' => injection hj' with hj'; rw [hj']; exact ha.c2
  | 3, _, hj' => injection hj' with hj'; rw [hj']; exact ha.c3
  | 4, _, hj' => injection hj' with hj'; rw [hj']; exact ha.c4
  | 5, _, hj' => injection hj' with hj'; rw [hj']; exact ha.c5
theorem itsC_one (L : List It) : ∀ u ∈ itsC L, u.oneCell' = true := by
  intro u hu
  obtain ⟨x, -, hx⟩ := List.mem_flatMap.1 hu
  simp only [It.cells, List.mem_cons, List.not_mem_nil, or_false] at hx
  rcases hx with rfl | rfl | rfl | rfl | rfl | rfl <;> rfl
theorem infoIT : ∃ i z, Tryd.prog.info? 61 = some i ∧ i.zero = some z ∧ i.size = 6 ∧ i.bytes ≤ 1000 ∧ z.cells.size = 6 := by
  have hi : (Tryd.prog.info? 61).map (fun i => (i.zero.map (fun z => z.cells.size), i.size, decide (i.bytes ≤ 1000))) = some (some 6, 6, true) := by kernel_rfl
  cases h : Tryd.prog.info? 61 with
  | none => rw [h] at hi; cases hi
  | some i =>
    rw [h] at hi
    simp only [Option.map_some, Option.some.injEq, Prod.mk.injEq, decide_eq_true_eq] at hi
    obtain ⟨h1, h2, h3⟩ := hi
    cases hz : i.zero with
    | none => rw [hz] at h1; cases h1
    | some z => rw [hz] at h1; exact ⟨i, z, rfl, hz, h2, h3, by simpa using h1⟩
theorem itsC_app (L L2 : List It) : itsC (L ++ L2) = itsC L ++ itsC L2 := by simp [itsC]
/-- mail is appended -/
theorem MqOk.app (h : MqOk q B w ao n cap mb L) (hq : q < w.heap.size) (hqm : q ≠ mb) (hml : mb < w.heap.size) (hB : B ≤ w.heap.size) (v2 : Value) (L2 : List It) (h2 : ItsOk (Mq q mb) w v2 L2) (hn2 : n + L2.length ≤ 100000) (ty : TypeId) :
    ∃ ao' cap' mb' w', (Builtin.append_ #[46, 46] ty #[.slice ao n cap, v2]).run Tryd.prog w = .ok (.slice ao' (n + L2.length) cap') w' ∧ Chg (fun k => k = mb) w w' ∧ MqOk q B w' ao' (n + L2.length) cap' mb' (L ++ L2) ∧ q ≠ mb' ∧ mb' < w'.heap.size ∧ ((mb' = mb ∧ cap' = cap) ∨ w.heap.size ≤ mb') ∧ (cap = 0 → Below w.heap.size w w') := by
  obtain ⟨off, hcm⟩ := h.came
  obtain ⟨i0, z0, i1, i2, i3, i4, i5⟩ := infoIT
  obtain ⟨ao2, cap2, e2, -, -, -, hat⟩ := h2.form
  have hsrc : Src Tryd.prog 6 46 v2 L2.length (itsC L2) w := by
    subst e2
    cases ao2 with
    | none =>
      have hl0 : L2 = [] := by
        cases L2 with
        | nil => rfl
        | cons x t =>
          obtain ⟨b, o, e, -⟩ := hat 0 x rfl
          cases e
      subst hl0
      exact Src.ofNil w Tryd.underlying46 cap2
    | some a =>
      refine Src.ofSlice w Tryd.underlying46 a L2.length cap2 (itsC L2) (itsC_len L2) (fun j u hj => ?_) (itsC_one L2)
      obtain ⟨b, o, e, hc⟩ := its_cells hat j u hj
      injection e with e
      subst e
      rw [Addr.add_lit]
      exact hc
  obtain ⟨v', w', hrun, hup, htape⟩ := append_tape (P := Tryd.prog) hcm 46 46 ty i0 z0 i0.bytes Tryd.underlying46 i1 i2 i3 rfl i5 v2 L2.length (itsC L2) hsrc (by unfold maxLen; omega) (Nat.le_trans (Nat.mul_le_mul hn2 i4) (by decide))
  have hchg : Chg (fun k => k = mb) w w' := ⟨hup.kept.1, htape, hup.kept.2.1, hup.kept.size, fun k hk hne => hup.kept.block hk (fun p hp e => by
    obtain ⟨j, -, rfl⟩ := hp
    exact hne e.symm)⟩
  have hbel : cap = 0 → Below w.heap.size w w' := fun h0 => ⟨hup.kept.1, htape, hup.kept.2.1, hup.kept.size, fun k hk => hup.kept.block hk (fun p hp e => by
    obtain ⟨j, hj, rfl⟩ := hp
    have := hup.rFit
    subst h0
    simp at this
    omega)⟩
  have hlenA : (itsC (L ++ L2)).length = (n + L2.length) * 6 := by rw [itsC_len, List.length_append, h.hn]
  have hte : ∀ mb', (mb' = mb ∨ w.heap.size ≤ mb') → ∀ x ∈ L ++ L2, TeOk (Mq q mb') w' x.x := fun mb' hmb' x hx => by
    have hx' : TeOk (Mq q mb) w x.x := by
      rcases List.mem_append.1 hx with hx | hx
      · exact h.te x hx
      · exact h2.te x hx
    refine hx'.chg hchg (fun k hk _ => .inr hk) (fun k hk hl => ?_)
    rcases hk with hk | hk
    · exact .inl hk
    · rcases hmb' with h' | h'
      · exact .inr (hk.trans h')
      · omega
  rcases hup.val with ⟨hle, rfl, hr⟩ | ⟨hgt, g, c', rfl, ho⟩
  · refine ⟨ao, cap, mb, w', hrun, hchg, ⟨by rw [List.length_append, h.hn], ⟨off, hle, hcm.addr, fun hcap => Nat.lt_of_lt_of_le (hcm.lt hcap) hchg.size, hlenA, fun j u hj => ?_, fun j hj => ?_⟩, h.max, hte mb (.inl rfl), h.hmb⟩, hqm, Nat.lt_of_lt_of_le hml hchg.size, .inl ⟨rfl, rfl⟩, hbel⟩
    · have hjl := (List.getElem?_eq_some_iff.1 hj).1
      rw [hlenA] at hjl
      have hcap : 0 < cap := by omega
      rw [hup.inArray hcm hcap hr j hjl, ← itsC_app]
      exact hj
    · have hjin : L2.length * 6 + j < (cap - n) * 6 := by omega
      have hcap : 0 < cap := by omega
      obtain ⟨g1, g2⟩ := hcm.spare _ hjin
      have e1 : off + (n + L2.length) * 6 + j = off + n * 6 + (L2.length * 6 + j) := by omega
      have hrl : (itsC L2).length = L2.length * 6 := itsC_len L2
      rw [e1, hup.old (hcm.lt hcap) (fun j' hj' ⟨_, e'⟩ => by omega), hup.frozen _ (hcm.lt hcap)]
      exact ⟨g1, g2⟩
  · have hmax := ho.max
    refine ⟨some ⟨g, 0, none⟩, c', g, w', hrun, hchg, ⟨by rw [List.length_append, h.hn], ⟨0, ho.le, fun _ => rfl, fun hcap => ?_, hlenA, fun j u hj => ?_, fun j hj => ?_⟩, by unfold maxLen at hmax; omega, hte g (.inr ho.new), Nat.le_trans hB ho.new⟩, by have := ho.new; omega, World.block_lt_of_cell? _ _ (Option.isSome_iff_exists.1 (ho.there 0 (by have := ho.le; omega)).1).choose_spec, .inr ho.new, hbel⟩
    · exact World.block_lt_of_cell? _ _ (Option.isSome_iff_exists.1 (ho.there 0 (by omega)).1).choose_spec
    · have hjl := (List.getElem?_eq_some_iff.1 hj).1
      rw [hlenA] at hjl
      rw [Nat.zero_add, ho.holds j hjl, ← itsC_app]
      exact hj
    · rw [Nat.zero_add]
      have hle := ho.le
      exact ho.there _ (by omega)
end
/-- .. for the walk -/
theorem wpList_append_mq {ops : Array Oper} {rest : List Oper} {o : Oper} {a : Act} {w : World} {Q : Exit → Act → World → Prop} (hgd : o.guard = none) (s x : Operand)
    (ho : o.op = .call { callee := .builtin .append, args := #[s, x], argTypes := #[46, 46] })
    {q B : Nat} {ao : Option Addr} {n cap mb : Nat} {L : List It} (h : MqOk q B w ao n cap mb L) (hq : q < w.heap.size) (hqm : q ≠ mb) (hml : mb < w.heap.size) (hB : B ≤ w.heap.size) (v2 : Value) (L2 : List It) (h2 : ItsOk (Mq q mb) w v2 L2) (hn2 : n + L2.length ≤ 100000)
    (hs : a.eval s = .slice ao n cap) (hx : a.eval x = v2)
    (hk : ∀ ao' cap' mb' w', Chg (fun k => k = mb) w w' → MqOk q B w' ao' (n + L2.length) cap' mb' (L ++ L2) → q ≠ mb' → mb' < w'.heap.size → ((mb' = mb ∧ cap' = cap) ∨ w.heap.size ≤ mb') → (cap = 0 → Below w.heap.size w w') → wpList Tryd.prog ops Q rest (a.put o.dst (.slice ao' (n + L2.length) cap')) w') : wpList Tryd.prog ops Q (o :: rest) a w := by
  refine wpList_plain hgd fun K hK' => ?_
  obtain ⟨ao', cap', mb', w', hrun, h1, h2, h3, h4, h5, h6⟩ := h.app hq hqm hml hB v2 L2 h2 hn2 o.type
  unfold Oper.wp
  simp [execOp, ho, resolve, invoke, builtin, hs, hx, hrun, Result.andThen]
  exact hK' _ _ (hk ao' cap' mb' w' h1 h2 h3 h4 h5 h6)
end Go.Proofs.YtlmehfdaaommpaaDoor
namespace Go.Proofs.YtlmehfdaaommpaaDoor
open Go.ChangeShapes Go.WideShapes Go.ChangeAt Go.RowKit
set_option linter.unusedVariables false
set_option linter.unusedSimpArgs false
/-- the law's state within a unit -/
structure Ts where
  ml : List It
  so : Bool
  ov : Bool
  op : Int
/-- an effect's step -/
def tsStep (s : Ts) (e : Ef) : Ts :=
  if e.kd = 9 then { s with ml := s.ml.tail, op := match s.ml with | x :: _ => (if (callP x.x.t).isSome then 1 else 0) | [] => 0 }
  else if e.kd = 10 then { s with so := true }
  else if e.kd = 1 then { s with op := 0 }
  else if e.kd = 13 then { s with ov := true }
  else s
/-- may the effect be? -/
def tsOk (ph : Int) (s : Ts) (e : Ef) : Prop :=
  (e.kd = 9 ∧ ph = 2 ∧ e.rc = 0 ∧ s.ml ≠ []) ∨ e.kd = 10 ∨ (e.kd = 1 ∧ ph = 3 ∧ s.op = 1) ∨ (e.kd = 13 ∧ s.ov = false ∧ (ph = 6 ∨ ph = 1)) ∨ e.kd = 2 ∨ e.kd = 17
def tsFold : Ts → List Ef → Ts
  | s, [] => s
  | s, e :: l => tsFold (tsStep s e) l
def tsAll (ph : Int) : Ts → List Ef → Prop
  | _, [] => True
  | s, e :: l => tsOk ph s e ∧ tsAll ph (tsStep s e) l
theorem ack_call (c : Ch) (f : ByteArray) (ao : Option Addr) (n k : Nat) : (callE c f ao n k).kd = 10 := rfl
/-- a unit's effects are what the law lets be, and what it holds of the machine holds behind it -/
theorem takes_unit {M : Nat → Prop} {B : Nat} {w' : World} {m : Mc} {c : Ch} {EA : List TE} {i : Inn} {L : List It} {m' : Mc} {E1 : List Ef} (h : StR M B w' m c EA i L m' E1) (hph : 0 ≤ m.ph ∧ m.ph ≤ 6) {op : Int} (hop : m.ph = 3 → op = 1) :
    tsAll m.ph ⟨L, false, false, op⟩ E1 ∧ ((tsFold ⟨L, false, false, op⟩ E1).ov = false → m'.ph = 3 → (tsFold ⟨L, false, false, op⟩ E1).op = 1) ∧ (decide (2 ≤ m.ph) || (decide (m.ph = 1) && decide (m'.ph = 2))) = decide (2 ≤ m'.ph) ∧ m'.pid = m.pid := by
  rcases h with ⟨-, rfl, rfl⟩ | ⟨h0, rfl, rfl⟩ | ⟨h0, h⟩ | ⟨h0, h⟩ | ⟨h0, h⟩ | ⟨h0, rfl, x, rfl, g, LL, rfl, -⟩ | ⟨h0, rfl, rfl⟩
  · refine ⟨⟨.inr (.inr (.inr (.inr (.inr rfl)))), trivial⟩, fun _ h => hop h, ?_, rfl⟩
    by_cases h2 : 2 ≤ m'.ph
    · simp [h2]
    · by_cases h1 : m'.ph = 1
      · simp [h1]
      · simp [h1, h2]
  · refine ⟨⟨.inr (.inl rfl), trivial⟩, fun _ h => absurd (show (1 : Int) = 3 from h) (by decide), by simp [h0], rfl⟩
  · rcases h with ⟨V, a, dl, rfl, rfl, -⟩ | ⟨a, x, u, rfl, rfl, -⟩
    · exact ⟨⟨.inr (.inr (.inr (.inr (.inl rfl)))), trivial⟩, fun _ h => absurd (show (2 : Int) = 3 from h) (by decide), by simp [h0], rfl⟩
    · refine ⟨⟨.inr (.inr (.inr (.inr (.inl rfl)))), .inr (.inr (.inr (.inl ⟨rfl, rfl, .inr h0⟩))), trivial⟩, fun h => ?_, by simp [h0], rfl⟩
      cases h
  · rcases h with ⟨-, rfl, rfl⟩ | ⟨-, rfl, x, rfl, g, LL, rfl, -⟩ | ⟨it, r, rfl, -, t, rfl, rfl, -⟩ | ⟨it, r, f, x, rfl, hc, rfl, rfl, ⟨g, LL, rfl, -⟩, -⟩ | ⟨it, r, nm, x, rfl, -, rfl, rfl, g, LL, rfl, -⟩
    · exact ⟨⟨.inr (.inr (.inr (.inr (.inr rfl)))), trivial⟩, fun _ h => by omega, by simp [h0], rfl⟩
    · exact ⟨⟨.inr (.inl rfl), trivial⟩, fun _ h => absurd (show (4 : Int) = 3 from h) (by decide), by simp [h0], rfl⟩
    · exact ⟨⟨.inl ⟨rfl, h0, rfl, by simp⟩, trivial⟩, fun _ h => absurd (show (5 : Int) = 3 from h) (by decide), by simp [h0], rfl⟩
    · refine ⟨⟨.inl ⟨rfl, h0, rfl, by simp⟩, .inr (.inl rfl), trivial⟩, fun _ _ => ?_, by simp [h0], rfl⟩
      show (if (callP it.x.t).isSome = true then (1 : Int) else 0) = 1
      rw [if_pos hc]
    · exact ⟨⟨.inl ⟨rfl, h0, rfl, by simp⟩, .inr (.inl rfl), trivial⟩, fun _ h => absurd (show (4 : Int) = 3 from h) (by decide), by simp [h0], rfl⟩
  · obtain ⟨h1, U, V, dl, ph, rfl, h2, -⟩ := h
    have e1 : (decide (2 ≤ m.ph) || (decide (m.ph = 1) && decide (ph = 2))) = decide (2 ≤ ph) := by
      have a : 2 ≤ m.ph := by omega
      have b : 2 ≤ ph := by omega
      simp [a, b]
    rcases h1 with rfl | ⟨h3, rc, a, rfl⟩
    · exact ⟨trivial, fun _ h => by have h : ph = 3 := h; omega, e1, rfl⟩
    · exact ⟨⟨.inr (.inr (.inl ⟨rfl, h3, hop h3⟩)), trivial⟩, fun _ h => by have h : ph = 3 := h; omega, e1, rfl⟩
  · exact ⟨⟨.inr (.inl rfl), trivial⟩, fun _ h => absurd (show (6 : Int) = 3 from h) (by decide), by simp [h0], rfl⟩
  · refine ⟨⟨.inr (.inr (.inr (.inl ⟨rfl, rfl, .inl h0⟩))), trivial⟩, fun h => ?_, by simp [h0], rfl⟩
    cases h
theorem efs_at : ∀ (E : List Ef) (k j : Nat) (e : Ef), E[k]? = some e → j < 61 → (efs E)[k * 61 + j]? = (efL e)[j]?
  | [], k, j, e, h, hj => by simp at h
  | y :: E, 0, j, e, h, hj => by
    simp at h
    subst h
    have e1 : efs (y :: E) = efL y ++ efs E := rfl
    rw [e1, Nat.zero_mul, Nat.zero_add, List.getElem?_append_left (by show j < 61; omega)]
  | y :: E, k + 1, j, e, h, hj => by
    have e1 : efs (y :: E) = efL y ++ efs E := rfl
    have h' : E[k]? = some e := by simpa using h
    have e2 : (efL y).length = 61 := rfl
    rw [e1, List.getElem?_append_right (by omega), show (k + 1) * 61 + j - (efL y).length = k * 61 + j by omega]
    exact efs_at E k j e h' hj
/-- an effect's cells -/
theorem EfAt.at {w : World} {B : Nat} {v : Value} {E : List Ef} (h : EfAt w B v E) {k : Nat} {e : Ef} (hk : E[k]? = some e) : ∃ b ec, v = .slice (some ⟨b, 0, none⟩) E.length ec ∧ B ≤ b ∧ ∀ j u, j < 61 → (efL e)[j]? = some u → w.cell? ⟨b, k * 61 + j, none⟩ = some u := by
  obtain ⟨eo, ec, h1, -, -, h4⟩ := h
  obtain ⟨b, e0, hB, -⟩ := h4 (k * 61 + 0) _ (by rw [efs_at E k 0 e hk (by omega)]; rfl)
  refine ⟨b, ec, by rw [h1, e0], hB, fun j u hj hu => ?_⟩
  obtain ⟨b', e1, -, hc⟩ := h4 (k * 61 + j) u (by rw [efs_at E k j e hk hj]; exact hu)
  rw [e0] at e1
  injection e1 with e1
  injection e1 with e1
  subst e1
  exact hc
end Go.Proofs.YtlmehfdaaommpaaDoor
namespace Go.Proofs.YtlmehfdaaommpaaDoor
open Go.ChangeShapes Go.WideShapes Go.ChangeAt Go.RowKit
open Go.ChangeMaps (open_string shut_string)
set_option linter.unusedVariables false
def letD : DataW Unit := .agg (letL.map fun r => .agg ([r.1, r.2].map fun z => .lit (.int .u8 z)))
theorem letters_of (W : World) (h : laidMetH Tryd.prog [("pleach/atoms.letters", letD)] W) : Cells W 0 letL := by
  rw [MakeChecks.laidMetH_plain _ _ _ (by kernel_rfl)] at h
  obtain ⟨g, t, cs, fuel, p, hg, hty, hvar, hd⟩ := Lib.laidMet.reads h (List.mem_singleton.2 rfl)
  obtain rfl := Option.some.inj ((show Tryd.prog.globalNamed "pleach/atoms.letters" = some 0 by kernel_rfl).symm.trans hg)
  obtain rfl := Option.some.inj ((show (Tryd.prog.globals[0]?).map (·.type) = some 101 by kernel_rfl).symm.trans hty)
  have c2 : Tryd.prog.cellsOf 100 = 2 := by kernel_rfl
  have c1 : Tryd.prog.cellsOf 5 = 1 := by kernel_rfl
  intro j r hj
  have hi : j < 4 := by
    have := (List.getElem?_eq_some_iff.1 hj).1
    simpa [letL] using this
  obtain ⟨fuel', d, q, hdi, he⟩ := Lib.array_elem Tryd.underlying101 hd j hi
  simp only [List.getElem?_map, hj, Option.map_some, Option.some.injEq] at hdi
  subst hdi
  rw [c2] at he
  have hcs := Lib.cells_of_tab Tryd.underlying100 Tryd.underlying5 c1 c2 he
  have e0 := congrArg (·[0]?) hcs
  have e1 := congrArg (·[1]?) hcs
  simp only [List.getElem?_take, List.getElem?_drop] at e0 e1
  constructor
  · have := World.var?_cell hg hvar (j * 2)
    rw [show 0 + j * 2 = j * 2 from by omega, this, ← Array.getElem?_toList]
    simpa using e0
  · have := World.var?_cell hg hvar (j * 2 + 1)
    rw [show 0 + j * 2 + 1 = j * 2 + 1 from by omega, this, ← Array.getElem?_toList]
    simpa using e1
end Go.Proofs.YtlmehfdaaommpaaDoor
namespace Go.Proofs.YtlmehfdaaommpaaDoor
open Go.ChangeShapes Go.WideShapes Go.ChangeAt Go.RowKit
set_option linter.unusedVariables false
set_option linter.unusedSimpArgs false
/-- the law's state within a unit -/
structure Ks where
  ml : List It
  ac : Nat
  so : Bool
def ksStep (s : Ks) (e : Ef) : Ks :=
  if e.kd = 9 then { s with ml := s.ml.tail }
  else if e.kd = 2 then { s with ac := s.ac + 1 }
  else if e.kd = 10 then { s with so := true }
  else s
/-- may the effect be? -/
def ksOk (M : Nat → Prop) (w' : World) (m m' : Mc) (c : Ch) (s : Ks) (e : Ef) : Prop :=
  (e.kd = 9 ∧ s.ml ≠ []) ∨
  (e.kd = 2 ∧ s.ac = 0 ∧ e.rc = m.pid ∧ TeOk M w' e.T ∧ ackB e.T.t true 50 = true ∧ isAtomB (ackT e.T.t true) okS = decide (m'.ph = 2)) ∨
  (e.kd = 10 ∧ e.C.m = c.m ∧ 1 ≤ e.C.an ∧ (stB m = true → ∃ (g : Nat) (L : List TE), e.C.ao = some ⟨g, 0, none⟩ ∧ e.C.an = L.length + 1 ∧ L.length ≤ 2 ∧ RowAt w' g (L ++ [m.V]))) ∨
  (e.kd = 13 ∧ s.ac = 1) ∨ e.kd = 1 ∨ e.kd = 17
def ksFold : Ks → List Ef → Ks
  | s, [] => s
  | s, e :: l => ksFold (ksStep s e) l
/-- up to the effect that ends it -/
def ksAll (M : Nat → Prop) (w' : World) (m m' : Mc) (c : Ch) : Ks → List Ef → Prop
  | _, [] => True
  | s, e :: l => ksOk M w' m m' c s e ∧ (e.kd = 13 ∨ ksAll M w' m m' c (ksStep s e) l)
def okTm : Tm := .mk 1 0 okS ⟨#[]⟩ []
def badT : Tm := tupA [.mk 1 0 errS ⟨#[]⟩ [], .mk 1 0 limS ⟨#[]⟩ []]
theorem bad_row : mdN (ackL 50 badT) 1 = 0 := by kernel_rfl
theorem bad_not : isAtomB badT okS = false := by kernel_rfl
theorem ok_row : mdN (ackL 50 okTm) 1 = 0 := by kernel_rfl
theorem ack_is (t : Tm) : ackB (.mk 5 0 ⟨#[]⟩ ⟨#[]⟩ (ackL 50 t)) true 50 = true := by
  show ((true || !true) && (decide ((5 : Int) = 5) && (decide ((1 : Int) = 1) && (decide (ackS = ackS) && eqT (.mk 4 50 ⟨#[]⟩ ⟨#[]⟩ []) (.mk 4 50 ⟨#[]⟩ ⟨#[]⟩ [])))) && decide (3 = 3)) = true
  kernel_rfl
theorem ack_good {t : Tm} (h : mdN (ackL 50 t) 1 = 0) : ackB (ackV 50 t) true 50 = true ∧ ackT (ackV 50 t) true = t := by
  unfold ackV
  rw [if_pos h]
  exact ⟨ack_is t, rfl⟩
theorem ack_bad {t : Tm} (h : ¬ mdN (ackL 50 t) 1 = 0) : ackB (ackV 50 t) true 50 = true ∧ ackT (ackV 50 t) true = badT := by
  have e : ackV 50 t = .mk 5 0 ⟨#[]⟩ ⟨#[]⟩ (ackL 50 badT) := by
    unfold ackV
    rw [if_neg h]
    show (if mdN (ackL 50 badT) 1 = 0 then _ else _) = _
    rw [if_pos bad_row]
    rfl
  rw [e]
  exact ⟨ack_is badT, rfl⟩
/-- a unit's effects are what the law lets be -/
theorem acks_unit {M : Nat → Prop} {B : Nat} {w' : World} {m : Mc} {c : Ch} {EA : List TE} {i : Inn} {L : List It} {m' : Mc} {E1 : List Ef} (h : StR M B w' m c EA i L m' E1) (hs : i.self = 50) (hc : 1 ≤ c.an) {ac : Nat} (hac : ac = if 2 ≤ m.ph then 1 else 0) :
    ksAll M w' m m' c ⟨L, ac, false⟩ E1 ∧ ((∀ e ∈ E1, e.kd ≠ 13) → (ksFold ⟨L, ac, false⟩ E1).ac = if 2 ≤ m'.ph then 1 else 0) ∧ m'.pid = m.pid ∧ (stB m = true → 2 ≤ m'.ph) := by
  have hs50 : sureN i.self = 50 := by rw [hs]; rfl
  have hst : ∀ {P : Prop}, m.ph < 2 → stB m = true → P := fun h1 h2 => by
    unfold stB at h2
    simp at h2
    omega
  have hsg : stB m = true → 2 ≤ m.ph := fun h2 => by
    unfold stB at h2
    simp at h2
    omega
  have hcall : ∀ (s : Ks) (f : ByteArray) (g : Nat) (LL : List TE), LL.length ≤ 2 → RowAt w' g (LL ++ [m.V]) → ksOk M w' m m' c s (callE c f (some ⟨g, 0, none⟩) (LL ++ [m.V]).length (LL ++ [m.V]).length) := fun s f g LL h1 h2 =>
    .inr (.inr (.inl ⟨rfl, rfl, by show 1 ≤ (LL ++ [m.V]).length; simp, fun _ => ⟨g, LL, rfl, by show (LL ++ [m.V]).length = _; simp, h1, h2⟩⟩))
  rcases h with ⟨-, rfl, rfl⟩ | ⟨h0, rfl, rfl⟩ | ⟨h0, h⟩ | ⟨h0, h⟩ | ⟨h0, h⟩ | ⟨h0, rfl, x, rfl, g, LL, rfl, -, hrow, hl⟩ | ⟨h0, rfl, rfl⟩
  · exact ⟨⟨.inr (.inr (.inr (.inr (.inr rfl)))), .inr trivial⟩, fun _ => hac, rfl, hsg⟩
  · refine ⟨⟨.inr (.inr (.inl ⟨rfl, rfl, hc, fun h => hst (by omega) h⟩)), .inr trivial⟩, fun _ => ?_, rfl, fun h => hst (by omega) h⟩
    show ac = _
    rw [hac, h0]
    rfl
  · rcases h with ⟨V, a, dl, rfl, rfl, hat, -, hao⟩ | ⟨a, x, u, rfl, rfl, hat, hu, hao, -⟩
    · rw [hs50] at hat
      have hg := ack_good (t := okTm) ok_row
      refine ⟨⟨.inr (.inl ⟨rfl, by show ac = 0; rw [hac, h0]; rfl, rfl, hao, by show ackB a.t true 50 = true; rw [hat]; exact hg.1, by show isAtomB (ackT a.t true) okS = decide ((2 : Int) = 2); rw [hat]; show isAtomB (ackT (ackV 50 okTm) true) okS = _; rw [hg.2]; kernel_rfl⟩), .inr trivial⟩, fun _ => ?_, rfl, fun h => hst (by omega) h⟩
      show ac + 1 = _
      rw [hac, h0]
      rfl
    · rw [hs50] at hat
      have hbb : ackB a.t true 50 = true ∧ isAtomB (ackT a.t true) okS = false := by
        rw [hat]
        by_cases hm : mdN (ackL 50 u) 1 = 0
        · have := ack_good hm
          exact ⟨this.1, by rw [this.2]; exact hu⟩
        · have := ack_bad hm
          exact ⟨this.1, by rw [this.2]; exact bad_not⟩
      refine ⟨⟨.inr (.inl ⟨rfl, by show ac = 0; rw [hac, h0]; rfl, rfl, hao, hbb.1, by show isAtomB (ackT a.t true) okS = _; rw [hbb.2, h0]; rfl⟩), .inr ⟨.inr (.inr (.inr (.inl ⟨rfl, ?_⟩))), .inl rfl⟩⟩, fun hn => absurd rfl (hn (endE x) (by simp)), rfl, fun h => hst (by omega) h⟩
      show ac + 1 = 1
      rw [hac, h0]
      rfl
  · have hac1 : ac = 1 := by rw [hac, h0]; rfl
    rcases h with ⟨-, rfl, rfl⟩ | ⟨-, rfl, x, rfl, g, LL, rfl, -, hrow, hl⟩ | ⟨it, r, rfl, -, t, rfl, rfl, -⟩ | ⟨it, r, f, x, rfl, hcc, rfl, rfl, ⟨g, LL, rfl, -, hrow, hl⟩, -⟩ | ⟨it, r, nm, x, rfl, -, rfl, rfl, g, LL, rfl, -, hrow, hl⟩
    · exact ⟨⟨.inr (.inr (.inr (.inr (.inr rfl)))), .inr trivial⟩, fun _ => hac, rfl, hsg⟩
    · exact ⟨⟨hcall _ _ g LL (by omega) hrow, .inr trivial⟩, fun _ => hac1, rfl, fun _ => by show (2 : Int) ≤ 4; decide⟩
    · exact ⟨⟨.inl ⟨rfl, by simp⟩, .inr trivial⟩, fun _ => hac1, rfl, fun _ => by show (2 : Int) ≤ 5; decide⟩
    · exact ⟨⟨.inl ⟨rfl, by simp⟩, .inr ⟨hcall _ _ g LL (by omega) hrow, .inr trivial⟩⟩, fun _ => hac1, rfl, fun _ => by show (2 : Int) ≤ 3; decide⟩
    · exact ⟨⟨.inl ⟨rfl, by simp⟩, .inr ⟨hcall _ _ g LL (by omega) hrow, .inr trivial⟩⟩, fun _ => hac1, rfl, fun _ => by show (2 : Int) ≤ 4; decide⟩
  · have hac1 : ac = 1 := by rw [hac]; exact if_pos (by omega)
    obtain ⟨h1, U, V, dl, ph, rfl, h2, -⟩ := h
    have hfin : (1 : Nat) = if 2 ≤ ph then 1 else 0 := by rw [if_pos (by omega)]
    rcases h1 with rfl | ⟨h3, rc, a, rfl⟩
    · exact ⟨trivial, fun _ => hac1.trans hfin, rfl, fun _ => by show 2 ≤ ph; omega⟩
    · exact ⟨⟨.inr (.inr (.inr (.inr (.inl rfl)))), .inr trivial⟩, fun _ => hac1.trans hfin, rfl, fun _ => by show 2 ≤ ph; omega⟩
  · have hac1 : ac = 1 := by rw [hac]; exact if_pos (by omega)
    exact ⟨⟨hcall _ _ g LL (by omega) hrow, .inr trivial⟩, fun _ => hac1, rfl, fun _ => by show (2 : Int) ≤ 6; decide⟩
  · have hac1 : ac = 1 := by rw [hac]; exact if_pos (by omega)
    exact ⟨⟨.inr (.inr (.inr (.inl ⟨rfl, hac1⟩))), .inl rfl⟩, fun hn => absurd rfl (hn (endE m'.U) (by simp)), rfl, fun _ => by omega⟩
end Go.Proofs.YtlmehfdaaommpaaDoor
