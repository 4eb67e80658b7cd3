/- ProcMail's law. Condition: the argument reads as a slice of bools. -/
import Derived.Test.YtemgnljegbaobaaGreatDoorNt
import Derived.Test.YtemgnljegbaobaaGreatDoorFl
namespace Go.Proofs.YtemgnljegbaobaaGreatDoor
open Go.ChangeShapes Go.WideShapes Go.ChangeAt Go.RowKit
set_option linter.unusedVariables false
set_option linter.unusedSimpArgs false
set_option maxRecDepth 100000
def bvs (l : List Bool) : List Value := l.map Value.bool
theorem bools_of_trod {H : Type} {enc : TypeId × Value → H} {W : World} {base : Nat} {v : Value} {d : DataW H} {p : List MemPlace} (hv : Value.okWide Tryz.prog W .any base 56 v) (h : DataW.Trod enc Tryz.prog W 0 (fun _ => true) true 56 v d p) : ∃ l : List Bool, Rw W v l.length 1 (bvs l) := by
  obtain ⟨ao, len, cap, rfl⟩ := okWide_slice Tryz.underlying56 hv
  obtain ⟨fuel, h⟩ := h
  obtain ⟨ao', n', cap', e, h1, h2, h3, h4⟩ := elems_trod (k := 5) (L := [4]) Tryz.underlying56 (by kernel_rfl) (by kernel_rfl) (by decide) h
  injection e with e1 e2 e3
  subst e1 e2 e3
  obtain ⟨l, hl, hall⟩ := list_choose (Q := fun i b => ∃ bb off, ao = some ⟨bb, off, none⟩ ∧ W.cell? ⟨bb, off + i, none⟩ = some (.bool b)) len fun i hi => by
    obtain ⟨b, off, e, _, hc⟩ := h4 i hi
    obtain ⟨u, n, y, hu, _, hr⟩ := hc 0 _ rfl
    obtain ⟨a, rfl⟩ := leaf_bool Tryz.underlying4 hr
    exact ⟨a, b, off, e, by simpa using hu⟩
  refine ⟨l, by simp [bvs], fun u hu => ?_, ao, cap, by rw [hl], by omega, h2, ?_⟩
  · simp only [bvs, List.mem_map] at hu
    obtain ⟨x, -, rfl⟩ := hu
    rfl
  · rcases Nat.eq_zero_or_pos len with h0 | h0
    · exact .inl (by omega)
    · obtain ⟨b, off, e, _⟩ := h4 0 h0
      refine .inr ⟨b, off, e, fun j u hj => ?_⟩
      rw [bvs, List.getElem?_map] at hj
      obtain ⟨x, hx, rfl⟩ := Option.map_eq_some_iff.1 hj
      obtain ⟨b2, off2, e2, hc⟩ := hall j x hx
      rw [e] at e2
      injection e2 with e2
      injection e2 with e3 e4
      subst e3 e4
      exact hc
theorem bvs_at {l : List Bool} {i : Nat} {b : Bool} (h : l[i]? = some b) : (bvs l)[i]? = some (.bool b) := by simp [bvs, h]
/-- the item of a round -/
def imOf (i : Nat) (b : Bool) : Im := ⟨0, i, ⟨#[]⟩, ⟨#[]⟩, none, 0, 0, b⟩
theorem imOf_ok (w : World) (i : Nat) (b : Bool) (hi : i ≤ 1000) : ImOk w (imOf i b) := by
  refine ⟨0, .mk 0 i ⟨#[]⟩ ⟨#[]⟩ [], ⟨⟨by show (-128 : Int) ≤ 0; decide, by show (0 : Int) ≤ 127; decide⟩, ⟨by show -9223372036854775808 ≤ (i : Int); omega, by show (i : Int) ≤ 9223372036854775807; omega⟩, by show (ByteArray.mk #[]).size ≤ _; decide, by show (ByteArray.mk #[]).size ≤ _; decide⟩, _, rfl, none, 0, rfl, Nat.le_refl _, by omega, fun j t hj => by simp [Tm.l] at hj⟩
/-- what is in the mail behind so many rounds -/
structure MlI (w W : World) (tp : Nat) (ov : Value) (l : List Bool) (i : Nat) (ml : List Im) (p : Pv) (D : Pd) : Prop where
  bx : Bxd w W tp p D
  own : W.ownsRow (tp + 1) 33 6 ov ml.length (mvs ml)
  xm : D.xm = mvs ml
  nm : D.nm = ml.length
  le : ml.length ≤ i
  us : usersOf ml ≤ 64
  ok : ∀ x ∈ ml, ∃ j b, j ≤ 1000 ∧ x = imOf j b
  apw : ∀ k, ov.ownBlock = some k → k ≠ tp ∧ PrN k p D.L
/-- another process is put into the box; a row of the caller's own has turned -/
theorem Bxd.put2 {S : Nat → Prop} {w W W2 W3 : World} {tb : Nat} {p q : Pv} {D D' : Pd} (h : Bxd w W tb p D) (hr : PrR W D W2 q D') (hc : Chg S W2 W3) (hS : ∀ k, S k → w.heap.size ≤ k ∧ k ≠ tb ∧ PrN k q D'.L) (hok : D'.ok) : Bxd w (W3.setRow tb q.cells) tb q D' := by
  have hl := heap_lt h.hX
  have hX3 := hc.heap (keep_heap h.hX hr.hb) (fun e => (hS _ e).2.1 rfl)
  have hn : PrN tb q D'.L := hr.ap tb hl h.ap.f
  have hb2 := h.hb.trans (hr.hb.mono h.hb.size)
  have hb3 := hb2.trans (hc.below (B := w.heap.size) hb2.size fun k hk => (hS k hk).1)
  refine ⟨bel_setRow hb3 hb3.size h.lt _, h.lt, setRow_heap W3 tb _ q.cells 27 (0, 0) hX3, (hr.pr.chg hc fun k hk => (hS k hk).2.2).chg (chg_setRow W3 tb q.cells) (fun k e => by have e : k = tb := e; rw [e]; exact hn), hn, hok⟩
end Go.Proofs.YtemgnljegbaobaaGreatDoor
