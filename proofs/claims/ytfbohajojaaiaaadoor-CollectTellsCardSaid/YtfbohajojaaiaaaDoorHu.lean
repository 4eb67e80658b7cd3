/- the laws' rows, read as data: parts, cells that are made. No conditions. -/
import Derived.Test.YtfbohajojaaiaaaDoorHs
import Derived.Test.YtfbohajojaaiaaaDoorTr
import Derived.SizedLaws
namespace Go.Proofs.YtfbohajojaaiaaaDoor
open Go.ChangeShapes Go.WideShapes Go.ChangeAt Go.RowKit
set_option linter.unusedVariables false
set_option maxRecDepth 100000
section
variable {H : Type} {P : Program}
/-- what came in is no greater than memory -/
def Sz (P : Program) (t : TypeId) (d : DataW H) : Prop := ∀ n ∈ d.weights P t, n ≤ reachBytes
theorem weights_all {e : TypeId} : ∀ {ds : List (DataW H)} {d : DataW H}, d ∈ ds → ∀ n ∈ d.weights P e, n ∈ DataW.weightsAll P e ds
  | d0 :: ds, d, hd, n, hn => by
    simp only [DataW.weightsAll, List.mem_append]
    rcases List.mem_cons.1 hd with rfl | hd
    · exact .inl hn
    · exact .inr (weights_all hd n hn)
theorem Sz.len {t e : TypeId} {elems spare : List (DataW H)} (hu : P.underlying t = some (.slice e)) (h : Sz P t (.slice elems spare)) : (elems.length + spare.length) * P.bytesOf e ≤ reachBytes :=
  h _ (by simp [DataW.weights, hu])
theorem Sz.elem {t e : TypeId} {elems spare : List (DataW H)} (hu : P.underlying t = some (.slice e)) (h : Sz P t (.slice elems spare)) {d : DataW H} (hd : d ∈ elems) : Sz P e d :=
  fun n hn => h n (by simp [DataW.weights, hu]; exact .inr (.inl (weights_all hd n hn)))
theorem Sz.field {t : TypeId} {fs : Array Field} {parts : List (DataW H)} (hu : P.underlying t = some (.struct fs)) (h : Sz P t (.agg parts)) {j : Nat} {f : Field} {d : DataW H} (hf : fs[j]? = some f) (hd : parts[j]? = some d) : Sz P f.type d :=
  fun n hn => h n (by simp only [DataW.weights, hu]; exact DataW.weights_mem_each (j := j) (by simp [hf]) hd n hn)
theorem sz_of {ts : List TypeId} {ds : List (DataW H)} (h : (DataW.weightsEach P ts ds).all (· ≤ reachBytes) = true) {j : Nat} {t : TypeId} {d : DataW H} (ht : ts[j]? = some t) (hd : ds[j]? = some d) : Sz P t d :=
  fun n hn => by simpa using List.all_eq_true.1 h _ (DataW.weights_mem_each ht hd n hn)
end
theorem flatPA : flat Tryd.prog 9 49 = some [4, 3, 44, 3, 9, 9, 45] := by kernel_rfl
theorem cellsPA : Tryd.prog.cellsOf 49 = 7 := by kernel_rfl
theorem cellsMK : Tryd.prog.cellsOf 69 = 2 := by kernel_rfl
theorem one_i8' : Tryd.prog.cellsOf 44 = 1 := by kernel_rfl
theorem one_lp : Tryd.prog.cellsOf 22 = 1 := by kernel_rfl
theorem bytesPA : 1 ≤ Tryd.prog.bytesOf 49 := of_decide_eq_true (by kernel_rfl)
theorem bytesMK : 1 ≤ Tryd.prog.bytesOf 69 := of_decide_eq_true (by kernel_rfl)
section
variable {H : Type} {enc : TypeId × Value → H} {W : World}
theorem parts_of_trod {fuel : Nat} {v : Value} {x : DataW H × List MemPlace} (h : Rd enc Tryd.prog W fuel 22 [v] x) :
    ∃ ao cap L, v = .slice ao L.length cap ∧ L.length ≤ cap ∧ cap ≤ 9223372036854775807 ∧ WRow W ao L ∧ (∀ x ∈ L, WOk fuel W x) ∧ (Sz Tryd.prog 22 x.1 → L.length ≤ 140737488355328) ∧ (ao = none → L = [] ∧ cap = 0) := by
  obtain ⟨ao, len, cap, rfl, h1, h2, h3, h4⟩ := elems_trod (k := 9) Tryd.underlying22 flatPA cellsPA (by simp) h
  have key : ∀ i, i < len → ∃ x : Wd, WOk fuel W x ∧ ∃ b off, ao = some ⟨b, off, none⟩ ∧ b < W.heap.size ∧ ∀ j u, x.cells[j]? = some u → W.cell? ⟨b, off + i * 7 + j, none⟩ = some u := by
    intro i hi
    obtain ⟨b, off, e, hb, hc⟩ := h4 i hi
    obtain ⟨u0, n0, y0, c0, l0, r0⟩ := hc 0 _ rfl
    obtain ⟨u1, n1, y1, c1, l1, r1⟩ := hc 1 _ rfl
    obtain ⟨u2, n2, y2, c2, l2, r2⟩ := hc 2 _ rfl
    obtain ⟨u3, n3, y3, c3, l3, r3⟩ := hc 3 _ rfl
    obtain ⟨u4, n4, y4, c4, l4, r4⟩ := hc 4 _ rfl
    obtain ⟨u5, n5, y5, c5, l5, r5⟩ := hc 5 _ rfl
    obtain ⟨u6, n6, y6, c6, l6, r6⟩ := hc 6 _ rfl
    obtain ⟨a0, rfl⟩ := leaf_bool Tryd.underlying4 r0
    obtain ⟨a1, rfl, w1⟩ := leaf_int Tryd.underlying3 r1
    obtain ⟨a2, rfl, w2⟩ := leaf_int Tryd.underlying44 r2
    obtain ⟨a3, rfl, w3⟩ := leaf_int Tryd.underlying3 r3
    obtain ⟨a4, rfl, w4⟩ := leaf_str Tryd.underlying9 r4
    obtain ⟨a5, rfl, w5⟩ := leaf_str Tryd.underlying9 r5
    obtain ⟨l, hl⟩ := row_of_trod r6
    have hl' := hl.le (Nat.le_of_lt l6)
    obtain ⟨ao6, cap6, rfl, g⟩ := hl
    refine ⟨⟨a0, a1, a2, a3, a4, a5, ao6, cap6, l⟩, ⟨bd w1, ⟨i8_bd w2, bd w3, w4, w5⟩, hl'⟩, b, off, e, hb, fun j u hj => ?_⟩
    simp only [Wd.cells] at hj
    match j, hj with
    | 0, hj => simp at hj; subst hj; exact c0
    | 1, hj => simp at hj; subst hj; exact c1
    | 2, hj => simp at hj; subst hj; exact c2
    | 3, hj => simp at hj; subst hj; exact c3
    | 4, hj => simp at hj; subst hj; exact c4
    | 5, hj => simp at hj; subst hj; exact c5
    | 6, hj => simp at hj; subst hj; exact c6
  obtain ⟨L, rfl, hL⟩ := list_choose len key
  refine ⟨ao, cap, L, rfl, h1, h2, fun i x hi => (hL i x hi).2, fun x hx => ?_, fun hz => ?_, fun e => ⟨List.eq_nil_of_length_eq_zero (h3 e).1, (h3 e).2⟩⟩
  · obtain ⟨i, hi⟩ := List.getElem?_of_mem hx
    exact (hL i x hi).1
  · rcases DataW.trod_slice Tryd.underlying22 h with ⟨e4, _⟩ | ⟨a, len, cap', elems, rest, n', hn, e4, e5, _, hlc, hcm, hel, hcell, _, _⟩
    · simp at e4
      omega
    · simp at e4
      obtain ⟨rfl, e6, rfl⟩ := e4
      rw [e5] at hz
      have h5 := hz.len Tryd.underlying22
      rw [List.length_map, List.length_map] at h5
      have h6 := bytesPA
      have h7 := reachBytes_lt
      have h8 : (elems.length + rest.length) * 1 ≤ (elems.length + rest.length) * Tryd.prog.bytesOf 49 := Nat.mul_le_mul_left _ h6
      omega
theorem makes_of_trod {fuel : Nat} {v : Value} {x : DataW H × List MemPlace} (h : Rd enc Tryd.prog W fuel 38 [v] x) (hz : Sz Tryd.prog 38 x.1) :
    ∃ ao cap M, v = .slice ao M.length cap ∧ M.length ≤ cap ∧ cap ≤ 9223372036854775807 ∧ MRow fuel W ao M ∧ M.length ≤ 140737488355328 ∧ (∀ m ∈ M, m.l.length ≤ 140737488355328) ∧ ∀ m ∈ M, -128 ≤ m.k ∧ m.k ≤ 127 := by
  rcases DataW.trod_slice Tryd.underlying38 h with ⟨e4, _⟩ | ⟨a, len, cap, elems, rest, n', hn, e4, e5, _, hlc, hcm, hel, hcell, _, _⟩
  · simp at e4
    subst e4
    exact ⟨none, 0, [], rfl, Nat.le_refl _, by omega, fun i m h => by simp at h, by simp, by simp, by simp⟩
  · simp at e4
    subst e4
    unfold maxLen at hcm
    subst hn
    rw [e5] at hz
    have key : ∀ i, i < len → ∃ m : Mk, (m.l.length ≤ 140737488355328 ∧ -128 ≤ m.k ∧ m.k ≤ 127) ∧ ∃ b off, a = ⟨b, off, none⟩ ∧ b < W.heap.size ∧ W.cell? ⟨b, off + i * 2, none⟩ = some (.int .i8 m.k) ∧ W.cell? ⟨b, off + i * 2 + 1, none⟩ = some (.slice m.lo m.l.length m.lc) ∧ WRow W m.lo m.l ∧ ∀ x ∈ m.l, WOk (n' + 1) W x := by
      have start : ∀ i, i < len → ∃ y cs, elems[i]? = some y ∧ W.cells? 0 (a.add (i * 2)) 2 = some cs ∧ Rd enc Tryd.prog W n' 69 cs y := by
        intro i hi
        have hc := hcell i hi
        rw [cellsMK] at hc
        obtain ⟨y, hy⟩ : ∃ y, elems[i]? = some y := ⟨elems[i]'(by omega), List.getElem?_eq_getElem (by omega)⟩
        rw [hy] at hc
        obtain ⟨cs', hcs, ht⟩ := Option.bind_eq_some_iff.1 hc
        exact ⟨y, cs', hy, hcs, ht⟩
      have flds : ∀ (y : DataW H × List MemPlace) (cs : List Value), Rd enc Tryd.prog W n' 69 cs y → ∃ c0 c1 y0 y1 n, cs = [c0, c1] ∧ n ≤ n' ∧ Rd enc Tryd.prog W n 44 [c0] y0 ∧ Rd enc Tryd.prog W n 22 [c1] y1 ∧ (Sz Tryd.prog 69 y.1 → Sz Tryd.prog 22 y1.1) := by
        intro y cs hy
        obtain ⟨xs, n, hn, hx, hcl, hxl, hall⟩ := DataW.trod_struct Tryd.underlying69 hy
        rw [cellsMK] at hcl
        obtain ⟨c0, c1, rfl⟩ : ∃ c0 c1, cs = [c0, c1] := by
          match cs, hcl with
          | [c0, c1], _ => exact ⟨c0, c1, rfl⟩
        obtain ⟨y0, y1, rfl⟩ : ∃ y0 y1, xs = [y0, y1] := by
          match xs, hxl with
          | [y0, y1], _ => exact ⟨y0, y1, rfl⟩
        have g0 : DataW.trod enc Tryd.prog W 0 (fun _ => true) true n 44 (([c0, c1].drop 0).take (Tryd.prog.cellsOf 44)) = [y0, y1][0]? := hall 0 _ rfl
        rw [one_i8'] at g0
        have g1 : DataW.trod enc Tryd.prog W 0 (fun _ => true) true n 22 (([c0, c1].drop 1).take (Tryd.prog.cellsOf 22)) = [y0, y1][1]? := hall 1 _ rfl
        rw [one_lp] at g1
        simp only [List.drop_zero, List.drop_succ_cons, List.take_succ_cons, List.take_zero] at g0 g1
        refine ⟨c0, c1, y0, y1, n, rfl, by omega, g0, g1, fun hz => ?_⟩
        rw [hx] at hz
        exact Sz.field Tryd.underlying69 hz (j := 1) rfl rfl
      intro i hi
      obtain ⟨y, cs, hy, hcs, hr⟩ := start i hi
      obtain ⟨c0, c1, y0, y1, n, rfl, hnn, r0, r1, hsz⟩ := flds y cs hr
      have hszy := hsz (hz.elem Tryd.underlying38 (List.mem_map_of_mem (List.mem_of_getElem? hy)))
      obtain ⟨_, _, hget⟩ := World.cells?_some hcs
      have g0 := hget 0 (by omega)
      have g1 := hget 1 (by omega)
      obtain ⟨b, o, rfl⟩ : ∃ b o, a = ⟨b, o, none⟩ := by
        obtain ⟨y', cs', hy', hcs', hr'⟩ := start 0 (by omega)
        obtain ⟨c0', c1', y0', y1', n'', rfl, _⟩ := flds y' cs' hr'
        have g := (World.cells?_some hcs').2.2 0 (by omega)
        simp [Addr.add] at g
        exact addr_none g
      simp only [addr_add] at g0 g1
      obtain ⟨k, rfl, wk⟩ := leaf_int Tryd.underlying44 r0
      obtain ⟨lo, lc, L, rfl, p1, p2, p3, p4, p5, -⟩ := parts_of_trod r1
      refine ⟨⟨k, lo, lc, L⟩, ⟨p5 hszy, i8_bd wk⟩, b, o, rfl, World.block_lt_of_cell? W _ (by simpa using g0), by simpa using g0, by simpa using g1, p3, fun x hx => ?_⟩
      have h9 := p4 x hx
      exact ⟨h9.1, h9.2.1, h9.2.2.le (by omega)⟩
    obtain ⟨M, hM1, hM⟩ := list_choose len key
    subst hM1
    refine ⟨some a, cap, M, rfl, hlc, by omega, fun i m hi => ?_, ?_, fun m hm => ?_, fun m hm => ?_⟩
    · obtain ⟨-, b, off, e, h⟩ := hM i m hi
      exact ⟨b, off, by rw [e], h⟩
    · have h5 := hz.len Tryd.underlying38
      rw [List.length_map, List.length_map] at h5
      have h6 := bytesMK
      have h7 := reachBytes_lt
      have h8 : (elems.length + rest.length) * 1 ≤ (elems.length + rest.length) * Tryd.prog.bytesOf 69 := Nat.mul_le_mul_left _ h6
      omega
    · obtain ⟨i, hi⟩ := List.getElem?_of_mem hm
      exact (hM i m hi).1.1
    · obtain ⟨i, hi⟩ := List.getElem?_of_mem hm
      exact (hM i m hi).1.2
end
end Go.Proofs.YtfbohajojaaiaaaDoor
