/- a heap beside a row of copies of its cells. Conditions: what comes reads. -/
import Derived.Test.YtfbmjcblnemkgaaDoorVb
import Derived.Test.YtfbmjcblnemkgaaDoorGo
namespace Go.Proofs.YtfbmjcblnemkgaaDoor
open Go.ChangeShapes Go.WideShapes Go.ChangeAt Go.RowKit
set_option linter.unusedVariables false
set_option maxRecDepth 100000
/-- copies of cells -/
def Like (C D : List HC) : Prop := ∀ (i : Nat) (d : HC), D[i]? = some d → ∃ c, C[i]? = some c ∧ d.k = c.k ∧ d.sz = c.sz ∧ d.l = c.l
structure LoI (w0 : World) (f m : Nat) (v : Value) (C : List HC) (cv : Value) (D : List HC) (wr : World) : Prop where
  hb : Below w0.heap.size w0 wr
  hp : Hp wr w0.heap.size w0.heap.size v C
  row : CRow wr w0.heap.size cv D
  len : C.length ≤ m
  oks : ∀ c ∈ C, ∀ y ∈ c.l, WOk f w0 y
  made : Made C
  like : Like C D
  sep : ∀ g, cv.ownBlock = some g → v.ownBlock ≠ some g
theorem LoI.keep {w0 : World} {f m : Nat} {v : Value} {C : List HC} {cv : Value} {D : List HC} {wr wr' : World} (h : LoI w0 f m v C cv D wr) (hk : Below wr.heap.size wr wr') : LoI w0 f m v C cv D wr' :=
  ⟨h.hb.trans (hk.mono h.hb.size), h.hp.keep hk, h.row.keep hk, h.len, h.oks, h.made, h.like, h.sep⟩
theorem LoI.more {w0 : World} {f m m' : Nat} {v : Value} {C : List HC} {cv : Value} {D : List HC} {wr : World} (h : LoI w0 f m v C cv D wr) (hm : m ≤ m') : LoI w0 f m' v C cv D wr := ⟨h.hb, h.hp, h.row, Nat.le_trans h.len hm, h.oks, h.made, h.like, h.sep⟩
/-- the heap grows -/
theorem LoI.up {w0 w1 : World} {f m m' : Nat} {v v' : Value} {C C' : List HC} {cv : Value} {D : List HC} {wr wr' : World} (h : LoI w0 f m v C cv D wr) (hu : Up w1 w0.heap.size v C wr v' C' wr') (hp : Hp wr' w0.heap.size w0.heap.size v' C')
    (hlen : C'.length ≤ m') (hok : ∀ c ∈ C', c ∈ C ∨ ∀ y ∈ c.l, WOk f w0 y) (hm : Made C') : LoI w0 f m' v' C' cv D wr' := by
  obtain ⟨E, hE⟩ := hu.ext
  refine ⟨h.hb.trans (hu.hc.below h.hb.size (fun k hk => heapS_base h.hp hk)), hp, h.row.chg2 hu.hc (fun c hc g hg => ?_) (fun g hg e => ?_), hlen, fun c hc => ?_, hm, fun i d hi => ?_, fun g hg e => ?_⟩
  · obtain ⟨cur, hcur⟩ := own_type (h.row.2 c hc) g hg
    exact heapS_not h.hp hcur (by decide) (by decide)
  · rcases e with rfl | e
    · obtain ⟨cur, hcur⟩ := own_type h.row.1 _ hg
      rw [h.hp.1] at hcur
      injection hcur with hcur
      injection hcur with _ hcur
      revert hcur
      decide
    · exact h.sep g hg e
  · rcases hok c hc with hc | hc
    · exact h.oks c hc
    · exact hc
  · obtain ⟨c, h1, h2⟩ := h.like i d hi
    exact ⟨c, by rw [hE]; exact at_more h1, h2⟩
  · rcases hu.hv with hv | ⟨g', hg', hl⟩
    · rw [hv] at e
      exact h.sep g hg e
    · rw [hg'] at e
      injection e with e
      have := own_lt h.row.1 (Nat.le_refl _) g hg
      omega
theorem LoI.putq {w0 : World} {f m : Nat} {v : Value} {C : List HC} {cv : Value} {D : List HC} {wr wr' : World} {t : Tm} {e : Ending} (h : LoI w0 f m v C cv D wr) (hq : PutQ w0 f w0.heap.size v C t wr e wr') : ∃ u v' C', e = .returned u ∧ C.length ≤ C'.length ∧ LoI w0 f (m + 256) v' C' cv D wr' := by
  rcases hq with ⟨-, -, hn, x, v', C', rfl, hp⟩ | ⟨-, rfl, hb⟩
  · exact ⟨_, v', C', rfl, by obtain ⟨E, hE⟩ := hp.up.ext; rw [hE]; simp, h.up hp.up hp.hp (by have := hp.len; have := h.len; omega) hp.oks (hp.made h.made)⟩
  · exact ⟨_, v, C, rfl, Nat.le_refl _, (h.keep hb).more (by omega)⟩
theorem LoI.makeq {w0 : World} {f m : Nat} {v : Value} {C : List HC} {cv : Value} {D : List HC} {wr wr' : World} {k : Int} {L : List Wd} {e : Ending} (h : LoI w0 f m v C cv D wr) (hL : ∀ y ∈ L, WOk f w0 y) (hq : MakeP wr w0.heap.size w0.heap.size v C k L e wr') : ∃ u v' C', e = .returned u ∧ C.length ≤ C'.length ∧ LoI w0 f (m + 256) v' C' cv D wr' := by
  rcases hq with ⟨-, v', lo, lc, rfl, hp, hc, hv, hr⟩ | ⟨-, rfl, hb⟩
  · refine ⟨_, v', _, rfl, by simp, h.up (w1 := w0) ⟨hc, hv, ⟨_, rfl⟩, fun c hcm => ?_⟩ hp (by have := h.len; simp; omega) (fun c hcm => ?_) h.made.snoc⟩
    · rw [List.mem_append, List.mem_singleton] at hcm
      rcases hcm with hcm | rfl
      · exact .inl hcm
      · exact .inr hr
    · rw [List.mem_append, List.mem_singleton] at hcm
      rcases hcm with hcm | rfl
      · exact .inl hcm
      · exact .inr hL
  · exact ⟨_, v, C, rfl, Nat.le_refl _, (h.keep hb).more (by omega)⟩
/-- another copy is put behind the others -/
theorem LoI.push {w0 : World} {f m : Nat} {v : Value} {C : List HC} {cv cv' : Value} {D : List HC} {wr wr' : World} {d : HC} {n0 : Nat} (h : LoI w0 f m v C cv D wr) (hown : wr'.ownsRow w0.heap.size 46 3 cv' (D.length + 1) (ccs D ++ d.cells)) (hg : wr.grownBy wr' cv.ownBlock)
    (hwh : cv'.ownBlock = cv.ownBlock ∨ cv'.ownBlock = some wr.heap.size) (hd : wr.ownsRow n0 33 7 (.slice d.lo d.l.length d.lc) d.l.length (wcs d.l)) (hn0 : w0.heap.size ≤ n0) (hlk : ∃ c, C[D.length]? = some c ∧ d.k = c.k ∧ d.sz = c.sz ∧ d.l = c.l) : LoI w0 f m v C cv' (D ++ [d]) wr' := by
  have hc := chg_grown hg
  have hob := own_type h.row.1
  have hwd : ∀ {u : Value} {n b : Nat} {xs : List Value}, wr.ownsRow b 33 7 u n xs → ∀ g, u.ownBlock = some g → ¬ some g = cv.ownBlock := by
    intro u n b xs hu g hgg e
    obtain ⟨cur, hcur⟩ := own_type hu g hgg
    obtain ⟨cur', hcur'⟩ := hob g e.symm
    rw [hcur] at hcur'
    injection hcur' with hcur'
    injection hcur' with _ hcur'
    revert hcur'
    decide
  have hc2 : CRow wr' w0.heap.size v C := h.hp.2.2.1.chg2 hc (fun c hcm g hgg => hwd (h.hp.2.2.1.2 c hcm) g hgg) (fun g hgg e => h.sep g e.symm hgg)
  refine ⟨h.hb.trans (hc.below h.hb.size (fun k e => own_base h.row.1 k e.symm)), ⟨hc.heap h.hp.1 (fun e => ?_), h.hp.2.1, hc2, h.hp.2.2.2⟩, ⟨?_, fun c hcm => ?_⟩, h.len, h.oks, h.made, fun i y hi => ?_, fun g hgg e => ?_⟩
  · obtain ⟨cur, hcur⟩ := hob _ e.symm
    rw [h.hp.1] at hcur
    injection hcur with hcur
    injection hcur with _ hcur
    revert hcur
    decide
  · rw [ccs_snoc, List.length_append]
    exact hown
  · rw [List.mem_append, List.mem_singleton] at hcm
    rcases hcm with hcm | rfl
    · exact own_chg (h.row.2 c hcm) hc (fun g hgg => hwd (h.row.2 c hcm) g hgg)
    · exact own_lower (own_chg hd hc (fun g hgg => hwd hd g hgg)) hn0
  · by_cases hlt : i < D.length
    · rw [List.getElem?_append_left hlt] at hi
      exact h.like i y hi
    · have hi2 : i = D.length := by
        have := (List.getElem?_eq_some_iff.1 hi).1
        simp at this
        omega
      subst hi2
      simp at hi
      subst hi
      exact hlk
  · rcases hwh with hw | hw
    · rw [hw] at hgg
      exact h.sep g hgg e
    · rw [hw] at hgg
      injection hgg with hgg
      have := own_lt h.hp.2.2.1.1 (Nat.le_refl _) g e
      omega
/-- where a row of cells lies -/
theorem CRow.cellsAt {w : World} {base : Nat} {v : Value} {C : List HC} (h : CRow w base v C) : ∃ ao cap, v = .slice ao C.length cap ∧ C.length ≤ cap ∧ cap ≤ 9223372036854775807 ∧ ∀ i c, C[i]? = some c → ∃ b, ao = some ⟨b, 0, none⟩ ∧ b < w.heap.size ∧ ∀ j u, c.cells[j]? = some u → w.cell? ⟨b, i * 3 + j, none⟩ = some u := by
  obtain ⟨h2, -⟩ := h
  obtain ⟨hl, ⟨rfl, e⟩ | ⟨g, cap, cur, rfl, hg, hh, h3, h4, r⟩⟩ := id h2
  · have e0 := List.eq_nil_of_length_eq_zero e
    subst e0
    exact ⟨none, 0, rfl, by simp, by omega, fun i c hi => by simp at hi⟩
  · refine ⟨_, cap, rfl, h3, by unfold maxLen at h4; omega, fun i c hi => ⟨g, rfl, heap_lt hh, fun j u hj => ?_⟩⟩
    have hlt := (List.getElem?_eq_some_iff.1 hi).1
    have hj3 : j < 3 := by have := (List.getElem?_eq_some_iff.1 hj).1; simpa [HC.cells] using this
    rw [h2.cellAt (i * 3 + j) (by omega), ccs_at C i j c hi hj3]
    exact hj
/-- a cell's size is its parts' -/
theorem size_sum {C : List HC} (hC : Good C) (hM : Made C) {n : Nat} {c : HC} (hc : C[n]? = some c) : c.sz = 1 + (c.l.map (nodesW C)).sum ∧ ∀ x ∈ c.l, mayW n x = true ∧ mayW C.length x = true ∧ 1 ≤ nodesW C x ∧ nodesW C x ≤ 256 := by
  have hok := hC.2 n c hc
  have hlt := (List.getElem?_eq_some_iff.1 hc).1
  have hT : ∀ x ∈ c.l, mayW n x = true ∧ mayW C.length x = true ∧ 1 ≤ nodesW C x ∧ nodesW C x ≤ 256 := fun x hx => by
    have h1 := hok.2.2.2.2 x hx
    have h2 := may_more h1 (Nat.le_of_lt hlt)
    exact ⟨h1, h2, nodes_pos hC h2⟩
  refine ⟨?_, hT⟩
  have hn : ∀ x ∈ c.l, nodesW (C.take n) x = nodesW C x := fun x hx => by
    have := nodes_more (C := C.take n) (D := C.drop n) (x := x) (by rw [List.length_take, Nat.min_eq_left (Nat.le_of_lt hlt)]; exact hok.2.2.2.2 x hx)
    rw [List.take_append_drop] at this
    exact this.symm
  have hs := hM n c hc
  have hf : sizeW (C.take n) c.l = min (1 + (c.l.map (nodesW C)).sum) 257 := by
    unfold sizeW
    rw [fold_min c.l 1 (fun x hx => by rw [hn x hx]; have := (hT x hx).2.2; omega) (by omega)]
    rw [List.map_congr_left hn]
  have h256 := hok.2.2.1
  rw [hs, hf] at h256 ⊢
  omega
theorem like_words {C D : List HC} (h : Like C D) (hl : D.length = C.length) : wordsN D = wordsN C := by
  unfold wordsN
  congr 1
  refine List.ext_getElem? fun i => ?_
  rw [List.getElem?_map, List.getElem?_map]
  cases hd : D[i]? with
  | none =>
    have := List.getElem?_eq_none_iff.1 hd
    rw [List.getElem?_eq_none_iff.2 (by omega)]
  | some d =>
    obtain ⟨c, h1, -, -, h2⟩ := h i d hd
    rw [h1]
    simp [h2]
theorem words_le_of {C D : List HC} (h : Like C D) (hC : Good C) : wordsN D ≤ D.length * 256 := words_le fun d hd => by
  obtain ⟨i, hi⟩ := List.getElem?_of_mem hd
  obtain ⟨c, h1, -, -, h2⟩ := h i d hi
  rw [h2]
  exact (hC.2 i c h1).2.2.2.1
theorem sum_take {C : List HC} {l : List Wd} {k : Nat} {x : Wd} (h : l[k]? = some x) : ((l.take (k + 1)).map (nodesW C)).sum = ((l.take k).map (nodesW C)).sum + nodesW C x := by
  rw [List.take_add_one, h, List.map_append, List.sum_append]
  simp
theorem sum_bd {C : List HC} {l : List Wd} (h : ∀ x ∈ l, 1 ≤ nodesW C x ∧ nodesW C x ≤ 256) : ∀ k, 0 ≤ ((l.take k).map (nodesW C)).sum ∧ ((l.take k).map (nodesW C)).sum ≤ 256 * k
  | 0 => by simp
  | k + 1 => by
    have ih := sum_bd h k
    cases hx : l[k]? with
    | none =>
      rw [List.take_add_one, hx, Option.toList_none, List.append_nil]
      omega
    | some x =>
      rw [sum_take hx]
      have := h x (List.mem_of_getElem? hx)
      omega
end Go.Proofs.YtfbmjcblnemkgaaDoor
