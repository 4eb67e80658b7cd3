/- both heaps beside each other: what Make does to them. Conditions: what comes reads. -/
import Derived.Test.YtfbohajojaaiaaaDoorHy
import Derived.Test.YtfbohajojaaiaaaDoorHs
import Derived.Test.YtfbohajojaaiaaaDoorHo
namespace Go.Proofs.YtfbohajojaaiaaaDoor
open Go.ChangeShapes Go.WideShapes Go.ChangeAt Go.RowKit
set_option linter.unusedVariables false
set_option maxRecDepth 100000
theorem rsame_zero (w : World) : Calls Tryd.prog 45 #[.agg #[.int .i8 0, .int .i64 0, .string ⟨#[]⟩, .string ⟨#[]⟩, .slice none 0 0], .agg #[.int .i8 0, .int .i64 0, .string ⟨#[]⟩, .string ⟨#[]⟩, .slice none 0 0]] w fun e w' => e = .returned (.bool true) ∧ Below w.heap.size w w' := by
  have hb := ((Below.refl w.heap.size w).alloc (Nat.le_refl _) (.cells #[.int .i8 0, .int .i64 0, .string ⟨#[]⟩, .string ⟨#[]⟩, .slice none 0 0] 47)).alloc (by simp) (.cells #[.int .i8 0, .int .i64 0, .string ⟨#[]⟩, .string ⟨#[]⟩, .slice none 0 0] 47)
  have h4 := (cells_at (heap_old (heap_new w (.cells #[.int .i8 0, .int .i64 0, .string ⟨#[]⟩, .string ⟨#[]⟩, .slice none 0 0] 47)) (.cells #[.int .i8 0, .int .i64 0, .string ⟨#[]⟩, .string ⟨#[]⟩, .slice none 0 0] 47)) 4 _ rfl).1
  go_enter Tryd.func45, Tryd.ntmps45
  go_wp2_with fail
  generalize (w.alloc (.cells #[.int .i8 0, .int .i64 0, .string ⟨#[]⟩, .string ⟨#[]⟩, .slice none 0 0] 47)).alloc (.cells #[.int .i8 0, .int .i64 0, .string ⟨#[]⟩, .string ⟨#[]⟩, .slice none 0 0] 47) = W0 at *
  go_loopw [5] (fun iv wr => iv = .int .i64 0 ∧ wr = W0) (fun _ _ => 0)
  case atStart => exact ⟨rfl, rfl⟩
  case round =>
    obtain ⟨rfl, rfl⟩ := hrel
    go_wp2_with fail
    go_ret
    exact ⟨rfl, hb⟩
theorem sameword_cell (w : World) (n : Nat) : Calls Tryd.prog 37 #[.agg (wcC n), .agg (wcC n)] w fun e w' => e = .returned (.bool true) ∧ Below w.heap.size w w' := by
  have hb := ((Below.refl w.heap.size w).alloc (Nat.le_refl _) (.cells (wcC n) 58)).alloc (by simp) (.cells (wcC n) 58)
  have HB := Lib.hid hb
  clear hb
  simp only [wcC] at *
  go_enter Tryd.func37, Tryd.ntmps37
  go_wp2_with fail
  refine (rsame_zero _).mono ?_
  rintro e w2 ⟨rfl, hb2⟩
  have HB2 := Lib.hid (HB.out.trans (hb2.mono HB.out.size))
  clear hb2
  go_wp2_with fail
  go_ret
  exact ⟨rfl, HB2.out⟩
theorem sameword_zero (w : World) : Calls Tryd.prog 37 #[.agg wzC, .agg wzC] w fun e w' => e = .returned (.bool true) ∧ Below w.heap.size w w' := by
  have hb := ((Below.refl w.heap.size w).alloc (Nat.le_refl _) (.cells wzC 58)).alloc (by simp) (.cells wzC 58)
  have HB := Lib.hid hb
  clear hb
  go_enter Tryd.func37, Tryd.ntmps37
  go_wp2_with fail
  refine (rsame_zero _).mono ?_
  rintro e w2 ⟨rfl, hb2⟩
  have HB2 := Lib.hid (HB.out.trans (hb2.mono HB.out.size))
  clear hb2
  go_wp2_with fail
  go_ret
  exact ⟨rfl, HB2.out⟩
/-- the word that Make comes to -/
def resW (C : List HC) (k : Int) (L : List Wd) : Array Value := if makeN C k L = 0 then wcC C.length else wzC
theorem resW_size (C : List HC) (k : Int) (L : List Wd) : (resW C k L).size = 7 := by unfold resW; split <;> rfl
theorem resW_one (C : List HC) (k : Int) (L : List Wd) : (resW C k L).all (·.oneCell') = true := by unfold resW; split <;> simp [wcC, Value.oneCell']
theorem sameword_res (w : World) (C : List HC) (k : Int) (L : List Wd) : Calls Tryd.prog 37 #[.agg (resW C k L), .agg (resW C k L)] w fun e w' => e = .returned (.bool true) ∧ Below w.heap.size w w' := by
  unfold resW
  split
  · exact sameword_cell w _
  · exact sameword_zero w
/-- the cells behind Make -/
def Grow (C : List HC) (k : Int) (L : List Wd) (C1 : List HC) : Prop := if makeN C k L = 0 then ∃ lo lc, C1 = C ++ [⟨k, sizeW C L, lo, lc, L⟩] else C1 = C
/-- two heaps of the same cells -/
def HC.key (c : HC) : Int × Int × List Wd := (c.k, c.sz, c.l)
def Sim (C C' : List HC) : Prop := C'.map HC.key = C.map HC.key
theorem Sim.len {C C' : List HC} (h : Sim C C') : C'.length = C.length := by
  have := congrArg List.length h
  simpa using this
theorem nodes_key (C : List HC) (x : Wd) : nodesW C x = if x.c then (match (C.map HC.key)[x.a.toNat]? with | some q => q.2.1 | none => 0) else 1 := by
  unfold nodesW
  rw [List.getElem?_map]
  cases C[x.a.toNat]? <;> rfl
theorem Sim.nodes {C C' : List HC} (h : Sim C C') (x : Wd) : nodesW C' x = nodesW C x := by rw [nodes_key, nodes_key, h]
theorem Sim.size {C C' : List HC} (h : Sim C C') (L : List Wd) : sizeW C' L = sizeW C L := by
  unfold sizeW
  congr 1
  funext n x
  rw [h.nodes]
theorem Sim.make {C C' : List HC} (h : Sim C C') (k : Int) (L : List Wd) : makeN C' k L = makeN C k L := by
  unfold makeN
  rw [h.len, h.size]
theorem Sim.res {C C' : List HC} (h : Sim C C') (k : Int) (L : List Wd) : resW C' k L = resW C k L := by
  unfold resW
  rw [h.len, h.make]
theorem Sim.grow {C C' C1 C1' : List HC} {k : Int} {L : List Wd} (h : Sim C C') (g : Grow C k L C1) (g' : Grow C' k L C1') : Sim C1 C1' := by
  unfold Grow at g g'
  rw [h.make] at g'
  split at g
  · rename_i h0
    rw [if_pos h0] at g'
    obtain ⟨lo, lc, rfl⟩ := g
    obtain ⟨lo', lc', rfl⟩ := g'
    rw [Sim, List.map_append, List.map_append, h]
    simp [HC.key, h.size]
  · rename_i h0
    rw [if_neg h0] at g'
    subst g g'
    exact h
/-- both heaps in memory -/
structure BI (w : World) (p q : Nat) (v v' : Value) (C C' : List HC) (W : World) : Prop where
  hb : Below w.heap.size w W
  hp : Hp W p p v C
  hr : RHp W q q v' C'
  hap : ∀ j, v.ownBlock = some j → v'.ownBlock = some j → False
  lp : w.heap.size ≤ p
  lq : w.heap.size ≤ q
theorem BI.keep {w : World} {p q : Nat} {v v' : Value} {C C' : List HC} {W W' : World} (h : BI w p q v v' C C' W) (hb : Below W.heap.size W W') : BI w p q v v' C C' W' :=
  ⟨h.hb.trans (hb.mono h.hb.size), h.hp.keep hb, h.hr.keep hb, h.hap, h.lp, h.lq⟩
/-- a word's block that no row of the heaps owns is turned -/
theorem BI.box {w : World} {p q X : Nat} {v v' : Value} {C C' : List HC} {W : World} {zs : Array Value} (h : BI w p q v v' C C' W) (hX : W.heap[X]? = some (.cells zs 58 (0, 0))) (hwX : w.heap.size ≤ X)
    (hr : ∀ d ∈ C, ∀ j, (Value.slice d.lo d.l.length d.lc).ownBlock = some j → j ≠ X) (hr' : ∀ d ∈ C', ∀ j, (Value.slice d.lo d.l.length d.lc).ownBlock = some j → j ≠ X) (cs : Array Value) : BI w p q v v' C C' (W.setRow X cs) := by
  have hc := chg_setRow W X cs
  have hty : ∀ {u : Value} {B n : Nat} {xs : List Value}, W.ownsRow B 65 3 u n xs → ∀ j, u.ownBlock = some j → ¬ j = X := fun ho j hj hs => by
    obtain ⟨cur, hcur⟩ := own_type ho j hj
    rw [hs, hX] at hcur
    cases hcur
  refine ⟨h.hb.trans (hc.below h.hb.size (fun j hj => by have hj : j = X := hj; omega)), ⟨hc.heap h.hp.1 (fun hj => ?_), h.hp.2.1, h.hp.2.2.1.chg2 hc (fun d hd j hj hs => hr d hd j hj hs) (fun j hj hs => hty h.hp.2.2.1.1 j hj hs), h.hp.2.2.2⟩,
    ⟨hc.heap h.hr.1 (fun hj => ?_), h.hr.2.1, h.hr.2.2.1.chg2 hc (fun d hd j hj hs => hr' d hd j hj hs) (fun j hj hs => hty h.hr.2.2.1.1 j hj hs), h.hr.2.2.2⟩, h.hap, h.lp, h.lq⟩
  · have hj : p = X := hj
    have := h.hp.1
    rw [hj, hX] at this
    cases this
  · have hj : q = X := hj
    have := h.hr.1
    rw [hj, hX] at this
    cases this
/-- what Make leaves of others -/
def Left (C C1 : List HC) (W W' : World) : Prop := W.heap.size ≤ W'.heap.size ∧ (∀ (j : Nat) (cs : Array Value), W.heap[j]? = some (Obj.cells cs 58 (0, 0)) → W'.heap[j]? = some (Obj.cells cs 58 (0, 0))) ∧ ∀ d ∈ C1, d ∈ C ∨ ∀ j, (Value.slice d.lo d.l.length d.lc).ownBlock = some j → W.heap.size ≤ j
theorem BI.make {w : World} {p q : Nat} {v v' : Value} {C C' : List HC} {W : World} (f : Nat) (k : Int) (L : List Wd) (ao : Option Addr) (cap B : Nat) (h : BI w p q v v' C C' W) (hL : Cells w 0 letL) (hown : W.ownsRow B 58 7 (.slice ao L.length cap) L.length (wcs L)) (ho : ∀ x ∈ L, WOk f w x) (hn : L.length ≤ 1099511627776) :
    Calls Tryd.prog 25 #[.pointer (some ⟨p, 0, none⟩), .int .i8 k, .slice ao L.length cap] W fun e W' => ∃ v1 C1, e = .returned (.tuple #[.agg (resW C k L), .int .i64 (makeN C k L)]) ∧ BI w p q v1 v' C1 C' W' ∧ Grow C k L C1 ∧ Left C C1 W W' := by
  obtain ⟨ao2, cap2, e, -, -, hrw, hno⟩ := own_wrow hown
  injection e with e1 e2 e3
  subst e1 e3
  refine (make_any f W p p v C k L ao cap h.hp (keep_letters hL h.hb) hrw (fun x hx => (ho x hx).keep h.hb) hn hno).mono ?_
  rintro e W' (⟨h0, v1, lo, lc, rfl, hp1, hc, hv1, hlo⟩ | ⟨h0, rfl, hb⟩)
  · have hnot : ∀ j, heapS p v j → ∀ cur t, W.heap[j]? = some (.cells cur t (0, 0)) → t = 86 ∨ t = 65 := fun j hj cur t ht => by
      rcases hj with rfl | hj
      · have h1 := h.hp.1
        rw [h1] at ht
        injection ht with ht
        injection ht with _ ht
        exact .inl ht.symm
      · obtain ⟨cur', hcur⟩ := own_type h.hp.2.2.1.1 j hj
        rw [hcur] at ht
        injection ht with ht
        injection ht with _ ht
        exact .inr ht.symm
    have hb1 : Below w.heap.size w W' := h.hb.trans (hc.below h.hb.size (fun j hj => by
      rcases hj with rfl | hj
      · exact h.lp
      · exact Nat.le_trans h.lp (own_base h.hp.2.2.1.1 j hj)))
    refine ⟨v1, _, by rw [resW, if_pos h0, h0], ⟨hb1, hp1, ⟨hc.heap h.hr.1 (fun hj => ?_), h.hr.2.1, h.hr.2.2.1.chg hc (fun j hj cur hcur => ?_) (fun j hj hs => ?_), h.hr.2.2.2⟩, fun j hj hj' => ?_, h.lp, h.lq⟩, by rw [Grow, if_pos h0]; exact ⟨lo, lc, rfl⟩, hc.size, fun j cs hj => hc.heap hj (fun hs => ?_), fun d hd => ?_⟩
    · rcases hnot _ hj _ _ h.hr.1 with h | h <;> exact absurd h (by decide)
    · rcases hnot _ hj _ _ hcur with h | h <;> exact absurd h (by decide)
    · rcases hs with hs | hs
      · obtain ⟨cur, hcur⟩ := own_type h.hr.2.2.1.1 j hj
        rw [hs, h.hp.1] at hcur
        cases hcur
      · exact h.hap j hs hj
    · rcases hv1 with hv1 | ⟨g, hg, hgl⟩
      · exact h.hap j (hv1 ▸ hj) hj'
      · have h1 := own_lt h.hr.2.2.1.1 (Nat.le_refl _) j hj'
        rw [hg] at hj
        injection hj with hj
        omega
    · rcases hnot _ hs _ _ hj with h | h <;> exact absurd h (by decide)
    · rw [List.mem_append] at hd
      rcases hd with hd | hd
      · exact .inl hd
      · obtain rfl := List.mem_singleton.1 hd
        exact .inr hlo
  · exact ⟨v, C, by rw [resW, if_neg h0], h.keep hb, by rw [Grow, if_neg h0], hb.size, fun j cs hj => keep_heap hj hb, fun d hd => .inl hd⟩
theorem BI.rmake {w : World} {p q : Nat} {v v' : Value} {C C' : List HC} {W : World} (f : Nat) (k : Int) (L : List Wd) (ao : Option Addr) (cap B : Nat) (h : BI w p q v v' C C' W) (hown : W.ownsRow B 58 7 (.slice ao L.length cap) L.length (wcs L)) (ho : ∀ x ∈ L, WOk f w x) (hpu : ∀ x ∈ L, Pure x) (hn : L.length ≤ 1099511627776) :
    Calls Tryd.prog 36 #[.pointer (some ⟨q, 0, none⟩), .int .i8 k, .slice ao L.length cap] W fun e W' => ∃ v1 C1, e = .returned (.tuple #[.agg (resW C' k L), .int .i64 (makeN C' k L)]) ∧ BI w p q v v1 C C1 W' ∧ Grow C' k L C1 ∧ Left C' C1 W W' := by
  obtain ⟨ao2, cap2, e, -, -, hrw, hno⟩ := own_wrow hown
  injection e with e1 e2 e3
  subst e1 e3
  refine (rmake_any f W q q v' C' k L ao cap h.hr hrw (fun x hx => (ho x hx).keep h.hb) hpu hn hno).mono ?_
  rintro e W' (⟨h0, v1, lo, lc, rfl, hp1, hc, hv1, hlo⟩ | ⟨h0, rfl, hb⟩)
  · have hnot : ∀ j, heapS q v' j → ∀ cur t, W.heap[j]? = some (.cells cur t (0, 0)) → t = 63 ∨ t = 65 := fun j hj cur t ht => by
      rcases hj with rfl | hj
      · have h1 := h.hr.1
        rw [h1] at ht
        injection ht with ht
        injection ht with _ ht
        exact .inl ht.symm
      · obtain ⟨cur', hcur⟩ := own_type h.hr.2.2.1.1 j hj
        rw [hcur] at ht
        injection ht with ht
        injection ht with _ ht
        exact .inr ht.symm
    have hb1 : Below w.heap.size w W' := h.hb.trans (hc.below h.hb.size (fun j hj => by
      rcases hj with rfl | hj
      · exact h.lq
      · exact Nat.le_trans h.lq (own_base h.hr.2.2.1.1 j hj)))
    refine ⟨v1, _, by rw [resW, if_pos h0, h0], ⟨hb1, ⟨hc.heap h.hp.1 (fun hj => ?_), h.hp.2.1, h.hp.2.2.1.chg hc (fun j hj cur hcur => ?_) (fun j hj hs => ?_), h.hp.2.2.2⟩, hp1, fun j hj hj' => ?_, h.lp, h.lq⟩, by rw [Grow, if_pos h0]; exact ⟨lo, lc, rfl⟩, hc.size, fun j cs hj => hc.heap hj (fun hs => ?_), fun d hd => ?_⟩
    · rcases hnot _ hj _ _ h.hp.1 with h | h <;> exact absurd h (by decide)
    · rcases hnot _ hj _ _ hcur with h | h <;> exact absurd h (by decide)
    · rcases hs with hs | hs
      · obtain ⟨cur, hcur⟩ := own_type h.hp.2.2.1.1 j hj
        rw [hs, h.hr.1] at hcur
        cases hcur
      · exact h.hap j hj hs
    · rcases hv1 with hv1 | ⟨g, hg, hgl⟩
      · exact h.hap j hj (hv1 ▸ hj')
      · have h1 := own_lt h.hp.2.2.1.1 (Nat.le_refl _) j hj
        rw [hg] at hj'
        injection hj' with hj'
        omega
    · rcases hnot _ hs _ _ hj with h | h <;> exact absurd h (by decide)
    · rw [List.mem_append] at hd
      rcases hd with hd | hd
      · exact .inl hd
      · obtain rfl := List.mem_singleton.1 hd
        exact .inr hlo
  · exact ⟨v', C', by rw [resW, if_neg h0], h.keep hb, by rw [Grow, if_neg h0], hb.size, fun j cs hj => keep_heap hj hb, fun d hd => .inl hd⟩
end Go.Proofs.YtfbohajojaaiaaaDoor
