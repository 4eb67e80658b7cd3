/- proc.Linked, proc.Watching, proc.Link. Conditions: the process reads; its rows are not too long. -/
import Derived.Test.YtemgnljegbaobaaGreatDoorNj
namespace Go.Proofs.YtemgnljegbaobaaGreatDoor
open Go.ChangeShapes Go.WideShapes Go.ChangeAt Go.RowKit
set_option linter.unusedVariables false
set_option linter.unusedSimpArgs false
set_option maxRecDepth 100000
/-- a process's rows: its frames, its mail's cells, its links, its monitors -/
structure Pd where
  L : List Fm
  nm : Nat
  xm : List Value
  lk : List Int
  ws : List (Int × Int)
def Pd.X (D : Pd) : Px := ⟨D.L, D.nm, D.lk.length, D.ws.length, D.xm, iv D.lk, wv D.ws⟩
structure Pd.ok (D : Pd) : Prop where
  hL : D.L.length ≤ 10000
  hX : ∀ f ∈ D.L, f.X.ok
  hm : D.nm ≤ 1000
  hl : D.lk.length ≤ 1000
  hw : D.ws.length ≤ 1000
theorem Pd.ok.px {D : Pd} (h : D.ok) : D.X.ok := ⟨h.hL, h.hX, by have := h.hm; show D.nm ≤ 100000; omega, by have := h.hl; show D.lk.length ≤ 100000; omega, by have := h.hw; show D.ws.length ≤ 100000; omega⟩
abbrev zeroP : Array Value := #[.int .i64 0, .int .i64 0, .slice none 0 0, .slice none 0 0, .string ⟨#[]⟩, .bool false, .bool false, .slice none 0 0, .slice none 0 0]
/-- what comes back: a process with such rows, in new memory -/
structure PrR (w : World) (D : Pd) (w' : World) (q : Pv) (D' : Pd) : Prop where
  hb : Below w.heap.size w w'
  cp : Cp D.L D'.L
  pr : PrX w' q D'.X
  ap : ∀ k, k < w.heap.size → (∀ f ∈ D.L, FrN k f.cs) → PrN k q D'.L
/-- the fields that are no rows -/
def SamePv (p q : Pv) : Prop := q.pid = p.pid ∧ q.par = p.par ∧ q.name = p.name ∧ q.trap = p.trap ∧ q.wait = p.wait
set_option maxHeartbeats 4000000 in
theorem linked_any (w : World) (p : Pv) (lk : List Int) (k : Int) (h : Rw w p.lv lk.length 1 (iv lk)) (hn : lk.length ≤ 1000) : Calls Tryz.prog 8 #[.agg p.cells, .int .i64 k] w (IsPost w (lk.any fun x => x == k)) := by
  obtain ⟨pid, par, sv, mv, name, trap, wait, lv, wv⟩ := p
  obtain ⟨lo, lc, e, hl1, hl2⟩ := h.slice
  simp only at e
  subst e
  have hb := (Below.refl w.heap.size w).alloc (Nat.le_refl _) (.cells #[.int .i64 pid, .int .i64 par, sv, mv, .string name, .bool trap, .bool wait, .slice lo lk.length lc, wv] 27)
  have hx := heap_new w (.cells #[.int .i64 pid, .int .i64 par, sv, mv, .string name, .bool trap, .bool wait, .slice lo lk.length lc, wv] 27)
  obtain ⟨c7, -⟩ := cells_at hx 7 _ rfl
  have HR := Lib.hid (show Rw w (.slice lo lk.length lc) lk.length 1 (iv lk) from h)
  have HB := Lib.hid hb
  clear h hb hx
  go_enter Tryz.func8, Tryz.ntmps8
  go_wp2_with fail
  generalize w.alloc (.cells #[.int .i64 pid, .int .i64 par, sv, mv, .string name, .bool trap, .bool wait, .slice lo lk.length lc, wv] 27) = w1 at *
  refine (mkI_any _ _ _ _).mono ?_
  rintro e w2 ⟨rfl, hb2⟩
  have HB2 := Lib.hid (HB.out.trans (hb2.mono HB.out.size))
  clear hb2 c7
  go_wp2_with fail
  refine (lookI_any _ _ lk k (HR.out.keep HB2.out) hn).mono ?_
  rintro e w3 ⟨rfl, hb3⟩
  have HB3 := Lib.hid (HB2.out.trans (hb3.mono HB2.out.size))
  have HE := Lib.hid (idxOf_any (p := fun x => x == k) lk)
  clear hb3
  generalize idxOf (fun x => x == k) lk = ix at *
  go_wp2_with fail
  go_ret
  exact ⟨by rw [← HE.out]; rfl, HB3.out⟩
/-- whom a monitor watches -/
def watchOf (ws : List (Int × Int)) (r : Int) : Int × Bool := match ws.find? (fun x => x.1 == r) with | some x => (x.2, true) | none => (0, false)
theorem find_idx {α : Type} {p : α → Bool} : ∀ (l : List α), l.find? p = if idxOf p l < 0 then none else l[(idxOf p l).toNat]?
  | [] => by simp [idxOf]
  | x :: l => by
    rw [List.find?_cons, idxOf]
    cases hx : p x
    · simp only [Bool.false_eq_true, if_false]
      rw [find_idx l]
      by_cases h0 : idxOf p l < 0
      · simp [h0]
      · have h1 : ¬ idxOf p l + 1 < 0 := by omega
        have h2 : (idxOf p l + 1).toNat = (idxOf p l).toNat + 1 := by omega
        simp [h0, h1, h2]
    · simp
set_option maxHeartbeats 4000000 in
theorem watching_any (w : World) (p : Pv) (ws : List (Int × Int)) (r : Int) (h : Rw w p.wv ws.length 2 (wv ws)) (hn : ws.length ≤ 1000) :
    Calls Tryz.prog 12 #[.agg p.cells, .int .i64 r] w fun e w' => e = .returned (.tuple #[.int .i64 (watchOf ws r).1, .bool (watchOf ws r).2]) ∧ Below w.heap.size w w' := by
  obtain ⟨pid, par, sv, mv, name, trap, wait, lv, wv0⟩ := p
  obtain ⟨lo, lc, e, hl1, hl2⟩ := h.slice
  simp only at e
  subst e
  have hb := (Below.refl w.heap.size w).alloc (Nat.le_refl _) (.cells #[.int .i64 pid, .int .i64 par, sv, mv, .string name, .bool trap, .bool wait, lv, .slice lo ws.length lc] 27)
  have hx := heap_new w (.cells #[.int .i64 pid, .int .i64 par, sv, mv, .string name, .bool trap, .bool wait, lv, .slice lo ws.length lc] 27)
  have HX := Lib.hid hx
  obtain ⟨c8, -⟩ := cells_at hx 8 _ rfl
  have HR := Lib.hid (show Rw w (.slice lo ws.length lc) ws.length 2 (wv ws) from h)
  have HB := Lib.hid hb
  clear h hb hx
  go_enter Tryz.func12, Tryz.ntmps12
  go_wp2_with fail
  generalize w.alloc (.cells #[.int .i64 pid, .int .i64 par, sv, mv, .string name, .bool trap, .bool wait, lv, .slice lo ws.length lc] 27) = w1 at *
  refine (mkW_any _ _ _ _).mono ?_
  rintro e w2 ⟨rfl, hb2⟩
  have HB2 := Lib.hid (HB.out.trans (hb2.mono HB.out.size))
  have HX2 := Lib.hid (keep_heap HX.out hb2)
  clear hb2 c8 HX
  go_wp2_with fail
  refine (lookW_any _ _ ws r (HR.out.keep HB2.out) hn).mono ?_
  rintro e w3 ⟨rfl, hb3⟩
  have HB3 := Lib.hid (HB2.out.trans (hb3.mono HB2.out.size))
  have hx3 := keep_heap HX2.out hb3
  obtain ⟨c8, -⟩ := cells_at hx3 8 _ rfl
  have hE := find_idx (p := fun x => x.1 == r) ws
  have hlt := idxOf_lt (p := fun x => x.1 == r) ws
  clear hb3 HX2 hx3
  generalize idxOf (fun x => x.1 == r) ws = ix at *
  by_cases h0 : ix < 0
  · have HW : Hid (watchOf ws r = (0, false)) := Lib.hid (by unfold watchOf; rw [hE, if_pos h0])
    have hd : decide (ix < 0) = true := decide_eq_true h0
    clear hE
    go_wp2_with fail
    go_ret2
    exact ⟨by rw [HW.out]; rfl, HB3.out⟩
  · obtain ⟨i, rfl⟩ : ∃ i : Nat, ix = i := ⟨ix.toNat, by omega⟩
    have hi : i < ws.length := by omega
    obtain ⟨x, hx⟩ : ∃ x, ws[i]? = some x := ⟨ws[i], List.getElem?_eq_getElem hi⟩
    have HW : Hid (watchOf ws r = (x.2, true)) := Lib.hid (by unfold watchOf; rw [hE, if_neg h0, Int.toNat_natCast, hx])
    obtain ⟨-, b, off, rfl, hc⟩ := (HR.out.keep HB3.out).at (by omega)
    have hc1 : w3.cell? ⟨b, off + i * 2 + 1, none⟩ = some (.int .i64 x.2) := by rw [Nat.add_assoc]; exact hc _ _ (wv_at hx).2
    have hd : decide ((i : Int) < 0) = false := decide_eq_false h0
    have hi0 : (0 : Int) ≤ (i : Int) := by omega
    clear hE hx hc hlt
    go_wp2_with fail
    go_ret2
    exact ⟨by rw [HW.out]; rfl, HB3.out⟩
theorem ret_cell_tmp {P : Program} {fn : Func} {R : Ending → World → Prop} {tmps : Array Value} {w : World} {g p r : Nat} {ty t : TypeId} {fr : Nat × Nat} {d : TypeDesc} {cs : Array Value} {v : Value} (hg : w.heap[g]? = some (.cells cs t fr)) (hfn : fn.results = #[.cell p ty, .tmp r])
    (hu : P.underlying ty = some d) (hd : (match d with | .struct _ | .array _ _ => true | _ => false) = true) (hi : (P.info? ty).map (·.size) = some cs.size)
    (hp : tmps.getD p undef = .pointer (some ⟨g, 0, none⟩)) (hv : tmps.getD r undef = v) (hpost : R (.returned (.tuple #[.agg cs, v])) w) : bodyPost P fn R .ret { tmps := tmps, defers := [] } w := by
  refine bodyPost_ret (v := .tuple #[.agg cs, v]) ?_ rfl hpost
  have hl := run_loadVar_row (P := P) w g t ty cs fr d hg hu hd hi
  unfold results
  rw [hfn]
  simp only [Array.getD_eq_getD_getElem?] at hp hv
  simp [asAddr, hp, hl, hv]
end Go.Proofs.YtemgnljegbaobaaGreatDoor
