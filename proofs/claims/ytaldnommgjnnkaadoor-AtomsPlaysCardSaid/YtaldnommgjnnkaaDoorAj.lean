/- atoms: Of, over a table. Conditions: the table stands. -/
import Derived.Test.YtaldnommgjnnkaaDoorAh
namespace Go.Proofs.YtaldnommgjnnkaaDoor
open Go.ChangeShapes Go.WideShapes Go.ChangeAt Go.RowKit Go.Shelf
set_option linter.unusedVariables false
attribute [local go_sem] Oper.semAt_some
def ofN (L : List ByteArray) (s : ByteArray) : Int := if s ∈ L then (ix L s : Int) else 0
def ofB (L : List ByteArray) (s : ByteArray) : Bool := decide (s ∈ L)
/-- what Of keeps: its boxes -/
def OfB (w0 : World) (s : ByteArray) (n : Int) (b : Bool) (W : World) : Prop :=
  W.cell? ⟨w0.heap.size, 0, none⟩ = some (.string s) ∧ (W.cell? ⟨w0.heap.size + 1, 0, none⟩ = some (.int .i64 n) ∧ W.frozen? ⟨w0.heap.size + 1, 0, none⟩ = false) ∧ (W.cell? ⟨w0.heap.size + 1 + 1, 0, none⟩ = some (.bool b) ∧ W.frozen? ⟨w0.heap.size + 1 + 1, 0, none⟩ = false)
theorem OfB.four (w : World) (s : ByteArray) (pv : Value) (t0 t1 t2 t3 : TypeId) :
    OfB w s 0 false ((((w.alloc (.cells #[.string s] t0)).alloc (.cells #[.int .i64 0] t1)).alloc (.cells #[.bool false] t2)).alloc (.cells #[pv] t3)) ∧
    ((((w.alloc (.cells #[.string s] t0)).alloc (.cells #[.int .i64 0] t1)).alloc (.cells #[.bool false] t2)).alloc (.cells #[pv] t3)).cell? ⟨w.heap.size + 1 + 1 + 1, 0, none⟩ = some pv ∧
    Below w.heap.size w ((((w.alloc (.cells #[.string s] t0)).alloc (.cells #[.int .i64 0] t1)).alloc (.cells #[.bool false] t2)).alloc (.cells #[pv] t3)) := by
  refine ⟨⟨by simp [go_sem], ⟨by simp [go_sem], by simp [go_sem]⟩, by simp [go_sem], by simp [go_sem]⟩, by simp [go_sem], ?_⟩
  exact ((((Below.refl _ w).alloc (Nat.le_refl _) _).alloc (by simp) _).alloc (by simp; omega) _).alloc (by simp; omega) _
theorem OfB.own (w : World) (s : ByteArray) (n : Int) (b : Bool) {A B : World} {row : Option Nat} (h : OfB w s n b A) (hg : A.grownBy B row) (hr : ∀ r, row = some r → ∃ o : Obj, A.heap[r]? = some o ∧ o.isCells = false) : OfB w s n b B :=
  ⟨cell_kept h.1 hg hr, ⟨cell_kept h.2.1.1 hg hr, (frozen_kept h.2.1.1 hg hr).trans h.2.1.2⟩, cell_kept h.2.2.1 hg hr, (frozen_kept h.2.2.1 hg hr).trans h.2.2.2⟩
theorem OfB.sets {w W : World} {s : ByteArray} {n : Int} {b : Bool} (h : OfB w s n b W) (m : Int) (c : Bool) : OfB w s m c ((W.setCell ⟨w.heap.size + 1, 0, none⟩ (.int .i64 m)).setCell ⟨w.heap.size + 1 + 1, 0, none⟩ (.bool c)) := by
  obtain ⟨g1, ⟨g3, g4⟩, g5, g6⟩ := h
  have hc := chg_set (w := W) (p := ⟨w.heap.size + 1, 0, none⟩) (.int .i64 m)
  have hd := chg_set (w := W.setCell ⟨w.heap.size + 1, 0, none⟩ (.int .i64 m)) (p := ⟨w.heap.size + 1 + 1, 0, none⟩) (.bool c)
  have k3 := World.cell?_setCell_same' W ⟨w.heap.size + 1, 0, none⟩ (.int .i64 m) (by rw [g3]; rfl)
  have k5 := hc.cell g5 (by simp)
  refine ⟨hd.cell (hc.cell g1 (by simp)) (by simp; try omega), ⟨hd.cell k3 (by simp), by rw [World.frozen?_setCell, World.frozen?_setCell]; exact g4⟩, World.cell?_setCell_same' _ _ _ (by rw [k5]; rfl), by rw [World.frozen?_setCell, World.frozen?_setCell]; exact g6⟩
def OfX (w0 : World) (s : ByteArray) (c : Code) (pre : List AP) (W : World) : Prop :=
  c = .ret ∧ ∃ pre0 x, pre = pre0 ++ [x] ∧ x.2 = s ∧ (∀ y ∈ pre0, y.2 ≠ s) ∧ OfB w0 s x.1 true W
theorem of_hit {L : List ByteArray} {s : ByteArray} {pre0 : List AP} {x : AP} (h : pre0 ++ [x] <+: allP L) (hx : x.2 = s) (hn : ∀ y ∈ pre0, y.2 ≠ s) : s ∈ L ∧ (x.1 : Int) = (ix L s : Int) := by
  obtain ⟨r, hr⟩ := h
  have h1 : (allP L)[pre0.length]? = some x := by rw [← hr]; simp
  have hlt : pre0.length < L.length := by rw [← allP_length L, ← hr]; simp
  have hp0 : ∀ j, j < pre0.length → L[j]? ≠ some s := by
    intro j hj e
    have h2 : (allP L)[j]? = some (j, s) := allP_get e
    rw [← hr, List.append_assoc, List.getElem?_append_left hj] at h2
    exact hn _ (List.mem_of_getElem? h2) rfl
  have h3 : L[pre0.length]? = some s ∧ x.1 = pre0.length := by
    have h4 := allP_get (List.getElem?_eq_getElem hlt)
    rw [h1] at h4
    have h5 := Option.some.inj h4
    rw [h5] at hx
    exact ⟨by rw [List.getElem?_eq_getElem hlt]; exact congrArg some hx, by rw [h5]⟩
  have hm : s ∈ L := List.mem_of_getElem? h3.1
  refine ⟨hm, ?_⟩
  have h6 := ix_get hm
  have h7 : ¬ ix L s < pre0.length := fun h => hp0 _ h h6
  have h8 : ix L s ≤ pre0.length := by
    unfold ix
    have hg : L[pre0.length] = s := by
      have := h3.1
      rw [List.getElem?_eq_getElem hlt] at this
      exact Option.some.inj this
    apply Nat.le_of_not_lt
    intro hlt2
    have := List.not_of_lt_findIdx (p := (· == s)) (xs := L) hlt2
    simp [hg] at this
  rw [h3.2]
  omega
theorem of_miss {L : List ByteArray} {s : ByteArray} (h : ∀ y ∈ allP L, y.2 ≠ s) : s ∉ L := by
  intro hm
  have := allP_get (ix_get hm)
  exact h _ (List.mem_of_getElem? this) rfl
def TwoV (w : World) (n : Int) (b : Bool) (x : Ending) (w' : World) : Prop := x = .returned (.tuple #[.int .i64 n, .bool b]) ∧ Below w.heap.size w w'
set_option maxRecDepth 100000 in
set_option maxHeartbeats 4000000 in
theorem of_any (p mb most base : Nat) (rv : Value) (L : List ByteArray) (w : World) (ht : Tab w base p mb rv most L) (hlow : TabLow w.heap.size p mb rv) (s : ByteArray) :
    Calls Tryd.prog 21 #[.pointer (some ⟨p, 0, none⟩), .string s] w (TwoV w (ofN L s) (ofB L s)) := by
  refine (callsIn_wide (n := 9)).1 ?_
  refine callsIn_of_wp_marks Tryd.func21 rfl trivial ?_ rfl
  simp only [Tryd.ntmps21, List.size_toArray, List.length_cons, List.length_nil, Nat.reduceAdd, Nat.reduceSub, Array.replicate_succ, Array.replicate_zero, List.push_toArray, List.append_toArray, List.nil_append, List.cons_append]
  gi_wp2
  refine ⟨trivial, ?_⟩
  refine (callsIn_wide.2 (all_in _ _)).mono ?_
  rintro e w' ⟨rfl, rfl⟩
  gi_wp2
  obtain ⟨hg0, hbp, hB0⟩ := OfB.four w s (.pointer (some ⟨p, 0, none⟩)) 9 3 4 26
  have hsz : ((((w.alloc (.cells #[.string s] 9)).alloc (.cells #[.int .i64 0] 3)).alloc (.cells #[.bool false] 4)).alloc (.cells #[.pointer (some ⟨p, 0, none⟩)] 26)).heap.size = w.heap.size + 4 := by simp
  generalize hWX : ((((w.alloc (.cells #[.string s] 9)).alloc (.cells #[.int .i64 0] 3)).alloc (.cells #[.bool false] 4)).alloc (.cells #[.pointer (some ⟨p, 0, none⟩)] 26)) = W0 at *
  clear hWX
  refine wpIn_rangeFunc_ownF rfl (by omega) (gf := 28) (lb := #[.pointer (some ⟨w.heap.size + 1 + 1 + 1, 0, none⟩)]) rfl trivial (enters_of Tryd.func28 (by kernel_rfl) rfl)
    (all_stops (w.heap.size + 1 + 1 + 1) (w.heap.size + 1 + 1 + 1 + 1) p mb most base rv L W0 (by omega) (fun k hk => by have := hlow k hk; omega) (by omega) hbp (ht.keep hB0)) belowK_t (belowK_b (by omega)) (Below.refl _ _) (fun _ => rfl)
    (fun pre W => (OfB w s 0 false W ∧ ∀ y ∈ pre, y.2 ≠ s) ∧ Below w.heap.size w W)
    (fun c pre W => OfX w s c pre W ∧ Below w.heap.size w W)
    (OwnFrom.and (Own.from (fun s' A B row h hg hr => ⟨h.1.own w s 0 false hg hr, h.2⟩) _) (ownFrom_below (Nat.le_refl _) (by omega)))
    (fun c => OwnFrom.and (Own.from (fun s' A B row h hg hr => by
      obtain ⟨h1, pre0, x, h2, h3, h4, h5⟩ := h
      exact ⟨h1, pre0, x, h2, h3, h4, h5.own w s x.1 true hg hr⟩) _) (ownFrom_below (Nat.le_refl _) (by omega)))
    ⟨⟨hg0, by simp⟩, hB0⟩ (fun x => { tmps := #[.pointer (some ⟨p, 0, none⟩), .string s, undef, .pointer (some ⟨w.heap.size, 0, none⟩), .pointer (some ⟨w.heap.size + 1, 0, none⟩), .pointer (some ⟨w.heap.size + 1 + 1, 0, none⟩), .int .i64 x.1, .string x.2, .pointer (some ⟨p, 0, none⟩), .func (.func 28) #[] #[.pointer (some ⟨w.heap.size + 1 + 1 + 1, 0, none⟩)], .int .i64 x.1, .string x.2, undef, undef, undef, undef], defers := [] }) ?assign ?body ?done ?stop
  case assign =>
    rintro l ⟨x1, x2⟩ W K hK
    dsimp only [encA] at hK ⊢
    gi_wp2
    exact hK
  case body =>
    rintro l pre ⟨x1, x2⟩ W ⟨⟨hO, hp⟩, hB⟩ hlen
    obtain ⟨g1, ⟨g3, g4⟩, g5, g6⟩ := id hO
    have hn6 : w.heap.size + 1 + 1 < W.heap.size := World.block_lt_of_cell? W _ g5
    have HP := Lib.hid hp
    have HO := Lib.hid hO
    clear hp hO
    by_cases h2 : x2 = s
    · subst h2
      gi_wp2
      exact ⟨(KeepsOthers.setCell _ _ _).trans (KeepsOthers.setCell _ _ _), ⟨rfl, pre, (x1, x2), rfl, rfl, HP.out, HO.out.sets _ _⟩, (hB.setCell (p := ⟨w.heap.size + 1, 0, none⟩) (by simp) _).setCell (p := ⟨w.heap.size + 1 + 1, 0, none⟩) (by simp; omega) _⟩
    · have hq2 := str_ne h2
      have HN := Lib.hid (show ∀ y ∈ pre ++ [(x1, x2)], y.2 ≠ s by
        intro y hy
        rcases List.mem_append.1 hy with hy | hy
        · exact HP.out y hy
        · simp at hy; subst hy; exact h2)
      clear h2
      gi_wp2
      exact ⟨KeepsOthers.refl _, Below.refl _ _, ⟨HO.out, HN.out⟩, hB⟩
  case done =>
    rintro D ys W hD rfl ⟨⟨hO, hp⟩, hB⟩ hK
    have hno := of_miss hp
    have e1 : ofN L s = 0 := by simp [ofN, hno]
    have e2 : ofB L s = false := by simp [ofB, hno]
    have HE := Lib.hid e1
    have HF := Lib.hid e2
    have hS := hO.sets 0 false
    obtain ⟨g1, ⟨g3, g4⟩, g5, g6⟩ := hO
    have hn6 : w.heap.size + 1 + 1 < W.heap.size := World.block_lt_of_cell? W _ g5
    clear hno e1 e2 hp
    have HS := Lib.hid hS
    clear hS
    gi_wp2
    have hB' := (hB.setCell (p := ⟨w.heap.size + 1, 0, none⟩) (by simp) (.int .i64 0)).setCell (p := ⟨w.heap.size + 1 + 1, 0, none⟩) (by simp; omega) (.bool false)
    have hK' := ((KeepsOthers.setCell W ⟨w.heap.size + 1, 0, none⟩ (.int .i64 0)).trans (KeepsOthers.setCell _ ⟨w.heap.size + 1 + 1, 0, none⟩ (.bool false))).same D _ hK rfl
    refine ⟨by simp, .inl ⟨_, _, rfl, run_takeDeferred hK', ?_⟩⟩
    have hd := HS.out.own w s 0 false (grownBy_putObj' _ D (.deferred none)) (fun r e => by cases e; exact ⟨_, hK', rfl⟩)
    have hc4 := hd.2.1.1
    have hc5 := hd.2.2.1
    refine ⟨.tuple #[.int .i64 0, .bool false], ?_, by rw [HE.out, HF.out], hB'.trans (belowK_b (w := w) (Nat.le_refl _) _ D _ _ (by omega) hK' rfl rfl)⟩
    simp [results, Tryd.f21, go_sem, hc4, hc5]
  case stop =>
    rintro D c pre W hD hpre ⟨⟨rfl, pre0, ⟨x1, x2⟩, rfl, hx2, hn, hO⟩, hB⟩ hK
    dsimp only at hx2 hO
    obtain ⟨hm, hx1⟩ := of_hit hpre hx2 hn
    dsimp only at hx1
    have e1 : ofN L s = (x1 : Int) := by simp [ofN, hm, hx1]
    have e2 : ofB L s = true := by simp [ofB, hm]
    have HE := Lib.hid e1
    have HF := Lib.hid e2
    have HS := Lib.hid hO
    clear e1 e2 hx2 hn hx1 hm
    have hK' := hK
    have hB' := hB
    gi_wp2
    refine ⟨by simp, .inl ⟨_, _, rfl, run_takeDeferred hK', ?_⟩⟩
    have hd := HS.out.own w s x1 true (grownBy_putObj' _ D (.deferred none)) (fun r e => by cases e; exact ⟨_, hK', rfl⟩)
    have hc4 := hd.2.1.1
    have hc5 := hd.2.2.1
    refine ⟨.tuple #[.int .i64 x1, .bool true], ?_, by rw [HE.out, HF.out], hB'.trans (belowK_b (w := w) (Nat.le_refl _) _ D _ _ (by omega) hK' rfl rfl)⟩
    simp [results, Tryd.f21, go_sem, hc4, hc5]
end Go.Proofs.YtaldnommgjnnkaaDoor
