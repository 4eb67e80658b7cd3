/- heap: what Make comes to; its loop. Conditions: the table of letters reads as laid; what comes reads. -/
import Derived.Test.YtfbmjcblnemkgaaDoorHb
import Derived.Test.YtfbmjcblnemkgaaDoorKz
import Derived.IntWalk
namespace Go.Proofs.YtfbmjcblnemkgaaDoor
open Go.ChangeShapes Go.WideShapes Go.ChangeAt Go.RowKit
set_option linter.unusedVariables false
abbrev wZ : Wd := ⟨false, 0, 0, 0, ⟨#[]⟩, ⟨#[]⟩, none, 0, []⟩
abbrev wzC : Array Value := #[.bool false, .int .i64 0, .int .i8 0, .int .i64 0, .string ⟨#[]⟩, .string ⟨#[]⟩, .slice none 0 0]
def wcC (n : Nat) : Array Value := #[.bool true, .int .i64 n, .int .i8 0, .int .i64 0, .string ⟨#[]⟩, .string ⟨#[]⟩, .slice none 0 0]
def badK (k : Int) (L : List Wd) : Bool := !partsB k || (decide (k = 7) && decide (L.length ≠ 2))
def sizeW (C : List HC) (L : List Wd) : Int := L.foldl (fun n x => min (n + nodesW C x) 257) 1
def makeN (C : List HC) (k : Int) (L : List Wd) : Int :=
  if badK k L || L.any fun x => !mayW C.length x then 2 else if 256 < sizeW C L then 11 else if 1048576 ≤ C.length then 20 else 0
theorem nodes_pos {C : List HC} (hC : Good C) {x : Wd} (hx : mayW C.length x = true) : 1 ≤ nodesW C x ∧ nodesW C x ≤ 256 := by
  unfold nodesW
  split
  · rename_i hc
    simp only [mayW, hc, if_true, Bool.and_eq_true, decide_eq_true_eq] at hx
    obtain ⟨h1, h2, -⟩ := hx
    have hi : x.a.toNat < C.length := by omega
    rw [List.getElem?_eq_getElem hi]
    have := hC.2 x.a.toNat _ (List.getElem?_eq_getElem hi)
    exact ⟨this.2.1, this.2.2.1⟩
  · omega
theorem sizeW_snoc (C : List HC) (L : List Wd) (x : Wd) : sizeW C (L ++ [x]) = min (sizeW C L + nodesW C x) 257 := by simp [sizeW]
theorem sizeW_le (C : List HC) (hC : Good C) : ∀ L : List Wd, (∀ x ∈ L, mayW C.length x = true) → 1 ≤ sizeW C L ∧ sizeW C L ≤ 257 ∧ (sizeW C L ≤ 256 → L.length < sizeW C L) := by
  intro L
  suffices h : ∀ (L : List Wd) (n : Int), 1 ≤ n → n ≤ 257 → (∀ x ∈ L, mayW C.length x = true) → n ≤ L.foldl (fun n x => min (n + nodesW C x) 257) n ∧ L.foldl (fun n x => min (n + nodesW C x) 257) n ≤ 257 ∧
      (L.foldl (fun n x => min (n + nodesW C x) 257) n ≤ 256 → L.length + n ≤ L.foldl (fun n x => min (n + nodesW C x) 257) n) by
    intro hx
    have := h L 1 (by omega) (by omega) hx
    unfold sizeW
    omega
  intro L
  induction L with
  | nil => intro n h1 h2 _; simp; omega
  | cons x L ih =>
    intro n h1 h2 hx
    have hp := nodes_pos hC (hx x (by simp))
    have := ih (min (n + nodesW C x) 257) (by omega) (by omega) fun y hy => hx y (by simp [hy])
    simp only [List.foldl_cons, List.length_cons]
    omega
def MakeP (w : World) (base p : Nat) (v : Value) (C : List HC) (k : Int) (L : List Wd) (e : Ending) (w' : World) : Prop :=
  (makeN C k L = 0 ∧ ∃ v' lo lc, e = .returned (.tuple #[.agg (wcC C.length), .int .i64 0]) ∧ Hp w' base p v' (C ++ [⟨k, sizeW C L, lo, lc, L⟩]) ∧ Chg (heapS p v) w w' ∧ (v'.ownBlock = v.ownBlock ∨ ∃ g, v'.ownBlock = some g ∧ w.heap.size ≤ g) ∧ (∀ j, (Value.slice lo L.length lc).ownBlock = some j → w.heap.size ≤ j)) ∨
    (makeN C k L ≠ 0 ∧ e = .returned (.tuple #[.agg wzC, .int .i64 (makeN C k L)]) ∧ Below w.heap.size w w')
theorem infoWD (cs : Array Value) (h : cs.size = 7) : (Tryd.prog.info? 33).map (·.size) = some cs.size := by
  rw [h]
  kernel_rfl
theorem ret_row {P : Program} {fn : Func} {R : Ending → World → Prop} {tmps : Array Value} {w : World} {g p q : Nat} {ty t : TypeId} {fr : Nat × Nat} {d : TypeDesc} {cs : Array Value} {u : Value} (hg : w.heap[g]? = some (.cells cs t fr)) (hfn : fn.results = #[.cell p ty, .tmp q])
    (hu : P.underlying ty = some d) (hd : (match d with | .struct _ | .array _ _ => true | _ => false) = true) (hi : (P.info? ty).map (·.size) = some cs.size)
    (hp : tmps.getD p undef = .pointer (some ⟨g, 0, none⟩)) (hq : tmps.getD q undef = u) (hpost : R (.returned (.tuple #[.agg cs, u])) w) : bodyPost P fn R .ret { tmps := tmps, defers := [] } w := by
  refine bodyPost_ret (v := .tuple #[.agg cs, u]) ?_ rfl hpost
  have hl := run_loadVar_row (P := P) w g t ty cs fr d hg hu hd hi
  unfold results
  rw [hfn]
  simp only [Array.getD_eq_getD_getElem?] at hp hq
  simp [asAddr, hp, hq, hl]
def MakeS (p : Nat) (v : Value) (w : World) : Prop := w.cell? ⟨p, 0, none⟩ = some v
theorem infoWD2 : ∃ i z, Tryd.prog.info? 33 = some i ∧ i.zero = some z ∧ i.size = 7 ∧ i.bytes = 88 ∧ z.cells.size = 7 := by
  have h : (Tryd.prog.info? 33).map (fun i => (i.zero.map (fun z => z.cells.size), i.size, i.bytes)) = some (some 7, 7, 88) := by kernel_rfl
  cases hi : Tryd.prog.info? 33 with
  | none => rw [hi] at h; cases h
  | some i =>
    rw [hi] at h
    simp only [Option.map_some, Option.some.injEq, Prod.mk.injEq] at h
    obtain ⟨h1, h2, h3⟩ := h
    cases hz : i.zero with
    | none => rw [hz] at h1; cases h1
    | some z =>
      rw [hz] at h1
      exact ⟨i, z, rfl, hz, h2, h3, by simpa using h1⟩
theorem infoCL2 : ∃ i z, Tryd.prog.info? 46 = some i ∧ i.zero = some z ∧ i.size = 3 ∧ i.bytes = 40 ∧ z.cells.size = 3 := by
  have h : (Tryd.prog.info? 46).map (fun i => (i.zero.map (fun z => z.cells.size), i.size, i.bytes)) = some (some 3, 3, 40) := by kernel_rfl
  cases hi : Tryd.prog.info? 46 with
  | none => rw [hi] at h; cases h
  | some i =>
    rw [hi] at h
    simp only [Option.map_some, Option.some.injEq, Prod.mk.injEq] at h
    obtain ⟨h1, h2, h3⟩ := h
    cases hz : i.zero with
    | none => rw [hz] at h1; cases h1
    | some z =>
      rw [hz] at h1
      exact ⟨i, z, rfl, hz, h2, h3, by simpa using h1⟩
theorem wcs_one {L : List Wd} : ∀ u ∈ wcs L, u.oneCell' = true := by
  intro u hu
  obtain ⟨j, hj⟩ := List.getElem?_of_mem hu
  obtain ⟨x, h1, h2⟩ := wcs_split hj
  exact x.one u (List.mem_of_getElem? h2)
theorem WRow.news {w : World} {ao : Option Addr} {L : List Wd} (h : WRow w ao L) : ∀ ad, ao = some ad → ∀ (j : Nat) (u : Value), (wcs L)[j]? = some u → w.cell? (ad.add j) = some u := by
  rintro ad rfl j u hj
  obtain ⟨x, h1, h2⟩ := wcs_split hj
  obtain ⟨b, off, e, hb, hc⟩ := h _ x h1
  injection e with e
  subst e
  have h3 := hc _ _ h2
  rw [Addr.add_lit]
  have e2 : off + j / 7 * 7 + j % 7 = off + j := by omega
  rw [e2] at h3
  exact h3
theorem wordsN_snoc (C : List HC) (c : HC) : wordsN (C ++ [c]) = wordsN C + (1 + c.l.length) := by simp [wordsN]
theorem Good.snoc {C : List HC} {c : HC} (h : Good C) (hn : C.length < 1048576) (hc : okCell C.length c) : Good (C ++ [c]) := by
  refine ⟨by simp; omega, fun i d hi => ?_⟩
  rcases Nat.lt_or_ge i C.length with h1 | h1
  · rw [List.getElem?_append_left h1] at hi
    exact h.2 i d hi
  · rw [List.getElem?_append_right h1] at hi
    have : i - C.length = 0 := by
      have := (List.getElem?_eq_some_iff.1 hi).1
      simp at this
      omega
    rw [this] at hi
    simp at hi
    subst hi
    have : i = C.length := by omega
    rw [this]
    exact hc
theorem CRow.chg2 {S : Nat → Prop} {w w' : World} {base : Nat} {v : Value} {C : List HC} (h : CRow w base v C) (hc : Chg S w w') (hS : ∀ c ∈ C, ∀ k, (Value.slice c.lo c.l.length c.lc).ownBlock = some k → ¬ S k) (hv : ∀ k, v.ownBlock = some k → ¬ S k) : CRow w' base v C :=
  ⟨own_chg h.1 hc hv, fun c hcm => own_chg (h.2 c hcm) hc (hS c hcm)⟩
/-- the loop goes on so -/
def MakeI (w : World) (C : List HC) (k : Int) (L : List Wd) (i : Nat) (b : Bool) (sz : Int) : Prop := i ≤ L.length ∧ b = badK k L ∧ sz = sizeW C (L.take i) ∧ (0 < i → badK k L = false) ∧ ∀ x ∈ L.take i, mayW C.length x = true
theorem any_false {C : List HC} {L : List Wd} (h : ∀ x ∈ L.take L.length, mayW C.length x = true) : (L.any fun x => !mayW C.length x) = false := by
  rw [List.take_of_length_le (Nat.le_refl _)] at h
  rw [List.any_eq_false]
  intro x hx
  simp [h x hx]
theorem any_true {C : List HC} {L : List Wd} {x : Wd} (hx : x ∈ L) (h : mayW C.length x = false) : (L.any fun x => !mayW C.length x) = true := by
  rw [List.any_eq_true]
  exact ⟨x, hx, by simp [h]⟩
theorem makeN_bad {C : List HC} {k : Int} {L : List Wd} (h : (badK k L || L.any fun x => !mayW C.length x) = true) : makeN C k L = 2 := by rw [makeN, if_pos h]
set_option maxRecDepth 100000 in
set_option maxHeartbeats 8000000 in
theorem make_any (f : Nat) (w : World) (base p : Nat) (v : Value) (C : List HC) (k : Int) (L : List Wd) (ao : Option Addr) (cap : Nat) (hH : Hp w base p v C) (hL : Cells w 0 letL) (hr : WRow w ao L) (ho : ∀ x ∈ L, WOk f w x) (hn : L.length ≤ 1099511627776) (hno : ao = none → L = [] ∧ cap = 0) :
    Calls Tryd.prog 10 #[.pointer (some ⟨p, 0, none⟩), .int .i8 k, .slice ao L.length cap] w (MakeP w base p v C k L) := by
  have hX0 := heap_new w (.cells wzC 33)
  have hb0 := (Below.refl w.heap.size w).alloc (Nat.le_refl _) (.cells wzC 33)
  have hS0 : (w.alloc (.cells wzC 33)).heap.size = w.heap.size + 1 := by simp
  have HX := Lib.hid hX0
  have HB := Lib.hid hb0
  have HH := Lib.hid (hH.keep hb0)
  have HL : Hid (Cells (w.alloc (.cells wzC 33)) 0 letL) := Lib.hid (fun j r hj => ⟨keep_cell (hL j r hj).1 hb0, keep_cell (hL j r hj).2 hb0⟩)
  have HR := Lib.hid (hr.keep hb0)
  have HO : Hid (∀ x ∈ L, WOk f (w.alloc (.cells wzC 33)) x) := Lib.hid (fun x hx => (ho x hx).keep hb0)
  have HP := Lib.hid (parts_any (w.alloc (.cells wzC 33)) k)
  have HGD := Lib.hid hH.2.2.2
  have HH0 := Lib.hid hH
  have HNO := Lib.hid hno
  clear hX0 hb0 hH hL hr ho hno
  have hcase : ((partsB k = false ∧ badK k L = true) ∨ (partsB k = true ∧ (k == 7) = true ∧ ((L.length : Int) != 2) = true ∧ badK k L = true)) ∨ ((partsB k = true ∧ (k == 7) = true ∧ ((L.length : Int) != 2) = false ∧ badK k L = false) ∨ (partsB k = true ∧ (k == 7) = false ∧ badK k L = false)) := by
    cases h1 : partsB k
    · exact .inl (.inl ⟨rfl, by simp [badK, h1]⟩)
    · by_cases h2 : k = 7
      · by_cases h3 : L.length = 2
        · exact .inr (.inl ⟨rfl, by simp [h2], by simp [h3], by simp [badK, h1, h3]⟩)
        · exact .inl (.inr ⟨rfl, by simp [h2], by simp; omega, by simp [badK, h2, h3]⟩)
      · exact .inr (.inr ⟨rfl, by simp [h2], by simp [badK, h1, h2]⟩)
  rcases hcase with h | h
  · rcases h with ⟨e1, e4⟩ | ⟨e1, e2, e3, e4⟩
    all_goals
      rw [e1] at HP
      have HBK := Lib.hid e4
      clear e1 e4
      go_enter Tryd.func10, Tryd.ntmps10
      go_wp2_with fail
      refine HP.out.mono ?_
      rintro e w' ⟨rfl, rfl⟩
      go_wp2_with fail
      generalize hW0 : w.alloc (.cells wzC 33) = W0 at *
      clear hW0
      go_loopw [8, 9, 30] (fun bv sv iv wr => ∃ (i : Nat) (b : Bool) (sz : Int), bv = .bool b ∧ sv = .int .i64 sz ∧ iv = .int .i64 i ∧ Below W0.heap.size W0 wr ∧ Hid (MakeI w C k L i b sz))
        (fun _ _ iv _ => L.length - (intOf iv).toNat)
      case atStart => exact ⟨0, _, 1, rfl, rfl, rfl, Below.refl _ _, Lib.hid ⟨by omega, HBK.out.symm, rfl, fun h => by omega, by simp⟩⟩
      case round =>
        obtain ⟨i, b, sz, rfl, rfl, rfl, hbw, HI⟩ := hrel
        have HBW := Lib.hid hbw
        clear hbw
        obtain rfl : b = true := HI.out.2.1.trans HBK.out
        by_cases hlt : i < L.length
        · obtain ⟨x, hx⟩ : ∃ x, L[i]? = some x := ⟨L[i], by simp [hlt]⟩
          have hxm := List.mem_of_getElem? hx
          obtain ⟨b', off, rfl, hbs, hcx⟩ := HR.out i x hx
          have c0 : wr.cell? ⟨b', off + i * 7, none⟩ = some (.bool x.c) := keep_cell (hcx 0 _ rfl) HBW.out
          have c1 : wr.cell? ⟨b', off + i * 7 + 1, none⟩ = some (.int .i64 x.a) := keep_cell (hcx 1 _ rfl) HBW.out
          have c2 : wr.cell? ⟨b', off + i * 7 + 2, none⟩ = some (.int .i8 x.k) := keep_cell (hcx 2 _ rfl) HBW.out
          have c3 : wr.cell? ⟨b', off + i * 7 + 3, none⟩ = some (.int .i64 x.n) := keep_cell (hcx 3 _ rfl) HBW.out
          have c4 : wr.cell? ⟨b', off + i * 7 + 4, none⟩ = some (.string x.s) := keep_cell (hcx 4 _ rfl) HBW.out
          have c5 : wr.cell? ⟨b', off + i * 7 + 5, none⟩ = some (.string x.u) := keep_cell (hcx 5 _ rfl) HBW.out
          have c6 : wr.cell? ⟨b', off + i * 7 + 6, none⟩ = some (.slice x.ao x.l.length x.cap) := keep_cell (hcx 6 _ rfl) HBW.out
          clear hcx
          have HX1 := Lib.hid hx
          have HXM := Lib.hid hxm
          clear hx hxm
          obtain ⟨xc, xa, xk, xn, xs, xu, xao, xcap, xl⟩ := x
          dsimp only at c0 c1 c2 c3 c4 c5 c6
          have hbx := (Below.refl wr.heap.size wr).alloc (Nat.le_refl _) (.cells #[.bool xc, .int .i64 xa, .int .i8 xk, .int .i64 xn, .string xs, .string xu, .slice xao xl.length xcap] 33)
          have HBX := Lib.hid (HBW.out.trans (hbx.mono HBW.out.size))
          have HM := Lib.hid (may_any f (wr.alloc (.cells #[.bool xc, .int .i64 xa, .int .i8 xk, .int .i64 xn, .string xs, .string xu, .slice xao xl.length xcap] 33)) base p v C ⟨xc, xa, xk, xn, xs, xu, xao, xcap, xl⟩ (HH.out.keep HBX.out) (fun j r hj => ⟨keep_cell (HL.out j r hj).1 HBX.out, keep_cell (HL.out j r hj).2 HBX.out⟩) ((HO.out _ HXM.out).keep HBX.out))
          clear hbx
          go_wp2_with (with_reducible refine stop_op (o := ⟨_, .store 33 (.tmp 11) (.tmp 33), _, _, _, _⟩) ?_)
          refine Lib.hid ?_
          refine wpList_store_new (o := ⟨none, _, _, _, _, _⟩) rfl 33 (.tmp 11) (.tmp 33) rfl #[.bool xc, .int .i64 xa, .int .i8 xk, .int .i64 xn, .string xs, .string xu, .slice xao xl.length xcap] rfl rfl (infoWD _ rfl) rfl (by simp [Value.oneCell']) ?_
          have HXT := Lib.hid (keep_heap HX.out HBX.out)
          have HBT := Lib.hid (HB.out.trans (HBX.out.mono HB.out.size))
          have HN : Hid (makeN C k L = 2) := Lib.hid (makeN_bad (by rw [← HI.out.2.1]; rfl))
          clear HM
          go_wp2_with (with_reducible refine stop_op (o := ⟨_, .load 33 (.tmp 6), _, _, _, _⟩) ?_)
          refine Lib.hid ?_
          refine wpList_load_row (o := ⟨_, _, _, _, _, _⟩) rfl 33 (.tmp 6) rfl w.heap.size rfl 33 wzC (0, 0) _ HXT.out Tryd.underlying33 rfl (infoWD _ rfl) ?_
          go_wp2_with (with_reducible refine stop_op (o := ⟨_, .store 33 (.tmp 6) (.tmp 51), _, _, _, _⟩) ?_)
          refine Lib.hid ?_
          refine wpList_store_row (o := ⟨none, _, _, _, _, _⟩) rfl 33 (.tmp 6) (.tmp 51) rfl w.heap.size wzC rfl rfl 33 wzC HXT.out (infoWD _ rfl) rfl (by simp [Value.oneCell']) ?_
          rw [setRow_self _ _ _ _ _ HXT.out]
          go_wp2_with fail
          exact ret_row HXT.out rfl Tryd.underlying33 rfl (infoWD _ rfl) rfl rfl (.inr ⟨by rw [HN.out]; decide, by rw [HN.out]; rfl, HBT.out⟩)
        · have hil : i = L.length := by have := HI.out.1; omega
          subst hil
          have HXT := Lib.hid (keep_heap HX.out HBW.out)
          have HBT := Lib.hid (HB.out.trans (HBW.out.mono HB.out.size))
          have HN : Hid (makeN C k L = 2) := Lib.hid (makeN_bad (by rw [← HI.out.2.1]; rfl))
          go_wp2_with (with_reducible refine stop_op (o := ⟨_, .load 33 (.tmp 6), _, _, _, _⟩) ?_)
          refine Lib.hid ?_
          refine wpList_load_row (o := ⟨_, _, _, _, _, _⟩) rfl 33 (.tmp 6) rfl w.heap.size rfl 33 wzC (0, 0) _ HXT.out Tryd.underlying33 rfl (infoWD _ rfl) ?_
          go_wp2_with (with_reducible refine stop_op (o := ⟨_, .store 33 (.tmp 6) (.tmp 51), _, _, _, _⟩) ?_)
          refine Lib.hid ?_
          refine wpList_store_row (o := ⟨none, _, _, _, _, _⟩) rfl 33 (.tmp 6) (.tmp 51) rfl w.heap.size wzC rfl rfl 33 wzC HXT.out (infoWD _ rfl) rfl (by simp [Value.oneCell']) ?_
          rw [setRow_self _ _ _ _ _ HXT.out]
          go_wp2_with fail
          exact ret_row HXT.out rfl Tryd.underlying33 rfl (infoWD _ rfl) rfl rfl (.inr ⟨by rw [HN.out]; decide, by rw [HN.out]; rfl, HBT.out⟩)
  · rcases h with ⟨e1, e2, e3, e4⟩ | ⟨e1, e2, e4⟩
    all_goals
      rw [e1] at HP
      have HBK := Lib.hid e4
      clear e1 e4
      go_enter Tryd.func10, Tryd.ntmps10
      go_wp2_with fail
      refine HP.out.mono ?_
      rintro e w' ⟨rfl, rfl⟩
      go_wp2_with fail
      generalize hW0 : w.alloc (.cells wzC 33) = W0 at *
      clear hW0
      go_loopw [8, 9, 30] (fun bv sv iv wr => ∃ (i : Nat) (b : Bool) (sz : Int), bv = .bool b ∧ sv = .int .i64 sz ∧ iv = .int .i64 i ∧ Below W0.heap.size W0 wr ∧ Hid (MakeI w C k L i b sz))
        (fun _ _ iv _ => L.length - (intOf iv).toNat)
      case atStart => exact ⟨0, _, 1, rfl, rfl, rfl, Below.refl _ _, Lib.hid ⟨by omega, HBK.out.symm, rfl, fun h => by omega, by simp⟩⟩
      case round =>
        obtain ⟨i, b, sz, rfl, rfl, rfl, hbw, HI⟩ := hrel
        have HBW := Lib.hid hbw
        clear hbw
        obtain rfl : b = false := HI.out.2.1.trans HBK.out
        by_cases hlt : i < L.length
        · obtain ⟨x, hx⟩ : ∃ x, L[i]? = some x := ⟨L[i], by simp [hlt]⟩
          have hxm := List.mem_of_getElem? hx
          obtain ⟨b', off, rfl, hbs, hcx⟩ := HR.out i x hx
          have c0 : wr.cell? ⟨b', off + i * 7, none⟩ = some (.bool x.c) := keep_cell (hcx 0 _ rfl) HBW.out
          have c1 : wr.cell? ⟨b', off + i * 7 + 1, none⟩ = some (.int .i64 x.a) := keep_cell (hcx 1 _ rfl) HBW.out
          have c2 : wr.cell? ⟨b', off + i * 7 + 2, none⟩ = some (.int .i8 x.k) := keep_cell (hcx 2 _ rfl) HBW.out
          have c3 : wr.cell? ⟨b', off + i * 7 + 3, none⟩ = some (.int .i64 x.n) := keep_cell (hcx 3 _ rfl) HBW.out
          have c4 : wr.cell? ⟨b', off + i * 7 + 4, none⟩ = some (.string x.s) := keep_cell (hcx 4 _ rfl) HBW.out
          have c5 : wr.cell? ⟨b', off + i * 7 + 5, none⟩ = some (.string x.u) := keep_cell (hcx 5 _ rfl) HBW.out
          have c6 : wr.cell? ⟨b', off + i * 7 + 6, none⟩ = some (.slice x.ao x.l.length x.cap) := keep_cell (hcx 6 _ rfl) HBW.out
          clear hcx
          have HX1 := Lib.hid hx
          have HXM := Lib.hid hxm
          clear hx hxm
          obtain ⟨xc, xa, xk, xn, xs, xu, xao, xcap, xl⟩ := x
          dsimp only at c0 c1 c2 c3 c4 c5 c6
          have hbx := (Below.refl wr.heap.size wr).alloc (Nat.le_refl _) (.cells #[.bool xc, .int .i64 xa, .int .i8 xk, .int .i64 xn, .string xs, .string xu, .slice xao xl.length xcap] 33)
          have HBX := Lib.hid (HBW.out.trans (hbx.mono HBW.out.size))
          have HM := Lib.hid (may_any f (wr.alloc (.cells #[.bool xc, .int .i64 xa, .int .i8 xk, .int .i64 xn, .string xs, .string xu, .slice xao xl.length xcap] 33)) base p v C ⟨xc, xa, xk, xn, xs, xu, xao, xcap, xl⟩ (HH.out.keep HBX.out) (fun j r hj => ⟨keep_cell (HL.out j r hj).1 HBX.out, keep_cell (HL.out j r hj).2 HBX.out⟩) ((HO.out _ HXM.out).keep HBX.out))
          clear hbx
          cases hm : mayW C.length ⟨xc, xa, xk, xn, xs, xu, xao, xcap, xl⟩
          · rw [hm] at HM
            have HN : Hid (makeN C k L = 2) := Lib.hid (makeN_bad (by rw [any_true HXM.out hm]; simp))
            clear hm
            go_wp2_with (with_reducible refine stop_op (o := ⟨_, .store 33 (.tmp 11) (.tmp 33), _, _, _, _⟩) ?_)
            refine Lib.hid ?_
            refine wpList_store_new (o := ⟨none, _, _, _, _, _⟩) rfl 33 (.tmp 11) (.tmp 33) rfl #[.bool xc, .int .i64 xa, .int .i8 xk, .int .i64 xn, .string xs, .string xu, .slice xao xl.length xcap] rfl rfl (infoWD _ rfl) rfl (by simp [Value.oneCell']) ?_
            go_wp2_with fail
            refine HM.out.mono ?_
            rintro e w2 ⟨rfl, hb2⟩
            have HB2 := Lib.hid (HBX.out.trans (hb2.mono HBX.out.size))
            have HXT := Lib.hid (keep_heap HX.out HB2.out)
            have HBT := Lib.hid (HB.out.trans (HB2.out.mono HB.out.size))
            clear hb2 c0 c1 c2 c3 c4 c5 c6
            go_wp2_with (with_reducible refine stop_op (o := ⟨_, .load 33 (.tmp 6), _, _, _, _⟩) ?_)
            refine Lib.hid ?_
            refine wpList_load_row (o := ⟨_, _, _, _, _, _⟩) rfl 33 (.tmp 6) rfl w.heap.size rfl 33 wzC (0, 0) _ HXT.out Tryd.underlying33 rfl (infoWD _ rfl) ?_
            go_wp2_with (with_reducible refine stop_op (o := ⟨_, .store 33 (.tmp 6) (.tmp 51), _, _, _, _⟩) ?_)
            refine Lib.hid ?_
            refine wpList_store_row (o := ⟨none, _, _, _, _, _⟩) rfl 33 (.tmp 6) (.tmp 51) rfl w.heap.size wzC rfl rfl 33 wzC HXT.out (infoWD _ rfl) rfl (by simp [Value.oneCell']) ?_
            rw [setRow_self _ _ _ _ _ HXT.out]
            go_wp2_with fail
            exact ret_row HXT.out rfl Tryd.underlying33 rfl (infoWD _ rfl) rfl rfl (.inr ⟨by rw [HN.out]; decide, by rw [HN.out]; rfl, HBT.out⟩)
          · rw [hm] at HM
            have hsz := sizeW_le C HGD.out (L.take i) HI.out.2.2.2.2
            have hnp := nodes_pos HGD.out hm
            have hse : sz = sizeW C (L.take i) := HI.out.2.2.1
            have hsn := sizeW_snoc C (L.take i) ⟨xc, xa, xk, xn, xs, xu, xao, xcap, xl⟩
            have htk : L.take (i + 1) = L.take i ++ [⟨xc, xa, xk, xn, xs, xu, xao, xcap, xl⟩] := by rw [List.take_add_one, HX1.out]; rfl
            rw [← hse] at hsz hsn
            have HSN := Lib.hid hsn
            have HTK := Lib.hid htk
            have HMM := Lib.hid hm
            obtain ⟨hz1, hz2, -⟩ := hsz
            clear hsn htk hm hse
            go_wp2_with (with_reducible refine stop_op (o := ⟨_, .store 33 (.tmp 11) (.tmp 33), _, _, _, _⟩) ?_)
            refine Lib.hid ?_
            refine wpList_store_new (o := ⟨none, _, _, _, _, _⟩) rfl 33 (.tmp 11) (.tmp 33) rfl #[.bool xc, .int .i64 xa, .int .i8 xk, .int .i64 xn, .string xs, .string xu, .slice xao xl.length xcap] rfl rfl (infoWD _ rfl) rfl (by simp [Value.oneCell']) ?_
            have hf2 := heap_new wr (.cells #[.bool xc, .int .i64 xa, .int .i8 xk, .int .i64 xn, .string xs, .string xu, .slice xao xl.length xcap] 33)
            have HF2 := Lib.hid hf2
            clear hf2
            go_wp2_with fail
            refine HM.out.mono ?_
            rintro e w2 ⟨rfl, hb2⟩
            have HB2 := Lib.hid (HBX.out.trans (hb2.mono HBX.out.size))
            have hf3 := keep_heap HF2.out hb2
            have d0 := (cells_at hf3 0 _ rfl).1
            have d1 := (cells_at hf3 1 _ rfl).1
            have d2 := (cells_at hf3 2 _ rfl).1
            have d3 := (cells_at hf3 3 _ rfl).1
            have d4 := (cells_at hf3 4 _ rfl).1
            have d5 := (cells_at hf3 5 _ rfl).1
            have d6 := (cells_at hf3 6 _ rfl).1
            have HND := Lib.hid (nodes_any w2 base p v C ⟨xc, xa, xk, xn, xs, xu, xao, xcap, xl⟩ (HH.out.keep HB2.out) HMM.out)
            clear hb2 c0 c1 c2 c3 c4 c5 c6 hf3
            generalize nodesW C ⟨xc, xa, xk, xn, xs, xu, xao, xcap, xl⟩ = nd at *
            go_wp2_with fail
            refine HND.out.mono ?_
            rintro e w3 ⟨rfl, hb3⟩
            have HB3 := Lib.hid (HB2.out.trans (hb3.mono HB2.out.size))
            clear hb3 d0 d1 d2 d3 d4 d5 d6
            go_wp2_with fail
            go_roundw
            case rel => exact ⟨i + 1, false, _, rfl, rfl, by go_num, HB3.out, Lib.hid ⟨by omega, HI.out.2.1, by rw [HTK.out, HSN.out], fun _ => HI.out.2.1.symm, fun y hy => by
              rw [HTK.out, List.mem_append] at hy
              rcases hy with hy | hy
              · exact HI.out.2.2.2.2 y hy
              · obtain rfl := List.mem_singleton.1 hy
                exact HMM.out⟩⟩
            case measure => simp [intOf]; omega
        · have hil : i = L.length := by have := HI.out.1; omega
          subst hil
          have HXT := Lib.hid (keep_heap HX.out HBW.out)
          have HBT := Lib.hid (HB.out.trans (HBW.out.mono HB.out.size))
          have hsz : sz = sizeW C L := by rw [HI.out.2.2.1, List.take_of_length_le (Nat.le_refl _)]
          have hbk : (badK k L || L.any fun x => !mayW C.length x) = false := by rw [← HI.out.2.1, any_false HI.out.2.2.2.2]; rfl
          obtain ⟨hz1, hz2, hz3⟩ := sizeW_le C HGD.out (L.take L.length) HI.out.2.2.2.2
          rw [List.take_of_length_le (Nat.le_refl _), ← hsz] at hz1 hz2 hz3
          obtain ⟨vo, vc, hv, hvc1, hvc2, p0, p0f, p1, p1f, hps, -⟩ := (HH.out.keep HBW.out).facts
          by_cases h256 : 256 < sz
          · have d256 : decide (256 < sz) = true := by simpa using h256
            have HN : Hid (makeN C k L = 11) := Lib.hid (by rw [makeN, if_neg (by rw [hbk]; simp), if_pos (by rw [← hsz]; exact h256)])
            clear hbk hsz h256 p0 p0f p1 p1f
            go_wp2_with (with_reducible refine stop_op (o := ⟨_, .load 33 (.tmp 6), _, _, _, _⟩) ?_)
            refine Lib.hid ?_
            refine wpList_load_row (o := ⟨_, _, _, _, _, _⟩) rfl 33 (.tmp 6) rfl w.heap.size rfl 33 wzC (0, 0) _ HXT.out Tryd.underlying33 rfl (infoWD _ rfl) ?_
            go_wp2_with (with_reducible refine stop_op (o := ⟨_, .store 33 (.tmp 6) (.tmp 55), _, _, _, _⟩) ?_)
            refine Lib.hid ?_
            refine wpList_store_row (o := ⟨none, _, _, _, _, _⟩) rfl 33 (.tmp 6) (.tmp 55) rfl w.heap.size wzC rfl rfl 33 wzC HXT.out (infoWD _ rfl) rfl (by simp [Value.oneCell']) ?_
            rw [setRow_self _ _ _ _ _ HXT.out]
            go_wp2_with fail
            exact ret_row HXT.out rfl Tryd.underlying33 rfl (infoWD _ rfl) rfl rfl (.inr ⟨by rw [HN.out]; decide, by rw [HN.out]; rfl, HBT.out⟩)
          · have d256 : decide (256 < sz) = false := by simpa using h256
            by_cases hfull : 1048576 ≤ C.length
            · have dfull : decide (1048576 ≤ (C.length : Int)) = true := by simp; omega
              have HN : Hid (makeN C k L = 20) := Lib.hid (by rw [makeN, if_neg (by rw [hbk]; simp), if_neg (by rw [← hsz]; exact h256), if_pos hfull])
              clear hbk hsz h256 p0f p1 p1f hfull
              go_wp2_with (with_reducible refine stop_op (o := ⟨_, .load 33 (.tmp 6), _, _, _, _⟩) ?_)
              refine Lib.hid ?_
              refine wpList_load_row (o := ⟨_, _, _, _, _, _⟩) rfl 33 (.tmp 6) rfl w.heap.size rfl 33 wzC (0, 0) _ HXT.out Tryd.underlying33 rfl (infoWD _ rfl) ?_
              go_wp2_with (with_reducible refine stop_op (o := ⟨_, .store 33 (.tmp 6) (.tmp 63), _, _, _, _⟩) ?_)
              refine Lib.hid ?_
              refine wpList_store_row (o := ⟨none, _, _, _, _, _⟩) rfl 33 (.tmp 6) (.tmp 63) rfl w.heap.size wzC rfl rfl 33 wzC HXT.out (infoWD _ rfl) rfl (by simp [Value.oneCell']) ?_
              rw [setRow_self _ _ _ _ _ HXT.out]
              go_wp2_with fail
              exact ret_row HXT.out rfl Tryd.underlying33 rfl (infoWD _ rfl) rfl rfl (.inr ⟨by rw [HN.out]; decide, by rw [HN.out]; rfl, HBT.out⟩)
            · have dfull : decide (1048576 ≤ (C.length : Int)) = false := by simp; omega
              have HN : Hid (makeN C k L = 0) := Lib.hid (by rw [makeN, if_neg (by rw [hbk]; simp), if_neg (by rw [← hsz]; exact h256), if_neg hfull])
              have HSZ := Lib.hid hsz
              clear hbk hsz
              go_wp2_with fail
              subst hv
              obtain ⟨dc, rfl⟩ := Nat.le.dest hvc1
              have hw1 : IntKind.i64.wrap ((C.length : Int) + dc - C.length) = dc := by rw [IntWalk.i64_in _ (by omega)]; omega
              have hw2 : IntKind.i64.wrap ((C.length : Int) + dc) = (C.length : Int) + dc := IntWalk.i64_in _ (by omega)
              have hw3 : ((C.length : Int) + dc).toNat = C.length + dc := by omega
              have hw4 : 0 ≤ (C.length : Int) + dc := by omega
              have hD : MakeS p (.slice vo C.length (C.length + dc)) wr.drew := p0
              refine region_planZ 25 (MakeS p (.slice vo C.length (C.length + dc))) [(0, 0), (1, 0), (2, 0), (3, 0), (4, 0), (5, 0), (6, 0), (7, 0), (8, 0), (9, 0), (10, 0), (11, 0), (12, 0), (13, 0), (14, 0), (15, 0), (16, 0), (17, 0), (18, 0), (19, 1), (20, 0), (21, 1), (22, 1), (23, 1), (24, 0), (25, 1)] (by kernel_rfl) (by kernel_rfl) (by kernel_rfl) hD ?_
              iterate 19 (first | (refine planZ_skip rfl ?_ ?_; (focus (rfl)); (try simp only [Act.put, List.setIfInBounds_toArray, List.set_cons_zero, List.set_cons_succ])) | (refine planZ_take (v := ?_) rfl ?_ (fun w hSw => ?_) ?_; rotate_left; (focus (rfl)); (focus (unfold MakeS at hSw; (go_simp <;> with_reducible rfl))); (try simp only [Act.put, List.setIfInBounds_toArray, List.set_cons_zero, List.set_cons_succ])))
              obtain ⟨i0, z0, q1, q2, q3, q4, q5⟩ := infoWD2
              obtain ⟨i1, z1, r1, r2, r3, r4, r5⟩ := infoCL2
              have HHW := Lib.hid ((HH.out.keep HBW.out).keep (Below.refl wr.heap.size wr).drew)
              have HRW := Lib.hid ((HR.out.keep HBW.out).keep (Below.refl wr.heap.size wr).drew)
              have HXW := Lib.hid (keep_heap HXT.out (Below.refl wr.heap.size wr).drew)
              have HBD := Lib.hid (HBT.out.trans ((Below.refl wr.heap.size wr).drew.mono HBT.out.size))
              have hbp := HHW.out.2.1
              have hps2 := heap_lt HHW.out.1
              clear hw1 hw2 hw3 hw4 p1 p1f p0 p0f hps HXT HBT
              generalize wr.drew = WD at *
              refine planZ_run rfl ?_ (fun K hK => ?_)
              focus (rfl)
              refine op_append_any (.const (.slice none 0 0)) (.tmp 87) 26 rfl base 33 i0 z0 7 88 Tryd.underlying26 q1 q2 q3 q4 q5 (by decide) _ 0 [] rfl (World.ownsRow_nil _ _ _ _) ao L.length cap (wcs L) rfl (wcs_len L) (fun e => by obtain ⟨e1, e2⟩ := HNO.out e; exact ⟨by rw [e1]; rfl, e2⟩) HRW.out.news wcs_one (by unfold maxLen; omega) (by omega) (by omega) ?_
              intro v1 W1 hown1 hg1 hwh1
              obtain ⟨lo, lc, rfl⟩ := own_slice hown1
              rw [List.nil_append, Nat.zero_add] at hown1
              have HLO : Hid (∀ j, (Value.slice lo L.length lc).ownBlock = some j → w.heap.size < j) := Lib.hid (fun j hj => by
                have hx := heap_lt HXW.out
                rcases hwh1 with h | h
                · rw [show (Value.slice lo L.length lc).ownBlock = (Value.slice lo (0 + L.length) lc).ownBlock from by cases lo <;> rfl, h] at hj
                  cases hj
                · rw [show (Value.slice lo L.length lc).ownBlock = (Value.slice lo (0 + L.length) lc).ownBlock from by cases lo <;> rfl, h] at hj
                  injection hj with hj
                  omega)
              simp only [Nat.zero_add]
              have hb1 : Below WD.heap.size WD W1 := (chg_grown hg1).below (Nat.le_refl _) (fun k h => by cases h)
              have hD1 : MakeS p (.slice vo C.length (C.length + dc)) W1 := keep_cell hD hb1
              refine hK.out _ _ (fun _ => hD1) ?_
              clear hK K
              (try simp only [Act.put, List.setIfInBounds_toArray, List.set_cons_zero, List.set_cons_succ])
              iterate 1 (first | (refine planZ_skip rfl ?_ ?_; (focus (rfl)); (try simp only [Act.put, List.setIfInBounds_toArray, List.set_cons_zero, List.set_cons_succ])) | (refine planZ_take (v := ?_) rfl ?_ (fun w hSw => ?_) ?_; rotate_left; (focus (rfl)); (focus (unfold MakeS at hSw; (go_simp <;> with_reducible rfl))); (try simp only [Act.put, List.setIfInBounds_toArray, List.set_cons_zero, List.set_cons_succ])))
              have hb2 := (Below.refl W1.heap.size W1).alloc (Nat.le_refl _) (.cells #[.int .i8 k, .int .i64 sz, .slice lo L.length lc] 46)
              have hD2 : MakeS p (.slice vo C.length (C.length + dc)) (W1.alloc (.cells #[.int .i8 k, .int .i64 sz, .slice lo L.length lc] 46)) := keep_cell hD1 hb2
              refine planZ_run rfl ?_ (fun K hK => ?_)
              focus (rfl)
              go_simp
              refine hK.out _ _ (fun _ => hD2) ?_
              clear hK K
              (try simp only [Act.put, List.setIfInBounds_toArray, List.set_cons_zero, List.set_cons_succ])
              have hb12 := hb1.trans (hb2.mono hb1.size)
              have hH2 := HHW.out.keep hb12
              have hO2 := own_keep hown1 hb2
              have hnw := heap_new W1 (.cells #[.int .i8 k, .int .i64 sz, .slice lo L.length lc] 46)
              have HN2 := Lib.hid hnw
              have HH2 := Lib.hid hH2
              have HO2 := Lib.hid hO2
              have HB12 := Lib.hid hb12
              have hs12 := hb12.size
              have hC20 : C.length < 1048576 := by omega
              clear hown1 hg1 hb1 hb2 hb12 hH2 hO2 hnw hD1
              refine planZ_run rfl ?_ (fun K hK => ?_)
              focus (rfl)
              refine op_append_any (.tmp 84) (.tmp 90) 54 rfl base 46 i1 z1 3 40 Tryd.underlying54 r1 r2 r3 r4 r5 (by decide) (.slice vo C.length (C.length + dc)) C.length (ccs C) rfl HH2.out.2.2.1.1 (some ⟨W1.heap.size, 0, none⟩) 1 1 [.int .i8 k, .int .i64 sz, .slice lo L.length lc] rfl rfl (fun e => by cases e) (fun ad e j u hj => by
                injection e with e
                subst e
                rw [Addr.add_lit, Nat.zero_add]
                exact (cells_at HN2.out j u (by simpa using hj)).1) (by simp [Value.oneCell']) (by unfold maxLen; omega) (by omega) (Nat.le_trans (by omega : base ≤ WD.heap.size) hs12) ?_
              intro v2 W2 hown2 hg2 hwh
              obtain ⟨uo, uc, rfl⟩ := own_slice hown2
              have hc2 := chg_grown hg2
              have hcell2 : CRow W2 base (.slice uo (C.length + 1) uc) (C ++ [⟨k, sz, lo, lc, L⟩]) := by
                refine ⟨by rw [ccs_snoc, List.length_append]; exact hown2, fun d hd => ?_⟩
                rw [List.mem_append] at hd
                have key : ∀ (xo : Option Addr) (m xc : Nat) (xs : List Value), (W1.alloc (.cells #[.int .i8 k, .int .i64 sz, .slice lo L.length lc] 46)).ownsRow base 33 7 (.slice xo m xc) m xs → W2.ownsRow base 33 7 (.slice xo m xc) m xs := by
                  intro xo m xc xs hx
                  refine own_chg hx hc2 fun j hj hs => ?_
                  obtain ⟨cur, hcur⟩ := own_type hx j hj
                  obtain ⟨cur', hcur'⟩ := own_type HH2.out.2.2.1.1 j hs.symm
                  rw [hcur] at hcur'
                  cases hcur'
                rcases hd with hd | hd
                · exact key _ _ _ _ (HH2.out.2.2.1.2 d hd)
                · obtain rfl := List.mem_singleton.1 hd
                  exact key _ _ _ _ HO2.out
              have hpv : ¬ some p = (Value.slice vo C.length (C.length + dc)).ownBlock := fun e => by
                obtain ⟨cur, hcur⟩ := own_type HH2.out.2.2.1.1 p e.symm
                rw [HH2.out.1] at hcur
                cases hcur
              have hp2 := hc2.heap HH2.out.1 hpv
              have hX2 := hc2.heap (keep_heap HXW.out HB12.out) (fun e => by
                obtain ⟨cur, hcur⟩ := own_type HH2.out.2.2.1.1 w.heap.size e.symm
                rw [keep_heap HXW.out HB12.out] at hcur
                cases hcur)
              have hD3 : MakeS p (.slice vo C.length (C.length + dc)) W2 := (cells_at hp2 0 _ rfl).1
              refine hK.out _ _ (fun _ => hD3) ?_
              clear hK K
              (try simp only [Act.put, List.setIfInBounds_toArray, List.set_cons_zero, List.set_cons_succ])
              refine planZ_run rfl ?_ (fun K hK => ?_)
              focus (rfl)
              go_simp
              refine hK.out _ _ (fun _ => hD3) ?_
              clear hK K
              (try simp only [Act.put, List.setIfInBounds_toArray, List.set_cons_zero, List.set_cons_succ])
              iterate 1 (first | (refine planZ_skip rfl ?_ ?_; (focus (rfl)); (try simp only [Act.put, List.setIfInBounds_toArray, List.set_cons_zero, List.set_cons_succ])) | (refine planZ_take (v := ?_) rfl ?_ (fun w hSw => ?_) ?_; rotate_left; (focus (rfl)); (focus (unfold MakeS at hSw; (go_simp <;> with_reducible rfl))); (try simp only [Act.put, List.setIfInBounds_toArray, List.set_cons_zero, List.set_cons_succ])))
              obtain ⟨a0, a0f⟩ := cells_at hp2 0 _ rfl
              have hps3 := heap_lt hp2
              refine planZ_run rfl ?_ (fun K hK => ?_)
              focus (rfl)
              go_simp
              refine hK.out _ _ (fun h => absurd rfl h) ?_
              clear hK K
              (try simp only [Act.put, List.setIfInBounds_toArray, List.set_cons_zero, List.set_cons_succ])
              refine planZ_done ?_
              have hc3 := chg_set (w := W2) (p := ⟨p, 0, none⟩) (.slice uo (C.length + 1) uc)
              have hp3 := set_at (i := 0) hp2 (.slice uo (C.length + 1) uc)
              have hX3 := hc3.heap hX2 (fun e => by
                have e : w.heap.size = p := e
                rw [e, hp2] at hX2
                cases hX2)
              have hcell3 : CRow (W2.setCell ⟨p, 0, none⟩ (.slice uo (C.length + 1) uc)) base (.slice uo (C.length + 1) uc) (C ++ [⟨k, sz, lo, lc, L⟩]) := hcell2.chg hc3 (fun j hj cur hcur => by
                have hj : j = p := hj
                rw [hj, hp2] at hcur
                cases hcur) (fun j hj hs => by
                have hs : j = p := hs
                obtain ⟨cur, hcur⟩ := own_type hcell2.1 j hj
                rw [hs, hp2] at hcur
                cases hcur)
              have HC3 : Hid (Chg (heapS p (.slice vo C.length (C.length + dc))) w (W2.setCell ⟨p, 0, none⟩ (.slice uo (C.length + 1) uc))) := Lib.hid ((((chg_of_below HBD.out _).grow (chg_of_below HB12.out (fun _ => False)) (fun j _ h => h.elim)).grow hc2 (fun j _ h => .inr h.symm)).grow hc3 (fun j _ h => .inl h))
              have hwh2 : (Value.slice uo (C.length + 1) uc).ownBlock = (Value.slice vo C.length (C.length + dc)).ownBlock ∨ ∃ g, (Value.slice uo (C.length + 1) uc).ownBlock = some g ∧ w.heap.size ≤ g := hwh.imp id (fun h => ⟨_, h, Nat.le_trans HBD.out.size hs12⟩)
              have HWH := Lib.hid hwh2
              have HX3 := Lib.hid hX3
              have HP3 := Lib.hid hp3
              have HCL3 := Lib.hid hcell3
              obtain ⟨g1, g1f⟩ := cells_at hp3 1 _ rfl
              have g1' : (W2.setCell ⟨p, 0, none⟩ (.slice uo (C.length + 1) uc)).cell? ⟨p, 1, none⟩ = some (.int .i64 (wordsN C)) := g1
              have hps4 := heap_lt hp3
              have hww := HGD.out.words
              clear hc3 hp3 hX3 hcell3 hwh2 g1 hc2 hcell2 hpv hp2 hX2 hD3 a0 a0f hown2 hg2 hwh hps3 HN2 HH2 HO2 HB12 hs12 HHW HRW HXW HBD
              generalize W2.setCell ⟨p, 0, none⟩ (.slice uo (C.length + 1) uc) = W3 at *
              go_wp2_with (with_reducible refine stop_op (o := ⟨_, .store 33 (.tmp 6) (.tmp 105), _, _, _, _⟩) ?_)
              refine Lib.hid ?_
              have hc4 := chg_set (w := W3) (p := ⟨p, 1, none⟩) (.int .i64 ((wordsN C : Int) + (1 + L.length)))
              have hp4 := set_at (i := 1) HP3.out (.int .i64 ((wordsN C : Int) + (1 + L.length)))
              have hwp : ¬ w.heap.size = p := fun e => by
                have h1 := HX3.out
                rw [e, HP3.out] at h1
                cases h1
              have hX4 := hc4.heap HX3.out hwp
              have hcell4 : CRow (W3.setCell ⟨p, 1, none⟩ (.int .i64 ((wordsN C : Int) + (1 + L.length)))) base (.slice uo (C.length + 1) uc) (C ++ [⟨k, sz, lo, lc, L⟩]) := HCL3.out.chg hc4 (fun j hj cur hcur => by
                have hj : j = p := hj
                rw [hj, HP3.out] at hcur
                cases hcur) (fun j hj hs => by
                have hs : j = p := hs
                obtain ⟨cur, hcur⟩ := own_type HCL3.out.1 j hj
                rw [hs, HP3.out] at hcur
                cases hcur)
              have hc5 := chg_setRow (W3.setCell ⟨p, 1, none⟩ (.int .i64 ((wordsN C : Int) + (1 + L.length)))) w.heap.size (wcC C.length)
              have HX5 := Lib.hid (setRow_heap _ w.heap.size _ (wcC C.length) _ _ hX4)
              have hp5 := hc5.heap hp4 (fun e => hwp e.symm)
              have hcell5 := hcell4.chg2 hc5 (fun d hd j hj hs => by
                have hs : j = w.heap.size := hs
                rw [List.mem_append] at hd
                rcases hd with hd | hd
                · have := own_lt (HH0.out.2.2.1.2 d hd) (Nat.le_refl _) j hj
                  omega
                · obtain rfl := List.mem_singleton.1 hd
                  have := HLO.out j hj
                  omega) (fun j hj hs => by
                have hs : j = w.heap.size := hs
                obtain ⟨cur, hcur⟩ := own_type hcell4.1 j hj
                rw [hs, hX4] at hcur
                cases hcur)
              have HFIN : Hid (MakeP w base p (.slice vo C.length (C.length + dc)) C k L (.returned (.tuple #[.agg (wcC C.length), .int .i64 0])) ((W3.setCell ⟨p, 1, none⟩ (.int .i64 ((wordsN C : Int) + (1 + L.length)))).setRow w.heap.size (wcC C.length))) := Lib.hid (by
                refine .inl ⟨HN.out, .slice uo (C.length + 1) uc, lo, lc, rfl, ?_, (HC3.out.grow hc4 (fun j _ h => .inl h)).grow hc5 (fun j hj h => by omega), HWH.out, fun j hj => Nat.le_of_lt (HLO.out j hj)⟩
                rw [← HSZ.out]
                refine ⟨?_, hbp, hcell5, HGD.out.snoc hC20 ⟨?_, hz1, by omega, by
                  show L.length ≤ 255
                  have := hz3 (by omega)
                  omega, ?_⟩⟩
                · rw [wordsN_snoc]
                  exact hp5
                · have hbk := HI.out.2.1
                  cases h : partsB k
                  · rw [badK, h] at hbk; cases hbk
                  · rfl
                · have h := HI.out.2.2.2.2
                  rw [List.take_of_length_le (Nat.le_refl _)] at h
                  exact h)
              have HX4 := Lib.hid hX4
              clear hc4 hp4 hX4 hcell4 hc5 hp5 hcell5
              refine wpList_store_row (o := ⟨none, _, _, _, _, _⟩) rfl 33 (.tmp 6) (.tmp 105) rfl w.heap.size (wcC C.length) rfl rfl 33 wzC HX4.out (infoWD _ rfl) rfl (by simp [wcC, Value.oneCell']) ?_
              generalize (W3.setCell ⟨p, 1, none⟩ (.int .i64 ((wordsN C : Int) + (1 + L.length)))).setRow w.heap.size (wcC C.length) = W5 at *
              go_wp2_with fail
              exact ret_row HX5.out rfl Tryd.underlying33 rfl (infoWD _ rfl) rfl rfl HFIN.out
end Go.Proofs.YtfbmjcblnemkgaaDoor
