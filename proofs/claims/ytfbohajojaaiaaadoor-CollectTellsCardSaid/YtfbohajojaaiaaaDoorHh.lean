/- collect: the iterator over cells. Conditions: what comes reads. -/
import Derived.Test.YtfbohajojaaiaaaDoorHg
import Derived.Test.YtfbohajojaaiaaaDoorRf
import Derived.Sort.QuietIn
namespace Go.Proofs.YtfbohajojaaiaaaDoor
open Go.ChangeShapes Go.WideShapes Go.ChangeAt Go.RowKit Go.Shelf
set_option linter.unusedVariables false
set_option maxRecDepth 100000
attribute [local go_sem] Oper.semAt_some
theorem cells_any (w : World) (base p : Nat) (v : Value) (C : List HC) (h : Hp w base p v C) : Calls Tryd.prog 12 #[.pointer (some ⟨p, 0, none⟩)] w fun e w' =>
    e = .returned (.func (.func 34) #[] #[.pointer (some ⟨w.heap.size + 1, 0, none⟩), .pointer (some ⟨w.heap.size, 0, none⟩)]) ∧ w' = (w.alloc (.cells #[.pointer (some ⟨p, 0, none⟩)] 25)).alloc (.cells #[.int .i64 C.length] 3) := by
  have HL := Lib.hid (len_any (w.alloc (.cells #[.pointer (some ⟨p, 0, none⟩)] 25)) base p v C (h.keep ((Below.refl _ _).alloc (Nat.le_refl _) _)))
  clear h
  go_enter Tryd.func12, Tryd.ntmps12
  go_wp2_with fail
  refine HL.out.mono ?_
  rintro e w' ⟨rfl, rfl⟩
  go_wp2_with fail
  go_ret
  exact ⟨rfl, rfl⟩
theorem cells_nil (w : World) : Calls Tryd.prog 12 #[.pointer none] w fun e w' =>
    e = .returned (.func (.func 34) #[] #[.pointer (some ⟨w.heap.size + 1, 0, none⟩), .pointer (some ⟨w.heap.size, 0, none⟩)]) ∧ w' = (w.alloc (.cells #[.pointer none] 25)).alloc (.cells #[.int .i64 0] 3) := by
  go_enter Tryd.func12, Tryd.ntmps12
  go_wp2_with fail
  refine (len_nil _).mono ?_
  rintro e w' ⟨rfl, rfl⟩
  go_wp2_with fail
  go_ret
  exact ⟨rfl, rfl⟩
section
variable {P : Program}
theorem wpListIn_store_new {F : Fence} {n : Nat} {ops : Array Oper} {rest : List Oper} {o : Oper} {a : Act} {W : World} {zs : Array Value} {T : TypeId} {Q : Exit → Act → World → Prop} (ro : Option Nat) (hF : F = wideR ro) (hgd : o.guard = none) (ty : TypeId) (x y : Operand) (ho : o.op = .store ty x y)
    (cells : Array Value) (hx : a.eval x = .pointer (some ⟨W.heap.size, 0, none⟩)) (hy : a.eval y = .agg cells) (hi : (P.info? ty).map (·.size) = some cells.size) (hold : zs.size = cells.size) (h1 : cells.all (·.oneCell') = true)
    (h : wpListIn F n P ops Q rest (a.put o.dst undef) (W.alloc (.cells cells T))) : wpListIn F n P ops Q (o :: rest) a (W.alloc (.cells zs T)) := by
  refine wpListIn_op ro hF hgd (fun c e => by rw [ho] at e; cases e) (wp_store_row ty x y ho W.heap.size cells hx hy T zs (heap_new W _) hi hold h1 ?_)
  rw [setRow_alloc]
  exact h
end
/-- what the iterator reads -/
structure ItC (base p : Nat) (v : Value) (C : List HC) (bn bh : Nat) (W : World) : Prop where
  hp : Hp W base p v C
  hn : W.cell? ⟨bn, 0, none⟩ = some (.int .i64 C.length)
  hh : W.cell? ⟨bh, 0, none⟩ = some (.pointer (some ⟨p, 0, none⟩))
abbrev YC (C : List HC) := Fin C.length × Value
def encC {C : List HC} (x : YC C) : Array Value := #[.int .i64 (x.1.val : Nat), x.2]
set_option maxHeartbeats 4000000 in
theorem cells1_in (l base p : Nat) (v : Value) (C : List HC) (bn bh : Nat) (J Jx : List (YC C) → World → Prop) (T : World → Prop)
    (hJ : ∀ pre W, J pre W → ItC base p v C bn bh W) (hk : ∀ pre A B, J pre A → Below A.heap.size A B → J pre B) (hT : ∀ pre W, J pre W → T W)
    (hY : ∀ pre (x : YC C) W1, J pre W1 → pre.length < C.length → YieldAt Fence.wide (8 - 1) Tryd.prog l (encC x) W1 fun e W' => (e = .returned (.bool true) ∧ J (pre ++ [x]) W') ∨ (e = .returned (.bool false) ∧ Jx (pre ++ [x]) W'))
    (W : World) (h0 : J [] W) :
    CallsIn Fence.wide 8 Tryd.prog 34 #[.func (.yield l) #[] #[], .pointer (some ⟨bn, 0, none⟩), .pointer (some ⟨bh, 0, none⟩)] W fun e W' => (∃ v, e = .returned v) ∧
      ((∃ xs : List (YC C), (xs.map (·.1.val) = List.range C.length ∧ J xs W') ∧ T W') ∨ (∃ pre, True ∧ Jx pre W')) := by
  obtain ⟨a0, a1, a2⟩ := hJ _ _ h0
  have hC : C.length ≤ 1048576 := a0.2.2.2.1
  clear a0
  refine callsIn_of_wp Tryd.func34 rfl trivial ?_ rfl
  simp only [Tryd.ntmps34, List.size_toArray, List.length_cons, List.length_nil, Nat.reduceAdd, Nat.reduceSub, Array.replicate_succ, Array.replicate_zero, List.push_toArray, List.append_toArray, List.nil_append, List.cons_append]
  gi_wp2
  gi_loopw [8] (fun iv wr => ∃ (i : Nat) (pre : List (YC C)), i ≤ C.length ∧ iv = .int .i64 i ∧ J pre wr ∧ Hid (pre.map (·.1.val) = List.range i))
    (fun iv _ => C.length - (intOf iv).toNat)
  case atStart => exact ⟨0, [], by omega, rfl, h0, Lib.hid rfl⟩
  case round =>
    clear a1 a2 h0
    obtain ⟨i, pre, hi, rfl, hJp, HD⟩ := hrel
    obtain ⟨a0, a1, a2⟩ := hJ _ _ hJp
    by_cases hlt : i < C.length
    · have HC := Lib.hid (cell_any wr base p v C i a0)
      have HH := Lib.hid a0
      clear a0
      gi_wp2
      refine ⟨trivial, (callsIn_wide.2 HC.out).mono ?_⟩
      rintro e w2 ⟨hb2, (⟨i', c, lo, lc, hii, hc, rfl, hown⟩ | ⟨hbad, -⟩)⟩
      · obtain rfl : i = i' := by omega
        clear hii
        have hJ2 := hk _ _ _ hJp hb2
        gi_wp2_with (with_reducible refine stop_opIn (o := ⟨_, .store 65 (.tmp 5) (.tmp 15), _, _, _, _⟩) ?_)
        refine Lib.hid ?_
        refine wpListIn_store_new (o := ⟨none, _, _, _, _, _⟩) none rfl rfl 65 (.tmp 5) (.tmp 15) rfl #[.int .i8 c.k, .int .i64 c.sz, .slice lo c.l.length lc] rfl rfl (infoCL _ rfl) rfl (by simp [Value.oneCell']) ?_
        have hb3 := (Below.refl w2.heap.size w2).alloc (Nat.le_refl _) (.cells #[.int .i8 c.k, .int .i64 c.sz, .slice lo c.l.length lc] 65)
        have hJ3 := hk _ _ _ hJ2 hb3
        have hlen : pre.length < C.length := by
          have := congrArg List.length HD.out
          simp at this
          omega
        obtain ⟨fn, tmps, assign, body, hy, hR⟩ := hY _ (⟨i, hlt⟩, .agg #[.int .i8 c.k, .int .i64 c.sz, .slice lo c.l.length lc]) _ hJ3 hlen
        dsimp only [encC] at hy
        have HRR := Lib.hid hR
        clear hR hb2 hb3 hJ2 hJ3 hown hc
        gi_wp2
        refine HRR.out.mono ?_
        rintro e W3 (⟨rfl, hJ3⟩ | ⟨rfl, hJx3⟩)
        · clear hy a1 a2
          gi_wp2
          go_roundw
          case rel => exact ⟨i + 1, pre ++ [(⟨i, hlt⟩, .agg #[.int .i8 c.k, .int .i64 c.sz, .slice lo c.l.length lc])], by omega, by go_num, hJ3, Lib.hid (by rw [List.map_append, HD.out, List.range_succ]; rfl)⟩
          case measure => simp [intOf]; omega
        · clear hy a1 a2
          gi_wp2
          refine bodyPost_ret (results_none rfl _ _ _) rfl ⟨⟨_, rfl⟩, .inr ⟨_, trivial, hJx3⟩⟩
      · exact absurd ⟨by omega, by omega⟩ hbad
    · have hil : i = C.length := by omega
      subst hil
      have HH := Lib.hid a0
      clear a0
      gi_wp2
      go_end0
      exact ⟨⟨_, rfl⟩, .inl ⟨pre, ⟨HD.out, hJp⟩, hT _ _ hJp⟩⟩
end Go.Proofs.YtfbohajojaaiaaaDoor
