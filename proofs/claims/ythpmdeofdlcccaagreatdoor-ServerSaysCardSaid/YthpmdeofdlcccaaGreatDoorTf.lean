/- term.Check. Conditions: the table of letters reads as laid; the term reads. -/
import Derived.Test.YthpmdeofdlcccaaGreatDoorTe
import Derived.Laws.EntriesVeiled
namespace Go.Proofs.YthpmdeofdlcccaaGreatDoor
open Go.ChangeShapes Go.WideShapes Go.ChangeAt Go.RowKit
set_option linter.unusedVariables false
def checkN (t : Tm) : Int := if (chk t (0, true)).2 = false then 30 else if 256 < (chk t (0, true)).1 then 11 else 0
theorem chks_new (w : World) (n : Nat) (hn : w.heap.size = n) (o1 o2 o3 : Obj) (h1 : o1 = .cells #[.int .i64 0] 3) (h2 : o2 = .cells #[.bool true] 4)
    (h3 : o3 = .cells #[.func (.func 80) #[] #[.pointer (some ⟨n, 0, none⟩), .pointer (some ⟨n + 1, 0, none⟩), .pointer (some ⟨n + 1 + 1, 0, none⟩)]] 113) :
    Chks (((w.alloc o1).alloc o2).alloc o3) n (n + 1) (n + 1 + 1) 0 true ∧ Below w.heap.size w (((w.alloc o1).alloc o2).alloc o3) := by
  subst h1 h2 h3 hn
  refine ⟨⟨heap_old (heap_old (heap_new _ _) _) _, ?_, ?_⟩, (((Below.refl _ _).alloc (Nat.le_refl _) _).alloc (by simp) _).alloc (by simp; omega) _⟩
  · have := heap_new (w.alloc (.cells #[.int .i64 0] 3)) (.cells #[.bool true] 4)
    rw [World.size_alloc] at this
    exact heap_old this _
  · have := heap_new ((w.alloc (.cells #[.int .i64 0] 3)).alloc (.cells #[.bool true] 4)) (.cells #[.func (.func 80) #[] #[.pointer (some ⟨w.heap.size, 0, none⟩), .pointer (some ⟨w.heap.size + 1, 0, none⟩), .pointer (some ⟨w.heap.size + 1 + 1, 0, none⟩)]] 113)
    rw [World.size_alloc, World.size_alloc] at this
    exact this
set_option maxHeartbeats 1000000 in
theorem check_any (f : Nat) (t : Tm) (v : Value) (w : World) (hw : Cells w 0 letL) (h : TermV f w v t) : Calls Tryz.prog 53 #[v] w (IntPost w (checkN t)) := by
  obtain ⟨lv, rfl, hat⟩ := h.boxed
  clear h
  go_enter Tryz.func53, Tryz.ntmps53
  go_wp2_with fail
  have hb0 := (Below.refl w.heap.size w).alloc (Nat.le_refl _) (.cells #[.int .i8 t.k, .int .i64 t.n, .string t.s, .string t.u, lv] 25)
  obtain ⟨hs, hb1⟩ := chks_new (w.alloc (.cells #[.int .i8 t.k, .int .i64 t.n, .string t.s, .string t.u, lv] 25)) (w.heap.size + 1) (by simp) _ _ _ rfl rfl rfl
  have hB := hb0.trans (hb1.mono (by simp))
  refine (walk_any (f + 1) t w.heap.size 0 _ 0 true _ _ _ (hat.keep hb1) (keepCells hw hB) hs (by omega) (by omega)).mono ?_
  rintro e w2 ⟨⟨v, rfl⟩, hs2, hc2⟩
  have hB2 : Below w.heap.size w w2 := hB.trans (hc2.below (by have := hB.size; omega) (by rintro k (rfl | rfl) <;> omega))
  obtain ⟨⟨x1, _, _⟩, ⟨x4, _, _⟩, _⟩ := hs2.cells
  clear hs hb0 hb1 hB hat hs2 hc2 hw
  have hE : checkN t = if (chk t (0, true)).2 = false then 30 else if 256 < (chk t (0, true)).1 then 11 else 0 := rfl
  generalize chk t (0, true) = p at *
  obtain ⟨c, ok⟩ := p
  simp only at x1 x4 hE
  cases ok
  · have HE := Lib.hid (hE.trans (if_pos rfl))
    clear hE
    go_wp2_with fail
    go_ret
    exact ⟨by rw [HE.out]; rfl, hB2⟩
  · by_cases h : 256 < c
    · have HE := Lib.hid (hE.trans ((if_neg (by simp)).trans (if_pos h)))
      have hd : decide (256 < c) = true := by simpa using h
      clear hE
      go_wp2_with fail
      go_ret
      exact ⟨by rw [HE.out]; rfl, hB2⟩
    · have HE := Lib.hid (hE.trans ((if_neg (by simp)).trans (if_neg h)))
      have hd : decide (256 < c) = false := by simpa using h
      clear hE
      go_wp2_with fail
      go_ret
      exact ⟨by rw [HE.out]; rfl, hB2⟩
end Go.Proofs.YthpmdeofdlcccaaGreatDoor
