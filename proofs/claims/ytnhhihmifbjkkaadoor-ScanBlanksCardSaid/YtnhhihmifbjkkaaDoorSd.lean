/- scan: a number's digits, and the reference's, walked. Conditions: lengths fit. -/
import Derived.Test.YtnhhihmifbjkkaaDoorSc
namespace Go.Proofs.YtnhhihmifbjkkaaDoor
open Go.ChangeShapes Go.WideShapes Go.ChangeAt Go.RowKit
set_option linter.unusedVariables false
abbrev Tv := Int × Int × ByteArray × Int
def tkV (t : Tv) : Value := .agg #[.int .i8 t.1, .int .i64 t.2.1, .string t.2.2.1, .int .i64 t.2.2.2]
def flV (f : Int × Int) : Value := .agg #[.int .i64 f.1, .int .i64 f.2]
abbrev eS : ByteArray := ⟨#[]⟩
abbrev noT : Tv := (0, 0, eS, 0)
def NextP (w : World) (x : Tv × Int × (Int × Int)) (e : Ending) (w' : World) : Prop :=
  e = .returned (.tuple #[.agg #[.int .i8 x.1.1, .int .i64 x.1.2.1, .string x.1.2.2.1, .int .i64 x.1.2.2.2], .int .i64 x.2.1, .agg #[.int .i64 x.2.2.1, .int .i64 x.2.2.2]]) ∧ Below w.heap.size w w'
def digV (l : List UInt8) (a : Int) : Tv × Int × (Int × Int) :=
  if most59 < decV (l.takeWhile isDg) then (noT, a, (11, a)) else ((2, (decV (l.takeWhile isDg) : Int), eS, a), a + dgN l, (0, 0))
theorem two_allocs (w : World) (o1 o2 : Obj) : Below w.heap.size w ((w.alloc o1).alloc o2) := ((Below.refl _ w).alloc (Nat.le_refl _) o1).alloc (by simp) o2
theorem heap_new (w : World) (o : Obj) : (w.alloc o).heap[w.heap.size]? = some o := (MapKept.heap_alloc w o).1
theorem heap_old {w : World} {k : Nat} {x : Obj} (h : w.heap[k]? = some x) (o : Obj) : (w.alloc o).heap[k]? = some x := (Below.heap_alloc w o k (heap_lt h)).trans h
/-- the two result blocks of a function that hands back a token, an end and a flaw -/
def Res (w W : World) (c0 c1 c2 c3 d0 d1 : Value) : Prop :=
  Below w.heap.size w W ∧ W.heap[w.heap.size]? = some (.cells #[c0, c1, c2, c3] 25 (0, 0)) ∧ W.heap[w.heap.size + 1]? = some (.cells #[d0, d1] 28 (0, 0))
theorem Res.new (w : World) (c0 c1 c2 c3 d0 d1 : Value) : Res w ((w.alloc (.cells #[c0, c1, c2, c3] 25)).alloc (.cells #[d0, d1] 28)) c0 c1 c2 c3 d0 d1 := by
  refine ⟨two_allocs _ _ _, heap_old (heap_new w _) _, ?_⟩
  have := heap_new (w.alloc (.cells #[c0, c1, c2, c3] 25)) (.cells #[d0, d1] 28)
  rw [World.size_alloc] at this
  exact this
theorem Res.keep {w W W' : World} {c0 c1 c2 c3 d0 d1 : Value} (h : Res w W c0 c1 c2 c3 d0 d1) (hb : Below W.heap.size W W') : Res w W' c0 c1 c2 c3 d0 d1 :=
  ⟨h.1.trans (hb.mono h.1.size), keep_heap h.2.1 hb, keep_heap h.2.2 hb⟩
theorem Res.cells {w W : World} {c0 c1 c2 c3 d0 d1 : Value} (h : Res w W c0 c1 c2 c3 d0 d1) :
    (W.cell? ⟨w.heap.size, 0, none⟩ = some c0 ∧ W.cell? ⟨w.heap.size, 1, none⟩ = some c1 ∧ W.cell? ⟨w.heap.size, 2, none⟩ = some c2 ∧ W.cell? ⟨w.heap.size, 3, none⟩ = some c3 ∧ W.cell? ⟨w.heap.size + 1, 0, none⟩ = some d0 ∧ W.cell? ⟨w.heap.size + 1, 1, none⟩ = some d1) ∧
    (W.frozen? ⟨w.heap.size, 0, none⟩ = false ∧ W.frozen? ⟨w.heap.size, 1, none⟩ = false ∧ W.frozen? ⟨w.heap.size, 2, none⟩ = false ∧ W.frozen? ⟨w.heap.size, 3, none⟩ = false ∧ W.frozen? ⟨w.heap.size + 1, 0, none⟩ = false ∧ W.frozen? ⟨w.heap.size + 1, 1, none⟩ = false) := by
  obtain ⟨_, k0, k1⟩ := h
  exact ⟨⟨(cells_at k0 0 _ rfl).1, (cells_at k0 1 _ rfl).1, (cells_at k0 2 _ rfl).1, (cells_at k0 3 _ rfl).1, (cells_at k1 0 _ rfl).1, (cells_at k1 1 _ rfl).1⟩,
    (cells_at k0 0 _ rfl).2, (cells_at k0 1 _ rfl).2, (cells_at k0 2 _ rfl).2, (cells_at k0 3 _ rfl).2, (cells_at k1 0 _ rfl).2, (cells_at k1 1 _ rfl).2⟩
theorem Res.set {w W : World} {c0 c1 c2 c3 d0 d1 : Value} (h : Res w W c0 c1 c2 c3 d0 d1) (e0 e1 e2 e3 f0 f1 : Value) :
    Res w ((((((W.setCell ⟨w.heap.size, 0, none⟩ e0).setCell ⟨w.heap.size, 1, none⟩ e1).setCell ⟨w.heap.size, 2, none⟩ e2).setCell ⟨w.heap.size, 3, none⟩ e3).setCell ⟨w.heap.size + 1, 0, none⟩ f0).setCell ⟨w.heap.size + 1, 1, none⟩ f1) e0 e1 e2 e3 f0 f1 := by
  obtain ⟨hb, k0, k1⟩ := h
  refine ⟨?_, ?_, ?_⟩
  · exact (((((hb.setCell (p := ⟨w.heap.size, 0, none⟩) (Nat.le_refl _) _).setCell (p := ⟨w.heap.size, 1, none⟩) (Nat.le_refl _) _).setCell (p := ⟨w.heap.size, 2, none⟩) (Nat.le_refl _) _).setCell (p := ⟨w.heap.size, 3, none⟩) (Nat.le_refl _) _).setCell (p := ⟨w.heap.size + 1, 0, none⟩) (by simp) _).setCell (p := ⟨w.heap.size + 1, 1, none⟩) (by simp) _
  · have z := set_at (i := 3) (set_at (i := 2) (set_at (i := 1) (set_at (i := 0) k0 e0) e1) e2) e3
    have o1 := (chg_set (w := (((W.setCell ⟨w.heap.size, 0, none⟩ e0).setCell ⟨w.heap.size, 1, none⟩ e1).setCell ⟨w.heap.size, 2, none⟩ e2).setCell ⟨w.heap.size, 3, none⟩ e3) (p := ⟨w.heap.size + 1, 0, none⟩) f0).heap z (by simp)
    exact (chg_set (p := ⟨w.heap.size + 1, 1, none⟩) f1).heap o1 (by simp)
  · have o0 := (chg_set (w := W) (p := ⟨w.heap.size, 0, none⟩) e0).heap k1 (by simp)
    have o1 := (chg_set (p := ⟨w.heap.size, 1, none⟩) e1).heap o0 (by simp)
    have o2 := (chg_set (p := ⟨w.heap.size, 2, none⟩) e2).heap o1 (by simp)
    have o3 := (chg_set (p := ⟨w.heap.size, 3, none⟩) e3).heap o2 (by simp)
    exact set_at (i := 1) (set_at (i := 0) o3 f0) f1
theorem ret_res {fn : Func} {R : Ending → World → Prop} {tmps : Array Value} {w W : World} {v5 c0 c1 c2 c3 d0 d1 : Value} (hR : Res w W c0 c1 c2 c3 d0 d1) (hfn : fn.results = #[.cell 4 25, .tmp 5, .cell 6 28])
    (h4 : tmps.getD 4 undef = .pointer (some ⟨w.heap.size, 0, none⟩)) (h5 : tmps.getD 5 undef = v5) (h6 : tmps.getD 6 undef = .pointer (some ⟨w.heap.size + 1, 0, none⟩))
    (hpost : R (.returned (.tuple #[.agg #[c0, c1, c2, c3], v5, .agg #[d0, d1]])) W) : bodyPost Tryd.prog fn R .ret { tmps := tmps, defers := [] } W := by
  obtain ⟨⟨x0, x1, x2, x3, u0, u1⟩, _⟩ := hR.cells
  refine bodyPost_ret (v := .tuple #[.agg #[c0, c1, c2, c3], v5, .agg #[d0, d1]]) ?_ rfl hpost
  unfold results
  rw [hfn]
  simp only [Array.getD_eq_getD_getElem?] at h4 h5 h6
  simp [h4, h5, h6, go_sem, x0, x1, x2, x3, u0, u1]
theorem flaw_any (e a : Int) (w : World) : Calls Tryd.prog 18 #[.int .i64 e, .int .i64 a] w (NextP w (noT, a, (e, a))) := by
  go_enter Tryd.func18, Tryd.ntmps18
  go_wp2_with fail
  refine bodyPost_ret (v := .tuple #[.agg #[.int .i8 0, .int .i64 0, .string ⟨#[]⟩, .int .i64 0], .int .i64 a, .agg #[.int .i64 e, .int .i64 a]]) (by simp [results, Tryd.results18, go_sem]) rfl ⟨rfl, ?_⟩
  exact two_allocs _ _ _
theorem bad_any (e a : Int) (w : World) : Calls Tryd.prog 12 #[.int .i64 e, .int .i64 a] w (NextP w (noT, a, (e, a))) := by
  go_enter Tryd.func12, Tryd.ntmps12
  go_wp2_with fail
  refine bodyPost_ret (v := .tuple #[.agg #[.int .i8 0, .int .i64 0, .string ⟨#[]⟩, .int .i64 0], .int .i64 a, .agg #[.int .i64 e, .int .i64 a]]) (by simp [results, Tryd.results12, go_sem]) rfl ⟨rfl, ?_⟩
  exact two_allocs _ _ _
theorem dg_iff (c : UInt8) : isDg c = true ↔ 48 ≤ (c.toNat : Int) ∧ (c.toNat : Int) ≤ 57 := by simp [isDg]; omega
theorem decV_snoc (l : List UInt8) (c : UInt8) : decV (l ++ [c]) = decV l * 10 + (c.toNat - 48) := by simp [decV, decS, List.foldl_append]
/-- the first k bytes are digits -/
def Dgs (s : ByteArray) (k : Nat) : Prop := k ≤ s.size ∧ ∀ c ∈ s.data.toList.take k, isDg c = true
theorem Dgs.next {s : ByteArray} {k : Nat} (h : Dgs s k) (hk : k < s.size) (hc : isDg s[k] = true) : Dgs s (k + 1) := by
  refine ⟨hk, fun c hm => ?_⟩
  rw [take_snoc s k hk] at hm
  rcases List.mem_append.1 hm with hm | hm
  · exact h.2 c hm
  · simp at hm; subst hm; exact hc
theorem Dgs.last {s : ByteArray} {k : Nat} (h : Dgs s k) (he : k = s.size ∨ ∃ hk : k < s.size, isDg s[k] = false) : s.data.toList.takeWhile isDg = s.data.toList.take k ∧ dgN s.data.toList = k := by
  have hs : s.data.toList = s.data.toList.take k ++ s.data.toList.drop k := (List.take_append_drop k _).symm
  have e : s.data.toList.takeWhile isDg = s.data.toList.take k := by
    conv => lhs; rw [hs]
    rw [List.takeWhile_append_of_pos h.2]
    have : (s.data.toList.drop k).takeWhile isDg = [] := by
      rcases he with rfl | ⟨hk, hc⟩
      · have : s.data.toList.drop s.size = [] := List.drop_eq_nil_of_le (by simp)
        rw [this]; rfl
      · rw [drop_byte hk, List.takeWhile_cons, hc]
        rfl
    rw [this, List.append_nil]
  refine ⟨e, ?_⟩
  unfold dgN
  rw [e, List.length_take]
  have := h.1
  simp
  omega
theorem dec_take {s : ByteArray} {k : Nat} (hk : k < s.size) : decV (s.data.toList.take (k + 1)) = decV (s.data.toList.take k) * 10 + (s[k].toNat - 48) := by rw [take_snoc s k hk, decV_snoc]
set_option maxHeartbeats 2000000 in
theorem digits_any (s : ByteArray) (hs : s.size ≤ 1099511627776) (a : Int) (ha : 0 ≤ a) (ha2 : a ≤ 1099511627776) (w : World) : Calls Tryd.prog 14 #[.string s, .int .i64 a] w (NextP w (digV s.data.toList a)) := by
  have HB := Lib.hid (fun (o1 o2 : Obj) => two_allocs w o1 o2)
  go_enter Tryd.func14, Tryd.ntmps14
  go_wp2_with fail
  go_loop [7, 8] (fun nv iv => ∃ (k : Nat) (v : Int), k ≤ s.size ∧ iv = .int .i64 k ∧ nv = .int .i64 v ∧ 0 ≤ v ∧ v ≤ 576460752303423489 ∧ Hid (Dgs s k ∧ v = min (decV (s.data.toList.take k) : Int) 576460752303423489)) (fun _ iv => s.size - (intOf iv).toNat)
  case atStart => exact ⟨0, 0, by omega, rfl, rfl, by omega, by omega, Lib.hid ⟨⟨by omega, by simp⟩, by simp [decV]; omega⟩⟩
  case round =>
    obtain ⟨k, v, hk, rfl, rfl, hv0, hv1, HA⟩ := hrel
    by_cases hlt : k < s.size
    · by_cases hd : isDg s[k] = true
      · have hdd := (dg_iff s[k]).1 hd
        obtain ⟨h1, h2⟩ := hdd
        have HR : Hid (Dgs s (k + 1) ∧ min (v * 10 + ((s[k].toNat : Int) - 48)) 576460752303423489 = min (decV (s.data.toList.take (k + 1)) : Int) 576460752303423489) := Lib.hid ⟨HA.out.1.next hlt hd, by
          have := HA.out.2
          rw [dec_take hlt]
          omega⟩
        clear hd
        go_wp2_with fail
        go_round
        case rel => exact ⟨k + 1, _, by omega, by go_num, rfl, by omega, by omega, HR⟩
        case measure => simp [intOf]; omega
      · have hl := HA.out.1.last (.inr ⟨hlt, by simpa using hd⟩)
        have HL := Lib.hid hl
        have hdd : ¬ (48 ≤ (s[k].toNat : Int) ∧ (s[k].toNat : Int) ≤ 57) := fun h => hd ((dg_iff _).2 h)
        clear hd hl
        by_cases h1 : 48 ≤ (s[k].toNat : Int)
        · have h2 : ¬ (s[k].toNat : Int) ≤ 57 := fun h => hdd ⟨h1, h⟩
          clear hdd
          by_cases hbig : 576460752303423488 < v
          ·
            have HE : Hid (digV s.data.toList a = (noT, a, (11, a))) := Lib.hid (by
              rw [digV, if_pos]
              rw [HL.out.1]
              have := HA.out.2
              unfold most59
              omega)
            go_wp2_with fail
            refine bodyPost_ret (v := .tuple #[.agg #[.int .i8 0, .int .i64 0, .string ⟨#[]⟩, .int .i64 0], .int .i64 a, .agg #[.int .i64 11, .int .i64 a]]) (by simp [results, Tryd.results14, go_sem]) rfl ⟨by rw [HE.out], ?_⟩
            exact HB.out _ _
          ·
            have HE : Hid (digV s.data.toList a = ((2, v, eS, a), a + k, (0, 0))) := Lib.hid (by
              have := HA.out.2
              rw [digV, if_neg, HL.out.1, HL.out.2]
              · congr 2
                simp
                omega
              · rw [HL.out.1]
                unfold most59
                omega)
            go_wp2_with fail
            refine bodyPost_ret (v := .tuple #[.agg #[.int .i8 2, .int .i64 v, .string ⟨#[]⟩, .int .i64 a], .int .i64 (a + k), .agg #[.int .i64 0, .int .i64 0]]) (by simp [results, Tryd.results14, go_sem]) rfl ⟨by rw [HE.out], ?_⟩
            exact HB.out _ _
        · clear hdd
          by_cases hbig : 576460752303423488 < v
          ·
            have HE : Hid (digV s.data.toList a = (noT, a, (11, a))) := Lib.hid (by
              rw [digV, if_pos]
              rw [HL.out.1]
              have := HA.out.2
              unfold most59
              omega)
            go_wp2_with fail
            refine bodyPost_ret (v := .tuple #[.agg #[.int .i8 0, .int .i64 0, .string ⟨#[]⟩, .int .i64 0], .int .i64 a, .agg #[.int .i64 11, .int .i64 a]]) (by simp [results, Tryd.results14, go_sem]) rfl ⟨by rw [HE.out], ?_⟩
            exact HB.out _ _
          ·
            have HE : Hid (digV s.data.toList a = ((2, v, eS, a), a + k, (0, 0))) := Lib.hid (by
              have := HA.out.2
              rw [digV, if_neg, HL.out.1, HL.out.2]
              · congr 2
                simp
                omega
              · rw [HL.out.1]
                unfold most59
                omega)
            go_wp2_with fail
            refine bodyPost_ret (v := .tuple #[.agg #[.int .i8 2, .int .i64 v, .string ⟨#[]⟩, .int .i64 a], .int .i64 (a + k), .agg #[.int .i64 0, .int .i64 0]]) (by simp [results, Tryd.results14, go_sem]) rfl ⟨by rw [HE.out], ?_⟩
            exact HB.out _ _
    · obtain rfl : k = s.size := by omega
      have HL := Lib.hid (HA.out.1.last (.inl rfl))
      by_cases hbig : 576460752303423488 < v
      ·
        have HE : Hid (digV s.data.toList a = (noT, a, (11, a))) := Lib.hid (by
          rw [digV, if_pos]
          rw [HL.out.1]
          have := HA.out.2
          unfold most59
          omega)
        go_wp2_with fail
        refine bodyPost_ret (v := .tuple #[.agg #[.int .i8 0, .int .i64 0, .string ⟨#[]⟩, .int .i64 0], .int .i64 a, .agg #[.int .i64 11, .int .i64 a]]) (by simp [results, Tryd.results14, go_sem]) rfl ⟨by rw [HE.out], ?_⟩
        exact HB.out _ _
      ·
        have HE : Hid (digV s.data.toList a = ((2, v, eS, a), a + s.size, (0, 0))) := Lib.hid (by
          have := HA.out.2
          rw [digV, if_neg, HL.out.1, HL.out.2]
          · congr 2
            simp
            omega
          · rw [HL.out.1]
            unfold most59
            omega)
        go_wp2_with fail
        refine bodyPost_ret (v := .tuple #[.agg #[.int .i8 2, .int .i64 v, .string ⟨#[]⟩, .int .i64 a], .int .i64 (a + s.size), .agg #[.int .i64 0, .int .i64 0]]) (by simp [results, Tryd.results14, go_sem]) rfl ⟨by rw [HE.out], ?_⟩
        exact HB.out _ _
end Go.Proofs.YtnhhihmifbjkkaaDoor
