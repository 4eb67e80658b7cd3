/- what Compare and the reference's Same come to; what Take comes to may be. In plain Lean. No conditions. -/
/- the reference's Same of two heaps. Conditions: what comes reads. -/
/- the same integers, the same cells. Conditions: what comes reads. -/
import Derived.Test.YtfbohajojaaiaaaDoorW3
import Derived.Test.YtfbohajojaaiaaaDoorW4
import Derived.Test.YtfbohajojaaiaaaDoorW2
import Derived.Test.YtfbohajojaaiaaaDoorHj
namespace Go.Proofs.YtfbohajojaaiaaaDoor
open Go.ChangeShapes Go.WideShapes Go.ChangeAt Go.RowKit
set_option linter.unusedVariables false
theorem cmpI_zero {a b : Int} : cmpI a b = 0 ↔ a = b := by
  unfold cmpI
  split
  · constructor <;> intro h <;> omega
  · split
    · constructor <;> intro h <;> omega
    · constructor <;> intro h <;> omega
theorem cmpS_zero {a b : ByteArray} : cmpS a b = 0 ↔ a = b := by
  constructor
  · intro h
    apply Classical.byContradiction
    intro hn
    have q := str_ne hn
    unfold cmpS at h
    rw [q] at h
    split at h <;> simp at h
  · rintro rfl
    exact cmpS_refl a
theorem orL_zero : ∀ {l : List Int}, orL l = 0 ↔ ∀ x ∈ l, x = 0
  | [] => by simp [orL]
  | x :: l => by
    rw [orL]
    split
    · rename_i h
      rw [orL_zero]
      simp [h]
    · rename_i h
      simp [h]
mutual
theorem ord_eq : ∀ t t' : Tm, ord t t' = 0 ↔ eqT t t' = true
  | .mk k n s u l, .mk k' n' s' u' l' => by
    rw [ord, eqT]
    by_cases hk : k = k'
    · rw [if_pos hk, orL_zero]
      by_cases hl : l.length = l'.length
      · have := ordL_eq l l' hl
        simp only [List.mem_cons, List.not_mem_nil, or_false, forall_eq_or_imp, forall_eq, cmpI_zero, cmpS_zero, this, Bool.and_eq_true, decide_eq_true_eq, hk, hl, true_and]
        constructor
        · rintro ⟨h2, h3, h4, h5⟩
          exact ⟨h4, h2, h3, h5⟩
        · rintro ⟨h1, h2, h3, h4⟩
          exact ⟨h2, h3, h1, h4⟩
      · have : ¬ (l.length : Int) = l'.length := by omega
        simp [cmpI_zero, this, hl]
    · rw [if_neg hk, cmpI_zero]
      simp [hk]
theorem ordL_eq : ∀ l l' : List Tm, l.length = l'.length → (ordL l l' = 0 ↔ eqL l l' = true)
  | [], [], _ => by rw [ordL, eqL]; simp
  | [], _ :: _, h => by simp at h
  | _ :: _, [], h => by simp at h
  | a :: l, b :: l', h => by
    rw [ordL, eqL]
    have h1 := ord_eq a b
    have h2 := ordL_eq l l' (by simpa using h)
    split
    · rename_i h0
      rw [h2, h1.1 h0]
      simp
    · rename_i h0
      have : eqT a b = false := by
        cases h : eqT a b
        · rfl
        · exact absurd (h1.2 h) h0
      simp [h0, this]
end
theorem cntL_ok (g : Wd → Tm) (b : Wd → Int) : ∀ (L : List Wd) (m n : Int), (∀ y ∈ L, ∀ m, 1 ≤ m → (cnt (g y) m).2 = true ∧ (cnt (g y) m).1 ≤ b y) → 1 ≤ n → n ≤ m → (cntL (L.map g) m n).2 = true ∧ (cntL (L.map g) m n).1 ≤ n + (L.map b).sum
  | [], m, n, _, _, _ => by rw [List.map_nil, cntL]; simp
  | y :: L, m, n, h, h1, h2 => by
    have hs : ∀ L : List Wd, (∀ y ∈ L, ∀ m, 1 ≤ m → (cnt (g y) m).2 = true ∧ (cnt (g y) m).1 ≤ b y) → 0 ≤ (L.map b).sum := by
      intro L
      induction L with
      | nil => intro _; simp
      | cons y L ih =>
        intro h
        have h3 := (h y (by simp) 1 (by omega)).2
        have h4 := (cnt_le (g y) 1 (by omega)).1
        have := ih fun z hz => h z (by simp [hz])
        simp only [List.map_cons, List.sum_cons]
        omega
    rw [List.map_cons, cntL, List.map_cons, List.sum_cons]
    have hy := h y (by simp)
    have h5 := hs L fun z hz => h z (by simp [hz])
    split
    · have h3 := (hy 1 (by omega)).2
      have h4 := (cnt_le (g y) 1 (by omega)).1
      refine ⟨rfl, ?_⟩
      show n ≤ _
      omega
    · have h3 := hy (m - n) (by omega)
      have h4 := cnt_le (g y) (m - n) (by omega)
      rw [if_pos h3.1]
      have := cntL_ok g b L m (n + (cnt (g y) (m - n)).1) (fun z hz => h z (by simp [hz])) (by omega) (by omega)
      exact ⟨this.1, by omega⟩
theorem fold_sum {C : List HC} : ∀ (L : List Wd) (n : Int), (∀ x ∈ L, 1 ≤ nodesW C x) → n ≤ 257 → L.foldl (fun n x => min (n + nodesW C x) 257) n ≤ 256 → L.foldl (fun n x => min (n + nodesW C x) 257) n = n + (L.map (nodesW C)).sum
  | [], n, _, _, _ => by simp
  | x :: L, n, h, h2, h3 => by
    have hx := h x (by simp)
    rw [List.foldl_cons] at h3 ⊢
    have hg := fold_ge (C := C) L (min (n + nodesW C x) 257) (by omega) (fun y hy => by have := h y (by simp [hy]); omega)
    rw [fold_sum L _ (fun y hy => h y (by simp [hy])) (by omega) h3, List.map_cons, List.sum_cons]
    omega
theorem leaf_cnt {n : Nat} {x : Wd} (hc : x.c = false) (h : mayW n x = true) (m : Int) : cnt x.t m = (1, true) := by
  simp only [mayW, hc, Bool.false_eq_true, if_false, Bool.and_eq_true, decide_eq_true_eq, Bool.not_eq_true'] at h
  obtain ⟨-, hp, hk⟩ := h
  rw [← check_eq] at hk
  unfold rcheckN at hk
  have hone : oneB x.k x.n x.s x.u x.l.length = true := by
    apply Classical.byContradiction
    intro hn
    have : (cnt x.t 257).2 = false := by
      unfold Wd.t
      rw [cnt, if_neg hn]
    rw [if_pos this] at hk
    cases hk
  have hl : x.l = [] := by
    have hp2 : x.k ≠ 5 ∧ x.k ≠ 7 := by
      simp only [partsB, Bool.or_eq_false_iff, decide_eq_false_iff_not] at hp
      exact hp
    have h0 : (x.l.length == 0) = true := by
      unfold oneB bareB at hone
      simp only [Bool.or_false, Bool.false_or, Bool.true_or, Bool.or_true] at hone
      split at hone
      · simp only [Bool.and_eq_true] at hone; exact hone.1.2.2.2
      · split at hone
        · simp only [Bool.and_eq_true] at hone; exact hone.1.2.2.2
        · split at hone
          · simp only [Bool.and_eq_true] at hone; exact hone.1.2.2.2
          · split at hone
            · simp only [Bool.and_eq_true] at hone; exact hone.1.2.2.2
            · split at hone
              · exact absurd ‹_› hp2.1
              · split at hone
                · simp only [Bool.and_eq_true] at hone; exact hone.2.2.2
                · split at hone
                  · exact absurd ‹_› hp2.2
                  · cases hone
    exact List.eq_nil_of_length_eq_zero (by simpa using h0)
  unfold Wd.t
  rw [cnt, if_pos hone, hl, cntL]
theorem tk_cnt {C : List HC} (hC : Good C) (hM : Made C) : ∀ (N : Nat) (x : Wd), (x.c = false → mayW C.length x = true) → Low N x → N ≤ C.length → ∀ m, 1 ≤ m → (cnt (tkN C N x) m).2 = true ∧ (cnt (tkN C N x) m).1 ≤ nodesW C x := by
  intro N
  induction N with
  | zero =>
    intro x hm hl _ m h1
    cases hc : x.c
    · rw [tkN_leaf C 0 x hc, leaf_cnt hc (hm hc)]
      simp [nodesW, hc]
    · have := hl hc
      omega
  | succ N ih =>
    intro x hm hl hN m h1
    cases hc : x.c
    · rw [tkN_leaf C _ x hc, leaf_cnt hc (hm hc)]
      simp [nodesW, hc]
    · obtain ⟨l1, l2⟩ := hl hc
      have hi : x.a.toNat < C.length := by omega
      have hcc : C[x.a.toNat]? = some C[x.a.toNat] := List.getElem?_eq_getElem hi
      obtain ⟨c, hce⟩ : ∃ c, C[x.a.toNat] = c := ⟨_, rfl⟩
      rw [hce] at hcc
      rw [tkN_cell C N x c hc hcc]
      obtain ⟨k1, k2, k3, k4, k5⟩ := hC.2 _ _ hcc
      obtain ⟨m1, m2⟩ := hM _ _ hcc
      have hbk : badK c.k c.l = false := by
        cases h : badK c.k c.l
        · rfl
        · rw [makeN, h] at m1
          simp at m1
      have hone : oneB c.k 0 ⟨#[]⟩ ⟨#[]⟩ (c.l.map (tkN C N)).length = true := by
        rw [List.length_map]
        simp only [partsB, Bool.or_eq_true, decide_eq_true_eq] at k1
        rcases k1 with e | e
        · rw [e]
          simp [oneB, bareB, empty]
        · rw [e] at hbk ⊢
          simp only [badK, partsB] at hbk
          simp at hbk
          simp [oneB, bareB, empty, hbk]
      have hpart : ∀ y ∈ c.l, nodesW (C.take x.a.toNat) y = nodesW C y := fun y hy => by
        unfold nodesW
        split
        · rename_i hyc
          have := low_part hC hcc hy hyc
          rw [List.getElem?_take_of_lt (by omega)]
        · rfl
      have hsum : nodesW C x = 1 + (c.l.map (nodesW C)).sum := by
        have e1 : nodesW C x = c.sz := by simp [nodesW, hc, hcc]
        have h3 : sizeW (C.take x.a.toNat) c.l = sizeW C c.l := by
          unfold sizeW
          exact fold_ext (fun b y hy => by rw [hpart y hy])
        rw [e1, m2, h3]
        refine fold_sum c.l 1 (fun y hy => ?_) (by omega) ?_
        · rw [← hpart y hy]
          unfold nodesW
          split
          · rename_i hyc
            have hlo := low_part hC hcc hy hyc
            rw [List.getElem?_take_of_lt (by omega)]
            have hyl : y.a.toNat < C.length := by omega
            rw [List.getElem?_eq_getElem hyl]
            exact (hC.2 _ _ (List.getElem?_eq_getElem hyl)).2.1
          · omega
        · have : sizeW C c.l ≤ 256 := by rw [← h3, ← m2]; exact k3
          exact this
      rw [cnt, if_pos hone, hsum]
      exact cntL_ok (tkN C N) (nodesW C) c.l m 1 (fun y hy m' hm' => ih y (fun hyc => by
        have := k5 y hy
        simp only [mayW, hyc] at this ⊢
        exact this) (fun h => by have := low_part hC hcc hy h; omega) (by omega) m' hm') (by omega) h1
/-- what Take comes to may be -/
theorem tk_check {C : List HC} (hC : Good C) (hM : Made C) {x : Wd} (hm : mayW C.length x = true) : checkN (tkN C C.length x) = 0 := by
  have hlow : Low C.length x := fun h => by
    simp only [mayW, h, if_true, Bool.and_eq_true, decide_eq_true_eq] at hm
    exact ⟨hm.1, hm.2.1⟩
  have h := tk_cnt hC hM C.length x (fun _ => hm) hlow (Nat.le_refl _) 257 (by omega)
  have hp := nodes_pos hC hm
  rw [← check_eq]
  unfold rcheckN
  rw [if_neg (by rw [h.1]; simp), if_neg (by omega)]
theorem tk_same {C C2 : List HC} (hC : Good C) (hM : Made C) (hC2 : Good C2) (hM2 : Made C2) {x y : Wd} (hx : mayW C.length x = true) (hy : mayW C2.length y = true) : decide (cmpT (tkN C C.length x) (tkN C2 C2.length y) = 0) = eqT (tkN C C.length x) (tkN C2 C2.length y) := by
  unfold cmpT
  rw [if_pos (tk_check hC hM hx), if_pos (tk_check hC2 hM2 hy)]
  have := ord_eq (tkN C C.length x) (tkN C2 C2.length y)
  cases h : eqT (tkN C C.length x) (tkN C2 C2.length y)
  · rw [h] at this
    simp only [decide_eq_false_iff_not]
    intro h0
    exact absurd (this.1 h0) (by simp)
  · rw [h] at this
    simp [this.2 rfl]
end Go.Proofs.YtfbohajojaaiaaaDoor
namespace Go.Proofs.YtfbohajojaaiaaaDoor
open Go.ChangeShapes Go.WideShapes Go.ChangeAt Go.RowKit
set_option linter.unusedVariables false
set_option maxRecDepth 100000
/-- a word of one heap reads as a word of the other -/
def rsameW (C C2 : List HC) (x y : Wd) : Bool := mayW C.length x && (mayW C2.length y && eqT (tkN C C.length x) (tkN C2 C2.length y))
theorem rtake_uni (w0 : World) (f base p : Nat) (v : Value) (C : List HC) (x : Wd) (W : World) (hO : ∀ c ∈ C, ∀ x ∈ c.l, WOk f w0 x) (hp : RHp W base p v C) (hx : WOk f w0 x) (hpu : Pure x) (hb0 : Below w0.heap.size w0 W) :
    Calls Tryd.prog 44 #[.pointer (some ⟨p, 0, none⟩), x.V] W fun e W' => ∃ (te : TE) (ee : Int), e = .returned (.tuple #[.agg #[.int .i8 te.k, .int .i64 te.n, .string te.s, .string te.u, .slice te.ao te.l.length te.cap], .int .i64 ee]) ∧ Below W.heap.size W W' ∧
      Hid ((mayW C.length x = true ∧ ee = 0 ∧ TermV (f + C.length) W' (.agg #[.int .i8 te.k, .int .i64 te.n, .string te.s, .string te.u, .slice te.ao te.l.length te.cap]) (tkN C C.length x)) ∨ (mayW C.length x = false ∧ ee = 2)) := by
  refine (rtake_any w0 f base p v C x W hO hp hx hpu hb0).mono ?_
  rintro e W' ⟨hb, (⟨h1, te, rfl, h2, h3, h4⟩ | ⟨h1, rfl⟩)⟩
  · exact ⟨te, 0, rfl, hb, Lib.hid (.inl ⟨h1, rfl, by rw [← h2]; exact ⟨h3, _, rfl, h4.row⟩⟩)⟩
  · exact ⟨⟨0, 0, ⟨#[]⟩, ⟨#[]⟩, none, 0, []⟩, 2, rfl, hb, Lib.hid (.inr ⟨h1, rfl⟩)⟩
set_option maxHeartbeats 8000000 in
theorem rsame2_any (w0 : World) (f : Nat) (base p base2 p2 : Nat) (v v2 : Value) (C C2 : List HC) (x y : Wd) (W : World) (hO : ∀ c ∈ C, ∀ x ∈ c.l, WOk f w0 x) (hO2 : ∀ c ∈ C2, ∀ x ∈ c.l, WOk f w0 x) (hp : RHp W base p v C) (hp2 : RHp W base2 p2 v2 C2) (hx : WOk f w0 x) (hy : WOk f w0 y) (hpx : Pure x) (hpy : Pure y) (hb0 : Below w0.heap.size w0 W) :
    Calls Tryd.prog 22 #[.pointer (some ⟨p, 0, none⟩), x.V, .pointer (some ⟨p2, 0, none⟩), y.V] W (IsPost W (rsameW C C2 x y)) := by
  have hb2 := ((Below.refl W.heap.size W).alloc (Nat.le_refl _) (.cells x.cells.toArray 58)).alloc (by simp) (.cells y.cells.toArray 58)
  have n1 := heap_old (heap_new W (.cells x.cells.toArray 58)) (.cells y.cells.toArray 58)
  have n2 := heap_new (W.alloc (.cells x.cells.toArray 58)) (.cells y.cells.toArray 58)
  rw [World.size_alloc] at n2
  have HT1 : Hid (∀ W', Below W.heap.size W W' → _) := Lib.hid (fun W' h => rtake_uni w0 f base p v C x W' hO (hp.keep h) hx hpx (hb0.trans (h.mono hb0.size)))
  have HT2 : Hid (∀ W', Below W.heap.size W W' → _) := Lib.hid (fun W' h => rtake_uni w0 f base2 p2 v2 C2 y W' hO2 (hp2.keep h) hy hpy (hb0.trans (h.mono hb0.size)))
  have HB2 := Lib.hid hb2
  have N1 := Lib.hid n1
  have N2 := Lib.hid n2
  have hsE : rsameW C C2 x y = (mayW C.length x && (mayW C2.length y && eqT (tkN C C.length x) (tkN C2 C2.length y))) := rfl
  have HSE := Lib.hid hsE
  clear hO hO2 hp hp2 hx hy hpx hpy hb0 hb2 n1 n2 hsE
  generalize rsameW C C2 x y = res at *
  generalize mayW C.length x = m1 at *
  generalize mayW C2.length y = m2 at *
  generalize tkN C C.length x = t1 at *
  generalize tkN C2 C2.length y = t2 at *
  obtain ⟨xc, xa, xk, xn, xs, xu, xao, xcap, xl⟩ := x
  obtain ⟨yc, ya, yk, yn, ys, yu, yao, ycap, yl⟩ := y
  simp only [Wd.V, Wd.cells] at *
  go_enter Tryd.func22, Tryd.ntmps22
  go_wp2_with fail
  generalize (W.alloc (.cells #[.bool xc, .int .i64 xa, .int .i8 xk, .int .i64 xn, .string xs, .string xu, .slice xao xl.length xcap] 58)).alloc (.cells #[.bool yc, .int .i64 ya, .int .i8 yk, .int .i64 yn, .string ys, .string yu, .slice yao yl.length ycap] 58) = W2 at *
  refine (HT1.out W2 HB2.out).mono ?_
  rintro e W3 ⟨te, ee, rfl, hb3, HR1⟩
  have HB3 := Lib.hid (HB2.out.trans (hb3.mono HB2.out.size))
  have HN2 := Lib.hid (keep_heap N2.out hb3)
  clear hb3 N1 N2 HB2 HT1
  go_wp2_with (with_reducible refine stop_op (o := ⟨_, .store 47 (.tmp 9) (.tmp 17), _, _, _, _⟩) ?_)
  refine Lib.hid ?_
  refine wpList_store_new (o := ⟨none, _, _, _, _, _⟩) rfl 47 (.tmp 9) (.tmp 17) rfl #[.int .i8 te.k, .int .i64 te.n, .string te.s, .string te.u, .slice te.ao te.l.length te.cap] rfl rfl (infoTM' _ rfl) rfl (by simp [Value.oneCell']) ?_
  have hb4 := (Below.refl W3.heap.size W3).alloc (Nat.le_refl _) (.cells #[.int .i8 te.k, .int .i64 te.n, .string te.s, .string te.u, .slice te.ao te.l.length te.cap] 47)
  have HX := Lib.hid (heap_new W3 (.cells #[.int .i8 te.k, .int .i64 te.n, .string te.s, .string te.u, .slice te.ao te.l.length te.cap] 47))
  have hm2 := keep_heap HN2.out hb4
  have HB4 := Lib.hid (HB3.out.trans (hb4.mono HB3.out.size))
  have HR1' : Hid ((m1 = true ∧ ee = 0 ∧ TermV (f + C.length) (W3.alloc (.cells #[.int .i8 te.k, .int .i64 te.n, .string te.s, .string te.u, .slice te.ao te.l.length te.cap] 47)) (.agg #[.int .i8 te.k, .int .i64 te.n, .string te.s, .string te.u, .slice te.ao te.l.length te.cap]) t1) ∨ (m1 = false ∧ ee = 2)) := Lib.hid (HR1.out.imp (fun h => ⟨h.1, h.2.1, h.2.2.keep hb4⟩) id)
  clear HR1 hb4 HB3 HN2
  generalize W3.alloc (.cells #[.int .i8 te.k, .int .i64 te.n, .string te.s, .string te.u, .slice te.ao te.l.length te.cap] 47) = W4 at *
  obtain ⟨y0, -⟩ := cells_at hm2 0 _ rfl
  obtain ⟨y1, -⟩ := cells_at hm2 1 _ rfl
  obtain ⟨y2, -⟩ := cells_at hm2 2 _ rfl
  obtain ⟨y3, -⟩ := cells_at hm2 3 _ rfl
  obtain ⟨y4, -⟩ := cells_at hm2 4 _ rfl
  obtain ⟨y5, -⟩ := cells_at hm2 5 _ rfl
  obtain ⟨y6, -⟩ := cells_at hm2 6 _ rfl
  clear hm2
  go_wp2_with fail
  refine (HT2.out W4 HB4.out).mono ?_
  rintro e W5 ⟨te2, ee2, rfl, hb5, HR2⟩
  have HB5 := Lib.hid (HB4.out.trans (hb5.mono HB4.out.size))
  have hX5 := keep_heap HX.out hb5
  have HR5 : Hid ((m1 = true ∧ ee = 0 ∧ TermV (f + C.length) W5 (.agg #[.int .i8 te.k, .int .i64 te.n, .string te.s, .string te.u, .slice te.ao te.l.length te.cap]) t1) ∨ (m1 = false ∧ ee = 2)) := Lib.hid (HR1'.out.imp (fun h => ⟨h.1, h.2.1, h.2.2.keep hb5⟩) id)
  have HX5 := Lib.hid hX5
  clear hb5 HR1' HX HB4 HT2 y0 y1 y2 y3 y4 y5 y6 hX5
  go_wp2_with (with_reducible refine stop_op (o := ⟨_, .store 47 (.tmp 11) (.tmp 23), _, _, _, _⟩) ?_)
  refine Lib.hid ?_
  refine wpList_store_new (o := ⟨none, _, _, _, _, _⟩) rfl 47 (.tmp 11) (.tmp 23) rfl #[.int .i8 te2.k, .int .i64 te2.n, .string te2.s, .string te2.u, .slice te2.ao te2.l.length te2.cap] rfl rfl (infoTM' _ rfl) rfl (by simp [Value.oneCell']) ?_
  have hb6 := (Below.refl W5.heap.size W5).alloc (Nat.le_refl _) (.cells #[.int .i8 te2.k, .int .i64 te2.n, .string te2.s, .string te2.u, .slice te2.ao te2.l.length te2.cap] 47)
  have hY6 := heap_new W5 (.cells #[.int .i8 te2.k, .int .i64 te2.n, .string te2.s, .string te2.u, .slice te2.ao te2.l.length te2.cap] 47)
  have hX6 := keep_heap HX5.out hb6
  have HB6 := Lib.hid (HB5.out.trans (hb6.mono HB5.out.size))
  have HR6 : Hid ((m1 = true ∧ ee = 0 ∧ TermV (f + C.length) (W5.alloc (.cells #[.int .i8 te2.k, .int .i64 te2.n, .string te2.s, .string te2.u, .slice te2.ao te2.l.length te2.cap] 47)) (.agg #[.int .i8 te.k, .int .i64 te.n, .string te.s, .string te.u, .slice te.ao te.l.length te.cap]) t1) ∨ (m1 = false ∧ ee = 2)) := Lib.hid (HR5.out.imp (fun h => ⟨h.1, h.2.1, h.2.2.keep hb6⟩) id)
  have HQ6 : Hid ((m2 = true ∧ ee2 = 0 ∧ TermV (f + C2.length) (W5.alloc (.cells #[.int .i8 te2.k, .int .i64 te2.n, .string te2.s, .string te2.u, .slice te2.ao te2.l.length te2.cap] 47)) (.agg #[.int .i8 te2.k, .int .i64 te2.n, .string te2.s, .string te2.u, .slice te2.ao te2.l.length te2.cap]) t2) ∨ (m2 = false ∧ ee2 = 2)) := Lib.hid (HR2.out.imp (fun h => ⟨h.1, h.2.1, h.2.2.keep hb6⟩) id)
  clear hb6 HR5 HR2 HB5
  generalize W5.alloc (.cells #[.int .i8 te2.k, .int .i64 te2.n, .string te2.s, .string te2.u, .slice te2.ao te2.l.length te2.cap] 47) = W6 at *
  rcases HR6.out with ⟨rfl, rfl, hv1⟩ | ⟨rfl, rfl⟩
  · rcases HQ6.out with ⟨rfl, rfl, hv2⟩ | ⟨rfl, rfl⟩
    · obtain ⟨x0, -⟩ := cells_at hX6 0 _ rfl
      obtain ⟨x1, -⟩ := cells_at hX6 1 _ rfl
      obtain ⟨x2, -⟩ := cells_at hX6 2 _ rfl
      obtain ⟨x3, -⟩ := cells_at hX6 3 _ rfl
      obtain ⟨x4, -⟩ := cells_at hX6 4 _ rfl
      obtain ⟨y0, -⟩ := cells_at hY6 0 _ rfl
      obtain ⟨y1, -⟩ := cells_at hY6 1 _ rfl
      obtain ⟨y2, -⟩ := cells_at hY6 2 _ rfl
      obtain ⟨y3, -⟩ := cells_at hY6 3 _ rfl
      obtain ⟨y4, -⟩ := cells_at hY6 4 _ rfl
      have hlx := heap_lt hX6
      have HC := Lib.hid (rsame_any _ _ t1 t2 _ _ W6 hv1 hv2)
      have hse := HSE.out
      simp only [Bool.true_and] at hse
      clear hX6 hY6 hv1 hv2 HR6 HQ6 HX5
      generalize eqT t1 t2 = c at *
      have HE : Hid (c = res) := Lib.hid hse.symm
      clear hse HSE
      go_wp2_with fail
      refine HC.out.mono ?_
      rintro e W7 ⟨rfl, hb7⟩
      have HB7 := Lib.hid (HB6.out.trans (hb7.mono HB6.out.size))
      clear hb7 x0 x1 x2 x3 x4 y0 y1 y2 y3 y4
      go_wp2_with fail
      go_ret
      exact ⟨by rw [← HE.out]; rfl, HB7.out⟩
    · have hse : Hid (res = false) := Lib.hid (by rw [HSE.out]; rfl)
      clear hX6 hY6 HR6 HQ6 HX5 HSE
      go_wp2_with fail
      go_ret
      exact ⟨by rw [hse.out]; rfl, HB6.out⟩
  · have hse : Hid (res = false) := Lib.hid (by rw [HSE.out]; rfl)
    clear hX6 hY6 HR6 HQ6 HX5 HSE
    go_wp2_with fail
    go_ret
    exact ⟨by rw [hse.out]; rfl, HB6.out⟩
end Go.Proofs.YtfbohajojaaiaaaDoor
namespace Go.Proofs.YtfbohajojaaiaaaDoor
open Go.ChangeShapes Go.WideShapes Go.ChangeAt Go.RowKit
set_option linter.unusedVariables false
set_option maxRecDepth 100000
def InS (b1 b2 i : Nat) (n : Int) (W : World) : Prop := W.cell? ⟨b1, i, none⟩ = some (.int .i64 n) ∧ W.cell? ⟨b2, i, none⟩ = some (.int .i64 n)
theorem InS.keep {b1 b2 i : Nat} {n : Int} {W W' : World} (h : InS b1 b2 i n W) (hb : Below W.heap.size W W') : InS b1 b2 i n W' := ⟨keep_cell h.1 hb, keep_cell h.2 hb⟩
set_option maxHeartbeats 4000000 in
theorem ints_same (w : World) (B1 B2 : Nat) (A : List Int) (ao ao2 : Option Addr) (cap cap2 : Nat) (h1 : w.ownsRow B1 3 1 (.slice ao A.length cap) A.length (intsV A)) (h2 : w.ownsRow B2 3 1 (.slice ao2 A.length cap2) A.length (intsV A)) (hn : A.length ≤ 1099511627776) :
    Calls Tryd.prog 19 #[.slice ao A.length cap, .slice ao2 A.length cap2] w (IsPost w true) := by
  have H1 := Lib.hid h1
  have H2 := Lib.hid h2
  have d1 : ((A.length : Int) != (A.length : Int)) = false := by simp
  clear h1 h2
  go_enter Tryd.func19, Tryd.ntmps19
  go_wp2_with fail
  go_loopw [5] (fun iv wr => ∃ (i : Nat), i ≤ A.length ∧ iv = .int .i64 i ∧ Hid (Below w.heap.size w wr)) (fun iv _ => A.length - (intOf iv).toNat)
  case atStart => exact ⟨0, by omega, rfl, Lib.hid (Below.refl _ _)⟩
  case round =>
    obtain ⟨i, hi, rfl, HI⟩ := hrel
    by_cases hlt : i < A.length
    · obtain ⟨n, hn⟩ : ∃ n, A[i]? = some n := ⟨A[i], by simp [hlt]⟩
      have HN := Lib.hid hn
      have hdr : Below wr.heap.size wr wr.drew := (Below.refl _ _).drew
      have hBD := HI.out.trans (hdr.mono HI.out.size)
      obtain ⟨g1, cp1, e1, -, -, -, -, hc1⟩ := own_facts (own_keep H1.out hBD) (by omega)
      obtain ⟨g2, cp2, e2, -, -, -, -, hc2⟩ := own_facts (own_keep H2.out hBD) (by omega)
      injection e1 with ea eb ec
      injection e2 with ed ee ef
      subst ea ec ed ef
      have hS : InS g1 g2 i n wr.drew := ⟨hc1 i _ (by simp [intsV, hn]), hc2 i _ (by simp [intsV, hn])⟩
      have HBD := Lib.hid hBD
      have dn : (n != n) = false := by simp
      clear hc1 hc2 hn hdr hBD
      go_wp2_with fail
      have hi1 : i < A.length := (List.getElem?_eq_some_iff.1 HN.out).1
      refine region_plan (InS g1 g2 i n) [(0, 0), (1, 0), (2, 0), (3, 0), (4, 0), (5, 0), (6, 0), (7, 0), (8, 0)] (by kernel_rfl) (by kernel_rfl) (by kernel_rfl) hS ?_
      generalize wr.drew = WD at *
      iterate 9 ((first | (refine plan_skip rfl ?_ ?_; (focus (rfl)); (try simp only [Act.put, List.setIfInBounds_toArray, List.set_cons_zero, List.set_cons_succ])) | (refine plan_take (v := ?_) rfl ?_ (fun w hSw => ?_) ?_; rotate_left; (focus (rfl)); (focus (unfold InS at hSw; (go_simp <;> with_reducible rfl))); (try simp only [Act.put, List.setIfInBounds_toArray, List.set_cons_zero, List.set_cons_succ]))); (try simp only [dn]))
      refine plan_done ?_
      clear hS
      go_wp2_with fail
      go_roundw
      case rel => exact ⟨i + 1, by omega, by go_num, HBD⟩
      case measure => simp [intOf]; omega
    · go_wp2_with fail
      go_ret
      exact ⟨rfl, HI.out⟩
/-- what a round of SameCell reads -/
def ScS (q1 q2 : Nat) (s1 s2 : Value) (b1 o1 b2 o2 : Nat) (x : Wd) (W : World) : Prop := W.cell? ⟨q1, 2, none⟩ = some s1 ∧ W.cell? ⟨q2, 2, none⟩ = some s2 ∧
  W.cell? ⟨b1, o1, none⟩ = some (.bool x.c) ∧ W.cell? ⟨b1, o1 + 1, none⟩ = some (.int .i64 x.a) ∧ W.cell? ⟨b1, o1 + 2, none⟩ = some (.int .i8 x.k) ∧ W.cell? ⟨b1, o1 + 3, none⟩ = some (.int .i64 x.n) ∧ W.cell? ⟨b1, o1 + 4, none⟩ = some (.string x.s) ∧ W.cell? ⟨b1, o1 + 5, none⟩ = some (.string x.u) ∧ W.cell? ⟨b1, o1 + 6, none⟩ = some (.slice x.ao x.l.length x.cap) ∧
  W.cell? ⟨b2, o2, none⟩ = some (.bool x.c) ∧ W.cell? ⟨b2, o2 + 1, none⟩ = some (.int .i64 x.a) ∧ W.cell? ⟨b2, o2 + 2, none⟩ = some (.int .i8 x.k) ∧ W.cell? ⟨b2, o2 + 3, none⟩ = some (.int .i64 x.n) ∧ W.cell? ⟨b2, o2 + 4, none⟩ = some (.string x.s) ∧ W.cell? ⟨b2, o2 + 5, none⟩ = some (.string x.u) ∧ W.cell? ⟨b2, o2 + 6, none⟩ = some (.slice x.ao x.l.length x.cap)
theorem ScS.keep {q1 q2 : Nat} {s1 s2 : Value} {b1 o1 b2 o2 : Nat} {x : Wd} {W W' : World} (h : ScS q1 q2 s1 s2 b1 o1 b2 o2 x W) (hb : Below W.heap.size W W') : ScS q1 q2 s1 s2 b1 o1 b2 o2 x W' := by
  obtain ⟨a1, a2, h1, h2, h3, h4, h5, h6, h7, g1, g2, g3, g4, g5, g6, g7⟩ := h
  exact ⟨keep_cell a1 hb, keep_cell a2 hb, keep_cell h1 hb, keep_cell h2 hb, keep_cell h3 hb, keep_cell h4 hb, keep_cell h5 hb, keep_cell h6 hb, keep_cell h7 hb, keep_cell g1 hb, keep_cell g2 hb, keep_cell g3 hb, keep_cell g4 hb, keep_cell g5 hb, keep_cell g6 hb, keep_cell g7 hb⟩
set_option maxHeartbeats 8000000 in
theorem samecell_same (f : Nat) (w : World) (k sz : Int) (L : List Wd) (ao ao2 : Option Addr) (cap cap2 : Nat) (hr : WRow w ao L) (hr2 : WRow w ao2 L) (ho : ∀ x ∈ L, WOk f w x) (hn : L.length ≤ 1099511627776) :
    Calls Tryd.prog 23 #[.agg #[.int .i8 k, .int .i64 sz, .slice ao L.length cap], .agg #[.int .i8 k, .int .i64 sz, .slice ao2 L.length cap2]] w (IsPost w true) := by
  have hb := ((Below.refl w.heap.size w).alloc (Nat.le_refl _) (.cells #[.int .i8 k, .int .i64 sz, .slice ao L.length cap] 65)).alloc (by simp) (.cells #[.int .i8 k, .int .i64 sz, .slice ao2 L.length cap2] 65)
  have n1 := heap_old (heap_new w (.cells #[.int .i8 k, .int .i64 sz, .slice ao L.length cap] 65)) (.cells #[.int .i8 k, .int .i64 sz, .slice ao2 L.length cap2] 65)
  have n2 := heap_new (w.alloc (.cells #[.int .i8 k, .int .i64 sz, .slice ao L.length cap] 65)) (.cells #[.int .i8 k, .int .i64 sz, .slice ao2 L.length cap2] 65)
  rw [World.size_alloc] at n2
  have HB := Lib.hid hb
  have HR := Lib.hid hr
  have HR2 := Lib.hid hr2
  have HO := Lib.hid ho
  have HN1 := Lib.hid n1
  have HN2 := Lib.hid n2
  have d1 : (k != k) = false := by simp
  have d2 : (sz != sz) = false := by simp
  have d3 : ((L.length : Int) != (L.length : Int)) = false := by simp
  clear hb hr hr2 ho n1 n2
  go_enter Tryd.func23, Tryd.ntmps23
  go_wp2_with fail
  generalize (w.alloc (.cells #[.int .i8 k, .int .i64 sz, .slice ao L.length cap] 65)).alloc (.cells #[.int .i8 k, .int .i64 sz, .slice ao2 L.length cap2] 65) = W0 at *
  go_loopw [5] (fun iv wr => ∃ (i : Nat), i ≤ L.length ∧ iv = .int .i64 i ∧ Hid (Below W0.heap.size W0 wr)) (fun iv _ => L.length - (intOf iv).toNat)
  case atStart => exact ⟨0, by omega, rfl, Lib.hid (Below.refl _ _)⟩
  case round =>
    obtain ⟨i, hi, rfl, HI⟩ := hrel
    have m1 := keep_heap HN1.out HI.out
    have m2 := keep_heap HN2.out HI.out
    obtain ⟨x2, -⟩ := cells_at m1 2 _ rfl
    obtain ⟨y2, -⟩ := cells_at m2 2 _ rfl
    by_cases hlt : i < L.length
    · obtain ⟨x, hx⟩ : ∃ x, L[i]? = some x := ⟨L[i]'(by omega), List.getElem?_eq_getElem (by omega)⟩
      have HX := Lib.hid hx
      have hdr : Below wr.heap.size wr wr.drew := (Below.refl _ _).drew
      have hBD := HI.out.trans (hdr.mono HI.out.size)
      have HBW := Lib.hid (HB.out.trans (hBD.mono HB.out.size))
      obtain ⟨b1, o1, rfl, -, hc1⟩ := HR.out.keep HBW.out i x hx
      obtain ⟨b2, o2, rfl, -, hc2⟩ := HR2.out.keep HBW.out i x hx
      have hS : ScS w.heap.size (w.heap.size + 1) (.slice (some ⟨b1, o1, none⟩) L.length cap) (.slice (some ⟨b2, o2, none⟩) L.length cap2) b1 (o1 + i * 7) b2 (o2 + i * 7) x wr.drew :=
        ⟨x2, y2, hc1 0 _ rfl, hc1 1 _ rfl, hc1 2 _ rfl, hc1 3 _ rfl, hc1 4 _ rfl, hc1 5 _ rfl, hc1 6 _ rfl, hc2 0 _ rfl, hc2 1 _ rfl, hc2 2 _ rfl, hc2 3 _ rfl, hc2 4 _ rfl, hc2 5 _ rfl, hc2 6 _ rfl⟩
      have hcall := sameword_any f f x x wr.drew ((HO.out x (List.mem_of_getElem? hx)).keep HBW.out) ((HO.out x (List.mem_of_getElem? hx)).keep HBW.out)
      rw [eqW_refl] at hcall
      have HCALL := Lib.hid hcall
      have HBD := Lib.hid hBD
      clear hx hc1 hc2 hdr hBD hcall m1 m2
      go_wp2_with fail
      have hi1 : i < L.length := (List.getElem?_eq_some_iff.1 HX.out).1
      refine region_plan (ScS w.heap.size (w.heap.size + 1) (.slice (some ⟨b1, o1, none⟩) L.length cap) (.slice (some ⟨b2, o2, none⟩) L.length cap2) b1 (o1 + i * 7) b2 (o2 + i * 7) x) [(0, 0), (1, 0), (2, 0), (3, 0), (4, 0), (5, 0), (6, 0), (7, 0), (8, 0), (9, 0), (10, 1), (11, 0)] (by kernel_rfl) (by kernel_rfl) (by kernel_rfl) hS ?_
      generalize wr.drew = WD at *
      simp only [Wd.V] at HCALL
      iterate 10 (first | (refine plan_skip rfl ?_ ?_; (focus (rfl)); (try simp only [Act.put, List.setIfInBounds_toArray, List.set_cons_zero, List.set_cons_succ])) | (refine plan_take (v := ?_) rfl ?_ (fun w hSw => ?_) ?_; rotate_left; (focus (rfl)); (focus (unfold ScS at hSw; (go_simp <;> with_reducible rfl))); (try simp only [Act.put, List.setIfInBounds_toArray, List.set_cons_zero, List.set_cons_succ])))
      refine plan_run rfl ?_ (fun K hK => ?_)
      focus (rfl)
      go_simp
      refine (HCALL.out).mono ?_
      rintro e W1 ⟨rfl, hb1⟩
      have hS1 := hS.keep hb1
      have HB1 := Lib.hid (HBD.out.trans (hb1.mono HBD.out.size))
      refine hK.out _ _ hS1 ?_
      clear hK K 
      (try simp only [Act.put, List.setIfInBounds_toArray, List.set_cons_zero, List.set_cons_succ])
      iterate 1 (first | (refine plan_skip rfl ?_ ?_; (focus (rfl)); (try simp only [Act.put, List.setIfInBounds_toArray, List.set_cons_zero, List.set_cons_succ])) | (refine plan_take (v := ?_) rfl ?_ (fun w hSw => ?_) ?_; rotate_left; (focus (rfl)); (focus (unfold ScS at hSw; (go_simp <;> with_reducible rfl))); (try simp only [Act.put, List.setIfInBounds_toArray, List.set_cons_zero, List.set_cons_succ])))
      refine plan_done ?_
      clear hS hS1 hb1 x2 y2
      go_wp2_with fail
      go_roundw
      case rel => exact ⟨i + 1, by omega, by go_num, HB1⟩
      case measure => simp [intOf]; omega
    · have HF := Lib.hid (HB.out.trans (HI.out.mono HB.out.size))
      go_wp2_with fail
      go_ret
      exact ⟨rfl, HF.out⟩
end Go.Proofs.YtfbohajojaaiaaaDoor
