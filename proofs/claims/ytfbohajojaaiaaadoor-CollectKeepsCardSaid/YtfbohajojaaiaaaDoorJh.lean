/- what a collection keeps, in plain Lean. No conditions. -/
import Derived.Test.YtfbohajojaaiaaaDoorHm
import Derived.Test.YtfbohajojaaiaaaDoorJc
import Derived.Test.YtfbohajojaaiaaaDoorJg
namespace Go.Proofs.YtfbohajojaaiaaaDoor
open Go.ChangeShapes Go.WideShapes Go.ChangeAt Go.RowKit
set_option linter.unusedVariables false
theorem bless_irr : ∀ l : List UInt8, Op.bytesLess l l = false
  | [] => rfl
  | a :: l => by
    rw [Op.bytesLess, bless_irr l]
    simp
theorem cmpS_refl (s : ByteArray) : cmpS s s = 0 := by
  unfold cmpS
  rw [bless_irr]
  simp
theorem cmpI_refl (a : Int) : cmpI a a = 0 := by
  unfold cmpI
  rw [if_neg (by omega), if_neg (by omega)]
mutual
theorem ord_refl : ∀ t : Tm, ord t t = 0
  | .mk k n s u l => by
    rw [ord, if_pos rfl, cmpI_refl, cmpS_refl, cmpS_refl, cmpI_refl, ordL_refl l]
    simp [orL]
theorem ordL_refl : ∀ l : List Tm, ordL l l = 0
  | [] => by rw [ordL]
  | a :: l => by rw [ordL, if_pos (ord_refl a), ordL_refl l]
end
theorem cmpT_refl (t : Tm) : cmpT t t = 0 := by
  unfold cmpT
  split
  · exact ord_refl t
  · rfl
/-- a word's term is the same term behind a collection -/
theorem tk_moved {C C' : List HC} {S : List Int} (hC : Good C) (hcl : Cl C S) (hr : Ran C S C') : ∀ (N : Nat) (x : Wd) (j N' : Nat), x.c = true → S[j]? = some x.a → x.a < N → j < N' → tkN C N x = tkN C' N' (cellW j) := by
  intro N
  induction N with
  | zero =>
    intro x j N' hx hj hN _
    have := hcl.lt _ (List.mem_of_getElem? hj)
    omega
  | succ N ih =>
    intro x j N' hx hj hN hN'
    obtain ⟨N', rfl⟩ : ∃ m, N' = m + 1 := ⟨N' - 1, by omega⟩
    obtain ⟨k0, k1⟩ := hcl.lt _ (List.mem_of_getElem? hj)
    obtain ⟨c, lo, lc, h1, h2⟩ := hr.cell j _ hj
    rw [tkN_cell C N x c hx h1, tkN_cell C' N' (cellW j) _ rfl (by simpa [cellW] using h2)]
    simp only [List.map_map]
    congr 1
    refine List.map_congr_left fun y hy => ?_
    simp only [Function.comp_apply]
    cases hyc : y.c
    · have : mv (gOf (S.take j)) y = y := by simp [mv, hyc]
      rw [this, tkN_leaf C N y hyc, tkN_leaf C' N' y hyc]
    · obtain ⟨y0, y1⟩ := low_part hC h1 hy hyc
      have hch : y.a ∈ chld C x.a := by
        unfold chld
        rw [h1]
        exact mem_named.2 ⟨y, hy, hyc, rfl⟩
      have hin := hcl.cl _ (List.mem_of_getElem? hj) _ hch
      obtain ⟨i, hi⟩ := List.getElem?_of_mem hin
      have hij : i < j := by
        rcases Nat.lt_or_ge i j with h | h
        · exact h
        · exfalso
          have hjl := (List.getElem?_eq_some_iff.1 hj).1
          have hil := (List.getElem?_eq_some_iff.1 hi).1
          rw [List.getElem?_eq_getElem hjl] at hj
          rw [List.getElem?_eq_getElem hil] at hi
          injection hj with hj
          injection hi with hi
          rcases Nat.eq_or_lt_of_le h with e | h
          · subst e
            omega
          · have := List.pairwise_iff_getElem.1 hcl.srt j i hjl hil h
            omega
      have hi2 : (S.take j)[i]? = some y.a := by rw [List.getElem?_take_of_lt hij]; exact hi
      have hmv : mv (gOf (S.take j)) y = cellW i := by
        have := look_at (List.Nodup.sublist (List.take_sublist j S) hcl.nodup) hi2
        simp [mv, hyc, this]
      rw [hmv]
      exact ih y i N' hyc hi (by omega) (by omega)
/-- where roots went -/
theorem root_moved {C : List HC} {S : List Int} (hcl : Cl C S) {x : Wd} (hx : x.c = true → x.a ∈ S) : (x.c = false ∧ mv (gOf S) x = x) ∨ (x.c = true ∧ ∃ j, S[j]? = some x.a ∧ mv (gOf S) x = cellW j) := by
  cases hc : x.c
  · exact .inl ⟨rfl, by simp [mv, hc]⟩
  · obtain ⟨j, hj⟩ := List.getElem?_of_mem (hx hc)
    exact .inr ⟨rfl, j, hj, by simp [mv, hc, look_at hcl.nodup hj]⟩
theorem root_same {C C' : List HC} {S : List Int} (hC : Good C) (hcl : Cl C S) (hr : Ran C S C') {x : Wd} (hx : x.c = true → x.a ∈ S) (hm : mayW C.length x = true) : mayW C'.length (mv (gOf S) x) = true ∧ sameW C C' x (mv (gOf S) x) = true := by
  rcases root_moved hcl hx with ⟨hc, hv⟩ | ⟨hc, j, hj, hv⟩
  · rw [hv]
    have hm' : mayW C'.length x = true := by
      simp only [mayW, hc] at hm ⊢
      exact hm
    refine ⟨hm', ?_⟩
    unfold sameW
    rw [hm, hm', tkN_leaf C _ x hc, tkN_leaf C' _ x hc, cmpT_refl]
    rfl
  · rw [hv]
    have hjl := (List.getElem?_eq_some_iff.1 hj).1
    have hl := hr.len
    have hm' : mayW C'.length (cellW j) = true := by simp [mayW, cellW, hl, hjl, empty]
    refine ⟨hm', ?_⟩
    unfold sameW
    rw [hm, hm', tk_moved hC hcl hr C.length x j C'.length hc hj (hcl.lt _ (List.mem_of_getElem? hj)).2 (by omega), cmpT_refl]
    rfl
theorem rch_lt {C : List HC} {L : List Wd} (hC : Good C) (hL : ∀ x ∈ L, mayW C.length x = true) {x : Int} (h : Rch C L x) : 0 ≤ x ∧ x < C.length := by
  induction h with
  | root h =>
    obtain ⟨y, hy, hc, rfl⟩ := mem_named.1 h
    have := hL y hy
    simp only [mayW, hc, if_true, Bool.and_eq_true, decide_eq_true_eq] at this
    omega
  | step _ hy ih => exact chld_lt hC ih hy
/-- what is reached there -/
theorem rch_moved {C C' : List HC} {L : List Wd} {S : List Int} (hC : Good C) (hcl : Cl C S) (hr : Ran C S C') (hS : ∀ x, x ∈ S ↔ Rch C L x) {k : Int} (h : Rch C L k) : ∀ j : Nat, S[j]? = some k → Rch C' (L.map (mv (gOf S))) j := by
  induction h with
  | root h =>
    intro j hj
    obtain ⟨y, hy, hc, rfl⟩ := mem_named.1 h
    have hmv : mv (gOf S) y = cellW j := by simp [mv, hc, look_at hcl.nodup hj]
    exact .root (mem_named.2 ⟨_, List.mem_map_of_mem hy, by rw [hmv]; exact ⟨rfl, rfl⟩⟩)
  | @step x y hx hy ih =>
    intro j hj
    obtain ⟨jx, hjx⟩ := List.getElem?_of_mem ((hS x).2 hx)
    refine .step (ih jx hjx) ?_
    obtain ⟨c, lo, lc, h1, h2⟩ := hr.cell jx _ hjx
    unfold chld at hy ⊢
    rw [h1] at hy
    have h2' : C'[(jx : Int).toNat]? = some ⟨c.k, c.sz, lo, lc, c.l.map (mv (gOf (S.take jx)))⟩ := by simpa using h2
    rw [h2']
    obtain ⟨z, hz, hc, rfl⟩ := mem_named.1 hy
    obtain ⟨x0, x1⟩ := hcl.lt _ (List.mem_of_getElem? hjx)
    obtain ⟨z0, z1⟩ := low_part hC h1 hz hc
    have hij : j < jx := by
      rcases Nat.lt_or_ge j jx with h | h
      · exact h
      · exfalso
        have hjl := (List.getElem?_eq_some_iff.1 hj).1
        have hil := (List.getElem?_eq_some_iff.1 hjx).1
        have e1 := hj
        have e2 := hjx
        rw [List.getElem?_eq_getElem hjl] at e1
        rw [List.getElem?_eq_getElem hil] at e2
        injection e1 with e1
        injection e2 with e2
        rcases Nat.eq_or_lt_of_le h with e | h
        · subst e
          omega
        · have := List.pairwise_iff_getElem.1 hcl.srt jx j hil hjl h
          omega
    have hi2 : (S.take jx)[j]? = some z.a := by rw [List.getElem?_take_of_lt hij]; exact hj
    have hmv : mv (gOf (S.take jx)) z = cellW j := by
      have := look_at (List.Nodup.sublist (List.take_sublist jx S) hcl.nodup) hi2
      simp [mv, hc, this]
    exact mem_named.2 ⟨_, List.mem_map_of_mem hz, by rw [hmv]; exact ⟨rfl, rfl⟩⟩
/-- the next time nothing moves -/
theorem again_all {C C' : List HC} {L : List Wd} {S s2 : List Int} (hC : Good C) (hC' : Good C') (hcl : Cl C S) (hr : Ran C S C') (hS : ∀ x, x ∈ S ↔ Rch C L x) (hL : ∀ x ∈ L, mayW C.length x = true) (h2 : ∀ x, x ∈ s2 ↔ Rch C' (L.map (mv (gOf S))) x) : outL C'.length s2 = (List.range C'.length).map Int.ofNat := by
  unfold outL
  rw [List.filter_eq_self]
  intro x hx
  obtain ⟨j, hj, rfl⟩ := List.mem_map.1 hx
  rw [List.mem_range, hr.len] at hj
  have hj2 : S[j]? = some S[j] := List.getElem?_eq_getElem hj
  simp only [decide_eq_true_eq]
  exact (h2 _).2 (rch_moved hC hcl hr hS ((hS _).1 (List.mem_of_getElem? hj2)) j hj2)
theorem again_len (n : Nat) : ((List.range n).map Int.ofNat).length = n := by simp
theorem again_look {n j : Nat} (h : j < n) : look (gOf ((List.range n).map Int.ofNat)) (j : Int) = some j := by
  refine look_at ?_ (by rw [List.getElem?_map, List.getElem?_range h]; rfl)
  rw [List.nodup_iff_pairwise_ne, List.pairwise_map]
  exact List.pairwise_lt_range.imp (fun h e => by simp at e; omega)
theorem again_words {C C' : List HC} {L : List Wd} {S : List Int} (hcl : Cl C S) (hr : Ran C S C') (hL : ∀ x ∈ L, x.c = true → x.a ∈ S) : (L.map (mv (gOf S))).map (mv (gOf ((List.range C'.length).map Int.ofNat))) = L.map (mv (gOf S)) := by
  rw [List.map_map]
  refine List.map_congr_left fun x hx => ?_
  simp only [Function.comp_apply]
  rcases root_moved hcl (hL x hx) with ⟨hc, hv⟩ | ⟨hc, j, hj, hv⟩
  · rw [hv]
    simp [mv, hc]
  · rw [hv]
    have hjl := (List.getElem?_eq_some_iff.1 hj).1
    have := again_look (n := C'.length) (j := j) (by rw [hr.len]; exact hjl)
    simp [mv, cellW, this]
theorem outL_same {n : Nat} {s s2 : List Int} (h : ∀ x, x ∈ s ↔ x ∈ s2) : outL n s = outL n s2 := by
  unfold outL
  congr 1
  funext x
  simp [h]
/-- roots share cells just as they did -/
theorem share_moved {C : List HC} {S : List Int} (hcl : Cl C S) {x y : Wd} (hx : x.c = true) (hy : y.c = true) (hxs : x.a ∈ S) (hys : y.a ∈ S) : decide ((mv (gOf S) x).a = (mv (gOf S) y).a) = decide (x.a = y.a) := by
  obtain ⟨i, hi⟩ := List.getElem?_of_mem hxs
  obtain ⟨j, hj⟩ := List.getElem?_of_mem hys
  have h1 : mv (gOf S) x = cellW i := by simp [mv, hx, look_at hcl.nodup hi]
  have h2 : mv (gOf S) y = cellW j := by simp [mv, hy, look_at hcl.nodup hj]
  rw [h1, h2, decide_eq_decide]
  simp only [cellW]
  constructor
  · intro h
    have : i = j := by omega
    subst this
    rw [hi] at hj
    exact Option.some.inj hj
  · intro h
    have h3 := look_at hcl.nodup hi
    have h4 := look_at hcl.nodup hj
    rw [h, h4] at h3
    have := Option.some.inj h3
    omega
end Go.Proofs.YtfbohajojaaiaaaDoor
