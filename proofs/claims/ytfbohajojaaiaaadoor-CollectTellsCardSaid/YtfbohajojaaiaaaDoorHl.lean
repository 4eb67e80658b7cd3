/- collect: what Run makes, in plain Lean. No conditions. -/
import Derived.Test.YtfbohajojaaiaaaDoorHk
namespace Go.Proofs.YtfbohajojaaiaaaDoor
open Go.ChangeShapes Go.WideShapes Go.ChangeAt Go.RowKit
set_option linter.unusedVariables false
/-- each cell is one that Make makes -/
def Made (C : List HC) : Prop := ∀ i c, C[i]? = some c → makeN (C.take i) c.k c.l = 0 ∧ c.sz = sizeW (C.take i) c.l
theorem Made.snoc {C : List HC} {k : Int} {L : List Wd} {lo : Option Addr} {lc : Nat} (h : Made C) (hm : makeN C k L = 0) : Made (C ++ [⟨k, sizeW C L, lo, lc, L⟩]) := by
  intro i c hi
  by_cases hl : i < C.length
  · rw [List.getElem?_append_left hl] at hi
    rw [List.take_append_of_le_length (by omega)]
    exact h i c hi
  · have hi2 : i = C.length := by
      have := (List.getElem?_eq_some_iff.1 hi).1
      simp at this
      omega
    subst hi2
    simp at hi
    subst hi
    rw [List.take_append_of_le_length (Nat.le_refl _), List.take_length]
    exact ⟨hm, rfl⟩
theorem Made.nil : Made [] := fun i c h => by simp at h
/-- keys, in order, closed -/
structure Cl (C : List HC) (s : List Int) : Prop where
  srt : s.Pairwise (· < ·)
  lt : ∀ x ∈ s, 0 ≤ x ∧ x < C.length
  cl : ∀ x ∈ s, ∀ y ∈ chld C x, y ∈ s
theorem mem_outL {n : Nat} {s : List Int} {x : Int} : x ∈ outL n s ↔ (0 ≤ x ∧ x < n) ∧ x ∈ s := by
  simp only [outL, List.mem_filter, List.mem_map, List.mem_range, decide_eq_true_eq]
  constructor
  · rintro ⟨⟨a, ha, rfl⟩, h2⟩
    exact ⟨⟨by simp, by simpa using ha⟩, h2⟩
  · rintro ⟨⟨h1, h2⟩, h3⟩
    exact ⟨⟨x.toNat, by omega, by simp; omega⟩, h3⟩
theorem outL_srt (n : Nat) (s : List Int) : (outL n s).Pairwise (· < ·) := by
  rw [outL]
  refine List.Pairwise.filter _ ?_
  rw [List.pairwise_map]
  exact List.pairwise_lt_range.imp (fun h => by simpa using h)
theorem cl_outL {C : List HC} {L : List Wd} {s : List Int} (hC : Good C) (hL : ∀ x ∈ L, mayW C.length x = true) (hs : ∀ x, x ∈ s ↔ Rch C L x) : Cl C (outL C.length s) := by
  refine ⟨outL_srt _ _, fun x hx => (mem_outL.1 hx).1, fun x hx y hy => ?_⟩
  obtain ⟨h1, h2⟩ := mem_outL.1 hx
  exact mem_outL.2 ⟨chld_lt hC h1 hy, (hs y).2 (.step ((hs x).1 h2) hy)⟩
def gOf (s : List Int) : List (Int × Nat) := s.zipIdx
theorem gOf_snoc (s : List Int) (k : Int) : gOf (s ++ [k]) = gOf s ++ [(k, s.length)] := by simp [gOf, List.zipIdx_append]
theorem look_none {s : List Int} {p : Int} (h : p ∉ s) : look (gOf s) p = none := by
  induction s using snoc_ind with
  | h0 => rfl
  | h1 l a ih =>
    rw [gOf_snoc, look_snoc, if_neg (fun e => h (by simp [e])), ih (fun hm => h (by simp [hm]))]
theorem look_at {s : List Int} (hn : s.Nodup) {i : Nat} {p : Int} (h : s[i]? = some p) : look (gOf s) p = some i := by
  induction s using snoc_ind with
  | h0 => simp at h
  | h1 l a ih =>
    rw [gOf_snoc, look_snoc]
    rw [List.nodup_append] at hn
    by_cases hl : i < l.length
    · rw [List.getElem?_append_left hl] at h
      rw [if_neg (fun e => hn.2.2 p (List.mem_of_getElem? h) a (by simp) e), ih hn.1 h]
    · have hi2 : i = l.length := by
        have := (List.getElem?_eq_some_iff.1 h).1
        simp at this
        omega
      subst hi2
      simp at h
      rw [if_pos h.symm]
theorem Cl.nodup {C : List HC} {s : List Int} (h : Cl C s) : s.Nodup := h.srt.imp (fun h e => by omega)
/-- what stands of the new heap when the first keys are done -/
structure Ran (C : List HC) (s : List Int) (C' : List HC) : Prop where
  len : C'.length = s.length
  cell : ∀ (j : Nat) (k : Int), s[j]? = some k → ∃ c lo lc, C[k.toNat]? = some c ∧ C'[j]? = some ⟨c.k, c.sz, lo, lc, c.l.map (mv (gOf (s.take j)))⟩
theorem Ran.nil (C : List HC) : Ran C [] [] := ⟨rfl, fun j k h => by simp at h⟩
theorem Ran.snoc {C C' : List HC} {s : List Int} {k : Int} {c : HC} {lo : Option Addr} {lc : Nat} (h : Ran C s C') (hc : C[k.toNat]? = some c) : Ran C (s ++ [k]) (C' ++ [⟨c.k, c.sz, lo, lc, c.l.map (mv (gOf s))⟩]) := by
  refine ⟨by simp [h.len], fun j p hj => ?_⟩
  by_cases hl : j < s.length
  · rw [List.getElem?_append_left hl] at hj
    obtain ⟨d, a, b, h1, h2⟩ := h.cell j p hj
    refine ⟨d, a, b, h1, ?_⟩
    rw [List.getElem?_append_left (by rw [h.len]; exact hl), List.take_append_of_le_length (by omega)]
    exact h2
  · have hi2 : j = s.length := by
      have := (List.getElem?_eq_some_iff.1 hj).1
      simp at this
      omega
    subst hi2
    simp at hj
    subst hj
    refine ⟨c, lo, lc, hc, ?_⟩
    rw [← h.len]
    simp [h.len]
/-- where the words of a cell went -/
theorem mv_facts {C C' : List HC} {s t : List Int} {k : Int} {c : HC} (hC : Good C) (hcl : Cl C (s ++ k :: t)) (hr : Ran C s C') (hc : C[k.toNat]? = some c) {x : Wd} (hx : x ∈ c.l) :
    mayW C'.length (mv (gOf s) x) = true ∧ nodesW C' (mv (gOf s) x) = nodesW (C.take k.toNat) x := by
  have hk := hcl.lt k (by simp)
  have hm := (hC.2 _ _ hc).2.2.2.2 x hx
  by_cases hxc : x.c = true
  · have hm2 := hm
    simp only [mayW, hxc, if_true, Bool.and_eq_true, decide_eq_true_eq] at hm2
    obtain ⟨m1, m2, -⟩ := hm2
    have hch : x.a ∈ chld C k := by
      unfold chld
      rw [hc]
      exact mem_named.2 ⟨x, hx, hxc, rfl⟩
    have hin := hcl.cl k (by simp) _ hch
    have hs := hcl.srt
    rw [List.pairwise_append] at hs
    have hxs : x.a ∈ s := by
      rw [List.mem_append, List.mem_cons] at hin
      rcases hin with h | h | h
      · exact h
      · omega
      · have := (List.pairwise_cons.1 hs.2.1).1 _ h
        omega
    obtain ⟨i, hi⟩ := List.getElem?_of_mem hxs
    have hil := (List.getElem?_eq_some_iff.1 hi).1
    have hnd : s.Nodup := hs.1.imp (fun h e => by omega)
    have hlk := look_at hnd hi
    obtain ⟨d, lo, lc, d1, d2⟩ := hr.cell i _ hi
    have hmv : mv (gOf s) x = cellW i := by simp [mv, hxc, hlk]
    rw [hmv]
    refine ⟨?_, ?_⟩
    · have hl := hr.len
      simp [mayW, cellW, hl, hil, empty]
    · have hlt : x.a.toNat < k.toNat := by omega
      simp only [nodesW, cellW, hxc, if_true, Int.toNat_natCast, d2, List.getElem?_take_of_lt hlt, d1]
  · have hxf : x.c = false := by simpa using hxc
    have hmv : mv (gOf s) x = x := by simp [mv, hxf]
    rw [hmv]
    refine ⟨?_, by simp [nodesW, hxf]⟩
    simpa [mayW, hxf] using hm
theorem srt_le : ∀ (s : List Int) (b : Int), (∀ x ∈ s, 0 ≤ x ∧ x < b) → s.Pairwise (· < ·) → 0 ≤ b → (s.length : Int) ≤ b := by
  intro s
  induction s using snoc_ind with
  | h0 => intro b _ _ h; simpa using h
  | h1 l a ih =>
    intro b h1 h2 h3
    rw [List.pairwise_append] at h2
    have ha := h1 a (by simp)
    have := ih a (fun x hx => ⟨(h1 x (by simp [hx])).1, h2.2.2 x hx a (by simp)⟩) h2.1 ha.1
    simp
    omega
theorem fold_ext {α β : Type} {f g : β → α → β} : ∀ {l : List α} {b : β}, (∀ b, ∀ x ∈ l, f b x = g b x) → l.foldl f b = l.foldl g b
  | [], _, _ => rfl
  | x :: l, b, h => by
    rw [List.foldl_cons, List.foldl_cons, h b x (by simp)]
    exact fold_ext fun b y hy => h b y (by simp [hy])
theorem ran_next {C C' : List HC} {s t : List Int} {k : Int} {c : HC} (hC : Good C) (hM : Made C) (hcl : Cl C (s ++ k :: t)) (hr : Ran C s C') (hc : C[k.toNat]? = some c) :
    makeN C' c.k (c.l.map (mv (gOf s))) = 0 ∧ sizeW C' (c.l.map (mv (gOf s))) = c.sz := by
  have hk := hcl.lt k (by simp)
  obtain ⟨m1, m2⟩ := hM _ _ hc
  have hsz : sizeW C' (c.l.map (mv (gOf s))) = c.sz := by
    rw [m2, sizeW, sizeW, List.foldl_map]
    refine fold_ext (fun n x hx => ?_)
    rw [(mv_facts hC hcl hr hc hx).2]
  refine ⟨?_, hsz⟩
  have hb : badK c.k c.l = false := by
    unfold makeN at m1
    cases h : badK c.k c.l
    · rfl
    · rw [h, Bool.true_or, if_pos rfl] at m1
      omega
  have hb2 : badK c.k (c.l.map (mv (gOf s))) = false := by
    unfold badK at hb ⊢
    rw [List.length_map]
    exact hb
  have hany : ((c.l.map (mv (gOf s))).any fun x => !mayW C'.length x) = false := by
    rw [List.any_map, List.any_eq_false]
    intro x hx
    simp [(mv_facts hC hcl hr hc hx).1]
  have h256 := (hC.2 _ _ hc).2.2.1
  have hlen : (s.length : Int) ≤ k := by
    have hs := hcl.srt
    rw [List.pairwise_append] at hs
    exact srt_le s k (fun x hx => ⟨(hcl.lt x (by simp [hx])).1, hs.2.2 x hx k (by simp)⟩) hs.1 hk.1
  have h1 := hC.1
  have hl := hr.len
  unfold makeN
  rw [hb2, hany, hsz, if_neg (by simp), if_neg (by omega), if_neg (by omega)]
end Go.Proofs.YtfbohajojaaiaaaDoor
