/- Plain facts on rows of events, no program in sight: what is near, counted. Conditions: rows in order. -/
import Derived.Test.YtjjlfaknebbhfaaWj
namespace Go.Proofs.Ytjjlfaknebbhfaa.Wp
theorem may_pair : ∀ (xs : List Int) (lo : Int), mayFrom lo xs = true → xs.Pairwise (· ≤ ·)
  | [], _, _ => List.Pairwise.nil
  | t :: r, lo, h => by
    simp only [mayFrom, Bool.and_eq_true, decide_eq_true_eq] at h
    exact List.Pairwise.cons (fun x hx => (mayFrom_bd r t h.2 x hx).1) (may_pair r t h.2)
theorem pair_may : ∀ (xs : List Int) (lo : Int), xs.Pairwise (· ≤ ·) → (∀ x ∈ xs, lo ≤ x ∧ x ≤ 1099511627776) → mayFrom lo xs = true
  | [], _, _, _ => rfl
  | t :: r, lo, h, hb => by
    have h1 := hb t (by simp)
    obtain ⟨h2, h3⟩ := List.pairwise_cons.1 h
    simp only [mayFrom, Bool.and_eq_true, decide_eq_true_eq]
    exact ⟨h1, pair_may r t h3 fun x hx => ⟨h2 x hx, (hb x (by simp [hx])).2⟩⟩
theorem dw_filter {p : Int → Bool} (hp : ∀ x y, x ≤ y → p x = true → p y = true) : ∀ xs : List Int, xs.Pairwise (· ≤ ·) → (xs.dropWhile fun x => !p x) = xs.filter p
  | [], _ => rfl
  | x :: r, h => by
    obtain ⟨h2, h3⟩ := List.pairwise_cons.1 h
    by_cases hx : p x = true
    · have : (x :: r).filter p = x :: r := List.filter_eq_self.2 fun y hy => by
        rcases List.mem_cons.1 hy with rfl | hy
        · exact hx
        · exact hp x y (h2 y hy) hx
      rw [this, List.dropWhile_cons, if_neg (by simp [hx])]
    · rw [List.dropWhile_cons, if_pos (by simp [hx]), List.filter_cons, if_neg hx]
      exact dw_filter hp r h3
def late (s t : Int) (x : Int) : Bool := decide (s - x ≤ t)
theorem late_mono (s t : Int) : ∀ x y, x ≤ y → late s t x = true → late s t y = true := by
  intro x y h1 h2
  simp [late] at *
  omega
theorem near_filter {K : List Int} (hK : K.Pairwise (· ≤ ·)) (s t : Int) : near K s t = K.filter (late s t) := dw_filter (late_mono s t) K hK
theorem near_count {K : List Int} (hK : K.Pairwise (· ≤ ·)) (s t : Int) : (near K s t).length = K.countP (late s t) := by
  rw [near_filter hK, List.countP_eq_length_filter]
theorem split_at {K : List Int} {r : Nat} (h0 : 0 < r) (h1 : r ≤ K.length) : K = K.take (K.length - r) ++ K.getD (K.length - r) 0 :: K.drop (K.length - r + 1) := by
  have hl : K.length - r < K.length := by omega
  conv => lhs; rw [← List.take_append_drop (K.length - r) K, List.drop_eq_getElem_cons hl]
  congr 2
  simp [List.getD_eq_getElem?_getD, List.getElem?_eq_getElem hl]
theorem split_lt {p : Int → Bool} (hp : ∀ x y, x ≤ y → p x = true → p y = true) {K : List Int} (hK : K.Pairwise (· ≤ ·)) {r : Nat} (h0 : 0 < r) (h1 : r ≤ K.length) (hx : p (K.getD (K.length - r) 0) = false) : K.countP p < r := by
  have e := split_at h0 h1
  generalize hxx : K.getD (K.length - r) 0 = x at *
  have hl : (K.drop (K.length - r + 1)).length = r - 1 := by rw [List.length_drop]; omega
  rw [e] at hK
  obtain ⟨q1, q2, q3⟩ := List.pairwise_append.1 hK
  rw [e, List.countP_append, List.countP_cons, hx]
  have c1 : (K.take (K.length - r)).countP p = 0 := List.countP_eq_zero.2 fun y hy hpy => by
    have := hp y x (q3 y hy x (by simp)) hpy
    rw [hx] at this
    cases this
  have c2 := List.countP_le_length (p := p) (l := K.drop (K.length - r + 1))
  simp
  omega
theorem split_ge {p : Int → Bool} (hp : ∀ x y, x ≤ y → p x = true → p y = true) {K : List Int} (hK : K.Pairwise (· ≤ ·)) {r : Nat} (h0 : 0 < r) (h1 : r ≤ K.length) (hx : p (K.getD (K.length - r) 0) = true) : r ≤ K.countP p := by
  have e := split_at h0 h1
  generalize hxx : K.getD (K.length - r) 0 = x at *
  have hl : (K.drop (K.length - r + 1)).length = r - 1 := by rw [List.length_drop]; omega
  rw [e] at hK
  obtain ⟨q1, q2, q3⟩ := List.pairwise_append.1 hK
  rw [e, List.countP_append, List.countP_cons, hx]
  have c2 : (K.drop (K.length - r + 1)).countP p = (K.drop (K.length - r + 1)).length := List.countP_eq_length.2 fun y hy => hp x y ((List.pairwise_cons.1 q2).1 y hy) hx
  simp
  omega
/-- what a run of Adds keeps: A all events, K those that are kept, last the last one's time -/
structure Run (A K : List Int) (last maxT : Int) : Prop where
  rest : ∃ D, A = D ++ K ∧ ∀ d ∈ D, maxT < last - d
  pair : K.Pairwise (· ≤ ·)
  low : ∀ x ∈ K, 0 ≤ x
  high : ∀ x ∈ K, x ≤ last
  few : K.length ≤ A.length
theorem Run.nil (maxT : Int) : Run [] [] 0 maxT := ⟨⟨[], rfl, by simp⟩, List.Pairwise.nil, by simp, by simp, Nat.le_refl _⟩
theorem Run.count {A K : List Int} {last maxT now : Int} (h : Run A K last maxT) (hn : last ≤ now) : A.countP (late now maxT) = (near K now maxT).length := by
  obtain ⟨D, rfl, hD⟩ := h.rest
  rw [near_count h.pair, List.countP_append]
  have : D.countP (late now maxT) = 0 := List.countP_eq_zero.2 fun y hy hp => by
    have := hD y hy
    simp [late] at hp
    omega
  omega
theorem Run.valid {A K : List Int} {last maxT now : Int} (h : Run A K last maxT) (hn : last ≤ now) (h0 : 0 ≤ now) (hm : now ≤ 1099511627776) (hl : A.length ≤ 4000) (ht : 0 ≤ maxT) (ht2 : maxT ≤ 1073741824) : fvalid K now maxT = true := by
  have hfew := h.few
  have hb : ∀ x ∈ K, 0 ≤ x ∧ x ≤ 1099511627776 := fun x hx => ⟨h.low x hx, by have := h.high x hx; omega⟩
  have hpp : (K ++ [now]).Pairwise (· ≤ ·) := List.pairwise_append.2 ⟨h.pair, by simp, fun x hx y hy => by
    have := h.high x hx
    simp at hy
    omega⟩
  have hbb : ∀ x ∈ K ++ [now], 0 ≤ x ∧ x ≤ 1099511627776 := fun x hx => by
    rcases List.mem_append.1 hx with hx | hx
    · exact hb x hx
    · simp at hx; omega
  simp only [fvalid, Bool.and_eq_true, decide_eq_true_eq, wmay]
  refine ⟨⟨⟨⟨⟨pair_may _ _ (hpp.sublist (List.drop_sublist _ _)) fun x hx => hbb x ((List.drop_sublist _ _).subset hx), ?_⟩, pair_may _ _ h.pair hb, by omega⟩, ht⟩, ht2⟩, ?_⟩
  · rw [List.length_drop, List.length_append]; simp; omega
  · unfold lastOk
    by_cases he : K = []
    · simp [he]
    · have hpos : 0 < K.length := List.length_pos_iff.2 he
      have : K.getD (K.length - 1) 0 ∈ K := by
        rw [List.getD_eq_getElem?_getD, List.getElem?_eq_getElem (by omega)]
        simp
      have := h.high _ this
      simp only [he, decide_false, Bool.false_or, decide_eq_true_eq]
      omega
theorem Run.put {A K : List Int} {last maxT now : Int} (h : Run A K last maxT) (hn : last ≤ now) (h0 : 0 ≤ now) : Run (A ++ [now]) (near K now maxT ++ [now]) now maxT := by
  obtain ⟨D, rfl, hD⟩ := h.rest
  have hsub : (near K now maxT).Sublist K := List.dropWhile_sublist _
  refine ⟨⟨D ++ K.takeWhile (fun x => !decide (now - x ≤ maxT)), ?_, ?_⟩, ?_, ?_, ?_, ?_⟩
  · have := List.takeWhile_append_dropWhile (p := fun x => !decide (now - x ≤ maxT)) (l := K)
    have e : D ++ K ++ [now] = D ++ (K.takeWhile (fun x => !decide (now - x ≤ maxT)) ++ near K now maxT) ++ [now] := by unfold near; rw [this]
    rw [e]
    simp [List.append_assoc]
  · intro d hd
    rcases List.mem_append.1 hd with hd | hd
    · have := hD d hd; omega
    · have := List.all_takeWhile (p := fun x => !decide (now - x ≤ maxT)) (l := K)
      rw [List.all_eq_true] at this
      have := this d hd
      simp at this
      omega
  · refine List.pairwise_append.2 ⟨h.pair.sublist hsub, by simp, fun x hx y hy => ?_⟩
    have := h.high x (hsub.subset hx)
    simp at hy
    omega
  · intro x hx
    rcases List.mem_append.1 hx with hx | hx
    · exact h.low x (hsub.subset hx)
    · simp at hx; omega
  · intro x hx
    rcases List.mem_append.1 hx with hx | hx
    · have := h.high x (hsub.subset hx); omega
    · simp at hx; omega
  · have := hsub.length_le
    have := h.few
    simp at *
    omega
/-- the earliest time -/
theorem Run.next {A K : List Int} {last maxT now : Int} (h : Run A K last maxT) {r : Nat} (h0 : 0 < r) (hr : r ≤ (near K now maxT).length) :
    (0 ≤ K.getD (K.length - r) 0 ∧ K.getD (K.length - r) 0 ≤ last ∧ now ≤ K.getD (K.length - r) 0 + maxT) ∧ r ≤ (near K (K.getD (K.length - r) 0 + maxT) maxT).length ∧ (near K (K.getD (K.length - r) 0 + maxT + 1) maxT).length < r := by
  have hl := near_len K now maxT
  have hmem : K.getD (K.length - r) 0 ∈ K := by
    rw [List.getD_eq_getElem?_getD, List.getElem?_eq_getElem (by omega)]
    simp
  refine ⟨⟨h.low _ hmem, h.high _ hmem, ?_⟩, ?_, ?_⟩
  · have hr2 := hr
    rw [near_count h.pair] at hr
    by_cases hx : late now maxT (K.getD (K.length - r) 0) = true
    · simp [late] at hx; simp; omega
    · have := split_lt (late_mono now maxT) h.pair h0 (by omega) (by simpa using hx)
      omega
  · rw [near_count h.pair]
    exact split_ge (late_mono _ _) h.pair h0 (by omega) (by simp [late]; omega)
  · rw [near_count h.pair]
    exact split_lt (late_mono _ _) h.pair h0 (by omega) (by simp [late]; omega)
end Go.Proofs.Ytjjlfaknebbhfaa.Wp
