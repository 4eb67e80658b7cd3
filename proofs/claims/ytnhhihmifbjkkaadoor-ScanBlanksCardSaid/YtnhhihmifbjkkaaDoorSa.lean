/- scan: the plain law: blanks, one token, all tokens; two texts with a line feed between; blanks put between tokens. No program here. -/
import Derived.Test.YtnhhihmifbjkkaaDoorAa
namespace Go.Proofs.YtnhhihmifbjkkaaDoor
set_option linter.unusedVariables false
def isDg (c : UInt8) : Bool := decide (48 ≤ c.toNat) && decide (c.toNat ≤ 57)
def dgN (l : List UInt8) : Nat := (l.takeWhile isDg).length
def decS (n : Nat) (c : UInt8) : Nat := n * 10 + (c.toNat - 48)
def decV (l : List UInt8) : Nat := l.foldl decS 0
def bl (c : UInt8) : Bool := c == 32 || (c == 9 || c == 13)
/-- how many bytes are blank: in a note, or not -/
def blk : Bool → List UInt8 → Nat
  | _, [] => 0
  | note, c :: r => if c = 10 then blk false r + 1 else if c = 37 then blk true r + 1 else if (note || bl c) = true then blk note r + 1 else 0
theorem blk_le : ∀ (note : Bool) (l : List UInt8), blk note l ≤ l.length
  | _, [] => by simp [blk]
  | note, c :: r => by
    rw [blk]
    have h1 := blk_le false r
    have h2 := blk_le true r
    have h3 := blk_le note r
    simp only [List.length_cons]
    split
    · omega
    · split
      · omega
      · split <;> omega
def wordsL : List (List UInt8) :=
  [[109, 111, 100, 117, 108, 101], [119, 104, 101, 110], [99, 97, 115, 101], [111, 102], [101, 110, 100], [116, 114, 121], [99, 97, 116, 99, 104], [114, 101, 99, 101, 105, 118, 101], [97, 102, 116, 101, 114], [102, 117, 110], [100, 105, 118], [114, 101, 109], [99, 111, 110, 102, 105, 103]]
def wordB (l : List UInt8) : Bool := wordsL.any fun x => x == l
def marksL : List (List UInt8) :=
  [[61, 58, 61], [61, 47, 61], [45, 62], [61, 60], [62, 61], [60], [62], [61], [43], [45], [42], [40], [41], [91], [93], [123], [125], [44], [59], [124], [58], [47]]
def markF (l : List UInt8) : Option (List UInt8) := marksL.find? fun m => m.isPrefixOf l
abbrev Lx := Int × Int × List UInt8 × Nat
def most59 : Nat := 576460752303423488
/-- the token with which a text begins (a number's error; or kind, number, text, bytes) -/
def lex : List UInt8 → Int ⊕ Lx
  | [] => .inl 60
  | c :: r =>
    if isDg c = true then (if most59 < decV ((c :: r).takeWhile isDg) then .inl 11 else .inr (2, (decV ((c :: r).takeWhile isDg) : Int), [], dgN (c :: r)))
    else if 32 < preN (c :: r) then .inl 11
    else if 0 < preN (c :: r) then .inr (if wordB ((c :: r).take (preN (c :: r))) = true then 3 else if lowB (c :: r) = true then 0 else 1, 0, (c :: r).take (preN (c :: r)), preN (c :: r))
    else if c = 46 then .inr (4, 0, [], 1)
    else match markF (c :: r) with
      | some m => .inr (3, 0, m, m.length)
      | none => .inl 60
theorem markF_some {l m : List UInt8} (h : markF l = some m) : m ∈ marksL ∧ ∃ t, l = m ++ t := by
  unfold markF at h
  have h1 := List.find?_some h
  have h2 := List.mem_of_find?_eq_some h
  exact ⟨h2, by rw [List.isPrefixOf_iff_prefix] at h1; obtain ⟨t, ht⟩ := h1; exact ⟨t, ht.symm⟩⟩
theorem marks_pos {m : List UInt8} (h : m ∈ marksL) : 0 < m.length := by
  have : ∀ m ∈ marksL, 0 < m.length := by decide
  exact this m h
theorem tw_le {p : UInt8 → Bool} (l : List UInt8) : (l.takeWhile p).length ≤ l.length := (List.takeWhile_sublist p).length_le
theorem tw_take {p : UInt8 → Bool} (l : List UInt8) : l.take (l.takeWhile p).length = l.takeWhile p := by
  induction l with
  | nil => rfl
  | cons c r ih =>
    rw [List.takeWhile_cons]
    split
    · simp [ih]
    · rfl
theorem tw_tw {p : UInt8 → Bool} (l : List UInt8) : (l.takeWhile p).takeWhile p = l.takeWhile p := by
  induction l with
  | nil => rfl
  | cons c r ih =>
    rw [List.takeWhile_cons]
    split
    · rename_i h
      rw [List.takeWhile_cons, if_pos h, ih]
    · rfl
theorem tw_app {p : UInt8 → Bool} (l : List UInt8) (c : UInt8) (t : List UInt8) (hc : p c = false) : (l ++ c :: t).takeWhile p = l.takeWhile p := by
  induction l with
  | nil => simp [hc]
  | cons a r ih =>
    rw [List.cons_append, List.takeWhile_cons, List.takeWhile_cons, ih]
theorem lex_len {l : List UInt8} {k n : Int} {s : List UInt8} {m : Nat} (h : lex l = .inr (k, n, s, m)) : 0 < m ∧ m ≤ l.length := by
  cases l with
  | nil => cases h
  | cons c r =>
    rw [lex] at h
    split at h
    · rename_i hd
      split at h
      · cases h
      · injection h with h
        injection h with _ h
        injection h with _ h
        injection h with _ h
        subst h
        refine ⟨?_, tw_le _⟩
        unfold dgN
        rw [List.takeWhile_cons, hd]
        simp
    · split at h
      · cases h
      · split at h
        · rename_i h2
          injection h with h
          injection h with _ h
          injection h with _ h
          injection h with _ h
          subst h
          exact ⟨h2, tw_le _⟩
        · split at h
          · injection h with h
            injection h with _ h
            injection h with _ h
            injection h with _ h
            subst h
            exact ⟨by omega, by simp⟩
          · split at h
            · rename_i m' hm
              injection h with h
              injection h with _ h
              injection h with _ h
              injection h with _ h
              subst h
              obtain ⟨h1, t, ht⟩ := markF_some hm
              exact ⟨marks_pos h1, by rw [ht]; simp⟩
            · cases h
/-- a byte that ends tokens: it is in none -/
def ends (c : UInt8) : Bool := !isA c && (!isDg c && marksL.all fun m => !m.contains c)
theorem ends10 : ends 10 = true := by decide
theorem ends32 : ends 32 = true := by decide
theorem ends_of {c : UInt8} (h : ends c = true) : isA c = false ∧ isDg c = false ∧ ∀ m ∈ marksL, c ∉ m := by
  unfold ends at h
  simp only [Bool.and_eq_true, Bool.not_eq_true', List.all_eq_true] at h
  refine ⟨h.1, h.2.1, fun m hm hc => ?_⟩
  have := h.2.2 m hm
  simp at this
  exact this hc
theorem pre_app {m l t : List UInt8} {c : UInt8} (hc : c ∉ m) : m.isPrefixOf (l ++ c :: t) = m.isPrefixOf l := by
  induction m generalizing l with
  | nil => simp
  | cons a m ih =>
    cases l with
    | nil =>
      simp only [List.nil_append, List.isPrefixOf_cons_cons]
      have : (a == c) = false := by
        rw [beq_eq_false_iff_ne]
        intro e
        exact hc (by rw [e]; simp)
      simp [this, List.isPrefixOf]
    | cons b l =>
      simp only [List.cons_append, List.isPrefixOf_cons_cons]
      rw [ih (fun h => hc (List.mem_cons_of_mem _ h))]
theorem markF_app {l t : List UInt8} {c : UInt8} (hc : ends c = true) : markF (l ++ c :: t) = markF l := by
  have h := (ends_of hc).2.2
  unfold markF
  have : ∀ L : List (List UInt8), (∀ m ∈ L, c ∉ m) → L.find? (fun m => m.isPrefixOf (l ++ c :: t)) = L.find? (fun m => m.isPrefixOf l) := by
    intro L
    induction L with
    | nil => intro _; rfl
    | cons m L ih =>
      intro hL
      rw [List.find?_cons, List.find?_cons, pre_app (hL m (by simp)), ih (fun x hx => hL x (by simp [hx]))]
  exact this _ h
theorem preN_app (l t : List UInt8) {c : UInt8} (hc : ends c = true) : preN (l ++ c :: t) = preN l := by
  unfold preN
  rw [tw_app _ _ _ (ends_of hc).1]
theorem lex_app {l t : List UInt8} {c : UInt8} (hl : l ≠ []) (hc : ends c = true) : lex (l ++ c :: t) = lex l := by
  cases l with
  | nil => exact absurd rfl hl
  | cons a r =>
    have h1 : ((a :: r) ++ c :: t).takeWhile isDg = (a :: r).takeWhile isDg := tw_app _ _ _ (ends_of hc).2.1
    have h2 := preN_app (a :: r) t hc
    have h3 : markF ((a :: r) ++ c :: t) = markF (a :: r) := markF_app hc
    have h4 : ((a :: r) ++ c :: t).take (preN (a :: r)) = (a :: r).take (preN (a :: r)) := List.take_append_of_le_length (tw_le _)
    rw [List.cons_append] at h1 h2 h3 h4 ⊢
    rw [lex, lex, h1, h2, h3, h4]
    unfold dgN
    rw [h1]
    rfl
theorem markF_self {m : List UInt8} (h : m ∈ marksL) (t : List UInt8) : markF (m ++ 32 :: t) = some m := by
  rw [markF_app ends32]
  have : ∀ m ∈ marksL, markF m = some m := by decide
  exact this m h
/-- a token's own bytes, with a blank or nothing behind them, are that token -/
theorem lex_own {l : List UInt8} {k n : Int} {s : List UInt8} {m : Nat} (h : lex l = .inr (k, n, s, m)) : lex (l.take m) = .inr (k, n, s, m) := by
  have hl := lex_len h
  cases l with
  | nil => cases h
  | cons c r =>
    obtain ⟨m', rfl⟩ : ∃ m', m = m' + 1 := ⟨m - 1, by omega⟩
    have tws : ∀ p : UInt8 → Bool, (c :: r).take ((c :: r).takeWhile p).length = (c :: r).takeWhile p := fun p => tw_take _
    have tww : ∀ p : UInt8 → Bool, ((c :: r).takeWhile p).takeWhile p = (c :: r).takeWhile p := fun p => tw_tw _
    rw [List.take_succ_cons]
    rw [lex] at h
    rw [lex]
    split at h
    · rename_i hd
      rw [if_pos hd]
      split at h
      · cases h
      · rename_i hm
        injection h with h
        injection h with h1 h
        injection h with h2 h
        injection h with h3 h
        have e : c :: r.take m' = (c :: r).takeWhile isDg := by
          rw [← tws isDg, ← List.take_succ_cons, ← h]; rfl
        rw [e, tww, if_neg hm]
        unfold dgN
        rw [tww]
        subst h1 h2 h3
        rw [← h]
        rfl
    · rename_i hd
      rw [if_neg hd]
      split at h
      · cases h
      · rename_i h32
        split at h
        · rename_i h0
          injection h with h
          injection h with h1 h
          injection h with h2 h
          injection h with h3 h
          have e : c :: r.take m' = (c :: r).takeWhile isA := by
            rw [← tws isA, ← List.take_succ_cons, ← h]; rfl
          have e2 : preN (c :: r.take m') = preN (c :: r) := by
            rw [e]; unfold preN; rw [tww]
          have e3 : (c :: r.take m').take (preN (c :: r)) = (c :: r).take (preN (c :: r)) := by
            rw [e]; unfold preN; rw [tw_take, List.take_of_length_le (Nat.le_refl _)]
          rw [e2, e3, if_neg h32, if_pos h0]
          subst h1 h2 h3
          rw [← h]
          rfl
        · rename_i h0
          have hc : isA c = false := by
            by_cases hc : isA c = true
            · exfalso
              apply h0
              unfold preN
              rw [List.takeWhile_cons, hc]
              simp
            · simpa using hc
          have e2 : ∀ x, preN (c :: x) = 0 := fun x => by unfold preN; rw [List.takeWhile_cons, hc]; rfl
          rw [e2, if_neg (by omega), if_neg (by omega)]
          split at h
          · rename_i hp
            rw [if_pos hp]
            exact h
          · rename_i hp
            rw [if_neg hp]
            split at h
            · rename_i mk hm
              injection h with h
              injection h with h1 h
              injection h with h2 h
              injection h with h3 h
              subst h1 h2 h3
              obtain ⟨hmm, t, ht⟩ := markF_some hm
              have e : c :: r.take m' = mk := by
                rw [← List.take_succ_cons, ← h, ht]; simp
              have : ∀ m ∈ marksL, markF m = some m := by decide
              rw [e, this mk hmm]
              show Sum.inr (3, 0, mk, mk.length) = _
              rw [h]
            · cases h
theorem lex_sp {l : List UInt8} {k n : Int} {s : List UInt8} {m : Nat} (h : lex l = .inr (k, n, s, m)) (t : List UInt8) : lex (l.take m ++ 32 :: t) = .inr (k, n, s, m) := by
  rw [lex_app ?_ ends32]
  · exact lex_own h
  · have := lex_len h
    intro e
    have h2 : (l.take m).length = 0 := by rw [e]; rfl
    rw [List.length_take] at h2
    omega
abbrev Tk := Int × Int × List UInt8 × Nat
/-- all tokens from a place on, and the flaw that ends them (0: none) -/
def scn : Nat → List UInt8 → Nat → List Tk × (Int × Nat)
  | 0, _, _ => ([], (0, 0))
  | f + 1, l, o =>
    if blk false l = l.length then ([], (0, 0))
    else match lex (l.drop (blk false l)) with
      | .inl e => ([], (e, o + blk false l))
      | .inr (k, n, s, m) =>
        let q := scn f (l.drop (blk false l + m)) (o + blk false l + m)
        ((k, n, s, o + blk false l) :: q.1, q.2)
theorem scn_end {f : Nat} {l : List UInt8} {o : Nat} (h : blk false l = l.length) : scn (f + 1) l o = ([], (0, 0)) := by rw [scn, if_pos h]
theorem scn_bad {f : Nat} {l : List UInt8} {o : Nat} {e : Int} (h : ¬ blk false l = l.length) (hx : lex (l.drop (blk false l)) = .inl e) : scn (f + 1) l o = ([], (e, o + blk false l)) := by rw [scn, if_neg h, hx]
theorem scn_tok {f : Nat} {l : List UInt8} {o : Nat} {k n : Int} {s : List UInt8} {m : Nat} (h : ¬ blk false l = l.length) (hx : lex (l.drop (blk false l)) = .inr (k, n, s, m)) :
    scn (f + 1) l o = ((k, n, s, o + blk false l) :: (scn f (l.drop (blk false l + m)) (o + blk false l + m)).1, (scn f (l.drop (blk false l + m)) (o + blk false l + m)).2) := by rw [scn, if_neg h, hx]
theorem lex_err {l : List UInt8} {e : Int} (h : lex l = .inl e) : e = 11 ∨ e = 60 := by
  cases l with
  | nil => injection h with h; exact .inr h.symm
  | cons c r =>
    rw [lex] at h
    split at h
    · split at h
      · injection h with h; exact .inl h.symm
      · cases h
    · split at h
      · injection h with h; exact .inl h.symm
      · split at h
        · cases h
        · split at h
          · cases h
          · split at h
            · cases h
            · injection h with h; exact .inr h.symm
/-- enough fuel is enough -/
theorem scn_fuel : ∀ (f : Nat) (l : List UInt8) (o g : Nat), l.length < f → l.length < g → scn f l o = scn g l o := by
  intro f
  induction f with
  | zero => intro l o g h; omega
  | succ f ih =>
    intro l o g h1 h2
    obtain ⟨g, rfl⟩ : ∃ g', g = g' + 1 := ⟨g - 1, by omega⟩
    by_cases hb : blk false l = l.length
    · rw [scn_end hb, scn_end hb]
    · have hle := blk_le false l
      cases hx : lex (l.drop (blk false l)) with
      | inl e => rw [scn_bad hb hx, scn_bad hb hx]
      | inr p =>
        obtain ⟨k, n, s, m⟩ := p
        have hm := lex_len hx
        rw [scn_tok hb hx, scn_tok hb hx, ih _ _ g (by simp; omega) (by simp; omega)]
def scan (l : List UInt8) (o : Nat) : List Tk × (Int × Nat) := scn (l.length + 1) l o
theorem scan_end {l : List UInt8} {o : Nat} (h : blk false l = l.length) : scan l o = ([], (0, 0)) := scn_end h
theorem scan_bad {l : List UInt8} {o : Nat} {e : Int} (h : ¬ blk false l = l.length) (hx : lex (l.drop (blk false l)) = .inl e) : scan l o = ([], (e, o + blk false l)) := scn_bad h hx
theorem scan_tok {l : List UInt8} {o : Nat} {k n : Int} {s : List UInt8} {m : Nat} (h : ¬ blk false l = l.length) (hx : lex (l.drop (blk false l)) = .inr (k, n, s, m)) :
    scan l o = ((k, n, s, o + blk false l) :: (scan (l.drop (blk false l + m)) (o + blk false l + m)).1, (scan (l.drop (blk false l + m)) (o + blk false l + m)).2) := by
  have hle := blk_le false l
  have hm := lex_len hx
  unfold scan
  rw [scn_tok h hx, scn_fuel l.length (l.drop (blk false l + m)) _ ((l.drop (blk false l + m)).length + 1) (by simp; omega) (by omega)]
/-- induction along a scan -/
theorem scan_ind {p : List UInt8 → Prop} (h : ∀ l, (∀ k n s m, ¬ blk false l = l.length → lex (l.drop (blk false l)) = .inr (k, n, s, m) → p (l.drop (blk false l + m))) → p l) (l : List UInt8) : p l := by
  have : ∀ f, ∀ l : List UInt8, l.length < f → p l := by
    intro f
    induction f with
    | zero => intro l h; omega
    | succ f ih =>
      intro l hl
      refine h l fun k n s m hb hx => ih _ ?_
      have hle := blk_le false l
      have hm := lex_len hx
      simp
      omega
  exact this _ l (Nat.lt_succ_self _)
theorem blk_app (b : List UInt8) : ∀ (note : Bool) (a : List UInt8), blk note (a ++ 10 :: b) = if blk note a = a.length then a.length + 1 + blk false b else blk note a
  | note, [] => by simp [blk]; omega
  | note, c :: a => by
    rw [List.cons_append, blk, blk]
    have h1 := blk_app b false a
    have h2 := blk_app b true a
    have h3 := blk_app b note a
    split
    · rw [h1]; simp only [List.length_cons]; split <;> split <;> omega
    · split
      · rw [h2]; simp only [List.length_cons]; split <;> split <;> omega
      · split
        · rw [h3]; simp only [List.length_cons]; split <;> split <;> omega
        · simp
/-- two texts with a line feed between -/
theorem scan_join (b : List UInt8) (a : List UInt8) : ∀ o, scan (a ++ 10 :: b) o = if (scan a o).2.1 = 0 then ((scan a o).1 ++ (scan b (o + a.length + 1)).1, (scan b (o + a.length + 1)).2) else scan a o := by
  induction a using scan_ind with
  | h a ih =>
    intro o
    have hba := blk_app b false a
    have hle := blk_le false a
    by_cases hb : blk false a = a.length
    · rw [scan_end hb]
      rw [if_pos hb] at hba
      simp only [if_true, List.nil_append]
      by_cases hc : blk false b = b.length
      · rw [scan_end hc, scan_end (by rw [hba, hc]; simp; omega)]
      · have hc' : ¬ blk false (a ++ 10 :: b) = (a ++ 10 :: b).length := by rw [hba]; simp; omega
        have hdr : ∀ j, (a ++ 10 :: b).drop (a.length + 1 + j) = b.drop j := fun j => by
          have : a.length + 1 + j = a.length + (1 + j) := by omega
          rw [this, ← List.drop_drop, List.drop_left, Nat.add_comm 1 j, List.drop_succ_cons]
        have hd : (a ++ 10 :: b).drop (blk false (a ++ 10 :: b)) = b.drop (blk false b) := by rw [hba]; exact hdr _
        cases hx : lex (b.drop (blk false b)) with
        | inl e => rw [scan_bad hc hx, scan_bad hc' (by rw [hd]; exact hx), hba]; congr 2; omega
        | inr p =>
          obtain ⟨k, n, s, m⟩ := p
          rw [scan_tok hc hx, scan_tok hc' (by rw [hd]; exact hx), hba, Nat.add_assoc (a.length + 1), hdr]
          have e1 : o + (a.length + 1 + blk false b) = o + a.length + 1 + blk false b := by omega
          rw [e1]
    · rw [if_neg hb] at hba
      have hc' : ¬ blk false (a ++ 10 :: b) = (a ++ 10 :: b).length := by rw [hba]; simp; omega
      have hd : (a ++ 10 :: b).drop (blk false (a ++ 10 :: b)) = a.drop (blk false a) ++ 10 :: b := by
        rw [hba, List.drop_append_of_le_length hle]
      have hne : a.drop (blk false a) ≠ [] := by
        intro e
        have := congrArg List.length e
        simp at this
        omega
      have hlx := lex_app (t := b) hne ends10
      cases hx : lex (a.drop (blk false a)) with
      | inl e =>
        rw [scan_bad hb hx, scan_bad hc' (by rw [hd, hlx]; exact hx), hba]
        have : ¬ e = 0 := by rcases lex_err hx with rfl | rfl <;> decide
        simp [this]
      | inr p =>
        obtain ⟨k, n, s, m⟩ := p
        have hm := lex_len hx
        simp at hm
        have i := ih k n s m hb hx (o + blk false a + m)
        have hdm : (a ++ 10 :: b).drop (blk false a + m) = a.drop (blk false a + m) ++ 10 :: b := List.drop_append_of_le_length (by omega)
        rw [scan_tok hb hx, scan_tok hc' (by rw [hd, hlx]; exact hx), hba, hdm, i]
        have e1 : o + blk false a + m + (a.drop (blk false a + m)).length + 1 = o + a.length + 1 := by simp; omega
        rw [e1]
        dsimp only
        split <;> simp
end Go.Proofs.YtnhhihmifbjkkaaDoor
