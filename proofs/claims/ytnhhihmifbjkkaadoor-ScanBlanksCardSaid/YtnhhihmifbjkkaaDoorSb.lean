/- scan: the plain law of blanks that are put between tokens. No program here. -/
import Derived.Test.YtnhhihmifbjkkaaDoorSa
namespace Go.Proofs.YtnhhihmifbjkkaaDoor
set_option linter.unusedVariables false
def sp (n : Nat) : List UInt8 := List.replicate n 32
theorem sp_succ (n : Nat) : sp (n + 1) = sp n ++ [32] := List.replicate_succ'
theorem blk_sp (n : Nat) (x : List UInt8) : blk false (sp n ++ x) = n + blk false x := by
  induction n with
  | zero => simp [sp]
  | succ n ih =>
    have : sp (n + 1) ++ x = 32 :: (sp n ++ x) := by simp [sp, List.replicate_succ]
    rw [this, blk, if_neg (by decide), if_neg (by decide), if_pos (by decide), ih]
    omega
theorem blk_head : ∀ (note : Bool) (l : List UInt8), blk note l < l.length → ∃ c r, l.drop (blk note l) = c :: r ∧ ∀ x, blk false (c :: x) = 0
  | note, [], h => by simp at h
  | note, c :: r, h => by
    rw [blk] at h ⊢
    split
    · rename_i h1
      rw [if_pos h1] at h
      rw [List.drop_succ_cons]
      exact blk_head false r (by simpa using h)
    · rename_i h1
      rw [if_neg h1] at h
      split
      · rename_i h2
        rw [if_pos h2] at h
        rw [List.drop_succ_cons]
        exact blk_head true r (by simpa using h)
      · rename_i h2
        rw [if_neg h2] at h
        split
        · rename_i h3
          rw [if_pos h3] at h
          rw [List.drop_succ_cons]
          exact blk_head note r (by simpa using h)
        · rename_i h3
          refine ⟨c, r, rfl, fun x => ?_⟩
          rw [blk, if_neg h1, if_neg h2, if_neg]
          intro hb
          apply h3
          simp at hb ⊢
          exact .inr hb
section
variable (nb : Nat → Nat)
/-- the text with blanks between its tokens, from its i-th one on -/
def widF : Nat → List UInt8 → Nat → List UInt8
  | 0, _, _ => []
  | f + 1, l, i =>
    if blk false l = l.length then []
    else match lex (l.drop (blk false l)) with
      | .inl _ => []
      | .inr (_, _, _, m) => sp (nb i) ++ ((l.drop (blk false l)).take m ++ widF f (l.drop (blk false l + m)) (i + 1))
theorem widF_end {f : Nat} {l : List UInt8} {i : Nat} (h : blk false l = l.length) : widF nb (f + 1) l i = [] := by rw [widF, if_pos h]
theorem widF_bad {f : Nat} {l : List UInt8} {i : Nat} {e : Int} (h : ¬ blk false l = l.length) (hx : lex (l.drop (blk false l)) = .inl e) : widF nb (f + 1) l i = [] := by rw [widF, if_neg h, hx]
theorem widF_tok {f : Nat} {l : List UInt8} {i : Nat} {k n : Int} {s : List UInt8} {m : Nat} (h : ¬ blk false l = l.length) (hx : lex (l.drop (blk false l)) = .inr (k, n, s, m)) :
    widF nb (f + 1) l i = sp (nb i) ++ ((l.drop (blk false l)).take m ++ widF nb f (l.drop (blk false l + m)) (i + 1)) := by rw [widF, if_neg h, hx]
theorem widF_fuel : ∀ (f : Nat) (l : List UInt8) (i g : Nat), l.length < f → l.length < g → widF nb f l i = widF nb g l i := by
  intro f
  induction f with
  | zero => intro l i g h; omega
  | succ f ih =>
    intro l i g h1 h2
    obtain ⟨g, rfl⟩ : ∃ g', g = g' + 1 := ⟨g - 1, by omega⟩
    by_cases hb : blk false l = l.length
    · rw [widF_end nb hb, widF_end nb hb]
    · have hle := blk_le false l
      cases hx : lex (l.drop (blk false l)) with
      | inl e => rw [widF_bad nb hb hx, widF_bad nb hb hx]
      | inr p =>
        obtain ⟨k, n, s, m⟩ := p
        have hm := lex_len hx
        rw [widF_tok nb hb hx, widF_tok nb hb hx, ih _ _ g (by simp; omega) (by simp; omega)]
def wid (l : List UInt8) (i : Nat) : List UInt8 := widF nb (l.length + 1) l i
theorem wid_end {l : List UInt8} {i : Nat} (h : blk false l = l.length) : wid nb l i = [] := widF_end nb h
theorem wid_tok {l : List UInt8} {i : Nat} {k n : Int} {s : List UInt8} {m : Nat} (h : ¬ blk false l = l.length) (hx : lex (l.drop (blk false l)) = .inr (k, n, s, m)) :
    wid nb l i = sp (nb i) ++ ((l.drop (blk false l)).take m ++ wid nb (l.drop (blk false l + m)) (i + 1)) := by
  have hle := blk_le false l
  have hm := lex_len hx
  unfold wid
  rw [widF_tok nb h hx, widF_fuel nb l.length (l.drop (blk false l + m)) _ ((l.drop (blk false l + m)).length + 1) (by simp; omega) (by omega)]
theorem wid_head (hn : ∀ i, 1 ≤ nb i) (l : List UInt8) (i : Nat) : wid nb l i = [] ∨ ∃ t, wid nb l i = 32 :: t := by
  by_cases hb : blk false l = l.length
  · exact .inl (wid_end nb hb)
  · cases hx : lex (l.drop (blk false l)) with
    | inl e => exact .inl (widF_bad nb hb hx)
    | inr p =>
      obtain ⟨k, n, s, m⟩ := p
      right
      rw [wid_tok nb hb hx]
      obtain ⟨j, hj⟩ : ∃ j, nb i = j + 1 := ⟨nb i - 1, by have := hn i; omega⟩
      exact ⟨_, by rw [hj, sp, List.replicate_succ, List.cons_append]⟩
def kns (t : Tk) : Int × Int × List UInt8 := (t.1, t.2.1, t.2.2.1)
theorem wid_scan (hn : ∀ i, 1 ≤ nb i) (l : List UInt8) : ∀ i o o', (scan l o).2.1 = 0 → (scan (wid nb l i) o').2 = (0, 0) ∧ (scan (wid nb l i) o').1.map kns = (scan l o).1.map kns := by
  induction l using scan_ind with
  | h l ih =>
    intro i o o' h0
    by_cases hb : blk false l = l.length
    · rw [wid_end nb hb, scan_end hb, scan_end (by rfl)]
      simp
    · cases hx : lex (l.drop (blk false l)) with
      | inl e =>
        rw [scan_bad hb hx] at h0
        rcases lex_err hx with rfl | rfl <;> simp at h0
      | inr p =>
        obtain ⟨k, n, s, m⟩ := p
        have hle := blk_le false l
        have hm := lex_len hx
        rw [scan_tok hb hx] at h0
        have hi := ih k n s m hb hx (i + 1) (o + blk false l + m) (o' + nb i + m) h0
        rw [scan_tok hb hx, wid_tok nb hb hx]
        obtain ⟨c, r, hc, hc0⟩ := blk_head false l (by omega)
        obtain ⟨m', rfl⟩ : ∃ m', m = m' + 1 := ⟨m - 1, by omega⟩
        have hlen : ((l.drop (blk false l)).take (m' + 1)).length = m' + 1 := by simp at hm ⊢; try omega
        generalize hT : wid nb (l.drop (blk false l + (m' + 1))) (i + 1) = T at *
        have hT' : T = [] ∨ ∃ t, T = 32 :: t := by rw [← hT]; exact wid_head nb hn _ _
        have hbw : blk false (sp (nb i) ++ ((l.drop (blk false l)).take (m' + 1) ++ T)) = nb i := by
          rw [blk_sp, hc, List.take_succ_cons, List.cons_append, hc0]; try omega
        have hdw : (sp (nb i) ++ ((l.drop (blk false l)).take (m' + 1) ++ T)).drop (nb i) = (l.drop (blk false l)).take (m' + 1) ++ T := by
          have : (sp (nb i)).length = nb i := by simp [sp]
          conv => lhs; rw [← this]
          rw [this, List.drop_append, this, Nat.sub_self, List.drop_zero, List.drop_eq_nil_of_le (by omega), List.nil_append]
        have hlx : lex ((l.drop (blk false l)).take (m' + 1) ++ T) = .inr (k, n, s, m' + 1) := by
          rcases hT' with rfl | ⟨t, rfl⟩
          · rw [List.append_nil]; exact lex_own hx
          · exact lex_sp hx t
        have hbn : ¬ blk false (sp (nb i) ++ ((l.drop (blk false l)).take (m' + 1) ++ T)) = (sp (nb i) ++ ((l.drop (blk false l)).take (m' + 1) ++ T)).length := by
          rw [hbw, List.length_append, List.length_append, hlen]; simp [sp]; try omega
        have hdd : (sp (nb i) ++ ((l.drop (blk false l)).take (m' + 1) ++ T)).drop (nb i + (m' + 1)) = T := by
          rw [← List.drop_drop, hdw, List.drop_append, hlen, Nat.sub_self, List.drop_zero, List.drop_eq_nil_of_le (by omega), List.nil_append]
        rw [scan_tok hbn (by rw [hbw, hdw]; exact hlx), hbw, hdd]
        refine ⟨hi.1, ?_⟩
        simp only [List.map_cons, hi.2]
        rfl
end
end Go.Proofs.YtnhhihmifbjkkaaDoor
