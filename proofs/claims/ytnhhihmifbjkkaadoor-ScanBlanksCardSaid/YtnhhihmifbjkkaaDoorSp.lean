/- scan: Scan's answer as rows of tokens; two texts with a line feed between, in plain Lean. -/
import Derived.Test.YtnhhihmifbjkkaaDoorSn
import Derived.Test.YtnhhihmifbjkkaaDoorSb
namespace Go.Proofs.YtnhhihmifbjkkaaDoor
open Go.ChangeShapes Go.WideShapes Go.ChangeAt Go.RowKit
set_option linter.unusedVariables false
/-- a token at a place -/
def TkAt (w : World) (b o : Nat) (t : Tv) : Prop := w.cell? ⟨b, o, none⟩ = some (.int .i8 t.1) ∧ w.cell? ⟨b, o + 1, none⟩ = some (.int .i64 t.2.1) ∧ w.cell? ⟨b, o + 2, none⟩ = some (.string t.2.2.1) ∧ w.cell? ⟨b, o + 3, none⟩ = some (.int .i64 t.2.2.2)
def TRow (w : World) (ao : Option Addr) (L : List Tv) : Prop := ∀ i t, L[i]? = some t → ∃ b off, ao = some ⟨b, off, none⟩ ∧ b < w.heap.size ∧ TkAt w b (off + i * 4) t
theorem TRow.keep {w w' : World} {ao : Option Addr} {L : List Tv} (h : TRow w ao L) (hb : Below w.heap.size w w') : TRow w' ao L := by
  intro i t hi
  obtain ⟨b, off, e, hl, h1, h2, h3, h4⟩ := h i t hi
  exact ⟨b, off, e, Nat.lt_of_lt_of_le hl hb.size, keep_cell h1 hb, keep_cell h2 hb, keep_cell h3 hb, keep_cell h4 hb⟩
theorem flat4 : ∀ (L : List Tv) (i j : Nat) (t : Tv), L[i]? = some t → j < 4 → (L.flatMap tkC)[i * 4 + j]? = (tkC t)[j]?
  | [], _, _, _, h, _ => by simp at h
  | x :: L, 0, j, t, h, hj => by
    simp at h
    subst h
    rw [List.flatMap_cons, List.getElem?_append_left (by simpa [tkC] using hj)]
    simp
  | x :: L, i + 1, j, t, h, hj => by
    rw [List.flatMap_cons, List.getElem?_append_right (by simp [tkC]; omega)]
    have := flat4 L i j t (by simpa using h) hj
    rw [← this]
    congr 1
    simp [tkC]
    omega
theorem row_of {w : World} {base : Nat} {v : Value} {L : List Tv} (h : w.ownsRow base 25 4 v L.length (L.flatMap tkC)) : ∃ ao cap, v = .slice ao L.length cap ∧ TRow w ao L := by
  rcases Nat.eq_zero_or_pos L.length with h0 | h0
  · obtain ⟨ao, c, rfl⟩ := own_slice h
    refine ⟨ao, c, rfl, fun i t hi => ?_⟩
    have := (List.getElem?_eq_some_iff.1 hi).1
    omega
  · obtain ⟨g, cap, rfl, hg, hgs, _, _, hc⟩ := own_cells h h0
    refine ⟨_, _, rfl, fun i t hi => ⟨g, 0, rfl, hgs, ?_⟩⟩
    have f := fun j (hj : j < 4) => flat4 L i j t hi hj
    rw [Nat.zero_add]
    exact ⟨hc (i * 4) _ (f 0 (by decide)), hc (i * 4 + 1) _ (f 1 (by decide)), hc (i * 4 + 2) _ (f 2 (by decide)), hc (i * 4 + 3) _ (f 3 (by decide))⟩
/-- the tokens that Scan hands back -/
def okT (s : ByteArray) : List Tv := if (scanR s).2.1 = 0 then (scanR s).1.map tv else []
def ScanQ (w : World) (L : List Tv) (e : Int) (f : Nat) (x : Ending) (w' : World) : Prop :=
  ∃ ao cap, x = .returned (.tuple #[.slice ao L.length cap, .agg #[.int .i64 e, .int .i64 f]]) ∧ Below w.heap.size w w' ∧ TRow w' ao L
theorem scan_q (s : ByteArray) (hs : s.size ≤ 1099511627776) (w : World) (hT : Tabs w) : Calls Tryd.prog 11 #[.string s] w (ScanQ w (okT s) (scanR s).2.1 (scanR s).2.2) := by
  refine (scan_any s hs w hT).mono ?_
  rintro e w' ⟨v, rfl, hb, h1, h2⟩
  unfold okT
  by_cases h0 : (scanR s).2.1 = 0
  · rw [if_pos h0]
    have h := h1 h0
    have e1 : (scanR s).1.flatMap (fun x => tkC (tv x)) = ((scanR s).1.map tv).flatMap tkC := by rw [List.flatMap_map]
    rw [e1] at h
    obtain ⟨ao, cap, rfl, hr⟩ := row_of (L := (scanR s).1.map tv) (by rw [List.length_map]; exact h)
    exact ⟨ao, cap, rfl, hb, hr⟩
  · rw [if_neg h0, h2 h0]
    exact ⟨none, 0, rfl, hb, fun i t hi => by simp at hi⟩
def shT (d : Nat) (t : Tv) : Tv := (t.1, t.2.1, t.2.2.1, t.2.2.2 + d)
theorem scan_shift (d : Nat) (l : List UInt8) : ∀ o, ((scan l (o + d)).1.map tv = ((scan l o).1.map tv).map (shT d) ∧ (scan l (o + d)).2.1 = (scan l o).2.1) ∧ ((scan l o).2.1 ≠ 0 → (scan l (o + d)).2.2 = (scan l o).2.2 + d) ∧ ((scan l o).2.1 = 0 → (scan l o).2.2 = 0) := by
  induction l using scan_ind with
  | h l ih =>
    intro o
    by_cases hb : blk false l = l.length
    · rw [scan_end hb, scan_end hb]; simp
    · cases hx : lex (l.drop (blk false l)) with
      | inl e =>
        rw [scan_bad hb hx, scan_bad hb hx]
        have : e ≠ 0 := by rcases lex_err hx with rfl | rfl <;> decide
        simp [this]
        omega
      | inr p =>
        obtain ⟨k, n, s, m⟩ := p
        rw [scan_tok hb hx, scan_tok hb hx]
        have i := ih k n s m hb hx (o + blk false l + m)
        have e1 : o + d + blk false l + m = o + blk false l + m + d := by omega
        rw [e1]
        refine ⟨⟨?_, i.1.2⟩, i.2⟩
        rw [List.map_cons, List.map_cons, List.map_cons, i.1.1]
        congr 1
        simp [tv, shT]
        omega
/-- bounds -/
theorem scan_bound (l : List UInt8) : ∀ o, (scan l o).1.length ≤ l.length ∧ (∀ t ∈ (scan l o).1, t.2.2.2 ≤ o + l.length) ∧ (scan l o).2.2 ≤ o + l.length := by
  induction l using scan_ind with
  | h l ih =>
    intro o
    have hle := blk_le false l
    by_cases hb : blk false l = l.length
    · rw [scan_end hb]; simp
    · cases hx : lex (l.drop (blk false l)) with
      | inl e => rw [scan_bad hb hx]; simp; omega
      | inr p =>
        obtain ⟨k, n, s, m⟩ := p
        rw [scan_tok hb hx]
        have hm := lex_len hx
        rw [List.length_drop] at hm
        obtain ⟨i1, i2, i3⟩ := ih k n s m hb hx (o + blk false l + m)
        rw [List.length_drop] at i1 i2 i3
        refine ⟨by rw [List.length_cons]; omega, ?_, by dsimp only; omega⟩
        intro t ht
        rcases List.mem_cons.1 ht with rfl | ht
        · dsimp only; omega
        · have := i2 t ht; omega
theorem okT_bound {s : ByteArray} (hs : s.size ≤ 3000) : (okT s).length ≤ 3000 ∧ ∀ t ∈ okT s, 0 ≤ t.2.2.2 ∧ t.2.2.2 ≤ 3000 := by
  unfold okT scanR
  rw [if_neg (by omega : ¬ 8192 < s.size)]
  have hl : s.data.toList.length = s.size := by simp
  obtain ⟨h1, h2, _⟩ := scan_bound s.data.toList 0
  split
  · refine ⟨by rw [List.length_map]; omega, fun t ht => ?_⟩
    obtain ⟨x, hx, rfl⟩ := List.mem_map.1 ht
    have := h2 x hx
    show 0 ≤ ((x.2.2.2 : Nat) : Int) ∧ ((x.2.2.2 : Nat) : Int) ≤ 3000
    omega
  · simp
def joinS (a b : ByteArray) : ByteArray := a ++ ⟨#[10]⟩ ++ b
theorem join_data (a b : ByteArray) : (joinS a b).data.toList = a.data.toList ++ 10 :: b.data.toList := by simp [joinS]
theorem join_law (a b : ByteArray) (ha : a.size ≤ 3000) (hb : b.size ≤ 3000) :
    ((scanR a).2.1 ≠ 0 → (scanR (joinS a b)).2 = (scanR a).2) ∧
    ((scanR a).2.1 = 0 → (scanR b).2.1 ≠ 0 → (scanR (joinS a b)).2.1 = (scanR b).2.1 ∧ (scanR (joinS a b)).2.2 = (scanR b).2.2 + (a.size + 1) ∧ (scanR b).2.2 ≤ 3000) ∧
    ((scanR a).2.1 = 0 → (scanR b).2.1 = 0 → (scanR (joinS a b)).2.1 = 0 ∧ okT (joinS a b) = okT a ++ (okT b).map (shT (a.size + 1))) := by
  have hsz : ¬ 8192 < (joinS a b).size := by
    have : (joinS a b).size = a.size + 1 + b.size := by simp [joinS, ByteArray.size_append]; rfl
    omega
  have ea : scanR a = scan a.data.toList 0 := by unfold scanR; rw [if_neg (by omega)]
  have eb : scanR b = scan b.data.toList 0 := by unfold scanR; rw [if_neg (by omega)]
  have ej : scanR (joinS a b) = scan (a.data.toList ++ 10 :: b.data.toList) 0 := by unfold scanR; rw [if_neg hsz, join_data]
  have hl : a.data.toList.length = a.size := by simp
  have hlb : b.data.toList.length = b.size := by simp
  have hj := scan_join b.data.toList a.data.toList 0
  have hsh := scan_shift (a.size + 1) b.data.toList 0
  have hbd := (scan_bound b.data.toList 0).2.2
  have e0 : 0 + a.data.toList.length + 1 = 0 + (a.size + 1) := by omega
  rw [e0] at hj
  unfold okT
  rw [ea, eb, ej, hj]
  obtain ⟨⟨s1, s2⟩, s3, s4⟩ := hsh
  refine ⟨fun h => by rw [if_neg h], fun h h' => ?_, fun h h' => ?_⟩
  · rw [if_pos h]
    exact ⟨s2, s3 h', by omega⟩
  · rw [if_pos h]
    dsimp only
    rw [s2]
    refine ⟨h', ?_⟩
    rw [if_pos h', if_pos h', if_pos h, List.map_append, s1]
end Go.Proofs.YtnhhihmifbjkkaaDoor
