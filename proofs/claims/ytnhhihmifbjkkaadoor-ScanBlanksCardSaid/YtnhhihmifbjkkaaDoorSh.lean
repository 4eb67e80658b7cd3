/- scan: Next, walked. Conditions: lengths fit; the tables read as laid. -/
import Derived.Test.YtnhhihmifbjkkaaDoorSg
namespace Go.Proofs.YtnhhihmifbjkkaaDoor
open Go.ChangeShapes Go.WideShapes Go.ChangeAt Go.RowKit
set_option linter.unusedVariables false
def nextN (s : ByteArray) (o : Nat) : Tv × Int × (Int × Int) :=
  if o + blk false (s.data.toList.drop o) = s.size then (noT, (s.size : Int), (60, (s.size : Int)))
  else match lex (s.data.toList.drop (o + blk false (s.data.toList.drop o))) with
    | .inl e => (noT, ((o + blk false (s.data.toList.drop o) : Nat) : Int), (e, ((o + blk false (s.data.toList.drop o) : Nat) : Int)))
    | .inr (k, n, t, m) => ((k, n, ⟨t.toArray⟩, ((o + blk false (s.data.toList.drop o) : Nat) : Int)), ((o + blk false (s.data.toList.drop o) + m : Nat) : Int), (0, 0))
def nextV (s : ByteArray) (a : Int) : Tv × Int × (Int × Int) := if a < 0 ∨ (s.size : Int) < a then (noT, a, (60, a)) else nextN s a.toNat
theorem nextN_end {s : ByteArray} {o : Nat} (h : o + blk false (s.data.toList.drop o) = s.size) : nextN s o = (noT, (s.size : Int), (60, (s.size : Int))) := by rw [nextN, if_pos h]
/-- the rest of a text, at its first byte that is no blank -/
structure Rest (s : ByteArray) (o b : Nat) (r : ByteArray) : Prop where
  at_ : b = o + blk false (s.data.toList.drop o)
  lt : b < s.size
  ext : s.extract b s.size = r
  rest : r.data.toList = s.data.toList.drop b
  size : r.size = s.size - b
theorem Rest.mk' {s : ByteArray} {o : Nat} (ho : o ≤ s.size) (h : ¬ o + blk false (s.data.toList.drop o) = s.size) : ∃ b r, Rest s o b r := by
  have hle := blk_le false (s.data.toList.drop o)
  simp at hle
  refine ⟨_, _, rfl, by omega, rfl, ?_, ?_⟩
  · simp
    rw [List.take_of_length_le (by simp)]
  · simp
theorem nextN_bad {s r : ByteArray} {o b : Nat} (h : Rest s o b r) {e : Int} (hx : lex r.data.toList = .inl e) : nextN s o = (noT, (b : Int), (e, (b : Int))) := by
  have h1 := h.at_
  have h2 := h.lt
  rw [nextN, if_neg (by omega), ← h1, ← h.rest, hx]
theorem nextN_tok {s r : ByteArray} {o b : Nat} (h : Rest s o b r) {k n : Int} {t : List UInt8} {m : Nat} (hx : lex r.data.toList = .inr (k, n, t, m)) : nextN s o = ((k, n, ⟨t.toArray⟩, (b : Int)), (b : Int) + m, (0, 0)) := by
  have h1 := h.at_
  have h2 := h.lt
  rw [nextN, if_neg (by omega), ← h1, ← h.rest, hx]
  simp
theorem Rest.head {s r : ByteArray} {o b : Nat} (h : Rest s o b r) : 0 < r.size := by have := h.lt; have := h.size; omega
theorem lex_dig {r : ByteArray} (h0 : 0 < r.size) (hd : isDg r[0] = true) : lex r.data.toList = if most59 < decV (r.data.toList.takeWhile isDg) then .inl 11 else .inr (2, (decV (r.data.toList.takeWhile isDg) : Int), [], dgN r.data.toList) := by
  rw [head_of h0, lex, if_pos hd]
theorem nextN_dig {s r : ByteArray} {o b : Nat} (h : Rest s o b r) (hd : isDg (r[0]'h.head) = true) : nextN s o = digV r.data.toList (b : Int) := by
  have hx := lex_dig h.head hd
  unfold digV
  split at hx
  · rename_i hm
    rw [nextN_bad h hx, if_pos hm]
  · rename_i hm
    rw [nextN_tok h hx, if_neg hm]
theorem lex_long {r : ByteArray} (h0 : 0 < r.size) (hd : isDg r[0] = false) (hp : 32 < preN r.data.toList) : lex r.data.toList = .inl 11 := by
  rw [head_of h0] at hp ⊢
  rw [lex, if_neg (by rw [hd]; decide), if_pos hp]
theorem lex_name {r : ByteArray} (h0 : 0 < r.size) (hd : isDg r[0] = false) (hp : preN r.data.toList ≤ 32) (hp2 : 0 < preN r.data.toList) :
    lex r.data.toList = .inr (if wordB (r.data.toList.take (preN r.data.toList)) = true then 3 else if lowB r.data.toList = true then 0 else 1, 0, r.data.toList.take (preN r.data.toList), preN r.data.toList) := by
  rw [head_of h0] at hp hp2 ⊢
  rw [lex, if_neg (by rw [hd]; decide), if_neg (by omega), if_pos hp2]
theorem lex_stop {r : ByteArray} (h0 : 0 < r.size) (hd : isDg r[0] = false) (hp : preN r.data.toList = 0) (hc : r[0] = 46) : lex r.data.toList = .inr (4, 0, [], 1) := by
  rw [head_of h0] at hp ⊢
  rw [lex, if_neg (by rw [hd]; decide), if_neg (by omega), if_neg (by omega), if_pos hc]
theorem lex_mark {r : ByteArray} (h0 : 0 < r.size) (hd : isDg r[0] = false) (hp : preN r.data.toList = 0) (hc : r[0] ≠ 46) :
    lex r.data.toList = match markF r.data.toList with | some m => .inr (3, 0, m, m.length) | none => .inl 60 := by
  rw [head_of h0] at hp ⊢
  rw [lex, if_neg (by rw [hd]; decide), if_neg (by omega), if_neg (by omega), if_neg hc]
  rfl
/-- what Next needs of the tables -/
def Tabs (w : World) : Prop := Cells w 0 letL ∧ Strs w 2 wordsL ∧ Strs w 0 marksL
theorem Tabs.keep {w w' : World} (h : Tabs w) (hb : Below w.heap.size w w') : Tabs w' := ⟨keepCells h.1 hb, h.2.1.keep hb, h.2.2.keep hb⟩
set_option maxHeartbeats 1000000 in
theorem next_out (s : ByteArray) (hs : s.size ≤ 1099511627776) (a : Int) (h : a < 0 ∨ (s.size : Int) < a) (w : World) : Calls Tryd.prog 7 #[.string s, .int .i64 a] w (NextP w (nextV s a)) := by
  have HE : Hid (nextV s a = (noT, a, (60, a))) := Lib.hid (by rw [nextV, if_pos h])
  by_cases h0 : a < 0
  · clear h
    go_enter Tryd.func7, Tryd.ntmps7
    go_wp2_with fail
    refine (bad_any 60 _ _).mono ?_
    rintro e w1 ⟨rfl, hb1⟩
    have hR := (Res.new w (.int .i8 0) (.int .i64 0) (.string ⟨#[]⟩) (.int .i64 0) (.int .i64 0) (.int .i64 0)).keep hb1
    have HS := Lib.hid (hR.set (.int .i8 0) (.int .i64 0) (.string ⟨#[]⟩) (.int .i64 0) (.int .i64 60) (.int .i64 a))
    obtain ⟨⟨x0, x1, x2, x3, u0, u1⟩, y0, y1, y2, y3, v0, v1⟩ := hR.cells
    clear hb1 hR
    go_wp2_with fail
    exact ret_res HS.out rfl rfl rfl rfl ⟨by rw [HE.out]; rfl, HS.out.1⟩
  · have h1 : (s.size : Int) < a := by omega
    clear h
    go_enter Tryd.func7, Tryd.ntmps7
    go_wp2_with fail
    refine (bad_any 60 _ _).mono ?_
    rintro e w1 ⟨rfl, hb1⟩
    have hR := (Res.new w (.int .i8 0) (.int .i64 0) (.string ⟨#[]⟩) (.int .i64 0) (.int .i64 0) (.int .i64 0)).keep hb1
    have HS := Lib.hid (hR.set (.int .i8 0) (.int .i64 0) (.string ⟨#[]⟩) (.int .i64 0) (.int .i64 60) (.int .i64 a))
    obtain ⟨⟨x0, x1, x2, x3, u0, u1⟩, y0, y1, y2, y3, v0, v1⟩ := hR.cells
    clear hb1 hR
    go_wp2_with fail
    exact ret_res HS.out rfl rfl rfl rfl ⟨by rw [HE.out]; rfl, HS.out.1⟩
set_option maxHeartbeats 1000000 in
theorem next_end (s : ByteArray) (hs : s.size ≤ 1099511627776) (o : Nat) (ho : o ≤ s.size) (h : o + blk false (s.data.toList.drop o) = s.size) (w : World) : Calls Tryd.prog 7 #[.string s, .int .i64 o] w (NextP w (nextN s o)) := by
  have HE : Hid (nextN s o = (noT, (s.size : Int), (60, (s.size : Int)))) := Lib.hid (nextN_end h)
  have HN : Hid (blankN s (o : Int) = (s.size : Int)) := Lib.hid (by
    by_cases h1 : s.size ≤ o
    · rw [blankN, if_pos (by omega)]; omega
    · rw [blankN, if_neg (by omega)]
      have : (o : Int).toNat = o := rfl
      rw [this, h])
  have d0 : decide ((o : Int) < 0) = false := by simp
  clear h
  have HB := Lib.hid (blank_any s hs (o : Int))
  go_enter Tryd.func7, Tryd.ntmps7
  go_wp2_with fail
  refine (HB.out _).mono ?_
  rintro e w1 ⟨he, rfl⟩
  rw [HN.out] at he
  subst he
  go_wp2_with fail
  refine (bad_any 60 _ _).mono ?_
  rintro e w1 ⟨rfl, hb1⟩
  have hR := (Res.new w (.int .i8 0) (.int .i64 0) (.string ⟨#[]⟩) (.int .i64 0) (.int .i64 0) (.int .i64 0)).keep hb1
  have HS := Lib.hid (hR.set (.int .i8 0) (.int .i64 0) (.string ⟨#[]⟩) (.int .i64 0) (.int .i64 60) (.int .i64 s.size))
  obtain ⟨⟨x0, x1, x2, x3, u0, u1⟩, y0, y1, y2, y3, v0, v1⟩ := hR.cells
  clear hb1 hR
  go_wp2_with fail
  exact ret_res HS.out rfl rfl rfl rfl ⟨by rw [HE.out]; rfl, HS.out.1⟩
theorem Rest.blank {s r : ByteArray} {o b : Nat} (h : Rest s o b r) : blankN s (o : Int) = (b : Int) := by
  have h1 := h.at_
  have h2 := h.lt
  rw [blankN, if_neg (by omega)]
  have : (o : Int).toNat = o := rfl
  rw [this, ← h1]
set_option maxHeartbeats 1000000 in
theorem next_dig (s r : ByteArray) (hs : s.size ≤ 1099511627776) (o b : Nat) (ho : o ≤ s.size) (h : Rest s o b r) (hd : isDg (r[0]'h.head) = true) (w : World) (hT : Tabs w) : Calls Tryd.prog 7 #[.string s, .int .i64 o] w (NextP w (nextN s o)) := by
  have HE := Lib.hid (nextN_dig h hd)
  obtain ⟨h1, h2⟩ := (dg_iff _).1 hd
  have HN := Lib.hid h.blank
  have h0 := h.head
  have hr := h.ext
  have hrs := h.size
  have hlt := h.lt
  have hrs' : r.size ≤ 1099511627776 := by omega
  have hne : ((b : Int) == (s.size : Int)) = false := by simp; omega
  have d0 : decide ((o : Int) < 0) = false := by simp
  have HT := Lib.hid hT
  have HR := Lib.hid h
  clear hT
  obtain ⟨⟨⟨k, n, t, a⟩, e2, ⟨e, f⟩⟩, hx⟩ : ∃ x, x = digV r.data.toList (b : Int) := ⟨_, rfl⟩
  have HD := Lib.hid (digits_any r hrs' (b : Int) (by omega) (by omega))
  rw [← hx] at HE HD
  clear hx
  have HB := Lib.hid (blank_any s hs (o : Int))
  go_enter Tryd.func7, Tryd.ntmps7
  go_wp2_with fail
  refine (HB.out _).mono ?_
  rintro e w1 ⟨he, rfl⟩
  rw [HN.out] at he
  subst he
  go_wp2_with fail
  have hR1 := Res.new w (.int .i8 0) (.int .i64 0) (.string ⟨#[]⟩) (.int .i64 0) (.int .i64 0) (.int .i64 0)
  refine (prefix_any r (by omega) _ (HT.out.keep hR1.1).1).mono ?_
  rintro e w1 ⟨rfl, hb1⟩
  have hR := hR1.keep hb1
  clear hR1 hb1
  go_wp2_with fail
  refine (HD.out _).mono ?_
  rintro e w2 ⟨rfl, hb2⟩
  have hR2 := hR.keep hb2
  have HS := Lib.hid (hR2.set (.int .i8 k) (.int .i64 n) (.string t) (.int .i64 a) (.int .i64 e) (.int .i64 f))
  obtain ⟨⟨x0, x1, x2, x3, u0, u1⟩, y0, y1, y2, y3, v0, v1⟩ := hR2.cells
  clear hR hR2 hb2
  go_wp2_with fail
  exact ret_res HS.out rfl rfl rfl rfl ⟨by rw [HE.out]; rfl, HS.out.1⟩
set_option maxHeartbeats 1000000 in
theorem next_long (s r : ByteArray) (hs : s.size ≤ 1099511627776) (o b : Nat) (ho : o ≤ s.size) (h : Rest s o b r) (hd : isDg (r[0]'h.head) = false) (hp : 32 < preN r.data.toList) (w : World) (hT : Tabs w) : Calls Tryd.prog 7 #[.string s, .int .i64 o] w (NextP w (nextN s o)) := by
  have HE := Lib.hid (nextN_bad h (lex_long h.head hd hp))
  have hdd : ¬ (48 ≤ ((r[0]'h.head).toNat : Int) ∧ ((r[0]'h.head).toNat : Int) ≤ 57) := fun x => by rw [(dg_iff _).2 x] at hd; cases hd
  have HN := Lib.hid h.blank
  have h0 := h.head
  have hr := h.ext
  have hrs := h.size
  have hlt := h.lt
  have hrs' : r.size ≤ 1099511627776 := by omega
  have hne : ((b : Int) == (s.size : Int)) = false := by simp; omega
  have d0 : decide ((o : Int) < 0) = false := by simp
  have HT := Lib.hid hT
  have HR := Lib.hid h
  clear hT
  obtain ⟨n, hn⟩ : ∃ n, n = preN r.data.toList := ⟨_, rfl⟩
  have HP := Lib.hid hn
  rw [← hn] at hp
  clear hn
  by_cases h1 : 48 ≤ (r[0].toNat : Int)
  · have h2 : ¬ (r[0].toNat : Int) ≤ 57 := fun x => hdd ⟨h1, x⟩
    clear hdd
    have HB := Lib.hid (blank_any s hs (o : Int))
    go_enter Tryd.func7, Tryd.ntmps7
    go_wp2_with fail
    refine (HB.out _).mono ?_
    rintro e w1 ⟨he, rfl⟩
    rw [HN.out] at he
    subst he
    go_wp2_with fail
    have hR1 := Res.new w (.int .i8 0) (.int .i64 0) (.string ⟨#[]⟩) (.int .i64 0) (.int .i64 0) (.int .i64 0)
    refine (prefix_any r (by omega) _ (HT.out.keep hR1.1).1).mono ?_
    rintro e w1 ⟨rfl, hb1⟩
    have hR := hR1.keep hb1
    clear hR1 hb1
    rw [← HP.out]
    go_wp2_with fail
    refine (bad_any 11 _ _).mono ?_
    rintro e w2 ⟨rfl, hb2⟩
    have hR2 := hR.keep hb2
    have HS := Lib.hid (hR2.set (.int .i8 0) (.int .i64 0) (.string ⟨#[]⟩) (.int .i64 0) (.int .i64 11) (.int .i64 b))
    obtain ⟨⟨x0, x1, x2, x3, u0, u1⟩, y0, y1, y2, y3, v0, v1⟩ := hR2.cells
    clear hR hR2 hb2
    go_wp2_with fail
    exact ret_res HS.out rfl rfl rfl rfl ⟨by rw [HE.out]; rfl, HS.out.1⟩
  · clear hdd
    have HB := Lib.hid (blank_any s hs (o : Int))
    go_enter Tryd.func7, Tryd.ntmps7
    go_wp2_with fail
    refine (HB.out _).mono ?_
    rintro e w1 ⟨he, rfl⟩
    rw [HN.out] at he
    subst he
    go_wp2_with fail
    have hR1 := Res.new w (.int .i8 0) (.int .i64 0) (.string ⟨#[]⟩) (.int .i64 0) (.int .i64 0) (.int .i64 0)
    refine (prefix_any r (by omega) _ (HT.out.keep hR1.1).1).mono ?_
    rintro e w1 ⟨rfl, hb1⟩
    have hR := hR1.keep hb1
    clear hR1 hb1
    rw [← HP.out]
    go_wp2_with fail
    refine (bad_any 11 _ _).mono ?_
    rintro e w2 ⟨rfl, hb2⟩
    have hR2 := hR.keep hb2
    have HS := Lib.hid (hR2.set (.int .i8 0) (.int .i64 0) (.string ⟨#[]⟩) (.int .i64 0) (.int .i64 11) (.int .i64 b))
    obtain ⟨⟨x0, x1, x2, x3, u0, u1⟩, y0, y1, y2, y3, v0, v1⟩ := hR2.cells
    clear hR hR2 hb2
    go_wp2_with fail
    exact ret_res HS.out rfl rfl rfl rfl ⟨by rw [HE.out]; rfl, HS.out.1⟩
end Go.Proofs.YtnhhihmifbjkkaaDoor
