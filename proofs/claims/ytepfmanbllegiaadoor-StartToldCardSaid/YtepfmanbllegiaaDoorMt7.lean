/- decimal digits, written and read. In plain Lean. No conditions. -/
/- terms' texts; what is begun when they are read. In plain Lean. No conditions. -/
/- terms in memory: every block of a term that reads is there. No conditions. -/
/- term.FromList of parts that may be; where the rows of what is made lie (after Zl). Conditions: the parts read, may be, are not too many; the table of letters reads as laid. -/
import Derived.Lib.ParseIntB
import Derived.Lib.ItoaNum
import Derived.Test.YtepfmanbllegiaaDoorYn
import Derived.Test.YtepfmanbllegiaaDoorZi
namespace Go.Proofs.YtepfmanbllegiaaDoor
theorem dec_digits (u : Nat) : ∀ c ∈ Lib.decDigits u, 48 ≤ c.toNat ∧ c.toNat ≤ 57 := by
  induction u using Nat.strongRecOn with
  | ind u ih =>
    intro c hc
    rw [Lib.decDigits] at hc
    split at hc
    · simp only [List.mem_singleton] at hc
      subst hc
      rw [UInt8.toNat_ofNat_of_lt' (by show 48 + u < 256; omega)]
      omega
    · rw [List.mem_append, List.mem_singleton] at hc
      rcases hc with hc | rfl
      · exact ih (u / 10) (by omega) c hc
      · rw [UInt8.toNat_ofNat_of_lt' (by show 48 + u % 10 < 256; omega)]
        omega
theorem dec_ne (u : Nat) : Lib.decDigits u ≠ [] := by
  rw [Lib.decDigits]
  split <;> simp
theorem dec_one {u : Nat} (h : u < 10) : Lib.decDigits u = [UInt8.ofNat (48 + u)] := by rw [Lib.decDigits, dif_pos h]
/-- no nought ahead -/
theorem dec_head (u : Nat) : ∀ c l, Lib.decDigits u = c :: l → (l ≠ [] → c.toNat ≠ 48) := by
  induction u using Nat.strongRecOn with
  | ind u ih =>
    intro c l he hl
    rw [Lib.decDigits] at he
    split at he
    · injection he with _ he
      exact absurd he.symm hl
    · rename_i hu
      by_cases h10 : u / 10 < 10
      · rw [dec_one h10] at he
        injection he with he _
        subst he
        rw [UInt8.toNat_ofNat_of_lt' (by show 48 + u / 10 < 256; omega)]
        omega
      · cases hd : Lib.decDigits (u / 10) with
        | nil => exact absurd hd (dec_ne _)
        | cons d r =>
          rw [hd] at he
          injection he with he _
          subst he
          refine ih (u / 10) (by omega) d r hd ?_
          rintro rfl
          have := hd
          rw [Lib.decDigits, dif_neg h10] at this
          cases hd2 : Lib.decDigits (u / 10 / 10) with
          | nil => exact absurd hd2 (dec_ne _)
          | cons a b =>
            rw [hd2] at this
            simp at this
theorem parseM_append {M : Nat} : ∀ (l r : List UInt8) (acc v : Nat), Lib.parseUintM M acc l = .ok v → Lib.parseUintM M acc (l ++ r) = Lib.parseUintM M v r
  | [], r, acc, v, h => by
    rw [Lib.parseUintM] at h
    injection h with h
    rw [h]
    rfl
  | c :: l, r, acc, v, h => by
    rw [Lib.parseUintM] at h
    rw [List.cons_append, Lib.parseUintM]
    split at h
    · split at h
      · cases h
      · split at h
        · cases h
        · rename_i h1 h2 h3
          rw [if_pos h1, if_neg h2, if_neg h3]
          exact parseM_append l r _ v h
    · cases h
theorem parse_dec (M u : Nat) (hM : M ≤ 18446744073709551615) (h : u ≤ M) : Lib.parseUintM M 0 (Lib.decDigits u) = .ok u := by
  induction u using Nat.strongRecOn with
  | ind u ih =>
    have step : ∀ a d : Nat, d < 10 → a * 10 + d ≤ M → Lib.parseUintM M a [UInt8.ofNat (48 + d)] = .ok (a * 10 + d) := by
      intro a d hd ha
      rw [Lib.parseUintM, UInt8.toNat_ofNat_of_lt' (by show 48 + d < 256; omega), if_pos (by omega), if_neg (by omega), if_neg (by omega), Lib.parseUintM]
      congr 1
      omega
    by_cases h10 : u < 10
    · rw [dec_one h10]
      have := step 0 u h10 (by omega)
      simpa using this
    · rw [Lib.decDigits, dif_neg h10, parseM_append _ _ 0 (u / 10) (ih (u / 10) (by omega) (by omega)), step (u / 10) (u % 10) (by omega) (by omega)]
      congr 1
      omega
end Go.Proofs.YtepfmanbllegiaaDoor
namespace Go.Proofs.YtepfmanbllegiaaDoor
open Go.ChangeShapes Go.WideShapes Go.ChangeAt Go.RowKit
set_option linter.unusedVariables false
/-- a node's text, its parts' texts put in -/
def form (k n : Int) (s u : ByteArray) (tup lst : List UInt8) : List UInt8 :=
  if k = 0 then Lib.itoa n
  else if k = 1 then s.toList
  else if k = 2 then [35, 82, 101, 102, 60] ++ Lib.itoa n ++ [62]
  else if k = 4 then [60] ++ Lib.itoa n ++ [62]
  else if k = 3 then [102, 117, 110, 32] ++ s.toList ++ [58] ++ u.toList ++ [47] ++ Lib.itoa n
  else if k = 5 then [123] ++ tup ++ [125]
  else [91] ++ lst ++ [93]
mutual
/-- a term's text -/
def tx : Tm → List UInt8
  | .mk k n s u l => form k n s u (wrL l) (wrC l)
/-- what stands behind a list's head -/
def wrT : Tm → List UInt8
  | .mk k n s u l => if k = 7 then 44 :: wrC l else if k = 6 then [] else 124 :: form k n s u (wrL l) (wrC l)
/-- texts with commas between -/
def wrL : List Tm → List UInt8
  | [] => []
  | t :: l => tx t ++ wrM l
def wrM : List Tm → List UInt8
  | [] => []
  | t :: l => 44 :: (tx t ++ wrM l)
/-- a cons's parts -/
def wrC : List Tm → List UInt8
  | [] => []
  | t :: l => tx t ++ wrD l
def wrD : List Tm → List UInt8
  | [] => []
  | t :: _ => wrT t
end
mutual
/-- a list's parts, and its tail -/
def spL : Tm → List Tm
  | .mk k _ _ _ l => if k = 7 then spC l else []
def spC : List Tm → List Tm
  | [] => []
  | t :: l => t :: spD l
def spD : List Tm → List Tm
  | [] => []
  | t :: _ => spL t
end
mutual
def spE : Tm → Tm
  | .mk k n s u l => if k = 7 then spF l (.mk k n s u l) else .mk k n s u l
def spF : List Tm → Tm → Tm
  | [], d => d
  | _ :: l, d => spG l d
def spG : List Tm → Tm → Tm
  | [], d => d
  | t :: _, _ => spE t
end
theorem wrT_eq (t : Tm) : wrT t = if t.k = 7 then 44 :: wrC t.l else if t.k = 6 then [] else 124 :: tx t := by
  obtain ⟨k, n, s, u, l⟩ := t
  rw [wrT, tx]
  rfl
theorem wrL_cons (t : Tm) (l : List Tm) : wrL (t :: l) = tx t ++ wrM l := by rw [wrL]
/-- conses are made again -/
def rebuild : List Tm → Tm → Tm
  | [], d => d
  | t :: l, d => .mk 7 0 ⟨#[]⟩ ⟨#[]⟩ [t, rebuild l d]
theorem okT_cons {k n : Int} {s u : ByteArray} {l : List Tm} (h : okT (.mk k n s u l)) (hk : k = 7) : n = 0 ∧ s = ⟨#[]⟩ ∧ u = ⟨#[]⟩ ∧ ∃ a b, l = [a, b] ∧ okT a ∧ okT b := by
  rw [okT] at h
  obtain ⟨h1, h2, h3, h4⟩ := one_parts h.1 (.inr hk)
  have h5 := h4 hk
  refine ⟨h1, h2, h3, ?_⟩
  match l, h5 with
  | [a, b], _ =>
    have h6 := h.2
    rw [okL, okL] at h6
    exact ⟨a, b, rfl, h6.1, h6.2.1⟩
/-- a list of so many nodes is its parts and its tail -/
theorem sp_all : ∀ (N : Nat) (t : Tm), nT t ≤ N → okT t → rebuild (spL t) (spE t) = t ∧ (spE t).k ≠ 7 ∧ okT (spE t) ∧ nL (spL t) + nT (spE t) ≤ nT t ∧ (∀ x ∈ spL t, okT x) ∧ (t.k = 7 → 1 ≤ (spL t).length ∧ nL (spL t) + nT (spE t) < nT t ∧ wrC t.l = wrL (spL t) ++ (if (spE t).k = 6 then [] else 124 :: tx (spE t))) := by
  intro N
  induction N with
  | zero =>
    intro t h
    have := nT_pos t
    omega
  | succ N ih =>
    intro t hN hok
    obtain ⟨k, n, s, u, l⟩ := t
    by_cases hk : k = 7
    · obtain ⟨rfl, rfl, rfl, a, b, rfl, ha, hb⟩ := okT_cons hok hk
      subst hk
      have hn : nT (.mk 7 0 ⟨#[]⟩ ⟨#[]⟩ [a, b]) = nT a + nT b + 1 := by simp [nT, nL]
      rw [hn] at hN ⊢
      have hpa := nT_pos a
      obtain ⟨i1, i2, i3, i4, i5, i6⟩ := ih b (by omega) hb
      have e1 : spL (.mk 7 0 ⟨#[]⟩ ⟨#[]⟩ [a, b]) = a :: spL b := by simp [spL, spC, spD]
      have e2 : spE (.mk 7 0 ⟨#[]⟩ ⟨#[]⟩ [a, b]) = spE b := by simp [spE, spF, spG]
      rw [e1, e2]
      refine ⟨by rw [rebuild, i1], i2, i3, by rw [nL]; omega, fun x hx => ?_, fun _ => ⟨by simp, by rw [nL]; omega, ?_⟩⟩
      · rcases List.mem_cons.1 hx with rfl | hx
        · exact ha
        · exact i5 x hx
      · have e3 : wrC (Tm.mk 7 0 ⟨#[]⟩ ⟨#[]⟩ [a, b]).l = tx a ++ wrT b := by simp [Tm.l, wrC, wrD]
        rw [e3, wrL_cons, wrT_eq]
        by_cases hb7 : b.k = 7
        · rw [if_pos hb7, (i6 hb7).2.2]
          cases hsp : spL b with
          | nil =>
            have := (i6 hb7).1
            rw [hsp] at this
            simp at this
          | cons x xs =>
            rw [wrL_cons, wrM]
            simp
        · have e4 : spL b = [] := by
            obtain ⟨k2, n2, s2, u2, l2⟩ := b
            rw [spL, if_neg (show ¬ k2 = 7 from hb7)]
          have e5 : spE b = b := by
            obtain ⟨k2, n2, s2, u2, l2⟩ := b
            rw [spE, if_neg (show ¬ k2 = 7 from hb7)]
          rw [if_neg hb7, e4, e5, wrM]
          simp
    · have e1 : spL (.mk k n s u l) = [] := by rw [spL, if_neg hk]
      have e2 : spE (.mk k n s u l) = .mk k n s u l := by rw [spE, if_neg hk]
      rw [e1, e2]
      exact ⟨rfl, hk, hok, by rw [nL]; omega, fun x hx => by simp at hx, fun h => absurd h hk⟩
end Go.Proofs.YtepfmanbllegiaaDoor
namespace Go.Proofs.YtepfmanbllegiaaDoor
open Go.ChangeShapes Go.WideShapes Go.ChangeAt Go.RowKit
set_option linter.unusedVariables false
def lenOf : Value → Nat
  | .slice _ n _ => n
  | _ => 0
def X7 (g r : Nat) (p : Int) (k n : Int) (s u : ByteArray) (lv : Value) (W : World) : Prop := W.cell? ⟨g, 0, none⟩ = some (.int .i8 k) ∧ W.cell? ⟨g, 1, none⟩ = some (.int .i64 n) ∧ W.cell? ⟨g, 2, none⟩ = some (.string s) ∧ W.cell? ⟨g, 3, none⟩ = some (.string u) ∧ W.cell? ⟨g, 4, none⟩ = some lv ∧ W.cell? ⟨r, 1, none⟩ = some (.int .i64 p)
abbrev nilC : Array Value := #[.int .i8 6, .int .i64 0, .string ⟨#[]⟩, .string ⟨#[]⟩, .slice none 0 0]
def X18 (g o y : Nat) (k n : Int) (s u : ByteArray) (lv : Value) (k' n' : Int) (s' u' : ByteArray) (lv' : Value) (W : World) : Prop := W.cell? ⟨g, o, none⟩ = some (.int .i8 k) ∧ W.cell? ⟨g, o + 1, none⟩ = some (.int .i64 n) ∧ W.cell? ⟨g, o + 2, none⟩ = some (.string s) ∧ W.cell? ⟨g, o + 3, none⟩ = some (.string u) ∧ W.cell? ⟨g, o + 4, none⟩ = some lv ∧
  W.cell? ⟨y, 0, none⟩ = some (.int .i8 k') ∧ W.cell? ⟨y, 1, none⟩ = some (.int .i64 n') ∧ W.cell? ⟨y, 2, none⟩ = some (.string s') ∧ W.cell? ⟨y, 3, none⟩ = some (.string u') ∧ W.cell? ⟨y, 4, none⟩ = some lv'
theorem X18.keep {g o y : Nat} {k n : Int} {s u : ByteArray} {lv : Value} {k' n' : Int} {s' u' : ByteArray} {lv' : Value} {W W' : World} (h : X18 g o y k n s u lv k' n' s' u' lv' W) (hk : Below W.heap.size W W') : X18 g o y k n s u lv k' n' s' u' lv' W' := by
  obtain ⟨g1, g2, g3, g4, g5, h1, h2, h3, h4, h5⟩ := h
  exact ⟨keep_cell g1 hk, keep_cell g2 hk, keep_cell g3 hk, keep_cell g4 hk, keep_cell g5 hk, keep_cell h1 hk, keep_cell h2 hk, keep_cell h3 hk, keep_cell h4 hk, keep_cell h5 hk⟩
/-- a step down a list -/
theorem sp_step {a d : Tm} {s u : ByteArray} {n : Int} : spL (.mk 7 n s u [a, d]) = a :: spL d ∧ spE (.mk 7 n s u [a, d]) = spE d := by
  constructor
  · simp [spL, spC, spD]
  · simp [spE, spF, spG]
theorem sp_stop {t : Tm} (h : t.k ≠ 7) : spL t = [] ∧ spE t = t := by
  obtain ⟨k, n, s, u, l⟩ := t
  have h : k ≠ 7 := h
  exact ⟨by rw [spL, if_neg h], by rw [spE, if_neg h]⟩
end Go.Proofs.YtepfmanbllegiaaDoor
namespace Go.Proofs.YtepfmanbllegiaaDoor
open Go.ChangeShapes Go.WideShapes Go.ChangeAt Go.RowKit
set_option linter.unusedVariables false
set_option linter.unusedSimpArgs false
set_option maxRecDepth 100000
theorem rowS_nil (S : Nat → Prop) (F : Nat) (W : World) : RowS S F W (.slice none 0 0) [] := ⟨none, 0, rfl, by simp, by omega, fun i t hi => by simp at hi⟩
theorem row_cons {S : Nat → Prop} {F1 F2 : Nat} {W : World} {x y : TE} (hS : S W.heap.size) (hx : fields x.k x.n x.s x.u) (hx2 : RowS S F1 W x.lv x.l) (hy : fields y.k y.n y.s y.u) (hy2 : RowS S F2 W y.lv y.l) :
    RowS S (max F1 F2 + 1) (W.alloc (.cells #[.int .i8 x.k, .int .i64 x.n, .string x.s, .string x.u, .slice x.ao x.l.length x.cap, .int .i8 y.k, .int .i64 y.n, .string y.s, .string y.u, .slice y.ao y.l.length y.cap] 27)) (.slice (some ⟨W.heap.size, 0, none⟩) 2 2) [x.t, y.t] := by
  have hb := (Below.refl W.heap.size W).alloc (Nat.le_refl _) (.cells #[.int .i8 x.k, .int .i64 x.n, .string x.s, .string x.u, .slice x.ao x.l.length x.cap, .int .i8 y.k, .int .i64 y.n, .string y.s, .string y.u, .slice y.ao y.l.length y.cap] 27)
  have hn := heap_new W (.cells #[.int .i8 x.k, .int .i64 x.n, .string x.s, .string x.u, .slice x.ao x.l.length x.cap, .int .i8 y.k, .int .i64 y.n, .string y.s, .string y.u, .slice y.ao y.l.length y.cap] 27)
  have kx := hx2.chg (S' := S) (chg_of_below hb (fun _ => False)) (fun _ _ _ h => h) (fun _ h _ => h) (Nat.le_max_left F1 F2)
  have ky := hy2.chg (S' := S) (chg_of_below hb (fun _ => False)) (fun _ _ _ h => h) (fun _ h _ => h) (Nat.le_max_right F1 F2)
  obtain ⟨ax, cx, ex, x1, x2, x3⟩ := kx
  obtain ⟨ay, cy, ey, y1, y2, y3⟩ := ky
  simp only [TE.lv, Value.slice.injEq] at ex ey
  obtain ⟨rfl, -, rfl⟩ := ex
  obtain ⟨rfl, -, rfl⟩ := ey
  refine ⟨some ⟨W.heap.size, 0, none⟩, 2, rfl, by simp, by omega, fun i t hi => ⟨W.heap.size, 0, rfl, ?_⟩⟩
  match i, hi with
  | 0, hi =>
    simp at hi
    subst hi
    exact ⟨hS, hx, x.ao, x.cap, ⟨(cells_at hn 0 _ rfl).1, (cells_at hn 1 _ rfl).1, (cells_at hn 2 _ rfl).1, (cells_at hn 3 _ rfl).1, (cells_at hn 4 _ rfl).1⟩, x1, x2, x3⟩
  | 1, hi =>
    simp at hi
    subst hi
    exact ⟨hS, hy, y.ao, y.cap, ⟨(cells_at hn 5 _ rfl).1, (cells_at hn 6 _ rfl).1, (cells_at hn 7 _ rfl).1, (cells_at hn 8 _ rfl).1, (cells_at hn 9 _ rfl).1⟩, y1, y2, y3⟩
abbrev nilT : Tm := .mk 6 0 ⟨#[]⟩ ⟨#[]⟩ []
/-- where FromList stands -/
structure FlI (S : Nat → Prop) (W : World) (Y : Nat) (L : List Tm) (j : Nat) (te : TE) (wx : World) : Prop where
  hb : Below W.heap.size W wx
  hX : wx.heap[W.heap.size]? = some (.cells zT 27 (0, 0))
  hY : wx.heap[Y]? = some (.cells te.cells.toArray 27 (0, 0))
  ht : te.t = rebuild (L.drop j) nilT
  hf : fields te.k te.n te.s te.u
  hrs : ∃ G, RowS (fun k => S k ∨ Y < k) G wx te.lv te.l
theorem FlI.keep {S : Nat → Prop} {W : World} {Y : Nat} {L : List Tm} {j : Nat} {te : TE} {wx wy : World} (h : FlI S W Y L j te wx) (hb : Below wx.heap.size wx wy) : FlI S W Y L j te wy :=
  ⟨h.hb.trans (hb.mono h.hb.size), keep_heap h.hX hb, keep_heap h.hY hb, h.ht, h.hf, by
    obtain ⟨G, h1⟩ := h.hrs
    exact ⟨G, h1.chg (chg_of_below hb (fun _ => False)) (fun _ _ _ h => h) (fun _ h _ => h) (Nat.le_refl _)⟩⟩
theorem FlI.put {S : Nat → Prop} {W : World} {Y : Nat} {L : List Tm} {j i : Nat} {te te' : TE} {wx : World} {G : Nat} (h : FlI S W Y L j te wx) (hSW : ∀ k, S k → k < W.heap.size) (hWY : W.heap.size < Y) (ht : te'.t = rebuild (L.drop i) nilT) (hf : fields te'.k te'.n te'.s te'.u) (hr : RowS (fun k => S k ∨ Y < k) G wx te'.lv te'.l) :
    FlI S W Y L i te' (wx.setRow Y te'.cells.toArray) := by
  have hc := chg_setRow wx Y te'.cells.toArray
  exact ⟨h.hb.trans (hc.below (B := W.heap.size) h.hb.size (fun k e => by have e : k = Y := e; omega)), hc.heap h.hX (fun e => by have e : W.heap.size = Y := e; omega), setRow_heap wx Y _ te'.cells.toArray _ _ h.hY, ht, hf, G, hr.chg hc (fun k hk _ e => by
    have e : k = Y := e
    rcases hk with hk | hk
    · have := hSW k hk
      omega
    · omega) (fun _ h _ => h) (Nat.le_refl _)⟩
/-- a list made of parts -/
def FrP (S : Nat → Prop) (W : World) (L : List Tm) (e : Ending) (W' : World) : Prop :=
  Below W.heap.size W W' ∧ ∃ (te : TE) (G : Nat), e = .returned (.tuple #[.agg te.cells.toArray, .int .i64 0]) ∧ te.t = rebuild L nilT ∧ fields te.k te.n te.s te.u ∧ RowS (fun k => S k ∨ W.heap.size < k) G W' te.lv te.l
set_option maxHeartbeats 16000000 in
theorem fromlist_any (S : Nat → Prop) (F : Nat) (L : List Tm) (ao : Option Addr) (cap : Nat) (W : World) (hSW : ∀ k, S k → k < W.heap.size) (hc : Cells W 0 letL) (hr : RowS S F W (.slice ao L.length cap) L) (hno : ao = none → cap = 0) (hok : okL L) (hn : 1 + nL L + L.length ≤ 256) :
    Calls Tryd.prog 48 #[.slice ao L.length cap] W (FrP S W L) := by
  have hb1 := (Below.refl W.heap.size W).alloc (Nat.le_refl _) (.cells zT 27)
  have hs1 : (W.alloc (.cells zT 27)).heap.size = W.heap.size + 1 := by simp
  have hr1 : RowS S F (W.alloc (.cells zT 27)) (.slice ao L.length cap) L := hr.chg (chg_of_below hb1 (fun _ => False)) (fun _ _ _ h => h) (fun k hk _ => hk) (Nat.le_refl _)
  have HM := Lib.hid (made_any S F 5 L ao cap _ (fun k hk => by have := hSW k hk; omega) (cells_chg hc (chg_of_below hb1 (fun _ => False)) (fun e => e)) hr1 hno (by omega))
  have HX1 := Lib.hid (heap_new W (.cells zT 27))
  have HB1 := Lib.hid hb1
  have HS1 := Lib.hid hs1
  have HC := Lib.hid hc
  have HR := Lib.hid hr
  have HOK := Lib.hid hok
  have hmd := md_of L 1 hok (by omega) (by omega)
  clear hb1 hr1 hc hr hs1 hok
  go_enter Tryd.func48, Tryd.ntmps48
  go_wp2_with fail
  generalize W.alloc (.cells zT 27) = W1 at *
  refine HM.out.mono ?_
  rintro e w2 ⟨hb2, ⟨h0, vo, vc, rfl, hrow⟩ | ⟨h0, rfl⟩⟩
  rotate_left
  · exact absurd hmd h0
  have hb3 := (Below.refl w2.heap.size w2).alloc (Nat.le_refl _) (.cells #[.int .i8 5, .int .i64 0, .string ⟨#[]⟩, .string ⟨#[]⟩, .slice vo L.length vc] 27)
  have HN3 := Lib.hid (heap_new w2 (.cells #[.int .i8 5, .int .i64 0, .string ⟨#[]⟩, .string ⟨#[]⟩, .slice vo L.length vc] 27))
  have hB2 := HB1.out.trans (hb2.mono HB1.out.size)
  have HB3 := Lib.hid (hB2.trans (hb3.mono hB2.size))
  have HX3 := Lib.hid (keep_heap (keep_heap HX1.out hb2) hb3)
  have HTV : Hid (TermV (F + 1) (w2.alloc (.cells #[.int .i8 5, .int .i64 0, .string ⟨#[]⟩, .string ⟨#[]⟩, .slice vo L.length vc] 27)) (.agg #[.int .i8 5, .int .i64 0, .string ⟨#[]⟩, .string ⟨#[]⟩, .slice vo L.length vc]) (.mk 5 0 ⟨#[]⟩ ⟨#[]⟩ L)) := Lib.hid ⟨⟨by simp [Tm.k], by simp [Tm.n], Nat.zero_le _, Nat.zero_le _⟩, _, rfl, (hrow.row).keep hb3⟩
  clear hb2 hrow hb3 hB2 h0 HM HX1 HB1
  go_wp2_with (with_reducible refine stop_op (o := ⟨_, .store 27 (.tmp 4) (.tmp 11), _, _, _, _⟩) ?_)
  refine Lib.hid ?_
  refine wpList_store_new (o := ⟨none, _, _, _, _, _⟩) rfl 27 (.tmp 4) (.tmp 11) rfl #[.int .i8 5, .int .i64 0, .string ⟨#[]⟩, .string ⟨#[]⟩, .slice vo L.length vc] rfl rfl (infoTM' _ rfl) rfl (by simp [Value.oneCell']) ?_
  generalize w2.alloc (.cells #[.int .i8 5, .int .i64 0, .string ⟨#[]⟩, .string ⟨#[]⟩, .slice vo L.length vc] 27) = W3 at *
  obtain ⟨y0, -⟩ := cells_at HN3.out 0 _ rfl
  obtain ⟨y1, -⟩ := cells_at HN3.out 1 _ rfl
  obtain ⟨y2, -⟩ := cells_at HN3.out 2 _ rfl
  obtain ⟨y3, -⟩ := cells_at HN3.out 3 _ rfl
  obtain ⟨y4, -⟩ := cells_at HN3.out 4 _ rfl
  have hsz := psize_any (F + 1) (.mk 5 0 ⟨#[]⟩ ⟨#[]⟩ L) _ W3 HTV.out
  rw [ok_size (by rw [nT]; omega)] at hsz
  have hnt : ((nT (.mk 5 0 ⟨#[]⟩ ⟨#[]⟩ L) : Nat) : Int) = 1 + nL L := by rw [nT]; omega
  rw [hnt] at hsz
  have hw1 : IntKind.i64.wrap (1 + (nL L : Int) + (L.length : Int)) = 1 + (nL L : Int) + (L.length : Int) := IntWalk.i64_in _ (by omega)
  have hw2 : ¬ (256 : Int) < 1 + (nL L : Int) + (L.length : Int) := by omega
  have hw3 : decide ((256 : Int) < 1 + (nL L : Int) + (L.length : Int)) = false := by simpa using hw2
  go_wp2_with fail
  refine hsz.mono ?_
  rintro e w4 ⟨rfl, hb4⟩
  have hb5 := (Below.refl w4.heap.size w4).alloc (Nat.le_refl _) (.cells nilC 27)
  have hB4 := HB3.out.trans (hb4.mono HB3.out.size)
  have hB5 := hB4.trans (hb5.mono hB4.size)
  have HN5 := Lib.hid (heap_new w4 (.cells nilC 27))
  have HX5 := Lib.hid (keep_heap (keep_heap HX3.out hb4) hb5)
  have hx5 := heap_lt (keep_heap HX3.out hb4)
  have HB5 := Lib.hid hB5
  clear y0 y1 y2 y3 y4 hsz hnt hb4 hb5 hB4 hB5 HTV HN3 HX3 HB3
  go_wp2_with (with_reducible refine stop_op (o := ⟨_, .store 27 (.tmp 6) (.tmp 26), _, _, _, _⟩) ?_)
  refine Lib.hid ?_
  refine wpList_store_new (o := ⟨none, _, _, _, _, _⟩) rfl 27 (.tmp 6) (.tmp 26) rfl nilC rfl rfl (infoTM' _ rfl) rfl (by simp [Value.oneCell']) ?_
  have HI0 : Hid (FlI S W w4.heap.size L L.length ⟨6, 0, ⟨#[]⟩, ⟨#[]⟩, none, 0, []⟩ (w4.alloc (.cells nilC 27))) := Lib.hid ⟨HB5.out, HX5.out, HN5.out, by rw [List.drop_length, rebuild]; rfl, ⟨by decide, by decide, by decide, by decide⟩, 0, rowS_nil _ _ _⟩
  generalize w4.alloc (.cells nilC 27) = W5 at *
  generalize w4.heap.size = Y at *
  clear HN5 HX5 HB5
  have hw6 : IntKind.i64.wrap ((L.length : Int) - 1) = (L.length : Int) - 1 := IntWalk.i64_in _ (by omega)
  go_wp2_with fail
  go_loopw [7] (fun iv wr => ∃ (j : Nat) (te : TE), j ≤ L.length ∧ iv = .int .i64 ((j : Int) - 1) ∧ Hid (FlI S W Y L j te wr)) (fun iv _ => (intOf iv + 1).toNat)
  case atStart => exact ⟨L.length, _, Nat.le_refl _, rfl, HI0⟩
  case round =>
    clear HI0
    obtain ⟨j, te, hj, rfl, HI⟩ := hrel
    by_cases hj0 : 1 ≤ j
    · obtain ⟨m, rfl⟩ : ∃ m, j = m + 1 := ⟨j - 1, by omega⟩
      have e0 : (((m + 1 : Nat) : Int) - 1) = m := by omega
      rw [e0]
      obtain ⟨x, hx⟩ : ∃ x, L[m]? = some x := ⟨L[m]'(by omega), List.getElem?_eq_getElem _⟩
      have hdr := (Below.refl wr.heap.size wr).drew
      have hra : RowS S F wr.drew (.slice ao L.length cap) L := HR.out.chg (chg_of_below (HI.out.hb.trans (hdr.mono HI.out.hb.size)) (fun _ => False)) (fun _ _ _ h => h) (fun _ h _ => h) (Nat.le_refl _)
      obtain ⟨b', off, xe, rfl, hxe, hxf, hxr, c0, c1, c2, c3, c4⟩ := row_elem hra hx
      obtain ⟨xk, xn, xs, xu, xao, xcap, xl⟩ := xe
      obtain ⟨yk, yn, ys, yu, yao, ycap, yl⟩ := te
      have hI2 := HI.out.keep hdr
      have hS : X18 b' (off + m * 5) Y xk xn xs xu (.slice xao xl.length xcap) yk yn ys yu (.slice yao yl.length ycap) wr.drew := by
        have hy := hI2.hY
        exact ⟨c0, c1, c2, c3, c4, (cells_at hy 0 _ rfl).1, (cells_at hy 1 _ rfl).1, (cells_at hy 2 _ rfl).1, (cells_at hy 3 _ rfl).1, (cells_at hy 4 _ rfl).1⟩
      have HI2 := Lib.hid hI2
      have HXE := Lib.hid (And.intro hxe (And.intro hxf hxr))
      have HXL := Lib.hid hx
      have hYl : Hid (Y < wr.drew.heap.size) := Lib.hid (heap_lt hI2.hY)
      have hml : m < L.length := by omega
      clear hra hxe hxf hxr c0 c1 c2 c3 c4 hI2 hdr HI hx e0 hj0
      go_wp2_with fail
      refine region_planZ 7 (X18 b' (off + m * 5) Y xk xn xs xu (.slice xao xl.length xcap) yk yn ys yu (.slice yao yl.length ycap)) [(0, 0), (1, 0), (2, 0), (3, 0), (4, 0), (5, 1), (6, 0), (7, 1)] (by kernel_rfl) (by kernel_rfl) (by kernel_rfl) hS ?_
      generalize wr.drew = WD at *
      iterate 5 (first | (refine planZ_skip rfl ?_ ?_; (focus (rfl)); (try simp only [Act.put, List.setIfInBounds_toArray, List.set_cons_zero, List.set_cons_succ])) | (refine planZ_take (v := ?_) rfl ?_ (fun w hSw => ?_) ?_; rotate_left; (focus (rfl)); (focus (unfold X18 at hSw; (go_simp <;> with_reducible rfl))); (try simp only [Act.put, List.setIfInBounds_toArray, List.set_cons_zero, List.set_cons_succ])))
      have hba := (Below.refl WD.heap.size WD).alloc (Nat.le_refl _) (.cells #[.int .i8 xk, .int .i64 xn, .string xs, .string xu, .slice xao xl.length xcap, .int .i8 yk, .int .i64 yn, .string ys, .string yu, .slice yao yl.length ycap] 27)
      have hSa := hS.keep hba
      refine planZ_run rfl ?_ (fun K hK => ?_)
      focus (rfl)
      go_simp
      refine hK.out _ _ (fun _ => hSa) ?_
      clear hK K
      (try simp only [Act.put, List.setIfInBounds_toArray, List.set_cons_zero, List.set_cons_succ])
      iterate 1 (first | (refine planZ_skip rfl ?_ ?_; (focus (rfl)); (try simp only [Act.put, List.setIfInBounds_toArray, List.set_cons_zero, List.set_cons_succ])) | (refine planZ_take (v := ?_) rfl ?_ (fun w hSw => ?_) ?_; rotate_left; (focus (rfl)); (focus (unfold X18 at hSw; (go_simp <;> with_reducible rfl))); (try simp only [Act.put, List.setIfInBounds_toArray, List.set_cons_zero, List.set_cons_succ])))
      obtain ⟨G, hyr⟩ := HI2.out.hrs
      have hrc := row_cons (S := fun k => S k ∨ Y < k) (x := ⟨xk, xn, xs, xu, xao, xcap, xl⟩) (y := ⟨yk, yn, ys, yu, yao, ycap, yl⟩) (.inr hYl.out) HXE.out.2.1 (HXE.out.2.2.chg (S' := fun k => S k ∨ Y < k) (Chg.refl (fun _ => False) WD) (fun _ _ _ h => h) (fun _ h _ => .inl h) (Nat.le_refl _)) HI2.out.hf hyr
      have hI3 := (HI2.out.keep hba).put (i := m) (te' := ⟨7, 0, ⟨#[]⟩, ⟨#[]⟩, some ⟨WD.heap.size, 0, none⟩, 2, [⟨xk, xn, xs, xu, xao, xcap, xl⟩, ⟨yk, yn, ys, yu, yao, ycap, yl⟩].map TE.t⟩) hSW (by omega) (by
        rw [drop_cons HXL.out, rebuild, ← HI2.out.ht, ← HXE.out.1]
        rfl) ⟨by simp, by simp, Nat.zero_le _, Nat.zero_le _⟩ hrc
      have hY2 := (HI2.out.keep hba).hY
      refine planZ_run rfl ?_ (fun K hK => ?_)
      focus (rfl)
      refine wp_store_row 27 (.tmp 6) (.tmp 40) rfl Y #[.int .i8 7, .int .i64 0, .string ⟨#[]⟩, .string ⟨#[]⟩, .slice (some ⟨WD.heap.size, 0, none⟩) 2 2] rfl rfl 27 _ hY2 (infoTM' _ rfl) (by simp [TE.cells]) (by simp [Value.oneCell']) ?_
      refine hK.out _ _ (fun h => absurd rfl h) ?_
      clear hK K
      (try simp only [Act.put, List.setIfInBounds_toArray, List.set_cons_zero, List.set_cons_succ])
      refine planZ_done ?_
      have HF := Lib.hid hI3
      clear hba hSa hyr hrc hI3 hY2 hS
      go_wp2_with fail
      go_roundw
      case rel => exact ⟨m, _, by omega, rfl, HF⟩
      case measure => simp [intOf]
    · obtain rfl : j = 0 := by omega
      obtain ⟨yk, yn, ys, yu, yao, ycap, yl⟩ := te
      have hcs := chg_setRow wr W.heap.size #[.int .i8 yk, .int .i64 yn, .string ys, .string yu, .slice yao yl.length ycap]
      have HX := Lib.hid (setRow_heap wr W.heap.size _ #[.int .i8 yk, .int .i64 yn, .string ys, .string yu, .slice yao yl.length ycap] _ _ HI.out.hX)
      have HFIN : Hid (FrP S W L (.returned (.tuple #[.agg #[.int .i8 yk, .int .i64 yn, .string ys, .string yu, .slice yao yl.length ycap], .int .i64 0])) (wr.setRow W.heap.size #[.int .i8 yk, .int .i64 yn, .string ys, .string yu, .slice yao yl.length ycap])) := Lib.hid (by
        obtain ⟨G, hyr⟩ := HI.out.hrs
        refine ⟨HI.out.hb.trans (hcs.below (B := W.heap.size) HI.out.hb.size (fun k e => by have e : k = W.heap.size := e; omega)), ⟨yk, yn, ys, yu, yao, ycap, yl⟩, G, rfl, HI.out.ht, ?_⟩
        exact ⟨HI.out.hf, hyr.chg (S' := fun k => S k ∨ W.heap.size < k) hcs (fun k hk _ e => by
          have e : k = W.heap.size := e
          rcases hk with hk | hk
          · have := hSW k hk
            omega
          · omega) (fun k hk _ => hk.imp id fun h => by omega) (Nat.le_refl _)⟩)
      clear hcs
      go_wp2_with (with_reducible refine stop_op (o := ⟨_, .load 27 (.tmp 6), _, _, _, _⟩) ?_)
      refine Lib.hid ?_
      refine wpList_load_row (o := ⟨_, _, _, _, _, _⟩) rfl 27 (.tmp 6) rfl Y rfl 27 #[.int .i8 yk, .int .i64 yn, .string ys, .string yu, .slice yao yl.length ycap] (0, 0) _ HI.out.hY Tryd.underlying27 rfl (infoTM' _ rfl) ?_
      go_wp2_with (with_reducible refine stop_op (o := ⟨_, .store 27 (.tmp 2) (.tmp 41), _, _, _, _⟩) ?_)
      refine Lib.hid ?_
      refine wpList_store_row (o := ⟨none, _, _, _, _, _⟩) rfl 27 (.tmp 2) (.tmp 41) rfl W.heap.size #[.int .i8 yk, .int .i64 yn, .string ys, .string yu, .slice yao yl.length ycap] rfl rfl 27 zT HI.out.hX (infoTM' _ rfl) rfl (by simp [Value.oneCell']) ?_
      go_wp2_with fail
      exact ret_row HX.out rfl Tryd.underlying27 rfl (infoTM' _ rfl) rfl rfl HFIN.out
end Go.Proofs.YtepfmanbllegiaaDoor
