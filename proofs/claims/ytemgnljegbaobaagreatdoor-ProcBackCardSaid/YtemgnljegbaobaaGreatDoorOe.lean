/- the reference's comparison of two frames that differ in where their rows lie alone (printed by genoe.py). Conditions: what they hold reads. -/
import Derived.Test.YtemgnljegbaobaaGreatDoorOd
namespace Go.Proofs.YtemgnljegbaobaaGreatDoor
open Go.ChangeShapes Go.WideShapes Go.ChangeAt Go.RowKit
set_option linter.unusedVariables false
set_option linter.unusedSimpArgs false
set_option maxRecDepth 100000
/-- a frame's cells that are no rows -/
structure Fs where
  (k fn pc wt ph pid ref at_ nn : Int)
  (tk tn : Int) (ts tu : ByteArray) (tl : Value)
  (uk un : Int) (us uu : ByteArray) (ul : Value)
  (vk vn : Int) (vs vu : ByteArray) (vl : Value)
  (st mr mt : Int) (sa : Option Addr) (sn sc : Nat)
def fcells (s : Fs) (r3 r4 r5 r6 r28 r33 r34 : Value) : Array Value := #[.int .i8 s.k, .int .i64 s.fn, .int .i64 s.pc, r3, r4, r5, r6, .int .i64 s.wt, .int .i8 s.ph, .int .i64 s.pid, .int .i64 s.ref, .int .i64 s.at_, .int .i64 s.nn, .int .i8 s.tk, .int .i64 s.tn, .string s.ts, .string s.tu, s.tl, .int .i8 s.uk, .int .i64 s.un, .string s.us, .string s.uu, s.ul, .int .i8 s.vk, .int .i64 s.vn, .string s.vs, .string s.vu, s.vl, r28, .int .i8 s.st, .int .i64 s.mr, .int .i64 s.mt, .slice s.sa s.sn s.sc, r33, r34]
def mcells (s : Fs) (r28 r33 r34 : Value) : List Value := [.int .i8 s.ph, .int .i64 s.pid, .int .i64 s.ref, .int .i64 s.at_, .int .i64 s.nn, .int .i8 s.tk, .int .i64 s.tn, .string s.ts, .string s.tu, s.tl, .int .i8 s.uk, .int .i64 s.un, .string s.us, .string s.uu, s.ul, .int .i8 s.vk, .int .i64 s.vn, .string s.vs, .string s.vu, s.vl, r28, .int .i8 s.st, .int .i64 s.mr, .int .i64 s.mt, .slice s.sa s.sn s.sc, r33, r34]
theorem fcells_m (s : Fs) (r3 r4 r5 r6 r28 r33 r34 : Value) (j : Nat) : (fcells s r3 r4 r5 r6 r28 r33 r34)[8 + j]? = (mcells s r28 r33 r34)[j]? := by
  have h : fcells s r3 r4 r5 r6 r28 r33 r34 = ([Value.int .i8 s.k, Value.int .i64 s.fn, Value.int .i64 s.pc, r3, r4, r5, r6, Value.int .i64 s.wt] ++ mcells s r28 r33 r34).toArray := rfl
  rw [h, List.getElem?_toArray, List.getElem?_append_right (by simp)]
  simp
/-- what a frame's cells and rows hold, read -/
structure FrT (w : World) (s : Fs) (X : Fx) : Prop where
  t1 : TmOk w [.int .i8 s.tk, .int .i64 s.tn, .string s.ts, .string s.tu, s.tl]
  t2 : TmOk w [.int .i8 s.uk, .int .i64 s.un, .string s.us, .string s.uu, s.ul]
  t3 : TmOk w [.int .i8 s.vk, .int .i64 s.vn, .string s.vs, .string s.vu, s.vl]
  sp : SpOk (fun c => ∃ f, CdOk f w c) w [.int .i8 s.st, .int .i64 s.mr, .int .i64 s.mt, .slice s.sa s.sn s.sc]
  x3 : TsOk w X.x3 X.n3
  x5 : TsOk w X.x5 X.n5
  x28 : RsOk w X.x28 X.n28
  x4 : ∃ ps : List Bool, X.n4 = ps.length ∧ X.x4 = bvs ps
  x6 : ∃ ps : List (Int × Int), X.n6 = ps.length ∧ X.x6 = wv ps
  x33 : ∃ ps : List Int, X.n33 = ps.length ∧ X.x33 = iv ps
  x34 : ∃ ps : List Int, X.n34 = ps.length ∧ X.x34 = iv ps
theorem FrT.keep {w w' : World} {s : Fs} {X : Fx} (h : FrT w s X) (hb : Below w.heap.size w w') : FrT w' s X :=
  ⟨h.t1.keep hb, h.t2.keep hb, h.t3.keep hb, h.sp.keep hb fun c ⟨f, hc⟩ => ⟨f, hc.keep hb⟩, h.x3.keep hb, h.x5.keep hb, h.x28.keep hb, h.x4, h.x6, h.x33, h.x34⟩
def FEq (s : Fs) (A : Array Value) : Prop := ∃ r3 r4 r5 r6 r28 r33 r34, A = fcells s r3 r4 r5 r6 r28 r33 r34
def M0 (x : Nat) (la lb : List Value) (W : World) : Prop := W.rangeAt x 8 la ∧ W.rangeAt (x + 1) 8 lb
theorem M0.keep {x : Nat} {la lb : List Value} {W W' : World} (h : M0 x la lb W) (hb : Below W.heap.size W W') : M0 x la lb W' := ⟨fun j v hj => keep_cell (h.1 j v hj) hb, fun j v hj => keep_cell (h.2 j v hj) hb⟩
theorem infoMA {cs : Array Value} (h : cs.size = 27) : (Tryz.prog.info? 63).map (·.size) = some cs.size := by
  have : (Tryz.prog.info? 63).map (·.size) = some 27 := by kernel_rfl
  rw [this, h]
theorem infoMAl {cs : List Value} (h : cs.length = 27) : (Tryz.prog.info? 63).map (·.size) = some cs.length := by
  have : (Tryz.prog.info? 63).map (·.size) = some 27 := by kernel_rfl
  rw [this, h]
theorem all_at {p : Value → Bool} {cs : Array Value} {i : Nat} {v : Value} (h : cs.all p = true) (hv : cs[i]? = some v) : p v = true := by
  rw [Array.all_eq_true] at h
  obtain ⟨hi, rfl⟩ := Array.getElem?_eq_some_iff.1 hv
  exact h i hi
theorem mcells_one (s : Fs) (r28 r33 r34 : Value) (h1 : s.tl.oneCell' = true) (h2 : s.ul.oneCell' = true) (h3 : s.vl.oneCell' = true) (h4 : r28.oneCell' = true) (h5 : r33.oneCell' = true) (h6 : r34.oneCell' = true) : (mcells s r28 r33 r34).toArray.all (·.oneCell') = true := by
  simp [mcells, Value.oneCell']
  exact ⟨h1, h2, h3, h4, h5, h6⟩
/-- two new boxes -/
structure Mb (w W : World) (p q : Nat) (A B : Array Value) : Prop where
  hb : Below w.heap.size w W
  hp : W.heap[p]? = some (.cells A 63 (0, 0))
  hq : W.heap[q]? = some (.cells B 63 (0, 0))
  ne : p ≠ q
  gp : w.heap.size ≤ p
  gq : w.heap.size ≤ q
theorem Mb.setp {w W : World} {p q : Nat} {A B : Array Value} (h : Mb w W p q A B) (C : Array Value) : Mb w (W.setRow p C) p q C B :=
  ⟨bel_setRow h.hb h.hb.size h.gp C, setRow_heap W p A C 63 (0, 0) h.hp, (setRow_other _ _ _ _ (Ne.symm h.ne)).trans h.hq, h.ne, h.gp, h.gq⟩
theorem Mb.setq {w W : World} {p q : Nat} {A B : Array Value} (h : Mb w W p q A B) (C : Array Value) : Mb w (W.setRow q C) p q A C :=
  ⟨bel_setRow h.hb h.hb.size h.gq C, (setRow_other _ _ _ _ h.ne).trans h.hp, setRow_heap W q B C 63 (0, 0) h.hq, h.ne, h.gp, h.gq⟩
theorem eqT_true (t : Tm) : eqT t t = true := eqT_refl t
set_option maxHeartbeats 16000000 in
theorem sameframe_any (w : World) (s : Fs) (X : Fx) (A B : Array Value) (hA : FrX w A X) (hB : FrX w B X) (eA : FEq s A) (eB : FEq s B) (hT : FrT w s X) : Calls Tryz.prog 86 #[.agg A, .agg B] w (IsPost w true) := by
  obtain ⟨a3, a4, a5, a6, a28, a33, a34, eqA⟩ := eA
  obtain ⟨szA, oneA, ⟨av3, ae3, aq3⟩, ⟨av4, ae4, aq4⟩, ⟨av5, ae5, aq5⟩, ⟨av6, ae6, aq6⟩, ⟨av28, ae28, aq28⟩, ⟨av33, ae33, aq33⟩, ⟨av34, ae34, aq34⟩⟩ := hA
  obtain rfl : a3 = av3 := Option.some.inj (by rw [eqA] at ae3; exact ae3)
  obtain rfl : a4 = av4 := Option.some.inj (by rw [eqA] at ae4; exact ae4)
  obtain rfl : a5 = av5 := Option.some.inj (by rw [eqA] at ae5; exact ae5)
  obtain rfl : a6 = av6 := Option.some.inj (by rw [eqA] at ae6; exact ae6)
  obtain rfl : a28 = av28 := Option.some.inj (by rw [eqA] at ae28; exact ae28)
  obtain rfl : a33 = av33 := Option.some.inj (by rw [eqA] at ae33; exact ae33)
  obtain rfl : a34 = av34 := Option.some.inj (by rw [eqA] at ae34; exact ae34)
  obtain ⟨b3, b4, b5, b6, b28, b33, b34, eqB⟩ := eB
  obtain ⟨szB, oneB, ⟨bv3, be3, bq3⟩, ⟨bv4, be4, bq4⟩, ⟨bv5, be5, bq5⟩, ⟨bv6, be6, bq6⟩, ⟨bv28, be28, bq28⟩, ⟨bv33, be33, bq33⟩, ⟨bv34, be34, bq34⟩⟩ := hB
  obtain rfl : b3 = bv3 := Option.some.inj (by rw [eqB] at be3; exact be3)
  obtain rfl : b4 = bv4 := Option.some.inj (by rw [eqB] at be4; exact be4)
  obtain rfl : b5 = bv5 := Option.some.inj (by rw [eqB] at be5; exact be5)
  obtain rfl : b6 = bv6 := Option.some.inj (by rw [eqB] at be6; exact be6)
  obtain rfl : b28 = bv28 := Option.some.inj (by rw [eqB] at be28; exact be28)
  obtain rfl : b33 = bv33 := Option.some.inj (by rw [eqB] at be33; exact be33)
  obtain rfl : b34 = bv34 := Option.some.inj (by rw [eqB] at be34; exact be34)
  obtain ⟨p4, en4, ex4⟩ := hT.x4
  obtain ⟨p6, en6, ex6⟩ := hT.x6
  obtain ⟨p33, en33, ex33⟩ := hT.x33
  obtain ⟨p34, en34, ex34⟩ := hT.x34
  rw [en4, ex4] at aq4 bq4
  rw [en6, ex6] at aq6 bq6
  rw [en33, ex33] at aq33 bq33
  rw [en34, ex34] at aq34 bq34
  obtain ⟨ao3, c3, rfl, -, -⟩ := aq3.slice
  obtain ⟨ao4, c4, rfl, -, -⟩ := aq4.slice
  obtain ⟨ao5, c5, rfl, -, -⟩ := aq5.slice
  obtain ⟨ao6, c6, rfl, -, -⟩ := aq6.slice
  obtain ⟨ao28, c28, rfl, -, -⟩ := aq28.slice
  obtain ⟨ao33, c33, rfl, -, -⟩ := aq33.slice
  obtain ⟨ao34, c34, rfl, -, -⟩ := aq34.slice
  obtain ⟨bo3, d3, rfl, -, -⟩ := bq3.slice
  obtain ⟨bo4, d4, rfl, -, -⟩ := bq4.slice
  obtain ⟨bo5, d5, rfl, -, -⟩ := bq5.slice
  obtain ⟨bo6, d6, rfl, -, -⟩ := bq6.slice
  obtain ⟨bo28, d28, rfl, -, -⟩ := bq28.slice
  obtain ⟨bo33, d33, rfl, -, -⟩ := bq33.slice
  obtain ⟨bo34, d34, rfl, -, -⟩ := bq34.slice
  have l17 := all_at (i := 17) (v := s.tl) oneA (by rw [eqA]; rfl)
  have l22 := all_at (i := 22) (v := s.ul) oneA (by rw [eqA]; rfl)
  have l27 := all_at (i := 27) (v := s.vl) oneA (by rw [eqA]; rfl)
  have oA := mcells_one s (.slice ao28 X.n28 c28) (.slice ao33 p33.length c33) (.slice ao34 p34.length c34) l17 l22 l27 rfl rfl rfl
  have oB := mcells_one s (.slice bo28 X.n28 d28) (.slice bo33 p33.length d33) (.slice bo34 p34.length d34) l17 l22 l27 rfl rfl rfl
  have gA0 : A[0]? = some (.int .i8 s.k) := by rw [eqA]; rfl
  have gA1 : A[1]? = some (.int .i64 s.fn) := by rw [eqA]; rfl
  have gA2 : A[2]? = some (.int .i64 s.pc) := by rw [eqA]; rfl
  have gA3 : A[3]? = some ((.slice ao3 X.n3 c3)) := by rw [eqA]; rfl
  have gA4 : A[4]? = some ((.slice ao4 p4.length c4)) := by rw [eqA]; rfl
  have gA5 : A[5]? = some ((.slice ao5 X.n5 c5)) := by rw [eqA]; rfl
  have gA6 : A[6]? = some ((.slice ao6 p6.length c6)) := by rw [eqA]; rfl
  have gA7 : A[7]? = some (.int .i64 s.wt) := by rw [eqA]; rfl
  have gMA : ∀ (j : Nat) (u : Value), (mcells s (.slice ao28 X.n28 c28) (.slice ao33 p33.length c33) (.slice ao34 p34.length c34))[j]? = some u → A[8 + j]? = some u := fun j u hj => by rw [eqA, fcells_m]; exact hj
  have gB0 : B[0]? = some (.int .i8 s.k) := by rw [eqB]; rfl
  have gB1 : B[1]? = some (.int .i64 s.fn) := by rw [eqB]; rfl
  have gB2 : B[2]? = some (.int .i64 s.pc) := by rw [eqB]; rfl
  have gB3 : B[3]? = some ((.slice bo3 X.n3 d3)) := by rw [eqB]; rfl
  have gB4 : B[4]? = some ((.slice bo4 p4.length d4)) := by rw [eqB]; rfl
  have gB5 : B[5]? = some ((.slice bo5 X.n5 d5)) := by rw [eqB]; rfl
  have gB6 : B[6]? = some ((.slice bo6 p6.length d6)) := by rw [eqB]; rfl
  have gB7 : B[7]? = some (.int .i64 s.wt) := by rw [eqB]; rfl
  have gMB : ∀ (j : Nat) (u : Value), (mcells s (.slice bo28 X.n28 d28) (.slice bo33 p33.length d33) (.slice bo34 p34.length d34))[j]? = some u → B[8 + j]? = some u := fun j u hj => by rw [eqB, fcells_m]; exact hj
  obtain ⟨b1, b2, hb, hz⟩ := two_boxes w (.cells A 65) (.cells B 65)
  have HRA := Lib.hid (And.intro (aq3.keep hb) (And.intro (aq4.keep hb) (And.intro (aq5.keep hb) (And.intro (aq6.keep hb) (And.intro (aq28.keep hb) (And.intro (aq33.keep hb) (aq34.keep hb)))))))
  have HRB := Lib.hid (And.intro (bq3.keep hb) (And.intro (bq4.keep hb) (And.intro (bq5.keep hb) (And.intro (bq6.keep hb) (And.intro (bq28.keep hb) (And.intro (bq33.keep hb) (bq34.keep hb)))))))
  have HTT := Lib.hid (hT.keep hb)
  have HB := Lib.hid (And.intro hb (And.intro b1 b2))
  have HLa : (mcells s (.slice ao28 X.n28 c28) (.slice ao33 p33.length c33) (.slice ao34 p34.length c34)).toArray.size = 27 := rfl
  have HLb : (mcells s (.slice bo28 X.n28 d28) (.slice bo33 p33.length d33) (.slice bo34 p34.length d34)).toArray.size = 27 := rfl
  obtain ⟨la, hla⟩ : ∃ la, la = mcells s (.slice ao28 X.n28 c28) (.slice ao33 p33.length c33) (.slice ao34 p34.length c34) := ⟨_, rfl⟩
  obtain ⟨lb, hlb⟩ : ∃ lb, lb = mcells s (.slice bo28 X.n28 d28) (.slice bo33 p33.length d33) (.slice bo34 p34.length d34) := ⟨_, rfl⟩
  rw [← hla] at oA HLa gMA
  rw [← hlb] at oB HLb gMB
  have HL := Lib.hid (And.intro (And.intro oA HLa) (And.intro oB HLb))
  have HG := Lib.hid (And.intro gMA gMB)
  have HE := Lib.hid (And.intro hla hlb)
  obtain ⟨x0, -⟩ := cells_at b1 0 _ gA0
  obtain ⟨y0, -⟩ := cells_at b2 0 _ gB0
  obtain ⟨x1, -⟩ := cells_at b1 1 _ gA1
  obtain ⟨y1, -⟩ := cells_at b2 1 _ gB1
  obtain ⟨x2, -⟩ := cells_at b1 2 _ gA2
  obtain ⟨y2, -⟩ := cells_at b2 2 _ gB2
  obtain ⟨x3, -⟩ := cells_at b1 3 _ gA3
  obtain ⟨y3, -⟩ := cells_at b2 3 _ gB3
  obtain ⟨x7, -⟩ := cells_at b1 7 _ gA7
  obtain ⟨y7, -⟩ := cells_at b2 7 _ gB7
  have HGA := Lib.hid (And.intro gA4 (And.intro gA5 gA6))
  have HGB := Lib.hid (And.intro gB4 (And.intro gB5 gB6))
  clear eqA eqB oneA oneB aq3 aq4 aq5 aq6 aq28 aq33 aq34 bq3 bq4 bq5 bq6 bq28 bq33 bq34 ae3 ae4 ae5 ae6 ae28 ae33 ae34 be3 be4 be5 be6 be28 be33 be34 hT en4 en6 en33 en34 ex4 ex6 ex33 ex34 l17 l22 l27 oA oB HLa HLb gMA gMB hla hlb hb hz b1 b2 gA0 gA1 gA2 gA3 gA4 gA5 gA6 gA7 gB0 gB1 gB2 gB3 gB4 gB5 gB6 gB7
  go_enter Tryz.func86, Tryz.ntmps86
  go_wp2_with fail
  generalize (w.alloc (.cells A 65)).alloc (.cells B 65) = w1 at *
  clear x0 x1 x2 x3 x7 y0 y1 y2 y3 y7
  refine (sameall_any w1 _ _ _ _ HRA.out.1 HRB.out.1 HTT.out.x3).mono ?_
  rintro e w2 ⟨rfl, hb2⟩
  have HB2 := Lib.hid hb2
  obtain ⟨x4, -⟩ := cells_at (keep_heap HB.out.2.1 hb2) 4 _ HGA.out.1
  obtain ⟨y4, -⟩ := cells_at (keep_heap HB.out.2.2 hb2) 4 _ HGB.out.1
  clear hb2
  go_wp2_with fail
  refine (sameB_any w2 _ _ p4 (HRA.out.2.1.keep HB2.out) (HRB.out.2.1.keep HB2.out)).mono ?_
  rintro e w3 ⟨rfl, hb3⟩
  have HB3 := Lib.hid (HB2.out.trans (hb3.mono HB2.out.size))
  obtain ⟨x5, -⟩ := cells_at (keep_heap HB.out.2.1 HB3.out) 5 _ HGA.out.2.1
  obtain ⟨y5, -⟩ := cells_at (keep_heap HB.out.2.2 HB3.out) 5 _ HGB.out.2.1
  clear hb3 HB2 x4 y4
  go_wp2_with fail
  refine (sameall_any w3 _ _ _ _ (HRA.out.2.2.1.keep HB3.out) (HRB.out.2.2.1.keep HB3.out) (HTT.out.x5.keep HB3.out)).mono ?_
  rintro e w4 ⟨rfl, hb4⟩
  have HB4 := Lib.hid (HB3.out.trans (hb4.mono HB3.out.size))
  obtain ⟨x6, -⟩ := cells_at (keep_heap HB.out.2.1 HB4.out) 6 _ HGA.out.2.2
  obtain ⟨y6, -⟩ := cells_at (keep_heap HB.out.2.2 HB4.out) 6 _ HGB.out.2.2
  clear hb4 HB3 x5 y5
  go_wp2_with fail
  refine (sameY_any w4 _ _ p6 (HRA.out.2.2.2.1.keep HB4.out) (HRB.out.2.2.2.1.keep HB4.out)).mono ?_
  rintro e w5 ⟨rfl, hb5⟩
  have HB5 := Lib.hid (HB4.out.trans (hb5.mono HB4.out.size))
  clear hb5 HB4 x6 y6
  go_wp2_with fail
  have hd := (Below.refl w5.heap.size w5).drew
  have hb6 := HB5.out.trans (hd.mono HB5.out.size)
  have hS : M0 w.heap.size la lb w5.drew := ⟨fun j v hj => (cells_at (keep_heap HB.out.2.1 hb6) (8 + j) _ (HG.out.1 j v hj)).1, fun j v hj => (cells_at (keep_heap HB.out.2.2 hb6) (8 + j) _ (HG.out.2 j v hj)).1⟩
  obtain ⟨f1, t1, ht1⟩ := (HTT.out.t1.keep hb6).term
  obtain ⟨f2, t2, ht2⟩ := (HTT.out.t2.keep hb6).term
  obtain ⟨f3, t3, ht3⟩ := (HTT.out.t3.keep hb6).term
  have HT1 := Lib.hid ht1
  have HT2 := Lib.hid ht2
  have HT3 := Lib.hid ht3
  have hra := HRA.out
  have hrb := HRB.out
  have htt := HTT.out.keep hb6
  clear HRA HRB HTT
  have HRA := Lib.hid (And.intro (hra.1.keep hb6) (And.intro (hra.2.1.keep hb6) (And.intro (hra.2.2.1.keep hb6) (And.intro (hra.2.2.2.1.keep hb6) (And.intro (hra.2.2.2.2.1.keep hb6) (And.intro (hra.2.2.2.2.2.1.keep hb6) (hra.2.2.2.2.2.2.keep hb6)))))))
  have HRB := Lib.hid (And.intro (hrb.1.keep hb6) (And.intro (hrb.2.1.keep hb6) (And.intro (hrb.2.2.1.keep hb6) (And.intro (hrb.2.2.2.1.keep hb6) (And.intro (hrb.2.2.2.2.1.keep hb6) (And.intro (hrb.2.2.2.2.2.1.keep hb6) (hrb.2.2.2.2.2.2.keep hb6)))))))
  have HTT := Lib.hid htt
  have HB6 := Lib.hid (HB.out.1.trans (hb6.mono HB.out.1.size))
  clear hd hb6 hra hrb htt ht1 ht2 ht3 HB HB5 HGA HGB HG
  refine region_plan (M0 w.heap.size la lb) [(0, 0), (1, 0), (2, 0), (3, 0), (4, 7), (6, 1), (7, 1)] (by kernel_rfl) (by kernel_rfl) (by kernel_rfl) hS ?_
  generalize w5.drew = w6 at *
  have HS := Lib.hid hS
  iterate 1 (first | (refine plan_skip rfl ?_ ?_; (focus (rfl)); (try simp only [Act.put, List.setIfInBounds_toArray, List.set_cons_zero, List.set_cons_succ])) | (refine plan_take (v := ?_) rfl ?_ (fun w hSw => ?_) ?_; rotate_left; (focus (rfl)); (focus (unfold M0 at hSw; (go_simp <;> with_reducible rfl))); (try simp only [Act.put, List.setIfInBounds_toArray, List.set_cons_zero, List.set_cons_succ])))
  refine plan_take rfl ?_ (fun wS hSw => exec_load_mid 63 (.tmp 65) rfl w.heap.size 8 rfl la _ hSw.1 Tryz.underlying63 rfl (infoMAl HL.out.1.2)) ?_
  focus (rfl)
  (try simp only [Act.put, List.setIfInBounds_toArray, List.set_cons_zero, List.set_cons_succ])
  iterate 1 (first | (refine plan_skip rfl ?_ ?_; (focus (rfl)); (try simp only [Act.put, List.setIfInBounds_toArray, List.set_cons_zero, List.set_cons_succ])) | (refine plan_take (v := ?_) rfl ?_ (fun w hSw => ?_) ?_; rotate_left; (focus (rfl)); (focus (unfold M0 at hSw; (go_simp <;> with_reducible rfl))); (try simp only [Act.put, List.setIfInBounds_toArray, List.set_cons_zero, List.set_cons_succ])))
  refine plan_take rfl ?_ (fun wS hSw => exec_load_mid 63 (.tmp 67) rfl (w.heap.size + 1) 8 rfl lb _ hSw.2 Tryz.underlying63 rfl (infoMAl HL.out.2.2)) ?_
  focus (rfl)
  (try simp only [Act.put, List.setIfInBounds_toArray, List.set_cons_zero, List.set_cons_succ])
  refine ⟨?_, ?_⟩
  · skip
    refine plan_op rfl ?_ (fun K hK => ?_)
    focus (rfl)
    go_simp
    have hbn := (Below.refl w6.heap.size w6).alloc (Nat.le_refl _) (.cells #[z8, zI, zI, zI, zI, z8, zI, zS, zS, nS, z8, zI, zS, zS, nS, z8, zI, zS, zS, nS, nS, z8, zI, zI, nS, nS, nS] 63)
    have hS1 := hS.keep hbn
    refine hK.out _ _ hS1 ?_
    clear hK K
    (try simp only [Act.put, List.setIfInBounds_toArray, List.set_cons_zero, List.set_cons_succ])
    refine plan_op rfl ?_ (fun K hK => ?_)
    focus (rfl)
    go_simp
    have hbm := (Below.refl (w6.alloc (.cells #[z8, zI, zI, zI, zI, z8, zI, zS, zS, nS, z8, zI, zS, zS, nS, z8, zI, zS, zS, nS, nS, z8, zI, zI, nS, nS, nS] 63)).heap.size (w6.alloc (.cells #[z8, zI, zI, zI, zI, z8, zI, zS, zS, nS, z8, zI, zS, zS, nS, z8, zI, zS, zS, nS, nS, z8, zI, zI, nS, nS, nS] 63))).alloc (Nat.le_refl _) (.cells #[z8, zI, zI, zI, zI, z8, zI, zS, zS, nS, z8, zI, zS, zS, nS, z8, zI, zS, zS, nS, nS, z8, zI, zI, nS, nS, nS] 63)
    have hS2 := hS1.keep hbm
    refine hK.out _ _ hS2 ?_
    clear hK K
    (try simp only [Act.put, List.setIfInBounds_toArray, List.set_cons_zero, List.set_cons_succ])
    obtain ⟨m1, m2, m3, -⟩ := two_boxes w6 (.cells #[z8, zI, zI, zI, zI, z8, zI, zS, zS, nS, z8, zI, zS, zS, nS, z8, zI, zS, zS, nS, nS, z8, zI, zI, nS, nS, nS] 63) (.cells #[z8, zI, zI, zI, zI, z8, zI, zS, zS, nS, z8, zI, zS, zS, nS, z8, zI, zS, zS, nS, nS, z8, zI, zI, nS, nS, nS] 63)
    have HM : Hid (Mb w6 ((w6.alloc (.cells #[z8, zI, zI, zI, zI, z8, zI, zS, zS, nS, z8, zI, zS, zS, nS, z8, zI, zS, zS, nS, nS, z8, zI, zI, nS, nS, nS] 63)).alloc (.cells #[z8, zI, zI, zI, zI, z8, zI, zS, zS, nS, z8, zI, zS, zS, nS, z8, zI, zS, zS, nS, nS, z8, zI, zI, nS, nS, nS] 63)) w6.heap.size (w6.heap.size + 1) #[z8, zI, zI, zI, zI, z8, zI, zS, zS, nS, z8, zI, zS, zS, nS, z8, zI, zS, zS, nS, nS, z8, zI, zI, nS, nS, nS] #[z8, zI, zI, zI, zI, z8, zI, zS, zS, nS, z8, zI, zS, zS, nS, z8, zI, zS, zS, nS, nS, z8, zI, zI, nS, nS, nS]) := Lib.hid ⟨m3, m1, m2, by omega, by omega, by omega⟩
    clear hbn hbm hS hS1 hS2 m1 m2 m3
    generalize (w6.alloc (.cells #[z8, zI, zI, zI, zI, z8, zI, zS, zS, nS, z8, zI, zS, zS, nS, z8, zI, zS, zS, nS, nS, z8, zI, zI, nS, nS, nS] 63)).alloc (.cells #[z8, zI, zI, zI, zI, z8, zI, zS, zS, nS, z8, zI, zS, zS, nS, z8, zI, zS, zS, nS, nS, z8, zI, zI, nS, nS, nS] 63) = wB at *
    refine plan_run rfl ?_ (fun K hK => ?_)
    focus (rfl)
    refine wp_store_row 63 (.tmp 5) (.tmp 66) rfl w6.heap.size la.toArray rfl rfl 63 #[z8, zI, zI, zI, zI, z8, zI, zS, zS, nS, z8, zI, zS, zS, nS, z8, zI, zS, zS, nS, nS, z8, zI, zI, nS, nS, nS] HM.out.hp (infoMA HL.out.1.2) (by rw [HL.out.1.2]; rfl) HL.out.1.1 ?_
    have hm1 := HM.out.setp la.toArray
    have hS6 : M0 w.heap.size la lb (wB.setRow w6.heap.size la.toArray) := HS.out.keep hm1.hb
    refine hK.out _ _ (hS6) ?_
    clear hK K
    (try simp only [Act.put, List.setIfInBounds_toArray, List.set_cons_zero, List.set_cons_succ])
    have HM1 := Lib.hid hm1
    clear HM hm1 hS6
    generalize wB.setRow w6.heap.size la.toArray = wC at *
    refine plan_run rfl ?_ (fun K hK => ?_)
    focus (rfl)
    refine wp_store_row 63 (.tmp 6) (.tmp 68) rfl (w6.heap.size + 1) lb.toArray rfl rfl 63 #[z8, zI, zI, zI, zI, z8, zI, zS, zS, nS, z8, zI, zS, zS, nS, z8, zI, zS, zS, nS, nS, z8, zI, zI, nS, nS, nS] HM1.out.hq (infoMA HL.out.2.2) (by rw [HL.out.2.2]; rfl) HL.out.2.1 ?_
    have hm2 := HM1.out.setq lb.toArray
    have hS7 : M0 w.heap.size la lb (wC.setRow (w6.heap.size + 1) lb.toArray) := HS.out.keep hm2.hb
    refine hK.out _ _ (hS7) ?_
    clear hK K
    (try simp only [Act.put, List.setIfInBounds_toArray, List.set_cons_zero, List.set_cons_succ])
    have HMD := Lib.hid hm2
    clear HM1 hm2 hS7 HS
    generalize wC.setRow (w6.heap.size + 1) lb.toArray = wD at *
    refine plan_done ?_
    have HK0 := Lib.hid HMD.out.hb
    have HD0 := Lib.hid (Below.refl wD.heap.size wD)
    have hp := keep_heap HMD.out.hp HD0.out
    have hq := keep_heap HMD.out.hq HD0.out
    rw [HE.out.1] at hp
    rw [HE.out.2] at hq
    have x0 : World.cell? wD ⟨w6.heap.size, 0, none⟩ = some (.int .i8 s.ph) := (cells_at hp 0 _ rfl).1
    have y0 : World.cell? wD ⟨(w6.heap.size + 1), 0, none⟩ = some (.int .i8 s.ph) := (cells_at hq 0 _ rfl).1
    have x1 : World.cell? wD ⟨w6.heap.size, 1, none⟩ = some (.int .i64 s.pid) := (cells_at hp 1 _ rfl).1
    have y1 : World.cell? wD ⟨(w6.heap.size + 1), 1, none⟩ = some (.int .i64 s.pid) := (cells_at hq 1 _ rfl).1
    have x2 : World.cell? wD ⟨w6.heap.size, 2, none⟩ = some (.int .i64 s.ref) := (cells_at hp 2 _ rfl).1
    have y2 : World.cell? wD ⟨(w6.heap.size + 1), 2, none⟩ = some (.int .i64 s.ref) := (cells_at hq 2 _ rfl).1
    have x3 : World.cell? wD ⟨w6.heap.size, 3, none⟩ = some (.int .i64 s.at_) := (cells_at hp 3 _ rfl).1
    have y3 : World.cell? wD ⟨(w6.heap.size + 1), 3, none⟩ = some (.int .i64 s.at_) := (cells_at hq 3 _ rfl).1
    have x4 : World.cell? wD ⟨w6.heap.size, 4, none⟩ = some (.int .i64 s.nn) := (cells_at hp 4 _ rfl).1
    have y4 : World.cell? wD ⟨(w6.heap.size + 1), 4, none⟩ = some (.int .i64 s.nn) := (cells_at hq 4 _ rfl).1
    have x5 : World.cell? wD ⟨w6.heap.size, 5, none⟩ = some (.int .i8 s.tk) := (cells_at hp 5 _ rfl).1
    have y5 : World.cell? wD ⟨(w6.heap.size + 1), 5, none⟩ = some (.int .i8 s.tk) := (cells_at hq 5 _ rfl).1
    have x6 : World.cell? wD ⟨w6.heap.size, 6, none⟩ = some (.int .i64 s.tn) := (cells_at hp 6 _ rfl).1
    have y6 : World.cell? wD ⟨(w6.heap.size + 1), 6, none⟩ = some (.int .i64 s.tn) := (cells_at hq 6 _ rfl).1
    have x7 : World.cell? wD ⟨w6.heap.size, 7, none⟩ = some (.string s.ts) := (cells_at hp 7 _ rfl).1
    have y7 : World.cell? wD ⟨(w6.heap.size + 1), 7, none⟩ = some (.string s.ts) := (cells_at hq 7 _ rfl).1
    have x8 : World.cell? wD ⟨w6.heap.size, 8, none⟩ = some (.string s.tu) := (cells_at hp 8 _ rfl).1
    have y8 : World.cell? wD ⟨(w6.heap.size + 1), 8, none⟩ = some (.string s.tu) := (cells_at hq 8 _ rfl).1
    have x9 : World.cell? wD ⟨w6.heap.size, 9, none⟩ = some (s.tl) := (cells_at hp 9 _ rfl).1
    have y9 : World.cell? wD ⟨(w6.heap.size + 1), 9, none⟩ = some (s.tl) := (cells_at hq 9 _ rfl).1
    clear hp hq
    go_wp2_with fail
    clear x0 y0 x1 y1 x2 y2 x3 y3 x4 y4 x5 y5 x6 y6 x7 y7 x8 y8 x9 y9
    refine (rsame_any f1 f1 t1 t1 _ _ _ (HT1.out.keep HK0.out) (HT1.out.keep HK0.out)).mono ?_
    rintro e v1 ⟨rfl, hb1⟩
    rw [eqT_refl]
    have HD1 := Lib.hid (HD0.out.trans (hb1.mono HD0.out.size))
    have HK1 := Lib.hid (HK0.out.trans (hb1.mono HK0.out.size))
    clear hb1
    have hp := keep_heap HMD.out.hp HD1.out
    have hq := keep_heap HMD.out.hq HD1.out
    rw [HE.out.1] at hp
    rw [HE.out.2] at hq
    have x10 : World.cell? v1 ⟨w6.heap.size, 10, none⟩ = some (.int .i8 s.uk) := (cells_at hp 10 _ rfl).1
    have y10 : World.cell? v1 ⟨(w6.heap.size + 1), 10, none⟩ = some (.int .i8 s.uk) := (cells_at hq 10 _ rfl).1
    have x11 : World.cell? v1 ⟨w6.heap.size, 11, none⟩ = some (.int .i64 s.un) := (cells_at hp 11 _ rfl).1
    have y11 : World.cell? v1 ⟨(w6.heap.size + 1), 11, none⟩ = some (.int .i64 s.un) := (cells_at hq 11 _ rfl).1
    have x12 : World.cell? v1 ⟨w6.heap.size, 12, none⟩ = some (.string s.us) := (cells_at hp 12 _ rfl).1
    have y12 : World.cell? v1 ⟨(w6.heap.size + 1), 12, none⟩ = some (.string s.us) := (cells_at hq 12 _ rfl).1
    have x13 : World.cell? v1 ⟨w6.heap.size, 13, none⟩ = some (.string s.uu) := (cells_at hp 13 _ rfl).1
    have y13 : World.cell? v1 ⟨(w6.heap.size + 1), 13, none⟩ = some (.string s.uu) := (cells_at hq 13 _ rfl).1
    have x14 : World.cell? v1 ⟨w6.heap.size, 14, none⟩ = some (s.ul) := (cells_at hp 14 _ rfl).1
    have y14 : World.cell? v1 ⟨(w6.heap.size + 1), 14, none⟩ = some (s.ul) := (cells_at hq 14 _ rfl).1
    clear hp hq
    go_wp2_with fail
    clear x10 y10 x11 y11 x12 y12 x13 y13 x14 y14
    refine (rsame_any f2 f2 t2 t2 _ _ _ (HT2.out.keep HK1.out) (HT2.out.keep HK1.out)).mono ?_
    rintro e v2 ⟨rfl, hb2⟩
    rw [eqT_refl]
    have HD2 := Lib.hid (HD1.out.trans (hb2.mono HD1.out.size))
    have HK2 := Lib.hid (HK1.out.trans (hb2.mono HK1.out.size))
    clear hb2
    have hp := keep_heap HMD.out.hp HD2.out
    have hq := keep_heap HMD.out.hq HD2.out
    rw [HE.out.1] at hp
    rw [HE.out.2] at hq
    have x15 : World.cell? v2 ⟨w6.heap.size, 15, none⟩ = some (.int .i8 s.vk) := (cells_at hp 15 _ rfl).1
    have y15 : World.cell? v2 ⟨(w6.heap.size + 1), 15, none⟩ = some (.int .i8 s.vk) := (cells_at hq 15 _ rfl).1
    have x16 : World.cell? v2 ⟨w6.heap.size, 16, none⟩ = some (.int .i64 s.vn) := (cells_at hp 16 _ rfl).1
    have y16 : World.cell? v2 ⟨(w6.heap.size + 1), 16, none⟩ = some (.int .i64 s.vn) := (cells_at hq 16 _ rfl).1
    have x17 : World.cell? v2 ⟨w6.heap.size, 17, none⟩ = some (.string s.vs) := (cells_at hp 17 _ rfl).1
    have y17 : World.cell? v2 ⟨(w6.heap.size + 1), 17, none⟩ = some (.string s.vs) := (cells_at hq 17 _ rfl).1
    have x18 : World.cell? v2 ⟨w6.heap.size, 18, none⟩ = some (.string s.vu) := (cells_at hp 18 _ rfl).1
    have y18 : World.cell? v2 ⟨(w6.heap.size + 1), 18, none⟩ = some (.string s.vu) := (cells_at hq 18 _ rfl).1
    have x19 : World.cell? v2 ⟨w6.heap.size, 19, none⟩ = some (s.vl) := (cells_at hp 19 _ rfl).1
    have y19 : World.cell? v2 ⟨(w6.heap.size + 1), 19, none⟩ = some (s.vl) := (cells_at hq 19 _ rfl).1
    clear hp hq
    go_wp2_with fail
    clear x15 y15 x16 y16 x17 y17 x18 y18 x19 y19
    refine (rsame_any f3 f3 t3 t3 _ _ _ (HT3.out.keep HK2.out) (HT3.out.keep HK2.out)).mono ?_
    rintro e v3 ⟨rfl, hb3⟩
    rw [eqT_refl]
    have HD3 := Lib.hid (HD2.out.trans (hb3.mono HD2.out.size))
    have HK3 := Lib.hid (HK2.out.trans (hb3.mono HK2.out.size))
    clear hb3
    have hp := keep_heap HMD.out.hp HD3.out
    have hq := keep_heap HMD.out.hq HD3.out
    rw [HE.out.1] at hp
    rw [HE.out.2] at hq
    have x20 : World.cell? v3 ⟨w6.heap.size, 20, none⟩ = some (.slice ao28 X.n28 c28) := (cells_at hp 20 _ rfl).1
    have y20 : World.cell? v3 ⟨(w6.heap.size + 1), 20, none⟩ = some (.slice bo28 X.n28 d28) := (cells_at hq 20 _ rfl).1
    clear hp hq
    go_wp2_with fail
    clear x20 y20
    refine (samerecs_any _ _ _ _ _ (HRA.out.2.2.2.2.1.keep HK3.out) (HRB.out.2.2.2.2.1.keep HK3.out) (HTT.out.x28.keep HK3.out)).mono ?_
    rintro e v4 ⟨rfl, hb4⟩
    have HD4 := Lib.hid (HD3.out.trans (hb4.mono HD3.out.size))
    have HK4 := Lib.hid (HK3.out.trans (hb4.mono HK3.out.size))
    clear hb4
    have hp := keep_heap HMD.out.hp HD4.out
    have hq := keep_heap HMD.out.hq HD4.out
    rw [HE.out.1] at hp
    rw [HE.out.2] at hq
    have x21 : World.cell? v4 ⟨w6.heap.size, 21, none⟩ = some (.int .i8 s.st) := (cells_at hp 21 _ rfl).1
    have y21 : World.cell? v4 ⟨(w6.heap.size + 1), 21, none⟩ = some (.int .i8 s.st) := (cells_at hq 21 _ rfl).1
    have x22 : World.cell? v4 ⟨w6.heap.size, 22, none⟩ = some (.int .i64 s.mr) := (cells_at hp 22 _ rfl).1
    have y22 : World.cell? v4 ⟨(w6.heap.size + 1), 22, none⟩ = some (.int .i64 s.mr) := (cells_at hq 22 _ rfl).1
    have x23 : World.cell? v4 ⟨w6.heap.size, 23, none⟩ = some (.int .i64 s.mt) := (cells_at hp 23 _ rfl).1
    have y23 : World.cell? v4 ⟨(w6.heap.size + 1), 23, none⟩ = some (.int .i64 s.mt) := (cells_at hq 23 _ rfl).1
    have x24 : World.cell? v4 ⟨w6.heap.size, 24, none⟩ = some (.slice s.sa s.sn s.sc) := (cells_at hp 24 _ rfl).1
    have y24 : World.cell? v4 ⟨(w6.heap.size + 1), 24, none⟩ = some (.slice s.sa s.sn s.sc) := (cells_at hq 24 _ rfl).1
    clear hp hq
    go_wp2_with fail
    clear x21 y21 x22 y22 x23 y23 x24 y24
    refine (samesup_of _ _ _ (HTT.out.sp.keep HK4.out fun c hc => hc) (fun c ⟨f, hc⟩ W hW => samechild_any f W c ((hc.keep HK4.out).keep hW))).mono ?_
    rintro e v5 ⟨rfl, hb5⟩
    have HD5 := Lib.hid (HD4.out.trans (hb5.mono HD4.out.size))
    have HK5 := Lib.hid (HK4.out.trans (hb5.mono HK4.out.size))
    clear hb5
    have hp := keep_heap HMD.out.hp HD5.out
    have hq := keep_heap HMD.out.hq HD5.out
    rw [HE.out.1] at hp
    rw [HE.out.2] at hq
    have x25 : World.cell? v5 ⟨w6.heap.size, 25, none⟩ = some (.slice ao33 p33.length c33) := (cells_at hp 25 _ rfl).1
    have y25 : World.cell? v5 ⟨(w6.heap.size + 1), 25, none⟩ = some (.slice bo33 p33.length d33) := (cells_at hq 25 _ rfl).1
    clear hp hq
    go_wp2_with fail
    clear x25 y25
    refine (sameI_any _ _ _ p33 (HRA.out.2.2.2.2.2.1.keep HK5.out) (HRB.out.2.2.2.2.2.1.keep HK5.out)).mono ?_
    rintro e v6 ⟨rfl, hb6⟩
    have HD6 := Lib.hid (HD5.out.trans (hb6.mono HD5.out.size))
    have HK6 := Lib.hid (HK5.out.trans (hb6.mono HK5.out.size))
    clear hb6
    have hp := keep_heap HMD.out.hp HD6.out
    have hq := keep_heap HMD.out.hq HD6.out
    rw [HE.out.1] at hp
    rw [HE.out.2] at hq
    have x26 : World.cell? v6 ⟨w6.heap.size, 26, none⟩ = some (.slice ao34 p34.length c34) := (cells_at hp 26 _ rfl).1
    have y26 : World.cell? v6 ⟨(w6.heap.size + 1), 26, none⟩ = some (.slice bo34 p34.length d34) := (cells_at hq 26 _ rfl).1
    clear hp hq
    go_wp2_with fail
    clear x26 y26
    refine (sameI_any _ _ _ p34 (HRA.out.2.2.2.2.2.2.keep HK6.out) (HRB.out.2.2.2.2.2.2.keep HK6.out)).mono ?_
    rintro e v7 ⟨rfl, hb7⟩
    have HD7 := Lib.hid (HD6.out.trans (hb7.mono HD6.out.size))
    have HK7 := Lib.hid (HK6.out.trans (hb7.mono HK6.out.size))
    clear hb7
    go_wp2_with fail
    go_ret
    exact ⟨rfl, HB6.out.trans (HK7.out.mono HB6.out.size)⟩
  · skip
    refine plan_op rfl ?_ (fun K hK => ?_)
    focus (rfl)
    go_simp
    have hbn := (Below.refl w6.heap.size w6).alloc (Nat.le_refl _) (.cells #[z8, zI, zI, zI, zI, z8, zI, zS, zS, nS, z8, zI, zS, zS, nS, z8, zI, zS, zS, nS, nS, z8, zI, zI, nS, nS, nS] 63)
    have hS1 := hS.keep hbn
    refine hK.out _ _ hS1 ?_
    clear hK K
    (try simp only [Act.put, List.setIfInBounds_toArray, List.set_cons_zero, List.set_cons_succ])
    refine plan_op rfl ?_ (fun K hK => ?_)
    focus (rfl)
    go_simp
    have hbm := (Below.refl (w6.alloc (.cells #[z8, zI, zI, zI, zI, z8, zI, zS, zS, nS, z8, zI, zS, zS, nS, z8, zI, zS, zS, nS, nS, z8, zI, zI, nS, nS, nS] 63)).heap.size (w6.alloc (.cells #[z8, zI, zI, zI, zI, z8, zI, zS, zS, nS, z8, zI, zS, zS, nS, z8, zI, zS, zS, nS, nS, z8, zI, zI, nS, nS, nS] 63))).alloc (Nat.le_refl _) (.cells #[z8, zI, zI, zI, zI, z8, zI, zS, zS, nS, z8, zI, zS, zS, nS, z8, zI, zS, zS, nS, nS, z8, zI, zI, nS, nS, nS] 63)
    have hS2 := hS1.keep hbm
    refine hK.out _ _ hS2 ?_
    clear hK K
    (try simp only [Act.put, List.setIfInBounds_toArray, List.set_cons_zero, List.set_cons_succ])
    obtain ⟨m1, m2, m3, -⟩ := two_boxes w6 (.cells #[z8, zI, zI, zI, zI, z8, zI, zS, zS, nS, z8, zI, zS, zS, nS, z8, zI, zS, zS, nS, nS, z8, zI, zI, nS, nS, nS] 63) (.cells #[z8, zI, zI, zI, zI, z8, zI, zS, zS, nS, z8, zI, zS, zS, nS, z8, zI, zS, zS, nS, nS, z8, zI, zI, nS, nS, nS] 63)
    have HM : Hid (Mb w6 ((w6.alloc (.cells #[z8, zI, zI, zI, zI, z8, zI, zS, zS, nS, z8, zI, zS, zS, nS, z8, zI, zS, zS, nS, nS, z8, zI, zI, nS, nS, nS] 63)).alloc (.cells #[z8, zI, zI, zI, zI, z8, zI, zS, zS, nS, z8, zI, zS, zS, nS, z8, zI, zS, zS, nS, nS, z8, zI, zI, nS, nS, nS] 63)) (w6.heap.size + 1) w6.heap.size #[z8, zI, zI, zI, zI, z8, zI, zS, zS, nS, z8, zI, zS, zS, nS, z8, zI, zS, zS, nS, nS, z8, zI, zI, nS, nS, nS] #[z8, zI, zI, zI, zI, z8, zI, zS, zS, nS, z8, zI, zS, zS, nS, z8, zI, zS, zS, nS, nS, z8, zI, zI, nS, nS, nS]) := Lib.hid ⟨m3, m2, m1, by omega, by omega, by omega⟩
    clear hbn hbm hS hS1 hS2 m1 m2 m3
    generalize (w6.alloc (.cells #[z8, zI, zI, zI, zI, z8, zI, zS, zS, nS, z8, zI, zS, zS, nS, z8, zI, zS, zS, nS, nS, z8, zI, zI, nS, nS, nS] 63)).alloc (.cells #[z8, zI, zI, zI, zI, z8, zI, zS, zS, nS, z8, zI, zS, zS, nS, z8, zI, zS, zS, nS, nS, z8, zI, zI, nS, nS, nS] 63) = wB at *
    refine plan_run rfl ?_ (fun K hK => ?_)
    focus (rfl)
    refine wp_store_row 63 (.tmp 5) (.tmp 66) rfl (w6.heap.size + 1) la.toArray rfl rfl 63 #[z8, zI, zI, zI, zI, z8, zI, zS, zS, nS, z8, zI, zS, zS, nS, z8, zI, zS, zS, nS, nS, z8, zI, zI, nS, nS, nS] HM.out.hp (infoMA HL.out.1.2) (by rw [HL.out.1.2]; rfl) HL.out.1.1 ?_
    have hm1 := HM.out.setp la.toArray
    have hS6 : M0 w.heap.size la lb (wB.setRow (w6.heap.size + 1) la.toArray) := HS.out.keep hm1.hb
    refine hK.out _ _ (hS6) ?_
    clear hK K
    (try simp only [Act.put, List.setIfInBounds_toArray, List.set_cons_zero, List.set_cons_succ])
    have HM1 := Lib.hid hm1
    clear HM hm1 hS6
    generalize wB.setRow (w6.heap.size + 1) la.toArray = wC at *
    refine plan_run rfl ?_ (fun K hK => ?_)
    focus (rfl)
    refine wp_store_row 63 (.tmp 6) (.tmp 68) rfl w6.heap.size lb.toArray rfl rfl 63 #[z8, zI, zI, zI, zI, z8, zI, zS, zS, nS, z8, zI, zS, zS, nS, z8, zI, zS, zS, nS, nS, z8, zI, zI, nS, nS, nS] HM1.out.hq (infoMA HL.out.2.2) (by rw [HL.out.2.2]; rfl) HL.out.2.1 ?_
    have hm2 := HM1.out.setq lb.toArray
    have hS7 : M0 w.heap.size la lb (wC.setRow w6.heap.size lb.toArray) := HS.out.keep hm2.hb
    refine hK.out _ _ (hS7) ?_
    clear hK K
    (try simp only [Act.put, List.setIfInBounds_toArray, List.set_cons_zero, List.set_cons_succ])
    have HMD := Lib.hid hm2
    clear HM1 hm2 hS7 HS
    generalize wC.setRow w6.heap.size lb.toArray = wD at *
    refine plan_done ?_
    have HK0 := Lib.hid HMD.out.hb
    have HD0 := Lib.hid (Below.refl wD.heap.size wD)
    have hp := keep_heap HMD.out.hp HD0.out
    have hq := keep_heap HMD.out.hq HD0.out
    rw [HE.out.1] at hp
    rw [HE.out.2] at hq
    have x0 : World.cell? wD ⟨(w6.heap.size + 1), 0, none⟩ = some (.int .i8 s.ph) := (cells_at hp 0 _ rfl).1
    have y0 : World.cell? wD ⟨w6.heap.size, 0, none⟩ = some (.int .i8 s.ph) := (cells_at hq 0 _ rfl).1
    have x1 : World.cell? wD ⟨(w6.heap.size + 1), 1, none⟩ = some (.int .i64 s.pid) := (cells_at hp 1 _ rfl).1
    have y1 : World.cell? wD ⟨w6.heap.size, 1, none⟩ = some (.int .i64 s.pid) := (cells_at hq 1 _ rfl).1
    have x2 : World.cell? wD ⟨(w6.heap.size + 1), 2, none⟩ = some (.int .i64 s.ref) := (cells_at hp 2 _ rfl).1
    have y2 : World.cell? wD ⟨w6.heap.size, 2, none⟩ = some (.int .i64 s.ref) := (cells_at hq 2 _ rfl).1
    have x3 : World.cell? wD ⟨(w6.heap.size + 1), 3, none⟩ = some (.int .i64 s.at_) := (cells_at hp 3 _ rfl).1
    have y3 : World.cell? wD ⟨w6.heap.size, 3, none⟩ = some (.int .i64 s.at_) := (cells_at hq 3 _ rfl).1
    have x4 : World.cell? wD ⟨(w6.heap.size + 1), 4, none⟩ = some (.int .i64 s.nn) := (cells_at hp 4 _ rfl).1
    have y4 : World.cell? wD ⟨w6.heap.size, 4, none⟩ = some (.int .i64 s.nn) := (cells_at hq 4 _ rfl).1
    have x5 : World.cell? wD ⟨(w6.heap.size + 1), 5, none⟩ = some (.int .i8 s.tk) := (cells_at hp 5 _ rfl).1
    have y5 : World.cell? wD ⟨w6.heap.size, 5, none⟩ = some (.int .i8 s.tk) := (cells_at hq 5 _ rfl).1
    have x6 : World.cell? wD ⟨(w6.heap.size + 1), 6, none⟩ = some (.int .i64 s.tn) := (cells_at hp 6 _ rfl).1
    have y6 : World.cell? wD ⟨w6.heap.size, 6, none⟩ = some (.int .i64 s.tn) := (cells_at hq 6 _ rfl).1
    have x7 : World.cell? wD ⟨(w6.heap.size + 1), 7, none⟩ = some (.string s.ts) := (cells_at hp 7 _ rfl).1
    have y7 : World.cell? wD ⟨w6.heap.size, 7, none⟩ = some (.string s.ts) := (cells_at hq 7 _ rfl).1
    have x8 : World.cell? wD ⟨(w6.heap.size + 1), 8, none⟩ = some (.string s.tu) := (cells_at hp 8 _ rfl).1
    have y8 : World.cell? wD ⟨w6.heap.size, 8, none⟩ = some (.string s.tu) := (cells_at hq 8 _ rfl).1
    have x9 : World.cell? wD ⟨(w6.heap.size + 1), 9, none⟩ = some (s.tl) := (cells_at hp 9 _ rfl).1
    have y9 : World.cell? wD ⟨w6.heap.size, 9, none⟩ = some (s.tl) := (cells_at hq 9 _ rfl).1
    clear hp hq
    go_wp2_with fail
    clear x0 y0 x1 y1 x2 y2 x3 y3 x4 y4 x5 y5 x6 y6 x7 y7 x8 y8 x9 y9
    refine (rsame_any f1 f1 t1 t1 _ _ _ (HT1.out.keep HK0.out) (HT1.out.keep HK0.out)).mono ?_
    rintro e v1 ⟨rfl, hb1⟩
    rw [eqT_refl]
    have HD1 := Lib.hid (HD0.out.trans (hb1.mono HD0.out.size))
    have HK1 := Lib.hid (HK0.out.trans (hb1.mono HK0.out.size))
    clear hb1
    have hp := keep_heap HMD.out.hp HD1.out
    have hq := keep_heap HMD.out.hq HD1.out
    rw [HE.out.1] at hp
    rw [HE.out.2] at hq
    have x10 : World.cell? v1 ⟨(w6.heap.size + 1), 10, none⟩ = some (.int .i8 s.uk) := (cells_at hp 10 _ rfl).1
    have y10 : World.cell? v1 ⟨w6.heap.size, 10, none⟩ = some (.int .i8 s.uk) := (cells_at hq 10 _ rfl).1
    have x11 : World.cell? v1 ⟨(w6.heap.size + 1), 11, none⟩ = some (.int .i64 s.un) := (cells_at hp 11 _ rfl).1
    have y11 : World.cell? v1 ⟨w6.heap.size, 11, none⟩ = some (.int .i64 s.un) := (cells_at hq 11 _ rfl).1
    have x12 : World.cell? v1 ⟨(w6.heap.size + 1), 12, none⟩ = some (.string s.us) := (cells_at hp 12 _ rfl).1
    have y12 : World.cell? v1 ⟨w6.heap.size, 12, none⟩ = some (.string s.us) := (cells_at hq 12 _ rfl).1
    have x13 : World.cell? v1 ⟨(w6.heap.size + 1), 13, none⟩ = some (.string s.uu) := (cells_at hp 13 _ rfl).1
    have y13 : World.cell? v1 ⟨w6.heap.size, 13, none⟩ = some (.string s.uu) := (cells_at hq 13 _ rfl).1
    have x14 : World.cell? v1 ⟨(w6.heap.size + 1), 14, none⟩ = some (s.ul) := (cells_at hp 14 _ rfl).1
    have y14 : World.cell? v1 ⟨w6.heap.size, 14, none⟩ = some (s.ul) := (cells_at hq 14 _ rfl).1
    clear hp hq
    go_wp2_with fail
    clear x10 y10 x11 y11 x12 y12 x13 y13 x14 y14
    refine (rsame_any f2 f2 t2 t2 _ _ _ (HT2.out.keep HK1.out) (HT2.out.keep HK1.out)).mono ?_
    rintro e v2 ⟨rfl, hb2⟩
    rw [eqT_refl]
    have HD2 := Lib.hid (HD1.out.trans (hb2.mono HD1.out.size))
    have HK2 := Lib.hid (HK1.out.trans (hb2.mono HK1.out.size))
    clear hb2
    have hp := keep_heap HMD.out.hp HD2.out
    have hq := keep_heap HMD.out.hq HD2.out
    rw [HE.out.1] at hp
    rw [HE.out.2] at hq
    have x15 : World.cell? v2 ⟨(w6.heap.size + 1), 15, none⟩ = some (.int .i8 s.vk) := (cells_at hp 15 _ rfl).1
    have y15 : World.cell? v2 ⟨w6.heap.size, 15, none⟩ = some (.int .i8 s.vk) := (cells_at hq 15 _ rfl).1
    have x16 : World.cell? v2 ⟨(w6.heap.size + 1), 16, none⟩ = some (.int .i64 s.vn) := (cells_at hp 16 _ rfl).1
    have y16 : World.cell? v2 ⟨w6.heap.size, 16, none⟩ = some (.int .i64 s.vn) := (cells_at hq 16 _ rfl).1
    have x17 : World.cell? v2 ⟨(w6.heap.size + 1), 17, none⟩ = some (.string s.vs) := (cells_at hp 17 _ rfl).1
    have y17 : World.cell? v2 ⟨w6.heap.size, 17, none⟩ = some (.string s.vs) := (cells_at hq 17 _ rfl).1
    have x18 : World.cell? v2 ⟨(w6.heap.size + 1), 18, none⟩ = some (.string s.vu) := (cells_at hp 18 _ rfl).1
    have y18 : World.cell? v2 ⟨w6.heap.size, 18, none⟩ = some (.string s.vu) := (cells_at hq 18 _ rfl).1
    have x19 : World.cell? v2 ⟨(w6.heap.size + 1), 19, none⟩ = some (s.vl) := (cells_at hp 19 _ rfl).1
    have y19 : World.cell? v2 ⟨w6.heap.size, 19, none⟩ = some (s.vl) := (cells_at hq 19 _ rfl).1
    clear hp hq
    go_wp2_with fail
    clear x15 y15 x16 y16 x17 y17 x18 y18 x19 y19
    refine (rsame_any f3 f3 t3 t3 _ _ _ (HT3.out.keep HK2.out) (HT3.out.keep HK2.out)).mono ?_
    rintro e v3 ⟨rfl, hb3⟩
    rw [eqT_refl]
    have HD3 := Lib.hid (HD2.out.trans (hb3.mono HD2.out.size))
    have HK3 := Lib.hid (HK2.out.trans (hb3.mono HK2.out.size))
    clear hb3
    have hp := keep_heap HMD.out.hp HD3.out
    have hq := keep_heap HMD.out.hq HD3.out
    rw [HE.out.1] at hp
    rw [HE.out.2] at hq
    have x20 : World.cell? v3 ⟨(w6.heap.size + 1), 20, none⟩ = some (.slice ao28 X.n28 c28) := (cells_at hp 20 _ rfl).1
    have y20 : World.cell? v3 ⟨w6.heap.size, 20, none⟩ = some (.slice bo28 X.n28 d28) := (cells_at hq 20 _ rfl).1
    clear hp hq
    go_wp2_with fail
    clear x20 y20
    refine (samerecs_any _ _ _ _ _ (HRA.out.2.2.2.2.1.keep HK3.out) (HRB.out.2.2.2.2.1.keep HK3.out) (HTT.out.x28.keep HK3.out)).mono ?_
    rintro e v4 ⟨rfl, hb4⟩
    have HD4 := Lib.hid (HD3.out.trans (hb4.mono HD3.out.size))
    have HK4 := Lib.hid (HK3.out.trans (hb4.mono HK3.out.size))
    clear hb4
    have hp := keep_heap HMD.out.hp HD4.out
    have hq := keep_heap HMD.out.hq HD4.out
    rw [HE.out.1] at hp
    rw [HE.out.2] at hq
    have x21 : World.cell? v4 ⟨(w6.heap.size + 1), 21, none⟩ = some (.int .i8 s.st) := (cells_at hp 21 _ rfl).1
    have y21 : World.cell? v4 ⟨w6.heap.size, 21, none⟩ = some (.int .i8 s.st) := (cells_at hq 21 _ rfl).1
    have x22 : World.cell? v4 ⟨(w6.heap.size + 1), 22, none⟩ = some (.int .i64 s.mr) := (cells_at hp 22 _ rfl).1
    have y22 : World.cell? v4 ⟨w6.heap.size, 22, none⟩ = some (.int .i64 s.mr) := (cells_at hq 22 _ rfl).1
    have x23 : World.cell? v4 ⟨(w6.heap.size + 1), 23, none⟩ = some (.int .i64 s.mt) := (cells_at hp 23 _ rfl).1
    have y23 : World.cell? v4 ⟨w6.heap.size, 23, none⟩ = some (.int .i64 s.mt) := (cells_at hq 23 _ rfl).1
    have x24 : World.cell? v4 ⟨(w6.heap.size + 1), 24, none⟩ = some (.slice s.sa s.sn s.sc) := (cells_at hp 24 _ rfl).1
    have y24 : World.cell? v4 ⟨w6.heap.size, 24, none⟩ = some (.slice s.sa s.sn s.sc) := (cells_at hq 24 _ rfl).1
    clear hp hq
    go_wp2_with fail
    clear x21 y21 x22 y22 x23 y23 x24 y24
    refine (samesup_of _ _ _ (HTT.out.sp.keep HK4.out fun c hc => hc) (fun c ⟨f, hc⟩ W hW => samechild_any f W c ((hc.keep HK4.out).keep hW))).mono ?_
    rintro e v5 ⟨rfl, hb5⟩
    have HD5 := Lib.hid (HD4.out.trans (hb5.mono HD4.out.size))
    have HK5 := Lib.hid (HK4.out.trans (hb5.mono HK4.out.size))
    clear hb5
    have hp := keep_heap HMD.out.hp HD5.out
    have hq := keep_heap HMD.out.hq HD5.out
    rw [HE.out.1] at hp
    rw [HE.out.2] at hq
    have x25 : World.cell? v5 ⟨(w6.heap.size + 1), 25, none⟩ = some (.slice ao33 p33.length c33) := (cells_at hp 25 _ rfl).1
    have y25 : World.cell? v5 ⟨w6.heap.size, 25, none⟩ = some (.slice bo33 p33.length d33) := (cells_at hq 25 _ rfl).1
    clear hp hq
    go_wp2_with fail
    clear x25 y25
    refine (sameI_any _ _ _ p33 (HRA.out.2.2.2.2.2.1.keep HK5.out) (HRB.out.2.2.2.2.2.1.keep HK5.out)).mono ?_
    rintro e v6 ⟨rfl, hb6⟩
    have HD6 := Lib.hid (HD5.out.trans (hb6.mono HD5.out.size))
    have HK6 := Lib.hid (HK5.out.trans (hb6.mono HK5.out.size))
    clear hb6
    have hp := keep_heap HMD.out.hp HD6.out
    have hq := keep_heap HMD.out.hq HD6.out
    rw [HE.out.1] at hp
    rw [HE.out.2] at hq
    have x26 : World.cell? v6 ⟨(w6.heap.size + 1), 26, none⟩ = some (.slice ao34 p34.length c34) := (cells_at hp 26 _ rfl).1
    have y26 : World.cell? v6 ⟨w6.heap.size, 26, none⟩ = some (.slice bo34 p34.length d34) := (cells_at hq 26 _ rfl).1
    clear hp hq
    go_wp2_with fail
    clear x26 y26
    refine (sameI_any _ _ _ p34 (HRA.out.2.2.2.2.2.2.keep HK6.out) (HRB.out.2.2.2.2.2.2.keep HK6.out)).mono ?_
    rintro e v7 ⟨rfl, hb7⟩
    have HD7 := Lib.hid (HD6.out.trans (hb7.mono HD6.out.size))
    have HK7 := Lib.hid (HK6.out.trans (hb7.mono HK6.out.size))
    clear hb7
    go_wp2_with fail
    go_ret
    exact ⟨rfl, HB6.out.trans (HK7.out.mono HB6.out.size)⟩
end Go.Proofs.YtemgnljegbaobaaGreatDoor
