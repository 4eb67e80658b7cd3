/- spec.FromChild of the one process that the law makes. Conditions: the letters stand. -/
import Derived.Test.YtepfmanbllegiaaDoorMt18
namespace Go.Proofs.YtepfmanbllegiaaDoor
open Go.ChangeShapes Go.WideShapes Go.ChangeAt Go.RowKit
set_option linter.unusedVariables false
set_option linter.unusedSimpArgs false
set_option maxRecDepth 100000
theorem xf_nil (w : World) (f : Value) : Calls Tryd.prog 73 #[.slice none 0 0, f] w fun e w' => e = .returned (.int .i64 (-1)) ∧ Below w.heap.size w w' := by
  go_enter Tryd.func73, Tryd.ntmps73
  go_wp2_with fail
  go_loopw [5, 8] (fun a b wr => b = .int .i64 0 ∧ wr = w) (fun _ _ _ => 0)
  case atStart => exact ⟨rfl, rfl⟩
  case round =>
    obtain ⟨rfl, rfl⟩ := hrel
    go_wp2_with fail
    go_ret
    exact ⟨rfl, Below.refl _ _⟩
theorem cf_nil (w : World) (f : Value) : Calls Tryd.prog 57 #[.slice none 0 0, f] w fun e w' => e = .returned (.bool false) ∧ Below w.heap.size w w' := by
  go_enter Tryd.func57, Tryd.ntmps57
  go_wp2_with fail
  refine (xf_nil _ _).mono ?_
  rintro e w2 ⟨rfl, hb⟩
  go_wp2_with fail
  go_ret
  exact ⟨rfl, hb⟩
theorem may_a : mayS ⟨#[97]⟩ = true := by rw [mayS_eq _ (by decide)]; decide
theorem may_m : mayS ⟨#[109]⟩ = true := by rw [mayS_eq _ (by decide)]; decide
theorem may_f : mayS ⟨#[102]⟩ = true := by rw [mayS_eq _ (by decide)]; decide
theorem chk_a : checkN (atomT ⟨#[97]⟩).t = 0 := by decide +kernel
theorem c0_at {w : World} {p : Nat} {sh : Int} (h : w.heap[p]? = some (.cells #[.int .i8 1, .int .i64 0, .string ⟨#[97]⟩, .string ⟨#[]⟩, .slice none 0 0, .int .i8 1, .int .i8 0, .int .i64 sh, .string ⟨#[109]⟩, .string ⟨#[102]⟩, .slice none 0 0, .slice none 0 0] 44 (0, 0))) : w.cell? ⟨p, 0, none⟩ = some (.int .i8 1) ∧ w.cell? ⟨p, 1, none⟩ = some (.int .i64 0) ∧ w.cell? ⟨p, 2, none⟩ = some (.string ⟨#[97]⟩) ∧ w.cell? ⟨p, 3, none⟩ = some (.string ⟨#[]⟩) ∧ w.cell? ⟨p, 4, none⟩ = some (.slice none 0 0) ∧ w.cell? ⟨p, 5, none⟩ = some (.int .i8 1) ∧ w.cell? ⟨p, 6, none⟩ = some (.int .i8 0) ∧ w.cell? ⟨p, 7, none⟩ = some (.int .i64 sh) ∧ w.cell? ⟨p, 8, none⟩ = some (.string ⟨#[109]⟩) ∧ w.cell? ⟨p, 9, none⟩ = some (.string ⟨#[102]⟩) ∧ w.cell? ⟨p, 10, none⟩ = some (.slice none 0 0) ∧ w.cell? ⟨p, 11, none⟩ = some (.slice none 0 0) :=
  ⟨(cells_at h 0 _ rfl).1, (cells_at h 1 _ rfl).1, (cells_at h 2 _ rfl).1, (cells_at h 3 _ rfl).1, (cells_at h 4 _ rfl).1, (cells_at h 5 _ rfl).1, (cells_at h 6 _ rfl).1, (cells_at h 7 _ rfl).1, (cells_at h 8 _ rfl).1, (cells_at h 9 _ rfl).1, (cells_at h 10 _ rfl).1, (cells_at h 11 _ rfl).1⟩
def ChP (w : World) (q : Nat) (e : Ending) (w' : World) : Prop :=
  ∃ (x : TE) (b' : Bool), e = .returned (.tuple #[.agg #[.int .i8 x.k, .int .i64 x.n, .string x.s, .string x.u, .slice x.ao x.l.length x.cap], .bool true]) ∧ w'.heap[q]? = some (.cells #[.bool b'] 93 (0, 0)) ∧ Chg (fun k => k = q) w w'
structure CsS (sh : Int) (w W : World) (q p r : Nat) (b : Bool) (rs : Array Value) : Prop where
  hb : Chg (fun k => k = q) w W
  hq : W.heap[q]? = some (.cells #[.bool b] 93 (0, 0))
  hp : W.heap[p]? = some (.cells #[.int .i8 1, .int .i64 0, .string ⟨#[97]⟩, .string ⟨#[]⟩, .slice none 0 0, .int .i8 1, .int .i8 0, .int .i64 sh, .string ⟨#[109]⟩, .string ⟨#[102]⟩, .slice none 0 0, .slice none 0 0] 44 (0, 0))
  hx : W.heap[w.heap.size]? = some (.cells zT 27 (0, 0))
  hc : Cells W 0 letL
  hr : W.heap[r]? = some (.cells rs 9 (0, 0))
  hrl : w.heap.size ≤ r
theorem CsS.keep {sh : Int} {w W W' : World} {q p r : Nat} {b : Bool} {rs : Array Value} (h : CsS sh w W q p r b rs) (hb : Below W.heap.size W W') : CsS sh w W' q p r b rs :=
  ⟨h.hb.trans (chg_of_below hb _), keep_heap h.hq hb, keep_heap h.hp hb, keep_heap h.hx hb, keepCells h.hc hb, keep_heap h.hr hb, h.hrl⟩
/-- what stands while the child is written; z: what has been begun -/
structure CwS (sh : Int) (w W : World) (q p r : Nat) (b : Bool) (rs : Array Value) (x9 x10 : Nat) (zc : Array Value) : Prop where
  s : CsS sh w W q p r b rs
  h9 : W.heap[x9]? = some (.cells #[.int .i8 0, .int .i64 sh, .string ⟨#[]⟩, .string ⟨#[]⟩, .slice none 0 0] 27 (0, 0))
  h10 : W.heap[x10]? = some (.cells zc 27 (0, 0))
  l1 : w.heap.size < x9
  l2 : x9 < x10
section
variable {sh : Int} {w W W' : World} {q p r : Nat} {b b' : Bool} {rs zc zc' : Array Value} {x9 x10 : Nat}
theorem CwS.keep (h : CwS sh w W q p r b rs x9 x10 zc) (hb : Below W.heap.size W W') : CwS sh w W' q p r b rs x9 x10 zc :=
  ⟨h.s.keep hb, keep_heap h.h9 hb, keep_heap h.h10 hb, h.l1, h.l2⟩
theorem CwS.wr (h : CwS sh w W q p r b rs x9 x10 zc) (hc : Chg (fun k => k = q) W W') (hq : W'.heap[q]? = some (.cells #[.bool b'] 93 (0, 0))) (hqp : q < w.heap.size ∧ q ≠ p ∧ q ≠ 0) : CwS sh w W' q p r b' rs x9 x10 zc :=
  ⟨⟨h.s.hb.trans hc, hq, hc.heap h.s.hp (fun e => hqp.2.1 (show p = q from e).symm), hc.heap h.s.hx (by have := hqp.1; show ¬ _ = q; omega), let_chg h.s.hc hc (fun e => hqp.2.2 (show 0 = q from e).symm), hc.heap h.s.hr (by have := hqp.1; have := h.s.hrl; show ¬ _ = q; omega), h.s.hrl⟩,
   hc.heap h.h9 (by have := hqp.1; have := h.l1; show ¬ _ = q; omega), hc.heap h.h10 (by have := hqp.1; have := h.l1; have := h.l2; show ¬ _ = q; omega), h.l1, h.l2⟩
end
theorem five_ok (M : Nat → Prop) (w : World) : TeOk M w (atomT ⟨#[97]⟩) := atomT_ok _ _ _ (by decide)
def CcP (p : Nat) (W : World) : Prop := W.cell? ⟨p, 8, none⟩ = some (.string ⟨#[109]⟩) ∧ W.cell? ⟨p, 9, none⟩ = some (.string ⟨#[102]⟩) ∧ W.cell? ⟨p, 10, none⟩ = some (.slice none 0 0)
theorem CcP.keep {p : Nat} {W W' : World} (h : CcP p W) (hb : Below W.heap.size W W') : CcP p W' := ⟨keep_cell h.1 hb, keep_cell h.2.1 hb, keep_cell h.2.2 hb⟩
theorem CcP.chg {T : Nat → Prop} {p : Nat} {W W' : World} (h : CcP p W) (hc : Chg T W W') (hp : ¬ T p) : CcP p W' := ⟨hc.cell h.1 hp, hc.cell h.2.1 hp, hc.cell h.2.2 hp⟩
def CdP (p r x9 x10 : Nat) (sh : Int) (z : TE) (c0 : ByteArray) (W : World) : Prop :=
  (W.cell? ⟨p, 0, none⟩ = some (.int .i8 1) ∧ W.cell? ⟨p, 1, none⟩ = some (.int .i64 0) ∧ W.cell? ⟨p, 2, none⟩ = some (.string ⟨#[97]⟩) ∧ W.cell? ⟨p, 3, none⟩ = some (.string ⟨#[]⟩) ∧ W.cell? ⟨p, 4, none⟩ = some (.slice none 0 0) ∧ W.cell? ⟨p, 6, none⟩ = some (.int .i8 0) ∧ W.cell? ⟨r, 0, none⟩ = some (.string c0)) ∧
  (W.cell? ⟨x9, 0, none⟩ = some (.int .i8 0) ∧ W.cell? ⟨x9, 1, none⟩ = some (.int .i64 sh) ∧ W.cell? ⟨x9, 2, none⟩ = some (.string ⟨#[]⟩) ∧ W.cell? ⟨x9, 3, none⟩ = some (.string ⟨#[]⟩) ∧ W.cell? ⟨x9, 4, none⟩ = some (.slice none 0 0)) ∧
  W.cell? ⟨x10, 0, none⟩ = some (.int .i8 z.k) ∧ W.cell? ⟨x10, 1, none⟩ = some (.int .i64 z.n) ∧ W.cell? ⟨x10, 2, none⟩ = some (.string z.s) ∧ W.cell? ⟨x10, 3, none⟩ = some (.string z.u) ∧ W.cell? ⟨x10, 4, none⟩ = some (.slice z.ao z.l.length z.cap)
theorem CdP.keep {p r x9 x10 : Nat} {sh : Int} {z : TE} {c0 : ByteArray} {W W' : World} (h : CdP p r x9 x10 sh z c0 W) (hb : Below W.heap.size W W') : CdP p r x9 x10 sh z c0 W' :=
  ⟨⟨keep_cell h.1.1 hb, keep_cell h.1.2.1 hb, keep_cell h.1.2.2.1 hb, keep_cell h.1.2.2.2.1 hb, keep_cell h.1.2.2.2.2.1 hb, keep_cell h.1.2.2.2.2.2.1 hb, keep_cell h.1.2.2.2.2.2.2 hb⟩,
   ⟨keep_cell h.2.1.1 hb, keep_cell h.2.1.2.1 hb, keep_cell h.2.1.2.2.1 hb, keep_cell h.2.1.2.2.2.1 hb, keep_cell h.2.1.2.2.2.2 hb⟩,
   keep_cell h.2.2.1 hb, keep_cell h.2.2.2.1 hb, keep_cell h.2.2.2.2.1 hb, keep_cell h.2.2.2.2.2.1 hb, keep_cell h.2.2.2.2.2.2 hb⟩
theorem CdP.chg {T : Nat → Prop} {p r x9 x10 : Nat} {sh : Int} {z : TE} {c0 : ByteArray} {W W' : World} (h : CdP p r x9 x10 sh z c0 W) (hb : Chg T W W') (hp : ¬ T p) (hr : ¬ T r) (h9 : ¬ T x9) (h10 : ¬ T x10) : CdP p r x9 x10 sh z c0 W' :=
  ⟨⟨hb.cell h.1.1 hp, hb.cell h.1.2.1 hp, hb.cell h.1.2.2.1 hp, hb.cell h.1.2.2.2.1 hp, hb.cell h.1.2.2.2.2.1 hp, hb.cell h.1.2.2.2.2.2.1 hp, hb.cell h.1.2.2.2.2.2.2 hr⟩,
   ⟨hb.cell h.2.1.1 h9, hb.cell h.2.1.2.1 h9, hb.cell h.2.1.2.2.1 h9, hb.cell h.2.1.2.2.2.1 h9, hb.cell h.2.1.2.2.2.2 h9⟩,
   hb.cell h.2.2.1 h10, hb.cell h.2.2.2.1 h10, hb.cell h.2.2.2.2.1 h10, hb.cell h.2.2.2.2.2.1 h10, hb.cell h.2.2.2.2.2.2 h10⟩
theorem CwS.cd {sh : Int} {w W : World} {q p r : Nat} {b : Bool} {x9 x10 : Nat} {z : TE} {c0 c1 c2 : ByteArray} (h : CwS sh w W q p r b #[.string c0, .string c1, .string c2] x9 x10 #[.int .i8 z.k, .int .i64 z.n, .string z.s, .string z.u, .slice z.ao z.l.length z.cap]) : CdP p r x9 x10 sh z c0 W :=
  ⟨⟨(cells_at h.s.hp 0 _ rfl).1, (cells_at h.s.hp 1 _ rfl).1, (cells_at h.s.hp 2 _ rfl).1, (cells_at h.s.hp 3 _ rfl).1, (cells_at h.s.hp 4 _ rfl).1, (cells_at h.s.hp 6 _ rfl).1, (cells_at h.s.hr 0 _ rfl).1⟩,
   ⟨(cells_at h.h9 0 _ rfl).1, (cells_at h.h9 1 _ rfl).1, (cells_at h.h9 2 _ rfl).1, (cells_at h.h9 3 _ rfl).1, (cells_at h.h9 4 _ rfl).1⟩,
   (cells_at h.h10 0 _ rfl).1, (cells_at h.h10 1 _ rfl).1, (cells_at h.h10 2 _ rfl).1, (cells_at h.h10 3 _ rfl).1, (cells_at h.h10 4 _ rfl).1⟩
set_option maxHeartbeats 16000000 in
theorem child_c0 (w : World) (sh : Int) (k0 : (sh == 0) = false) (k1 : decide (sh < -2) = false) (k2 : decide (1073741824 < sh) = false) (k3 : (sh == -1) = false) (k4 : (sh == -2) = false) (k5 : -9223372036854775808 ≤ sh ∧ sh ≤ 9223372036854775807) (hc : Cells w 0 letL) (q p : Nat) (b : Bool) (hq : w.heap[q]? = some (.cells #[.bool b] 93 (0, 0))) (hp : w.heap[p]? = some (.cells #[.int .i8 1, .int .i64 0, .string ⟨#[97]⟩, .string ⟨#[]⟩, .slice none 0 0, .int .i8 1, .int .i8 0, .int .i64 sh, .string ⟨#[109]⟩, .string ⟨#[102]⟩, .slice none 0 0, .slice none 0 0] 44 (0, 0))) (hqp : q ≠ p) (hql : q ≠ 0) :
    Calls Tryd.prog 42 #[.pointer (some ⟨q, 0, none⟩), .pointer (some ⟨p, 0, none⟩), .int .i64 0] w (ChP w q) := by
  have hb1 := (Below.refl w.heap.size w).alloc (Nat.le_refl _) (.cells zT 27)
  have hx1 := heap_new w (.cells zT 27)
  have HB := Lib.hid (And.intro hb1 (And.intro (keep_heap hq hb1) (And.intro (keep_heap hp hb1) (And.intro hx1 (keepCells hc hb1)))))
  have HH := Lib.hid (And.intro (heap_lt hq) (And.intro (heap_lt hp) (And.intro hqp hql)))
  have K5 := Lib.hid k5
  have HL := Lib.hid (show 0 < w.heap.size from World.block_lt_of_cell? w _ (hc 0 _ rfl).1)
  clear hb1 hx1 hc hq hp hqp hql k5
  go_enter Tryd.func42, Tryd.ntmps42
  go_wp2_with fail
  generalize w.alloc (.cells zT 27) = w1 at *
  refine (words_any w1).mono ?_
  rintro e w2 ⟨hb2, mb, r1, r2, rfl, hlk, -, hrl, ⟨c0, c1, c2, hr1, hs0, hs1, hs2⟩, -⟩
  have HS0 := Lib.hid (show c0.size ≤ 9223372036854775807 from Nat.le_trans hs0 (by decide))
  have HC2 : Hid (CsS sh w w2 q p r1 b #[.string c0, .string c1, .string c2]) := Lib.hid ⟨chg_of_below (HB.out.1.trans (hb2.mono HB.out.1.size)) _, keep_heap HB.out.2.1 hb2, keep_heap HB.out.2.2.1 hb2, keep_heap HB.out.2.2.2.1 hb2, keepCells HB.out.2.2.2.2 hb2, hr1, Nat.le_trans HB.out.1.size hrl⟩
  unfold Looks slV at hlk
  obtain ⟨p0, p1, p2, p3, p4, p5, p6, p7, p8, p9, p10, p11⟩ := c0_at HC2.out.hp
  clear hb2 HB hr1 hs0 hs1 hs2 hrl
  go_wp2_with fail
  refine (check_x (M := fun _ => False) w2 HC2.out.hc (atomT ⟨#[97]⟩) (five_ok _ _)).mono ?_
  rw [chk_a]
  rintro e w3 ⟨rfl, hb3⟩
  have HC3 := Lib.hid (HC2.out.keep hb3)
  clear p0 p1 p2 p3 p4 p5 p6 p7 p8 p9 p10 p11 hlk hb3 HC2
  obtain ⟨p0, p1, p2, p3, p4, p5, p6, p7, p8, p9, p10, p11⟩ := c0_at HC3.out.hp
  go_wp2_with fail
  refine (cf_nil w3 _).mono ?_
  rintro e w4 ⟨rfl, hb4⟩
  have HC4 := Lib.hid (HC3.out.keep hb4)
  clear p0 p1 p2 p3 p4 p5 p6 p7 p8 p9 p10 p11 hb4 HC3
  obtain ⟨p0, p1, p2, p3, p4, p5, p6, p7, p8, p9, p10, p11⟩ := c0_at HC4.out.hp
  go_wp2_with (with_reducible refine stop_op (o := ⟨_, .store 27 (.tmp 9) (.tmp 96), _, _, _, _⟩) ?_)
  refine Lib.hid ?_
  refine wpList_store_new (o := ⟨none, _, _, _, _, _⟩) rfl 27 (.tmp 9) (.tmp 96) rfl #[.int .i8 0, .int .i64 sh, .string ⟨#[]⟩, .string ⟨#[]⟩, .slice none 0 0] rfl rfl (infoTM' _ rfl) rfl (by simp [Value.oneCell']) ?_
  have hb5 := (Below.refl w4.heap.size w4).alloc (Nat.le_refl _) (.cells #[.int .i8 0, .int .i64 sh, .string ⟨#[]⟩, .string ⟨#[]⟩, .slice none 0 0] 27)
  have HC5 := Lib.hid (And.intro (HC4.out.keep hb5) (And.intro (heap_new w4 (.cells #[.int .i8 0, .int .i64 sh, .string ⟨#[]⟩, .string ⟨#[]⟩, .slice none 0 0] 27)) (heap_lt HC4.out.hx)))
  clear p0 p1 p2 p3 p4 p5 p6 p7 p8 p9 p10 p11 hb5 HC4
  generalize w4.alloc (.cells #[.int .i8 0, .int .i64 sh, .string ⟨#[]⟩, .string ⟨#[]⟩, .slice none 0 0] 27) = w5 at *
  generalize w4.heap.size = x9 at *
  have p7 := (c0_at HC5.out.1.hp).2.2.2.2.2.2.2.1
  have hb6 := (Below.refl w5.heap.size w5).alloc (Nat.le_refl _) (.cells zT 27)
  have HC6 : Hid (CwS sh w (w5.alloc (.cells zT 27)) q p r1 b #[.string c0, .string c1, .string c2] x9 w5.heap.size zT) := Lib.hid ⟨HC5.out.1.keep hb6, keep_heap HC5.out.2.1 hb6, heap_new w5 (.cells zT 27), HC5.out.2.2, heap_lt HC5.out.2.1⟩
  obtain ⟨r0, r1', r2', r3, r4, r5, r6, r7, r8, r9, r10, r11⟩ := c0_at HC6.out.s.hp
  clear hb6 r0 r1' r2' r3 r4 r7
  go_wp2_with fail
  clear p7 r5 r6 r8 r9 r10 r11 HC5
  generalize w5.alloc (.cells zT 27) = w6 at *
  generalize w5.heap.size = x10 at *
  refine (may7 _ (by decide) w6 HC6.out.s.hc).mono ?_
  rw [may_m]
  rintro e w7 ⟨rfl, hb7⟩
  have HC7 := Lib.hid (HC6.out.keep hb7)
  clear hb7 HC6
  obtain ⟨r0, r1', r2', r3, r4, r5, r6, r7, r8, r9, r10, r11⟩ := c0_at HC7.out.s.hp
  go_wp2_with fail
  refine (may7 _ (by decide) w7 HC7.out.s.hc).mono ?_
  rw [may_f]
  rintro e w8 ⟨rfl, hb8⟩
  have HC8 := Lib.hid (HC7.out.keep hb8)
  clear hb8 HC7 r0 r1' r2' r3 r4 r5 r6 r7 r8 r9 r10 r11
  obtain ⟨r0, r1', r2', r3, r4, r5, r6, r7, r8, r9, r10, r11⟩ := c0_at HC8.out.s.hp
  go_wp2_with fail
  have hdr : Below w8.heap.size w8 w8.drew := (Below.refl _ _).drew
  have hS : CcP p w8.drew := ⟨r8, r9, r10⟩
  have HC9 := Lib.hid (HC8.out.keep hdr)
  clear hdr HC8 r0 r1' r2' r3 r4 r5 r6 r7 r8 r9 r10 r11
  refine region_plan (CcP p) [(0, 0), (2, 0), (3, 0), (4, 0), (5, 0), (7, 0), (8, 0), (9, 0), (10, 0), (12, 0), (13, 0), (14, 0), (15, 0), (16, 0), (1, 1), (6, 1), (11, 1), (17, 1), (18, 1), (19, 1), (20, 1)] (by kernel_rfl) (by kernel_rfl) (by kernel_rfl) hS ?_
  generalize w8.drew = WD at *
  iterate 14 (first | (refine plan_skip rfl ?_ ?_; (focus (rfl)); (try simp only [Act.put, List.setIfInBounds_toArray, List.set_cons_zero, List.set_cons_succ])) | (refine plan_take (v := ?_) rfl ?_ (fun w hSw => ?_) ?_; rotate_left; (focus (rfl)); (focus (unfold CcP at hSw; (go_simp <;> with_reducible rfl))); (try simp only [Act.put, List.setIfInBounds_toArray, List.set_cons_zero, List.set_cons_succ])))
  refine plan_run rfl ?_ (fun K hK => ?_)
  focus (rfl)
  go_simp
  refine (spatom_x WD _).mono ?_
  rintro e WA ⟨rfl, hb10⟩
  have hS1 := hS.keep hb10
  have HC10 := Lib.hid (HC9.out.keep hb10)
  refine hK.out _ _ hS1 ?_
  clear hK K 
  (try simp only [Act.put, List.setIfInBounds_toArray, List.set_cons_zero, List.set_cons_succ])
  clear hS hb10 HC9
  refine plan_run rfl ?_ (fun K hK => ?_)
  focus (rfl)
  go_simp
  refine (spatom_x WA _).mono ?_
  rintro e WB ⟨rfl, hb11⟩
  have hS2 := hS1.keep hb11
  have HC11 := Lib.hid (HC10.out.keep hb11)
  refine hK.out _ _ hS2 ?_
  clear hK K 
  (try simp only [Act.put, List.setIfInBounds_toArray, List.set_cons_zero, List.set_cons_succ])
  clear hS1 hb11 HC10
  refine plan_run rfl ?_ (fun K hK => ?_)
  focus (rfl)
  go_simp
  refine (spatom_x WB _).mono ?_
  rintro e WC ⟨rfl, hb12⟩
  have hS3 := hS2.keep hb12
  have HC12 := Lib.hid (HC11.out.keep hb12)
  refine hK.out _ _ hS3 ?_
  clear hK K 
  (try simp only [Act.put, List.setIfInBounds_toArray, List.set_cons_zero, List.set_cons_succ])
  clear hS2 hb12 HC11
  refine plan_run rfl ?_ (fun K hK => ?_)
  focus (rfl)
  go_simp
  refine (wlist_nil (fun k => k = q ∨ k = x10) WC (fun k e => by have e : k = q ∨ k = x10 := e; have := heap_lt HC12.out.s.hq; have := heap_lt HC12.out.h10; omega) HC12.out.s.hc q b HC12.out.s.hq (.inl rfl)).mono ?_
  rintro e WE ⟨x, b1, rfl, hxo, hq1, hcz⟩
  have hS4 := hS3.chg hcz (fun e => HH.out.2.2.1 (show p = q from e).symm)
  have HC13 := Lib.hid (HC12.out.wr hcz hq1 ⟨HH.out.1, HH.out.2.2.1, HH.out.2.2.2⟩)
  refine hK.out _ _ hS4 ?_
  clear hK K 
  (try simp only [Act.put, List.setIfInBounds_toArray, List.set_cons_zero, List.set_cons_succ])
  clear hS3 hcz HC12 hq1
  have hb14 := (Below.refl WE.heap.size WE).alloc (Nat.le_refl _) (.cells #[.int .i8 1, .int .i64 0, .string ⟨#[112, 114, 111, 99]⟩, .string ⟨#[]⟩, .slice none 0 0, .int .i8 1, .int .i64 0, .string ⟨#[109]⟩, .string ⟨#[]⟩, .slice none 0 0, .int .i8 1, .int .i64 0, .string ⟨#[102]⟩, .string ⟨#[]⟩, .slice none 0 0, .int .i8 x.k, .int .i64 x.n, .string x.s, .string x.u, .slice x.ao x.l.length x.cap] 27)
  have hS5 := hS4.keep hb14
  refine plan_run rfl ?_ (fun K hK => ?_)
  focus (rfl)
  go_simp
  refine hK.out _ _ (hS5) ?_
  clear hK K
  (try simp only [Act.put, List.setIfInBounds_toArray, List.set_cons_zero, List.set_cons_succ])
  have HC14 := Lib.hid (HC13.out.keep hb14)
  have hqs := heap_lt HC13.out.s.hq
  have hqs2 := heap_lt HC13.out.h10
  have HT := Lib.hid (wtup_any (fun k => k = q ∨ k = x10) (WE.alloc (.cells #[.int .i8 1, .int .i64 0, .string ⟨#[112, 114, 111, 99]⟩, .string ⟨#[]⟩, .slice none 0 0, .int .i8 1, .int .i64 0, .string ⟨#[109]⟩, .string ⟨#[]⟩, .slice none 0 0, .int .i8 1, .int .i64 0, .string ⟨#[102]⟩, .string ⟨#[]⟩, .slice none 0 0, .int .i8 x.k, .int .i64 x.n, .string x.s, .string x.u, .slice x.ao x.l.length x.cap] 27)) (fun k e => by have e : k = q ∨ k = x10 := e; have := heap_lt HC14.out.s.hq; have := heap_lt HC14.out.h10; omega) HC14.out.s.hc q b1 HC14.out.s.hq WE.heap.size [atomT ⟨#[112, 114, 111, 99]⟩, atomT ⟨#[109]⟩, atomT ⟨#[102]⟩, x] 4 rfl (by simp) (heap_new WE (.cells #[.int .i8 1, .int .i64 0, .string ⟨#[112, 114, 111, 99]⟩, .string ⟨#[]⟩, .slice none 0 0, .int .i8 1, .int .i64 0, .string ⟨#[109]⟩, .string ⟨#[]⟩, .slice none 0 0, .int .i8 1, .int .i64 0, .string ⟨#[102]⟩, .string ⟨#[]⟩, .slice none 0 0, .int .i8 x.k, .int .i64 x.n, .string x.s, .string x.u, .slice x.ao x.l.length x.cap] 27)) (by show ¬ (_ = q ∨ _ = x10); omega) (by simp) (.inl rfl) (fun z hz => by
    simp only [List.mem_cons, List.not_mem_nil, or_false] at hz
    rcases hz with rfl | rfl | rfl | rfl
    · exact atomT_ok _ _ _ (by decide)
    · exact atomT_ok _ _ _ (by decide)
    · exact atomT_ok _ _ _ (by decide)
    · exact hxo.keep hb14))
  clear hS4 hb14 hqs hqs2 HC13 hxo
  generalize WE.alloc (.cells #[.int .i8 1, .int .i64 0, .string ⟨#[112, 114, 111, 99]⟩, .string ⟨#[]⟩, .slice none 0 0, .int .i8 1, .int .i64 0, .string ⟨#[109]⟩, .string ⟨#[]⟩, .slice none 0 0, .int .i8 1, .int .i64 0, .string ⟨#[102]⟩, .string ⟨#[]⟩, .slice none 0 0, .int .i8 x.k, .int .i64 x.n, .string x.s, .string x.u, .slice x.ao x.l.length x.cap] 27) = WF at *
  generalize WE.heap.size = g at *
  refine plan_run rfl ?_ (fun K hK => ?_)
  focus (rfl)
  go_simp
  refine HT.out.mono ?_
  clear HT
  rintro e WG ⟨z, b2, rfl, hzo, hq2, hcz⟩
  have hS6 := hS5.chg hcz (fun e => HH.out.2.2.1 (show p = q from e).symm)
  have HC15 := Lib.hid (And.intro (HC14.out.wr hcz hq2 ⟨HH.out.1, HH.out.2.2.1, HH.out.2.2.2⟩) hzo)
  refine hK.out _ _ (hS6) ?_
  clear hK K
  (try simp only [Act.put, List.setIfInBounds_toArray, List.set_cons_zero, List.set_cons_succ])
  clear hS5 hcz hzo hq2 HC14
  have hc16 := chg_setRow WG x10 #[.int .i8 z.k, .int .i64 z.n, .string z.s, .string z.u, .slice z.ao z.l.length z.cap]
  have hq16 : q < x10 := by have := HH.out.1; have := HC15.out.1.l1; have := HC15.out.1.l2; omega
  have hp16 : p < x10 := by have := HH.out.2.1; have := HC15.out.1.l1; have := HC15.out.1.l2; omega
  have hS7 := hS6.chg hc16 (by show ¬ p = x10; omega)
  have HC16 : Hid (CwS sh w (WG.setRow x10 #[.int .i8 z.k, .int .i64 z.n, .string z.s, .string z.u, .slice z.ao z.l.length z.cap]) q p r1 b2 #[.string c0, .string c1, .string c2] x9 x10 #[.int .i8 z.k, .int .i64 z.n, .string z.s, .string z.u, .slice z.ao z.l.length z.cap] ∧ TeOk (fun k => k = q) (WG.setRow x10 #[.int .i8 z.k, .int .i64 z.n, .string z.s, .string z.u, .slice z.ao z.l.length z.cap]) z) := Lib.hid (by
    have h := HC15.out.1
    have l1 := h.l1
    have l2 := h.l2
    have hrx : ¬ r1 = x10 := fun e => by
      have h1 := h.s.hr
      rw [e, h.h10] at h1
      injection h1 with h1
      injection h1 with h1 h2 h3
      cases h2
    refine ⟨⟨⟨chg_new h.s.hb hc16 (by omega), hc16.heap h.s.hq (by show ¬ q = x10; omega), hc16.heap h.s.hp (by show ¬ p = x10; omega), hc16.heap h.s.hx (by show ¬ _ = x10; omega), let_chg h.s.hc hc16 (fun e => ?_), hc16.heap h.s.hr hrx, h.s.hrl⟩, hc16.heap h.h9 (by show ¬ x9 = x10; omega), setRow_heap WG x10 _ #[.int .i8 z.k, .int .i64 z.n, .string z.s, .string z.u, .slice z.ao z.l.length z.cap] 27 (0, 0) h.h10, l1, l2⟩, ?_⟩
    · have e : 0 = x10 := e
      have := HL.out
      omega
    · exact HC15.out.2.chg hc16 (fun k e _ => .inr e) (fun k e _ => .inl e))
  refine plan_run rfl ?_ (fun K hK => ?_)
  focus (rfl)
  refine wp_store_row 27 (.tmp 10) (.tmp 206) rfl x10 #[.int .i8 z.k, .int .i64 z.n, .string z.s, .string z.u, .slice z.ao z.l.length z.cap] rfl rfl 27 zT HC15.out.1.h10 (infoTM' _ rfl) rfl (by simp [Value.oneCell']) ?_
  refine hK.out _ _ (hS7) ?_
  clear hK K
  (try simp only [Act.put, List.setIfInBounds_toArray, List.set_cons_zero, List.set_cons_succ])
  refine plan_done ?_
  clear hS6 hc16 hq16 hp16 hS7 HC15
  generalize WG.setRow x10 #[.int .i8 z.k, .int .i64 z.n, .string z.s, .string z.u, .slice z.ao z.l.length z.cap] = WH at *
  go_wp2_with fail
  have hdr : Below WH.heap.size WH WH.drew := (Below.refl _ _).drew
  have hS : CdP p r1 x9 x10 sh z c0 WH.drew := (HC16.out.1.keep hdr).cd
  have HC17 := Lib.hid (And.intro (HC16.out.1.keep hdr) (HC16.out.2.keep hdr))
  clear hdr HC16
  refine region_plan (CdP p r1 x9 x10 sh z c0) [(0, 0), (1, 0), (2, 0), (3, 0), (4, 0), (5, 0), (6, 0), (7, 0), (8, 0), (9, 0), (10, 0), (11, 0), (12, 0), (14, 0), (13, 1), (15, 1), (16, 1), (17, 1), (18, 0)] (by kernel_rfl) (by kernel_rfl) (by kernel_rfl) hS ?_
  generalize WH.drew = WI at *
  iterate 14 (first | (refine plan_skip rfl ?_ ?_; (focus (rfl)); (try simp only [Act.put, List.setIfInBounds_toArray, List.set_cons_zero, List.set_cons_succ])) | (refine plan_take (v := ?_) rfl ?_ (fun w hSw => ?_) ?_; rotate_left; (focus (rfl)); (focus (unfold CdP at hSw; (go_simp <;> with_reducible rfl))); (try simp only [Act.put, List.setIfInBounds_toArray, List.set_cons_zero, List.set_cons_succ])))
  refine plan_run rfl ?_ (fun K hK => ?_)
  focus (rfl)
  go_simp
  refine (spatom_x WI _).mono ?_
  rintro e WJ ⟨rfl, hb18⟩
  have hS1 := hS.keep hb18
  have HC18 := Lib.hid (And.intro (HC17.out.1.keep hb18) (HC17.out.2.keep hb18))
  refine hK.out _ _ hS1 ?_
  clear hK K 
  (try simp only [Act.put, List.setIfInBounds_toArray, List.set_cons_zero, List.set_cons_succ])
  clear hS hb18 HC17
  have hb19 := (Below.refl WJ.heap.size WJ).alloc (Nat.le_refl _) (.cells #[.int .i8 1, .int .i64 0, .string ⟨#[97]⟩, .string ⟨#[]⟩, .slice none 0 0, .int .i8 z.k, .int .i64 z.n, .string z.s, .string z.u, .slice z.ao z.l.length z.cap, .int .i8 1, .int .i64 0, .string c0, .string ⟨#[]⟩, .slice none 0 0, .int .i8 0, .int .i64 sh, .string ⟨#[]⟩, .string ⟨#[]⟩, .slice none 0 0] 27)
  have hS2 := hS1.keep hb19
  refine plan_run rfl ?_ (fun K hK => ?_)
  focus (rfl)
  go_simp
  refine hK.out _ _ (hS2) ?_
  clear hK K
  (try simp only [Act.put, List.setIfInBounds_toArray, List.set_cons_zero, List.set_cons_succ])
  have HC19 := Lib.hid (HC18.out.1.keep hb19)
  have hqs := heap_lt HC18.out.1.s.hq
  have HT := Lib.hid (wtup_any (fun k => k = q) (WJ.alloc (.cells #[.int .i8 1, .int .i64 0, .string ⟨#[97]⟩, .string ⟨#[]⟩, .slice none 0 0, .int .i8 z.k, .int .i64 z.n, .string z.s, .string z.u, .slice z.ao z.l.length z.cap, .int .i8 1, .int .i64 0, .string c0, .string ⟨#[]⟩, .slice none 0 0, .int .i8 0, .int .i64 sh, .string ⟨#[]⟩, .string ⟨#[]⟩, .slice none 0 0] 27)) (fun k e => by have e : k = q := e; have := heap_lt HC19.out.s.hq; omega) HC19.out.s.hc q b2 HC19.out.s.hq WJ.heap.size [atomT ⟨#[97]⟩, z, atomT c0, numT 0 sh] 4 rfl (by simp) (heap_new WJ (.cells #[.int .i8 1, .int .i64 0, .string ⟨#[97]⟩, .string ⟨#[]⟩, .slice none 0 0, .int .i8 z.k, .int .i64 z.n, .string z.s, .string z.u, .slice z.ao z.l.length z.cap, .int .i8 1, .int .i64 0, .string c0, .string ⟨#[]⟩, .slice none 0 0, .int .i8 0, .int .i64 sh, .string ⟨#[]⟩, .string ⟨#[]⟩, .slice none 0 0] 27)) (by show ¬ _ = q; omega) (by simp) rfl (fun u hu => by
    simp only [List.mem_cons, List.not_mem_nil, or_false] at hu
    rcases hu with rfl | rfl | rfl | rfl
    · exact atomT_ok _ _ _ (by decide)
    · exact HC18.out.2.keep hb19
    · exact atomT_ok _ _ _ HS0.out
    · exact numT_ok _ _ _ _ (by decide) K5.out))
  clear hS1 hb19 hqs HC18
  generalize WJ.alloc (.cells #[.int .i8 1, .int .i64 0, .string ⟨#[97]⟩, .string ⟨#[]⟩, .slice none 0 0, .int .i8 z.k, .int .i64 z.n, .string z.s, .string z.u, .slice z.ao z.l.length z.cap, .int .i8 1, .int .i64 0, .string c0, .string ⟨#[]⟩, .slice none 0 0, .int .i8 0, .int .i64 sh, .string ⟨#[]⟩, .string ⟨#[]⟩, .slice none 0 0] 27) = WK at *
  generalize WJ.heap.size = g2 at *
  refine plan_run rfl ?_ (fun K hK => ?_)
  focus (rfl)
  go_simp
  refine HT.out.mono ?_
  clear HT
  rintro e WL ⟨x, b3, rfl, hxo, hq3, hcz⟩
  have hS3 := hS2.chg hcz (fun e => HH.out.2.2.1 (show p = q from e).symm) (fun e => by have e : r1 = q := e; have := HC19.out.s.hrl; have := HH.out.1; omega) (fun e => by have e : x9 = q := e; have := HC19.out.l1; have := HH.out.1; omega) (fun e => by have e : x10 = q := e; have := HC19.out.l1; have := HC19.out.l2; have := HH.out.1; omega)
  have HC20 := Lib.hid (HC19.out.wr hcz hq3 ⟨HH.out.1, HH.out.2.2.1, HH.out.2.2.2⟩)
  refine hK.out _ _ (hS3) ?_
  clear hK K
  (try simp only [Act.put, List.setIfInBounds_toArray, List.set_cons_zero, List.set_cons_succ])
  clear hS2 hcz hq3 hxo HC19
  have hc21 := chg_setRow WL w.heap.size #[.int .i8 x.k, .int .i64 x.n, .string x.s, .string x.u, .slice x.ao x.l.length x.cap]
  have hS4 := hS3.chg hc21 (by have := HH.out.2.1; show ¬ p = w.heap.size; omega) (fun e => by
    have e : r1 = w.heap.size := e
    have h1 := HC20.out.s.hr
    rw [e, HC20.out.s.hx] at h1
    injection h1 with h1
    injection h1 with h1 h2 h3
    cases h2) (by have := HC20.out.l1; show ¬ x9 = w.heap.size; omega) (by have := HC20.out.l1; have := HC20.out.l2; show ¬ x10 = w.heap.size; omega)
  have HZ := Lib.hid (And.intro (setRow_heap WL w.heap.size _ #[.int .i8 x.k, .int .i64 x.n, .string x.s, .string x.u, .slice x.ao x.l.length x.cap] 27 (0, 0) HC20.out.s.hx) (And.intro (hc21.heap HC20.out.s.hq (by have := HH.out.1; show ¬ q = w.heap.size; omega)) (chg_new HC20.out.s.hb hc21 (Nat.le_refl _))))
  refine plan_run rfl ?_ (fun K hK => ?_)
  focus (rfl)
  refine wp_store_row 27 (.tmp 6) (.tmp 281) rfl w.heap.size #[.int .i8 x.k, .int .i64 x.n, .string x.s, .string x.u, .slice x.ao x.l.length x.cap] rfl rfl 27 zT HC20.out.s.hx (infoTM' _ rfl) rfl (by simp [Value.oneCell']) ?_
  refine hK.out _ _ (hS4) ?_
  clear hK K
  (try simp only [Act.put, List.setIfInBounds_toArray, List.set_cons_zero, List.set_cons_succ])
  iterate 1 (first | (refine plan_skip rfl ?_ ?_; (focus (rfl)); (try simp only [Act.put, List.setIfInBounds_toArray, List.set_cons_zero, List.set_cons_succ])) | (refine plan_take (v := ?_) rfl ?_ (fun w hSw => ?_) ?_; rotate_left; (focus (rfl)); (focus (unfold CdP at hSw; (go_simp <;> with_reducible rfl))); (try simp only [Act.put, List.setIfInBounds_toArray, List.set_cons_zero, List.set_cons_succ])))
  refine plan_done ?_
  clear hS3 hc21 hS4 HC20
  generalize WL.setRow w.heap.size #[.int .i8 x.k, .int .i64 x.n, .string x.s, .string x.u, .slice x.ao x.l.length x.cap] = WM at *
  go_wp2_with fail
  exact ret_row HZ.out.1 rfl Tryd.underlying27 rfl (infoTM' _ rfl) rfl rfl ⟨x, b3, rfl, HZ.out.2.1, HZ.out.2.2⟩
end Go.Proofs.YtepfmanbllegiaaDoor
