/- the reference's comparison of two new frames. Conditions: what their records' comparison tells. -/
import Derived.Test.YthpmdeofdlcccaaGreatDoorMs17
namespace Go.Proofs.YthpmdeofdlcccaaGreatDoor
open Go.ChangeShapes Go.WideShapes Go.ChangeAt Go.RowKit
set_option linter.unusedVariables false
set_option linter.unusedSimpArgs false
set_option maxRecDepth 100000
/-- a new machine's cells -/
def nfM (pid dl : Int) (ro : Option Addr) (rn rc : Nat) : List Value := [.int .i8 0, .int .i64 pid, .int .i64 0, .int .i64 dl, .int .i64 0, .int .i8 0, .int .i64 0, .string ⟨#[]⟩, .string ⟨#[]⟩, .slice none 0 0, .int .i8 0, .int .i64 0, .string ⟨#[]⟩, .string ⟨#[]⟩, .slice none 0 0, .int .i8 0, .int .i64 0, .string ⟨#[]⟩, .string ⟨#[]⟩, .slice none 0 0, .slice ro rn rc, .int .i8 0, .int .i64 0, .int .i64 0, .slice none 0 0, .slice none 0 0, .slice none 0 0]
def nfC (k pid dl : Int) (ro : Option Addr) (rn rc : Nat) : List Value := [.int .i8 k, .int .i64 0, .int .i64 0, .slice none 0 0, .slice none 0 0, .slice none 0 0, .slice none 0 0, .int .i64 0] ++ nfM pid dl ro rn rc
def NfS (x : Nat) (la lb : List Value) (W : World) : Prop := W.rangeAt x 8 la ∧ W.rangeAt (x + 1) 8 lb
theorem NfS.keep {x : Nat} {la lb : List Value} {W W' : World} (h : NfS x la lb W) (hb : Below W.heap.size W W') : NfS x la lb W' := ⟨fun j v hj => keep_cell (h.1 j v hj) hb, fun j v hj => keep_cell (h.2 j v hj) hb⟩
theorem infoMAx {cs : Array Value} (h : cs.size = 27) : (Tryz.prog.info? 37).map (·.size) = some cs.size := by
  have : (Tryz.prog.info? 37).map (·.size) = some 27 := by kernel_rfl
  rw [this, h]
theorem infoMAl {cs : List Value} (h : cs.length = 27) : (Tryz.prog.info? 37).map (·.size) = some cs.length := by
  have : (Tryz.prog.info? 37).map (·.size) = some 27 := by kernel_rfl
  rw [this, h]
theorem zsame_x (w : World) : Calls Tryz.prog 15 #[.agg zT, .agg zT] w (IsPost w true) := by
  obtain ⟨F, htv⟩ := (numT_ok (fun _ => False) w 0 0 (by decide) (by decide)).tv
  have h := rsame_any F F _ _ _ _ w htv htv
  rw [eqT_refl] at h
  exact h
/-- two new boxes -/
structure Mb (w W : World) (p q : Nat) (A B : Array Value) : Prop where
  hb : Below w.heap.size w W
  hp : W.heap[p]? = some (.cells A 37 (0, 0))
  hq : W.heap[q]? = some (.cells B 37 (0, 0))
  ne : p ≠ q
  gp : w.heap.size ≤ p
  gq : w.heap.size ≤ q
theorem Mb.setp {w W : World} {p q : Nat} {A B : Array Value} (h : Mb w W p q A B) (C : Array Value) : Mb w (W.setRow p C) p q C B :=
  ⟨bel_setRow h.hb h.hb.size h.gp C, setRow_heap W p A C 37 (0, 0) h.hp, (setRow_other _ _ _ _ (Ne.symm h.ne)).trans h.hq, h.ne, h.gp, h.gq⟩
theorem Mb.setq {w W : World} {p q : Nat} {A B : Array Value} (h : Mb w W p q A B) (C : Array Value) : Mb w (W.setRow q C) p q A C :=
  ⟨bel_setRow h.hb h.hb.size h.gq C, (setRow_other _ _ _ _ h.ne).trans h.hp, setRow_heap W q B C 37 (0, 0) h.hq, h.ne, h.gp, h.gq⟩
theorem two_boxesx (w : World) (A B : Obj) : ((w.alloc A).alloc B).heap[w.heap.size]? = some A ∧ ((w.alloc A).alloc B).heap[w.heap.size + 1]? = some B ∧ Below w.heap.size w ((w.alloc A).alloc B) := by
  refine ⟨heap_old (heap_new w A) B, ?_, ((Below.refl w.heap.size w).alloc (Nat.le_refl _) A).alloc (by simp) B⟩
  have h := heap_new (w.alloc A) B
  rw [World.size_alloc] at h
  exact h
set_option maxHeartbeats 16000000 in
theorem sameframe_nf (w : World) (k pid dl : Int) (ao bo : Option Addr) (an ac bn bc : Nat) (hr : ∀ W, Below w.heap.size w W → Calls Tryz.prog 64 #[.slice ao an ac, .slice bo bn bc] W (IsPost W true)) :
    Calls Tryz.prog 38 #[.agg (nfC k pid dl ao an ac).toArray, .agg (nfC k pid dl bo bn bc).toArray] w (IsPost w true) := by
  obtain ⟨b1, b2, hb⟩ := two_boxesx w (.cells (nfC k pid dl ao an ac).toArray 39) (.cells (nfC k pid dl bo bn bc).toArray 39)
  have HR := Lib.hid hr
  have HB := Lib.hid (And.intro hb (And.intro b1 b2))
  have x0 : World.cell? ((w.alloc (.cells (nfC k pid dl ao an ac).toArray 39)).alloc (.cells (nfC k pid dl bo bn bc).toArray 39)) ⟨w.heap.size, 0, none⟩ = some (.int .i8 k) := (cells_at b1 0 _ rfl).1
  have y0 : World.cell? ((w.alloc (.cells (nfC k pid dl ao an ac).toArray 39)).alloc (.cells (nfC k pid dl bo bn bc).toArray 39)) ⟨w.heap.size + 1, 0, none⟩ = some (.int .i8 k) := (cells_at b2 0 _ rfl).1
  have x1 : World.cell? ((w.alloc (.cells (nfC k pid dl ao an ac).toArray 39)).alloc (.cells (nfC k pid dl bo bn bc).toArray 39)) ⟨w.heap.size, 1, none⟩ = some (.int .i64 0) := (cells_at b1 1 _ rfl).1
  have y1 : World.cell? ((w.alloc (.cells (nfC k pid dl ao an ac).toArray 39)).alloc (.cells (nfC k pid dl bo bn bc).toArray 39)) ⟨w.heap.size + 1, 1, none⟩ = some (.int .i64 0) := (cells_at b2 1 _ rfl).1
  have x2 : World.cell? ((w.alloc (.cells (nfC k pid dl ao an ac).toArray 39)).alloc (.cells (nfC k pid dl bo bn bc).toArray 39)) ⟨w.heap.size, 2, none⟩ = some (.int .i64 0) := (cells_at b1 2 _ rfl).1
  have y2 : World.cell? ((w.alloc (.cells (nfC k pid dl ao an ac).toArray 39)).alloc (.cells (nfC k pid dl bo bn bc).toArray 39)) ⟨w.heap.size + 1, 2, none⟩ = some (.int .i64 0) := (cells_at b2 2 _ rfl).1
  have x3 : World.cell? ((w.alloc (.cells (nfC k pid dl ao an ac).toArray 39)).alloc (.cells (nfC k pid dl bo bn bc).toArray 39)) ⟨w.heap.size, 3, none⟩ = some (.slice none 0 0) := (cells_at b1 3 _ rfl).1
  have y3 : World.cell? ((w.alloc (.cells (nfC k pid dl ao an ac).toArray 39)).alloc (.cells (nfC k pid dl bo bn bc).toArray 39)) ⟨w.heap.size + 1, 3, none⟩ = some (.slice none 0 0) := (cells_at b2 3 _ rfl).1
  have x7 : World.cell? ((w.alloc (.cells (nfC k pid dl ao an ac).toArray 39)).alloc (.cells (nfC k pid dl bo bn bc).toArray 39)) ⟨w.heap.size, 7, none⟩ = some (.int .i64 0) := (cells_at b1 7 _ rfl).1
  have y7 : World.cell? ((w.alloc (.cells (nfC k pid dl ao an ac).toArray 39)).alloc (.cells (nfC k pid dl bo bn bc).toArray 39)) ⟨w.heap.size + 1, 7, none⟩ = some (.int .i64 0) := (cells_at b2 7 _ rfl).1
  clear b1 b2 hb hr
  go_enter Tryz.func38, Tryz.ntmps38
  go_wp2_with fail
  generalize (w.alloc (.cells (nfC k pid dl ao an ac).toArray 39)).alloc (.cells (nfC k pid dl bo bn bc).toArray 39) = w1 at *
  clear x0 x1 x2 x3 x7 y0 y1 y2 y3 y7
  refine (sameall_nil w1).mono ?_
  rintro e w2 ⟨rfl, hb2⟩
  have HB2 := Lib.hid hb2
  clear hb2
  have x4 : World.cell? w2 ⟨w.heap.size, 4, none⟩ = some (.slice none 0 0) := (cells_at (keep_heap HB.out.2.1 HB2.out) 4 _ rfl).1
  have y4 : World.cell? w2 ⟨w.heap.size + 1, 4, none⟩ = some (.slice none 0 0) := (cells_at (keep_heap HB.out.2.2 HB2.out) 4 _ rfl).1
  go_wp2_with fail
  refine (bound_nil w2).mono ?_
  rintro e w3 ⟨rfl, hb3⟩
  have HB3 := Lib.hid (HB2.out.trans (hb3.mono HB2.out.size))
  clear hb3 x4 y4
  have x5 : World.cell? w3 ⟨w.heap.size, 5, none⟩ = some (.slice none 0 0) := (cells_at (keep_heap HB.out.2.1 HB3.out) 5 _ rfl).1
  have y5 : World.cell? w3 ⟨w.heap.size + 1, 5, none⟩ = some (.slice none 0 0) := (cells_at (keep_heap HB.out.2.2 HB3.out) 5 _ rfl).1
  go_wp2_with fail
  refine (sameall_nil w3).mono ?_
  rintro e w4 ⟨rfl, hb4⟩
  have HB4 := Lib.hid (HB3.out.trans (hb4.mono HB3.out.size))
  clear hb4 x5 y5
  have x6 : World.cell? w4 ⟨w.heap.size, 6, none⟩ = some (.slice none 0 0) := (cells_at (keep_heap HB.out.2.1 HB4.out) 6 _ rfl).1
  have y6 : World.cell? w4 ⟨w.heap.size + 1, 6, none⟩ = some (.slice none 0 0) := (cells_at (keep_heap HB.out.2.2 HB4.out) 6 _ rfl).1
  go_wp2_with fail
  refine (tries_nil w4).mono ?_
  rintro e w5 ⟨rfl, hb5⟩
  have HB5 := Lib.hid (HB4.out.trans (hb5.mono HB4.out.size))
  clear hb5 x6 y6
  go_wp2_with fail
  have hd := (Below.refl w5.heap.size w5).drew
  have hb6 := HB5.out.trans (hd.mono HB5.out.size)
  have hS : NfS w.heap.size (nfM pid dl ao an ac) (nfM pid dl bo bn bc) w5.drew := ⟨mid_rangex (pre := [.int .i8 k, .int .i64 0, .int .i64 0, .slice none 0 0, .slice none 0 0, .slice none 0 0, .slice none 0 0, .int .i64 0]) (post := []) (keep_heap HB.out.2.1 hb6) rfl, mid_rangex (pre := [.int .i8 k, .int .i64 0, .int .i64 0, .slice none 0 0, .slice none 0 0, .slice none 0 0, .slice none 0 0, .int .i64 0]) (post := []) (keep_heap HB.out.2.2 hb6) rfl⟩
  have HB6 := Lib.hid (HB.out.1.trans (hb6.mono HB.out.1.size))
  clear hd hb6 HB HB5 HB2
  refine region_plan (NfS w.heap.size (nfM pid dl ao an ac) (nfM pid dl bo bn bc)) [(0, 0), (1, 0), (2, 0), (3, 0), (4, 7), (6, 1), (7, 1)] (by kernel_rfl) (by kernel_rfl) (by kernel_rfl) hS ?_
  generalize w5.drew = w6 at *
  have HS := Lib.hid hS
  iterate 1 (first | (refine plan_skip rfl ?_ ?_; (focus (rfl)); (try simp only [Act.put, List.setIfInBounds_toArray, List.set_cons_zero, List.set_cons_succ])) | (refine plan_take (v := ?_) rfl ?_ (fun w hSw => ?_) ?_; rotate_left; (focus (rfl)); (focus (unfold NfS at hSw; (go_simp <;> with_reducible rfl))); (try simp only [Act.put, List.setIfInBounds_toArray, List.set_cons_zero, List.set_cons_succ])))
  refine plan_take rfl ?_ (fun wS hSw => exec_load_mid 37 (.tmp 65) rfl w.heap.size 8 rfl (nfM pid dl ao an ac) _ hSw.1 Tryz.underlying37 rfl (infoMAl rfl)) ?_
  focus (rfl)
  (try simp only [Act.put, List.setIfInBounds_toArray, List.set_cons_zero, List.set_cons_succ])
  iterate 1 (first | (refine plan_skip rfl ?_ ?_; (focus (rfl)); (try simp only [Act.put, List.setIfInBounds_toArray, List.set_cons_zero, List.set_cons_succ])) | (refine plan_take (v := ?_) rfl ?_ (fun w hSw => ?_) ?_; rotate_left; (focus (rfl)); (focus (unfold NfS at hSw; (go_simp <;> with_reducible rfl))); (try simp only [Act.put, List.setIfInBounds_toArray, List.set_cons_zero, List.set_cons_succ])))
  refine plan_take rfl ?_ (fun wS hSw => exec_load_mid 37 (.tmp 67) rfl (w.heap.size + 1) 8 rfl (nfM pid dl bo bn bc) _ hSw.2 Tryz.underlying37 rfl (infoMAl rfl)) ?_
  focus (rfl)
  (try simp only [Act.put, List.setIfInBounds_toArray, List.set_cons_zero, List.set_cons_succ])
  refine ⟨?_, ?_⟩
  · skip
    refine plan_op rfl ?_ (fun K hK => ?_)
    focus (rfl)
    go_simp
    have hbn := (Below.refl w6.heap.size w6).alloc (Nat.le_refl _) (.cells #[.int .i8 0, .int .i64 0, .int .i64 0, .int .i64 0, .int .i64 0, .int .i8 0, .int .i64 0, .string ⟨#[]⟩, .string ⟨#[]⟩, .slice none 0 0, .int .i8 0, .int .i64 0, .string ⟨#[]⟩, .string ⟨#[]⟩, .slice none 0 0, .int .i8 0, .int .i64 0, .string ⟨#[]⟩, .string ⟨#[]⟩, .slice none 0 0, .slice none 0 0, .int .i8 0, .int .i64 0, .int .i64 0, .slice none 0 0, .slice none 0 0, .slice none 0 0] 37)
    have hS1 := hS.keep hbn
    refine hK.out _ _ hS1 ?_
    clear hK K
    (try simp only [Act.put, List.setIfInBounds_toArray, List.set_cons_zero, List.set_cons_succ])
    refine plan_op rfl ?_ (fun K hK => ?_)
    focus (rfl)
    go_simp
    have hbm := (Below.refl (w6.alloc (.cells #[.int .i8 0, .int .i64 0, .int .i64 0, .int .i64 0, .int .i64 0, .int .i8 0, .int .i64 0, .string ⟨#[]⟩, .string ⟨#[]⟩, .slice none 0 0, .int .i8 0, .int .i64 0, .string ⟨#[]⟩, .string ⟨#[]⟩, .slice none 0 0, .int .i8 0, .int .i64 0, .string ⟨#[]⟩, .string ⟨#[]⟩, .slice none 0 0, .slice none 0 0, .int .i8 0, .int .i64 0, .int .i64 0, .slice none 0 0, .slice none 0 0, .slice none 0 0] 37)).heap.size (w6.alloc (.cells #[.int .i8 0, .int .i64 0, .int .i64 0, .int .i64 0, .int .i64 0, .int .i8 0, .int .i64 0, .string ⟨#[]⟩, .string ⟨#[]⟩, .slice none 0 0, .int .i8 0, .int .i64 0, .string ⟨#[]⟩, .string ⟨#[]⟩, .slice none 0 0, .int .i8 0, .int .i64 0, .string ⟨#[]⟩, .string ⟨#[]⟩, .slice none 0 0, .slice none 0 0, .int .i8 0, .int .i64 0, .int .i64 0, .slice none 0 0, .slice none 0 0, .slice none 0 0] 37))).alloc (Nat.le_refl _) (.cells #[.int .i8 0, .int .i64 0, .int .i64 0, .int .i64 0, .int .i64 0, .int .i8 0, .int .i64 0, .string ⟨#[]⟩, .string ⟨#[]⟩, .slice none 0 0, .int .i8 0, .int .i64 0, .string ⟨#[]⟩, .string ⟨#[]⟩, .slice none 0 0, .int .i8 0, .int .i64 0, .string ⟨#[]⟩, .string ⟨#[]⟩, .slice none 0 0, .slice none 0 0, .int .i8 0, .int .i64 0, .int .i64 0, .slice none 0 0, .slice none 0 0, .slice none 0 0] 37)
    have hS2 := hS1.keep hbm
    refine hK.out _ _ hS2 ?_
    clear hK K
    (try simp only [Act.put, List.setIfInBounds_toArray, List.set_cons_zero, List.set_cons_succ])
    obtain ⟨m1, m2, m3⟩ := two_boxesx w6 (.cells #[.int .i8 0, .int .i64 0, .int .i64 0, .int .i64 0, .int .i64 0, .int .i8 0, .int .i64 0, .string ⟨#[]⟩, .string ⟨#[]⟩, .slice none 0 0, .int .i8 0, .int .i64 0, .string ⟨#[]⟩, .string ⟨#[]⟩, .slice none 0 0, .int .i8 0, .int .i64 0, .string ⟨#[]⟩, .string ⟨#[]⟩, .slice none 0 0, .slice none 0 0, .int .i8 0, .int .i64 0, .int .i64 0, .slice none 0 0, .slice none 0 0, .slice none 0 0] 37) (.cells #[.int .i8 0, .int .i64 0, .int .i64 0, .int .i64 0, .int .i64 0, .int .i8 0, .int .i64 0, .string ⟨#[]⟩, .string ⟨#[]⟩, .slice none 0 0, .int .i8 0, .int .i64 0, .string ⟨#[]⟩, .string ⟨#[]⟩, .slice none 0 0, .int .i8 0, .int .i64 0, .string ⟨#[]⟩, .string ⟨#[]⟩, .slice none 0 0, .slice none 0 0, .int .i8 0, .int .i64 0, .int .i64 0, .slice none 0 0, .slice none 0 0, .slice none 0 0] 37)
    have HM : Hid (Mb w6 ((w6.alloc (.cells #[.int .i8 0, .int .i64 0, .int .i64 0, .int .i64 0, .int .i64 0, .int .i8 0, .int .i64 0, .string ⟨#[]⟩, .string ⟨#[]⟩, .slice none 0 0, .int .i8 0, .int .i64 0, .string ⟨#[]⟩, .string ⟨#[]⟩, .slice none 0 0, .int .i8 0, .int .i64 0, .string ⟨#[]⟩, .string ⟨#[]⟩, .slice none 0 0, .slice none 0 0, .int .i8 0, .int .i64 0, .int .i64 0, .slice none 0 0, .slice none 0 0, .slice none 0 0] 37)).alloc (.cells #[.int .i8 0, .int .i64 0, .int .i64 0, .int .i64 0, .int .i64 0, .int .i8 0, .int .i64 0, .string ⟨#[]⟩, .string ⟨#[]⟩, .slice none 0 0, .int .i8 0, .int .i64 0, .string ⟨#[]⟩, .string ⟨#[]⟩, .slice none 0 0, .int .i8 0, .int .i64 0, .string ⟨#[]⟩, .string ⟨#[]⟩, .slice none 0 0, .slice none 0 0, .int .i8 0, .int .i64 0, .int .i64 0, .slice none 0 0, .slice none 0 0, .slice none 0 0] 37)) w6.heap.size (w6.heap.size + 1) #[.int .i8 0, .int .i64 0, .int .i64 0, .int .i64 0, .int .i64 0, .int .i8 0, .int .i64 0, .string ⟨#[]⟩, .string ⟨#[]⟩, .slice none 0 0, .int .i8 0, .int .i64 0, .string ⟨#[]⟩, .string ⟨#[]⟩, .slice none 0 0, .int .i8 0, .int .i64 0, .string ⟨#[]⟩, .string ⟨#[]⟩, .slice none 0 0, .slice none 0 0, .int .i8 0, .int .i64 0, .int .i64 0, .slice none 0 0, .slice none 0 0, .slice none 0 0] #[.int .i8 0, .int .i64 0, .int .i64 0, .int .i64 0, .int .i64 0, .int .i8 0, .int .i64 0, .string ⟨#[]⟩, .string ⟨#[]⟩, .slice none 0 0, .int .i8 0, .int .i64 0, .string ⟨#[]⟩, .string ⟨#[]⟩, .slice none 0 0, .int .i8 0, .int .i64 0, .string ⟨#[]⟩, .string ⟨#[]⟩, .slice none 0 0, .slice none 0 0, .int .i8 0, .int .i64 0, .int .i64 0, .slice none 0 0, .slice none 0 0, .slice none 0 0]) := Lib.hid ⟨m3, m1, m2, by omega, by omega, by omega⟩
    clear hbn hbm hS hS1 hS2 m1 m2 m3
    generalize (w6.alloc (.cells #[.int .i8 0, .int .i64 0, .int .i64 0, .int .i64 0, .int .i64 0, .int .i8 0, .int .i64 0, .string ⟨#[]⟩, .string ⟨#[]⟩, .slice none 0 0, .int .i8 0, .int .i64 0, .string ⟨#[]⟩, .string ⟨#[]⟩, .slice none 0 0, .int .i8 0, .int .i64 0, .string ⟨#[]⟩, .string ⟨#[]⟩, .slice none 0 0, .slice none 0 0, .int .i8 0, .int .i64 0, .int .i64 0, .slice none 0 0, .slice none 0 0, .slice none 0 0] 37)).alloc (.cells #[.int .i8 0, .int .i64 0, .int .i64 0, .int .i64 0, .int .i64 0, .int .i8 0, .int .i64 0, .string ⟨#[]⟩, .string ⟨#[]⟩, .slice none 0 0, .int .i8 0, .int .i64 0, .string ⟨#[]⟩, .string ⟨#[]⟩, .slice none 0 0, .int .i8 0, .int .i64 0, .string ⟨#[]⟩, .string ⟨#[]⟩, .slice none 0 0, .slice none 0 0, .int .i8 0, .int .i64 0, .int .i64 0, .slice none 0 0, .slice none 0 0, .slice none 0 0] 37) = wB at *
    refine plan_run rfl ?_ (fun K hK => ?_)
    focus (rfl)
    refine wp_store_row 37 (.tmp 5) (.tmp 66) rfl w6.heap.size (nfM pid dl ao an ac).toArray rfl rfl 37 #[.int .i8 0, .int .i64 0, .int .i64 0, .int .i64 0, .int .i64 0, .int .i8 0, .int .i64 0, .string ⟨#[]⟩, .string ⟨#[]⟩, .slice none 0 0, .int .i8 0, .int .i64 0, .string ⟨#[]⟩, .string ⟨#[]⟩, .slice none 0 0, .int .i8 0, .int .i64 0, .string ⟨#[]⟩, .string ⟨#[]⟩, .slice none 0 0, .slice none 0 0, .int .i8 0, .int .i64 0, .int .i64 0, .slice none 0 0, .slice none 0 0, .slice none 0 0] HM.out.hp (infoMAx rfl) rfl (by simp [nfM, Value.oneCell']) ?_
    have hm1 := HM.out.setp (nfM pid dl ao an ac).toArray
    have hS6 : NfS w.heap.size (nfM pid dl ao an ac) (nfM pid dl bo bn bc) (wB.setRow w6.heap.size (nfM pid dl ao an ac).toArray) := HS.out.keep hm1.hb
    refine hK.out _ _ (hS6) ?_
    clear hK K
    (try simp only [Act.put, List.setIfInBounds_toArray, List.set_cons_zero, List.set_cons_succ])
    have HM1 := Lib.hid hm1
    clear HM hm1 hS6
    generalize wB.setRow w6.heap.size (nfM pid dl ao an ac).toArray = wC at *
    refine plan_run rfl ?_ (fun K hK => ?_)
    focus (rfl)
    refine wp_store_row 37 (.tmp 6) (.tmp 68) rfl (w6.heap.size + 1) (nfM pid dl bo bn bc).toArray rfl rfl 37 #[.int .i8 0, .int .i64 0, .int .i64 0, .int .i64 0, .int .i64 0, .int .i8 0, .int .i64 0, .string ⟨#[]⟩, .string ⟨#[]⟩, .slice none 0 0, .int .i8 0, .int .i64 0, .string ⟨#[]⟩, .string ⟨#[]⟩, .slice none 0 0, .int .i8 0, .int .i64 0, .string ⟨#[]⟩, .string ⟨#[]⟩, .slice none 0 0, .slice none 0 0, .int .i8 0, .int .i64 0, .int .i64 0, .slice none 0 0, .slice none 0 0, .slice none 0 0] HM1.out.hq (infoMAx rfl) rfl (by simp [nfM, Value.oneCell']) ?_
    have hm2 := HM1.out.setq (nfM pid dl bo bn bc).toArray
    have hS7 : NfS w.heap.size (nfM pid dl ao an ac) (nfM pid dl bo bn bc) (wC.setRow (w6.heap.size + 1) (nfM pid dl bo bn bc).toArray) := HS.out.keep hm2.hb
    refine hK.out _ _ (hS7) ?_
    clear hK K
    (try simp only [Act.put, List.setIfInBounds_toArray, List.set_cons_zero, List.set_cons_succ])
    have HMD := Lib.hid hm2
    clear HM1 hm2 hS7 HS
    generalize wC.setRow (w6.heap.size + 1) (nfM pid dl bo bn bc).toArray = wD at *
    refine plan_done ?_
    have HK0 := Lib.hid HMD.out.hb
    have HD0 := Lib.hid (Below.refl wD.heap.size wD)
    have hp := keep_heap HMD.out.hp HD0.out
    have hq := keep_heap HMD.out.hq HD0.out
    have x0 : World.cell? wD ⟨w6.heap.size, 0, none⟩ = some (.int .i8 0) := (cells_at hp 0 _ rfl).1
    have y0 : World.cell? wD ⟨(w6.heap.size + 1), 0, none⟩ = some (.int .i8 0) := (cells_at hq 0 _ rfl).1
    have x1 : World.cell? wD ⟨w6.heap.size, 1, none⟩ = some (.int .i64 pid) := (cells_at hp 1 _ rfl).1
    have y1 : World.cell? wD ⟨(w6.heap.size + 1), 1, none⟩ = some (.int .i64 pid) := (cells_at hq 1 _ rfl).1
    have x2 : World.cell? wD ⟨w6.heap.size, 2, none⟩ = some (.int .i64 0) := (cells_at hp 2 _ rfl).1
    have y2 : World.cell? wD ⟨(w6.heap.size + 1), 2, none⟩ = some (.int .i64 0) := (cells_at hq 2 _ rfl).1
    have x3 : World.cell? wD ⟨w6.heap.size, 3, none⟩ = some (.int .i64 dl) := (cells_at hp 3 _ rfl).1
    have y3 : World.cell? wD ⟨(w6.heap.size + 1), 3, none⟩ = some (.int .i64 dl) := (cells_at hq 3 _ rfl).1
    have x4 : World.cell? wD ⟨w6.heap.size, 4, none⟩ = some (.int .i64 0) := (cells_at hp 4 _ rfl).1
    have y4 : World.cell? wD ⟨(w6.heap.size + 1), 4, none⟩ = some (.int .i64 0) := (cells_at hq 4 _ rfl).1
    have x5 : World.cell? wD ⟨w6.heap.size, 5, none⟩ = some (.int .i8 0) := (cells_at hp 5 _ rfl).1
    have y5 : World.cell? wD ⟨(w6.heap.size + 1), 5, none⟩ = some (.int .i8 0) := (cells_at hq 5 _ rfl).1
    have x6 : World.cell? wD ⟨w6.heap.size, 6, none⟩ = some (.int .i64 0) := (cells_at hp 6 _ rfl).1
    have y6 : World.cell? wD ⟨(w6.heap.size + 1), 6, none⟩ = some (.int .i64 0) := (cells_at hq 6 _ rfl).1
    have x7 : World.cell? wD ⟨w6.heap.size, 7, none⟩ = some (.string ⟨#[]⟩) := (cells_at hp 7 _ rfl).1
    have y7 : World.cell? wD ⟨(w6.heap.size + 1), 7, none⟩ = some (.string ⟨#[]⟩) := (cells_at hq 7 _ rfl).1
    have x8 : World.cell? wD ⟨w6.heap.size, 8, none⟩ = some (.string ⟨#[]⟩) := (cells_at hp 8 _ rfl).1
    have y8 : World.cell? wD ⟨(w6.heap.size + 1), 8, none⟩ = some (.string ⟨#[]⟩) := (cells_at hq 8 _ rfl).1
    have x9 : World.cell? wD ⟨w6.heap.size, 9, none⟩ = some (.slice none 0 0) := (cells_at hp 9 _ rfl).1
    have y9 : World.cell? wD ⟨(w6.heap.size + 1), 9, none⟩ = some (.slice none 0 0) := (cells_at hq 9 _ rfl).1
    clear hp hq
    go_wp2_with fail
    clear x0 y0 x1 y1 x2 y2 x3 y3 x4 y4 x5 y5 x6 y6 x7 y7 x8 y8 x9 y9
    refine (zsame_x wD).mono ?_
    rintro e v1 ⟨rfl, hb1⟩
    have HD1 := Lib.hid (HD0.out.trans (hb1.mono HD0.out.size))
    have HK1 := Lib.hid (HK0.out.trans (hb1.mono HK0.out.size))
    clear hb1
    have hp := keep_heap HMD.out.hp HD1.out
    have hq := keep_heap HMD.out.hq HD1.out
    have x10 : World.cell? v1 ⟨w6.heap.size, 10, none⟩ = some (.int .i8 0) := (cells_at hp 10 _ rfl).1
    have y10 : World.cell? v1 ⟨(w6.heap.size + 1), 10, none⟩ = some (.int .i8 0) := (cells_at hq 10 _ rfl).1
    have x11 : World.cell? v1 ⟨w6.heap.size, 11, none⟩ = some (.int .i64 0) := (cells_at hp 11 _ rfl).1
    have y11 : World.cell? v1 ⟨(w6.heap.size + 1), 11, none⟩ = some (.int .i64 0) := (cells_at hq 11 _ rfl).1
    have x12 : World.cell? v1 ⟨w6.heap.size, 12, none⟩ = some (.string ⟨#[]⟩) := (cells_at hp 12 _ rfl).1
    have y12 : World.cell? v1 ⟨(w6.heap.size + 1), 12, none⟩ = some (.string ⟨#[]⟩) := (cells_at hq 12 _ rfl).1
    have x13 : World.cell? v1 ⟨w6.heap.size, 13, none⟩ = some (.string ⟨#[]⟩) := (cells_at hp 13 _ rfl).1
    have y13 : World.cell? v1 ⟨(w6.heap.size + 1), 13, none⟩ = some (.string ⟨#[]⟩) := (cells_at hq 13 _ rfl).1
    have x14 : World.cell? v1 ⟨w6.heap.size, 14, none⟩ = some (.slice none 0 0) := (cells_at hp 14 _ rfl).1
    have y14 : World.cell? v1 ⟨(w6.heap.size + 1), 14, none⟩ = some (.slice none 0 0) := (cells_at hq 14 _ rfl).1
    clear hp hq
    go_wp2_with fail
    clear x10 y10 x11 y11 x12 y12 x13 y13 x14 y14
    refine (zsame_x v1).mono ?_
    rintro e v2 ⟨rfl, hb2⟩
    have HD2 := Lib.hid (HD1.out.trans (hb2.mono HD1.out.size))
    have HK2 := Lib.hid (HK1.out.trans (hb2.mono HK1.out.size))
    clear hb2
    have hp := keep_heap HMD.out.hp HD2.out
    have hq := keep_heap HMD.out.hq HD2.out
    have x15 : World.cell? v2 ⟨w6.heap.size, 15, none⟩ = some (.int .i8 0) := (cells_at hp 15 _ rfl).1
    have y15 : World.cell? v2 ⟨(w6.heap.size + 1), 15, none⟩ = some (.int .i8 0) := (cells_at hq 15 _ rfl).1
    have x16 : World.cell? v2 ⟨w6.heap.size, 16, none⟩ = some (.int .i64 0) := (cells_at hp 16 _ rfl).1
    have y16 : World.cell? v2 ⟨(w6.heap.size + 1), 16, none⟩ = some (.int .i64 0) := (cells_at hq 16 _ rfl).1
    have x17 : World.cell? v2 ⟨w6.heap.size, 17, none⟩ = some (.string ⟨#[]⟩) := (cells_at hp 17 _ rfl).1
    have y17 : World.cell? v2 ⟨(w6.heap.size + 1), 17, none⟩ = some (.string ⟨#[]⟩) := (cells_at hq 17 _ rfl).1
    have x18 : World.cell? v2 ⟨w6.heap.size, 18, none⟩ = some (.string ⟨#[]⟩) := (cells_at hp 18 _ rfl).1
    have y18 : World.cell? v2 ⟨(w6.heap.size + 1), 18, none⟩ = some (.string ⟨#[]⟩) := (cells_at hq 18 _ rfl).1
    have x19 : World.cell? v2 ⟨w6.heap.size, 19, none⟩ = some (.slice none 0 0) := (cells_at hp 19 _ rfl).1
    have y19 : World.cell? v2 ⟨(w6.heap.size + 1), 19, none⟩ = some (.slice none 0 0) := (cells_at hq 19 _ rfl).1
    clear hp hq
    go_wp2_with fail
    clear x15 y15 x16 y16 x17 y17 x18 y18 x19 y19
    refine (zsame_x v2).mono ?_
    rintro e v3 ⟨rfl, hb3⟩
    have HD3 := Lib.hid (HD2.out.trans (hb3.mono HD2.out.size))
    have HK3 := Lib.hid (HK2.out.trans (hb3.mono HK2.out.size))
    clear hb3
    have hp := keep_heap HMD.out.hp HD3.out
    have hq := keep_heap HMD.out.hq HD3.out
    have x20 : World.cell? v3 ⟨w6.heap.size, 20, none⟩ = some (.slice ao an ac) := (cells_at hp 20 _ rfl).1
    have y20 : World.cell? v3 ⟨(w6.heap.size + 1), 20, none⟩ = some (.slice bo bn bc) := (cells_at hq 20 _ rfl).1
    clear hp hq
    go_wp2_with fail
    clear x20 y20
    refine ((HR.out v3 (HB6.out.trans (HK3.out.mono HB6.out.size)))).mono ?_
    rintro e v4 ⟨rfl, hb4⟩
    have HD4 := Lib.hid (HD3.out.trans (hb4.mono HD3.out.size))
    have HK4 := Lib.hid (HK3.out.trans (hb4.mono HK3.out.size))
    clear hb4
    have hp := keep_heap HMD.out.hp HD4.out
    have hq := keep_heap HMD.out.hq HD4.out
    have x21 : World.cell? v4 ⟨w6.heap.size, 21, none⟩ = some (.int .i8 0) := (cells_at hp 21 _ rfl).1
    have y21 : World.cell? v4 ⟨(w6.heap.size + 1), 21, none⟩ = some (.int .i8 0) := (cells_at hq 21 _ rfl).1
    have x22 : World.cell? v4 ⟨w6.heap.size, 22, none⟩ = some (.int .i64 0) := (cells_at hp 22 _ rfl).1
    have y22 : World.cell? v4 ⟨(w6.heap.size + 1), 22, none⟩ = some (.int .i64 0) := (cells_at hq 22 _ rfl).1
    have x23 : World.cell? v4 ⟨w6.heap.size, 23, none⟩ = some (.int .i64 0) := (cells_at hp 23 _ rfl).1
    have y23 : World.cell? v4 ⟨(w6.heap.size + 1), 23, none⟩ = some (.int .i64 0) := (cells_at hq 23 _ rfl).1
    have x24 : World.cell? v4 ⟨w6.heap.size, 24, none⟩ = some (.slice none 0 0) := (cells_at hp 24 _ rfl).1
    have y24 : World.cell? v4 ⟨(w6.heap.size + 1), 24, none⟩ = some (.slice none 0 0) := (cells_at hq 24 _ rfl).1
    clear hp hq
    go_wp2_with fail
    clear x21 y21 x22 y22 x23 y23 x24 y24
    refine (sup_zero v4).mono ?_
    rintro e v5 ⟨rfl, hb5⟩
    have HD5 := Lib.hid (HD4.out.trans (hb5.mono HD4.out.size))
    have HK5 := Lib.hid (HK4.out.trans (hb5.mono HK4.out.size))
    clear hb5
    have hp := keep_heap HMD.out.hp HD5.out
    have hq := keep_heap HMD.out.hq HD5.out
    have x25 : World.cell? v5 ⟨w6.heap.size, 25, none⟩ = some (.slice none 0 0) := (cells_at hp 25 _ rfl).1
    have y25 : World.cell? v5 ⟨(w6.heap.size + 1), 25, none⟩ = some (.slice none 0 0) := (cells_at hq 25 _ rfl).1
    clear hp hq
    go_wp2_with fail
    clear x25 y25
    refine (ints_nil v5).mono ?_
    rintro e v6 ⟨rfl, hb6⟩
    have HD6 := Lib.hid (HD5.out.trans (hb6.mono HD5.out.size))
    have HK6 := Lib.hid (HK5.out.trans (hb6.mono HK5.out.size))
    clear hb6
    have hp := keep_heap HMD.out.hp HD6.out
    have hq := keep_heap HMD.out.hq HD6.out
    have x26 : World.cell? v6 ⟨w6.heap.size, 26, none⟩ = some (.slice none 0 0) := (cells_at hp 26 _ rfl).1
    have y26 : World.cell? v6 ⟨(w6.heap.size + 1), 26, none⟩ = some (.slice none 0 0) := (cells_at hq 26 _ rfl).1
    clear hp hq
    go_wp2_with fail
    clear x26 y26
    refine (ints_nil v6).mono ?_
    rintro e v7 ⟨rfl, hb7⟩
    have HD7 := Lib.hid (HD6.out.trans (hb7.mono HD6.out.size))
    have HK7 := Lib.hid (HK6.out.trans (hb7.mono HK6.out.size))
    clear hb7
    go_wp2_with fail
    go_ret
    exact ⟨rfl, HB6.out.trans (HK7.out.mono HB6.out.size)⟩
  · skip
    refine plan_op rfl ?_ (fun K hK => ?_)
    focus (rfl)
    go_simp
    have hbn := (Below.refl w6.heap.size w6).alloc (Nat.le_refl _) (.cells #[.int .i8 0, .int .i64 0, .int .i64 0, .int .i64 0, .int .i64 0, .int .i8 0, .int .i64 0, .string ⟨#[]⟩, .string ⟨#[]⟩, .slice none 0 0, .int .i8 0, .int .i64 0, .string ⟨#[]⟩, .string ⟨#[]⟩, .slice none 0 0, .int .i8 0, .int .i64 0, .string ⟨#[]⟩, .string ⟨#[]⟩, .slice none 0 0, .slice none 0 0, .int .i8 0, .int .i64 0, .int .i64 0, .slice none 0 0, .slice none 0 0, .slice none 0 0] 37)
    have hS1 := hS.keep hbn
    refine hK.out _ _ hS1 ?_
    clear hK K
    (try simp only [Act.put, List.setIfInBounds_toArray, List.set_cons_zero, List.set_cons_succ])
    refine plan_op rfl ?_ (fun K hK => ?_)
    focus (rfl)
    go_simp
    have hbm := (Below.refl (w6.alloc (.cells #[.int .i8 0, .int .i64 0, .int .i64 0, .int .i64 0, .int .i64 0, .int .i8 0, .int .i64 0, .string ⟨#[]⟩, .string ⟨#[]⟩, .slice none 0 0, .int .i8 0, .int .i64 0, .string ⟨#[]⟩, .string ⟨#[]⟩, .slice none 0 0, .int .i8 0, .int .i64 0, .string ⟨#[]⟩, .string ⟨#[]⟩, .slice none 0 0, .slice none 0 0, .int .i8 0, .int .i64 0, .int .i64 0, .slice none 0 0, .slice none 0 0, .slice none 0 0] 37)).heap.size (w6.alloc (.cells #[.int .i8 0, .int .i64 0, .int .i64 0, .int .i64 0, .int .i64 0, .int .i8 0, .int .i64 0, .string ⟨#[]⟩, .string ⟨#[]⟩, .slice none 0 0, .int .i8 0, .int .i64 0, .string ⟨#[]⟩, .string ⟨#[]⟩, .slice none 0 0, .int .i8 0, .int .i64 0, .string ⟨#[]⟩, .string ⟨#[]⟩, .slice none 0 0, .slice none 0 0, .int .i8 0, .int .i64 0, .int .i64 0, .slice none 0 0, .slice none 0 0, .slice none 0 0] 37))).alloc (Nat.le_refl _) (.cells #[.int .i8 0, .int .i64 0, .int .i64 0, .int .i64 0, .int .i64 0, .int .i8 0, .int .i64 0, .string ⟨#[]⟩, .string ⟨#[]⟩, .slice none 0 0, .int .i8 0, .int .i64 0, .string ⟨#[]⟩, .string ⟨#[]⟩, .slice none 0 0, .int .i8 0, .int .i64 0, .string ⟨#[]⟩, .string ⟨#[]⟩, .slice none 0 0, .slice none 0 0, .int .i8 0, .int .i64 0, .int .i64 0, .slice none 0 0, .slice none 0 0, .slice none 0 0] 37)
    have hS2 := hS1.keep hbm
    refine hK.out _ _ hS2 ?_
    clear hK K
    (try simp only [Act.put, List.setIfInBounds_toArray, List.set_cons_zero, List.set_cons_succ])
    obtain ⟨m1, m2, m3⟩ := two_boxesx w6 (.cells #[.int .i8 0, .int .i64 0, .int .i64 0, .int .i64 0, .int .i64 0, .int .i8 0, .int .i64 0, .string ⟨#[]⟩, .string ⟨#[]⟩, .slice none 0 0, .int .i8 0, .int .i64 0, .string ⟨#[]⟩, .string ⟨#[]⟩, .slice none 0 0, .int .i8 0, .int .i64 0, .string ⟨#[]⟩, .string ⟨#[]⟩, .slice none 0 0, .slice none 0 0, .int .i8 0, .int .i64 0, .int .i64 0, .slice none 0 0, .slice none 0 0, .slice none 0 0] 37) (.cells #[.int .i8 0, .int .i64 0, .int .i64 0, .int .i64 0, .int .i64 0, .int .i8 0, .int .i64 0, .string ⟨#[]⟩, .string ⟨#[]⟩, .slice none 0 0, .int .i8 0, .int .i64 0, .string ⟨#[]⟩, .string ⟨#[]⟩, .slice none 0 0, .int .i8 0, .int .i64 0, .string ⟨#[]⟩, .string ⟨#[]⟩, .slice none 0 0, .slice none 0 0, .int .i8 0, .int .i64 0, .int .i64 0, .slice none 0 0, .slice none 0 0, .slice none 0 0] 37)
    have HM : Hid (Mb w6 ((w6.alloc (.cells #[.int .i8 0, .int .i64 0, .int .i64 0, .int .i64 0, .int .i64 0, .int .i8 0, .int .i64 0, .string ⟨#[]⟩, .string ⟨#[]⟩, .slice none 0 0, .int .i8 0, .int .i64 0, .string ⟨#[]⟩, .string ⟨#[]⟩, .slice none 0 0, .int .i8 0, .int .i64 0, .string ⟨#[]⟩, .string ⟨#[]⟩, .slice none 0 0, .slice none 0 0, .int .i8 0, .int .i64 0, .int .i64 0, .slice none 0 0, .slice none 0 0, .slice none 0 0] 37)).alloc (.cells #[.int .i8 0, .int .i64 0, .int .i64 0, .int .i64 0, .int .i64 0, .int .i8 0, .int .i64 0, .string ⟨#[]⟩, .string ⟨#[]⟩, .slice none 0 0, .int .i8 0, .int .i64 0, .string ⟨#[]⟩, .string ⟨#[]⟩, .slice none 0 0, .int .i8 0, .int .i64 0, .string ⟨#[]⟩, .string ⟨#[]⟩, .slice none 0 0, .slice none 0 0, .int .i8 0, .int .i64 0, .int .i64 0, .slice none 0 0, .slice none 0 0, .slice none 0 0] 37)) (w6.heap.size + 1) w6.heap.size #[.int .i8 0, .int .i64 0, .int .i64 0, .int .i64 0, .int .i64 0, .int .i8 0, .int .i64 0, .string ⟨#[]⟩, .string ⟨#[]⟩, .slice none 0 0, .int .i8 0, .int .i64 0, .string ⟨#[]⟩, .string ⟨#[]⟩, .slice none 0 0, .int .i8 0, .int .i64 0, .string ⟨#[]⟩, .string ⟨#[]⟩, .slice none 0 0, .slice none 0 0, .int .i8 0, .int .i64 0, .int .i64 0, .slice none 0 0, .slice none 0 0, .slice none 0 0] #[.int .i8 0, .int .i64 0, .int .i64 0, .int .i64 0, .int .i64 0, .int .i8 0, .int .i64 0, .string ⟨#[]⟩, .string ⟨#[]⟩, .slice none 0 0, .int .i8 0, .int .i64 0, .string ⟨#[]⟩, .string ⟨#[]⟩, .slice none 0 0, .int .i8 0, .int .i64 0, .string ⟨#[]⟩, .string ⟨#[]⟩, .slice none 0 0, .slice none 0 0, .int .i8 0, .int .i64 0, .int .i64 0, .slice none 0 0, .slice none 0 0, .slice none 0 0]) := Lib.hid ⟨m3, m2, m1, by omega, by omega, by omega⟩
    clear hbn hbm hS hS1 hS2 m1 m2 m3
    generalize (w6.alloc (.cells #[.int .i8 0, .int .i64 0, .int .i64 0, .int .i64 0, .int .i64 0, .int .i8 0, .int .i64 0, .string ⟨#[]⟩, .string ⟨#[]⟩, .slice none 0 0, .int .i8 0, .int .i64 0, .string ⟨#[]⟩, .string ⟨#[]⟩, .slice none 0 0, .int .i8 0, .int .i64 0, .string ⟨#[]⟩, .string ⟨#[]⟩, .slice none 0 0, .slice none 0 0, .int .i8 0, .int .i64 0, .int .i64 0, .slice none 0 0, .slice none 0 0, .slice none 0 0] 37)).alloc (.cells #[.int .i8 0, .int .i64 0, .int .i64 0, .int .i64 0, .int .i64 0, .int .i8 0, .int .i64 0, .string ⟨#[]⟩, .string ⟨#[]⟩, .slice none 0 0, .int .i8 0, .int .i64 0, .string ⟨#[]⟩, .string ⟨#[]⟩, .slice none 0 0, .int .i8 0, .int .i64 0, .string ⟨#[]⟩, .string ⟨#[]⟩, .slice none 0 0, .slice none 0 0, .int .i8 0, .int .i64 0, .int .i64 0, .slice none 0 0, .slice none 0 0, .slice none 0 0] 37) = wB at *
    refine plan_run rfl ?_ (fun K hK => ?_)
    focus (rfl)
    refine wp_store_row 37 (.tmp 5) (.tmp 66) rfl (w6.heap.size + 1) (nfM pid dl ao an ac).toArray rfl rfl 37 #[.int .i8 0, .int .i64 0, .int .i64 0, .int .i64 0, .int .i64 0, .int .i8 0, .int .i64 0, .string ⟨#[]⟩, .string ⟨#[]⟩, .slice none 0 0, .int .i8 0, .int .i64 0, .string ⟨#[]⟩, .string ⟨#[]⟩, .slice none 0 0, .int .i8 0, .int .i64 0, .string ⟨#[]⟩, .string ⟨#[]⟩, .slice none 0 0, .slice none 0 0, .int .i8 0, .int .i64 0, .int .i64 0, .slice none 0 0, .slice none 0 0, .slice none 0 0] HM.out.hp (infoMAx rfl) rfl (by simp [nfM, Value.oneCell']) ?_
    have hm1 := HM.out.setp (nfM pid dl ao an ac).toArray
    have hS6 : NfS w.heap.size (nfM pid dl ao an ac) (nfM pid dl bo bn bc) (wB.setRow (w6.heap.size + 1) (nfM pid dl ao an ac).toArray) := HS.out.keep hm1.hb
    refine hK.out _ _ (hS6) ?_
    clear hK K
    (try simp only [Act.put, List.setIfInBounds_toArray, List.set_cons_zero, List.set_cons_succ])
    have HM1 := Lib.hid hm1
    clear HM hm1 hS6
    generalize wB.setRow (w6.heap.size + 1) (nfM pid dl ao an ac).toArray = wC at *
    refine plan_run rfl ?_ (fun K hK => ?_)
    focus (rfl)
    refine wp_store_row 37 (.tmp 6) (.tmp 68) rfl w6.heap.size (nfM pid dl bo bn bc).toArray rfl rfl 37 #[.int .i8 0, .int .i64 0, .int .i64 0, .int .i64 0, .int .i64 0, .int .i8 0, .int .i64 0, .string ⟨#[]⟩, .string ⟨#[]⟩, .slice none 0 0, .int .i8 0, .int .i64 0, .string ⟨#[]⟩, .string ⟨#[]⟩, .slice none 0 0, .int .i8 0, .int .i64 0, .string ⟨#[]⟩, .string ⟨#[]⟩, .slice none 0 0, .slice none 0 0, .int .i8 0, .int .i64 0, .int .i64 0, .slice none 0 0, .slice none 0 0, .slice none 0 0] HM1.out.hq (infoMAx rfl) rfl (by simp [nfM, Value.oneCell']) ?_
    have hm2 := HM1.out.setq (nfM pid dl bo bn bc).toArray
    have hS7 : NfS w.heap.size (nfM pid dl ao an ac) (nfM pid dl bo bn bc) (wC.setRow w6.heap.size (nfM pid dl bo bn bc).toArray) := HS.out.keep hm2.hb
    refine hK.out _ _ (hS7) ?_
    clear hK K
    (try simp only [Act.put, List.setIfInBounds_toArray, List.set_cons_zero, List.set_cons_succ])
    have HMD := Lib.hid hm2
    clear HM1 hm2 hS7 HS
    generalize wC.setRow w6.heap.size (nfM pid dl bo bn bc).toArray = wD at *
    refine plan_done ?_
    have HK0 := Lib.hid HMD.out.hb
    have HD0 := Lib.hid (Below.refl wD.heap.size wD)
    have hp := keep_heap HMD.out.hp HD0.out
    have hq := keep_heap HMD.out.hq HD0.out
    have x0 : World.cell? wD ⟨(w6.heap.size + 1), 0, none⟩ = some (.int .i8 0) := (cells_at hp 0 _ rfl).1
    have y0 : World.cell? wD ⟨w6.heap.size, 0, none⟩ = some (.int .i8 0) := (cells_at hq 0 _ rfl).1
    have x1 : World.cell? wD ⟨(w6.heap.size + 1), 1, none⟩ = some (.int .i64 pid) := (cells_at hp 1 _ rfl).1
    have y1 : World.cell? wD ⟨w6.heap.size, 1, none⟩ = some (.int .i64 pid) := (cells_at hq 1 _ rfl).1
    have x2 : World.cell? wD ⟨(w6.heap.size + 1), 2, none⟩ = some (.int .i64 0) := (cells_at hp 2 _ rfl).1
    have y2 : World.cell? wD ⟨w6.heap.size, 2, none⟩ = some (.int .i64 0) := (cells_at hq 2 _ rfl).1
    have x3 : World.cell? wD ⟨(w6.heap.size + 1), 3, none⟩ = some (.int .i64 dl) := (cells_at hp 3 _ rfl).1
    have y3 : World.cell? wD ⟨w6.heap.size, 3, none⟩ = some (.int .i64 dl) := (cells_at hq 3 _ rfl).1
    have x4 : World.cell? wD ⟨(w6.heap.size + 1), 4, none⟩ = some (.int .i64 0) := (cells_at hp 4 _ rfl).1
    have y4 : World.cell? wD ⟨w6.heap.size, 4, none⟩ = some (.int .i64 0) := (cells_at hq 4 _ rfl).1
    have x5 : World.cell? wD ⟨(w6.heap.size + 1), 5, none⟩ = some (.int .i8 0) := (cells_at hp 5 _ rfl).1
    have y5 : World.cell? wD ⟨w6.heap.size, 5, none⟩ = some (.int .i8 0) := (cells_at hq 5 _ rfl).1
    have x6 : World.cell? wD ⟨(w6.heap.size + 1), 6, none⟩ = some (.int .i64 0) := (cells_at hp 6 _ rfl).1
    have y6 : World.cell? wD ⟨w6.heap.size, 6, none⟩ = some (.int .i64 0) := (cells_at hq 6 _ rfl).1
    have x7 : World.cell? wD ⟨(w6.heap.size + 1), 7, none⟩ = some (.string ⟨#[]⟩) := (cells_at hp 7 _ rfl).1
    have y7 : World.cell? wD ⟨w6.heap.size, 7, none⟩ = some (.string ⟨#[]⟩) := (cells_at hq 7 _ rfl).1
    have x8 : World.cell? wD ⟨(w6.heap.size + 1), 8, none⟩ = some (.string ⟨#[]⟩) := (cells_at hp 8 _ rfl).1
    have y8 : World.cell? wD ⟨w6.heap.size, 8, none⟩ = some (.string ⟨#[]⟩) := (cells_at hq 8 _ rfl).1
    have x9 : World.cell? wD ⟨(w6.heap.size + 1), 9, none⟩ = some (.slice none 0 0) := (cells_at hp 9 _ rfl).1
    have y9 : World.cell? wD ⟨w6.heap.size, 9, none⟩ = some (.slice none 0 0) := (cells_at hq 9 _ rfl).1
    clear hp hq
    go_wp2_with fail
    clear x0 y0 x1 y1 x2 y2 x3 y3 x4 y4 x5 y5 x6 y6 x7 y7 x8 y8 x9 y9
    refine (zsame_x wD).mono ?_
    rintro e v1 ⟨rfl, hb1⟩
    have HD1 := Lib.hid (HD0.out.trans (hb1.mono HD0.out.size))
    have HK1 := Lib.hid (HK0.out.trans (hb1.mono HK0.out.size))
    clear hb1
    have hp := keep_heap HMD.out.hp HD1.out
    have hq := keep_heap HMD.out.hq HD1.out
    have x10 : World.cell? v1 ⟨(w6.heap.size + 1), 10, none⟩ = some (.int .i8 0) := (cells_at hp 10 _ rfl).1
    have y10 : World.cell? v1 ⟨w6.heap.size, 10, none⟩ = some (.int .i8 0) := (cells_at hq 10 _ rfl).1
    have x11 : World.cell? v1 ⟨(w6.heap.size + 1), 11, none⟩ = some (.int .i64 0) := (cells_at hp 11 _ rfl).1
    have y11 : World.cell? v1 ⟨w6.heap.size, 11, none⟩ = some (.int .i64 0) := (cells_at hq 11 _ rfl).1
    have x12 : World.cell? v1 ⟨(w6.heap.size + 1), 12, none⟩ = some (.string ⟨#[]⟩) := (cells_at hp 12 _ rfl).1
    have y12 : World.cell? v1 ⟨w6.heap.size, 12, none⟩ = some (.string ⟨#[]⟩) := (cells_at hq 12 _ rfl).1
    have x13 : World.cell? v1 ⟨(w6.heap.size + 1), 13, none⟩ = some (.string ⟨#[]⟩) := (cells_at hp 13 _ rfl).1
    have y13 : World.cell? v1 ⟨w6.heap.size, 13, none⟩ = some (.string ⟨#[]⟩) := (cells_at hq 13 _ rfl).1
    have x14 : World.cell? v1 ⟨(w6.heap.size + 1), 14, none⟩ = some (.slice none 0 0) := (cells_at hp 14 _ rfl).1
    have y14 : World.cell? v1 ⟨w6.heap.size, 14, none⟩ = some (.slice none 0 0) := (cells_at hq 14 _ rfl).1
    clear hp hq
    go_wp2_with fail
    clear x10 y10 x11 y11 x12 y12 x13 y13 x14 y14
    refine (zsame_x v1).mono ?_
    rintro e v2 ⟨rfl, hb2⟩
    have HD2 := Lib.hid (HD1.out.trans (hb2.mono HD1.out.size))
    have HK2 := Lib.hid (HK1.out.trans (hb2.mono HK1.out.size))
    clear hb2
    have hp := keep_heap HMD.out.hp HD2.out
    have hq := keep_heap HMD.out.hq HD2.out
    have x15 : World.cell? v2 ⟨(w6.heap.size + 1), 15, none⟩ = some (.int .i8 0) := (cells_at hp 15 _ rfl).1
    have y15 : World.cell? v2 ⟨w6.heap.size, 15, none⟩ = some (.int .i8 0) := (cells_at hq 15 _ rfl).1
    have x16 : World.cell? v2 ⟨(w6.heap.size + 1), 16, none⟩ = some (.int .i64 0) := (cells_at hp 16 _ rfl).1
    have y16 : World.cell? v2 ⟨w6.heap.size, 16, none⟩ = some (.int .i64 0) := (cells_at hq 16 _ rfl).1
    have x17 : World.cell? v2 ⟨(w6.heap.size + 1), 17, none⟩ = some (.string ⟨#[]⟩) := (cells_at hp 17 _ rfl).1
    have y17 : World.cell? v2 ⟨w6.heap.size, 17, none⟩ = some (.string ⟨#[]⟩) := (cells_at hq 17 _ rfl).1
    have x18 : World.cell? v2 ⟨(w6.heap.size + 1), 18, none⟩ = some (.string ⟨#[]⟩) := (cells_at hp 18 _ rfl).1
    have y18 : World.cell? v2 ⟨w6.heap.size, 18, none⟩ = some (.string ⟨#[]⟩) := (cells_at hq 18 _ rfl).1
    have x19 : World.cell? v2 ⟨(w6.heap.size + 1), 19, none⟩ = some (.slice none 0 0) := (cells_at hp 19 _ rfl).1
    have y19 : World.cell? v2 ⟨w6.heap.size, 19, none⟩ = some (.slice none 0 0) := (cells_at hq 19 _ rfl).1
    clear hp hq
    go_wp2_with fail
    clear x15 y15 x16 y16 x17 y17 x18 y18 x19 y19
    refine (zsame_x v2).mono ?_
    rintro e v3 ⟨rfl, hb3⟩
    have HD3 := Lib.hid (HD2.out.trans (hb3.mono HD2.out.size))
    have HK3 := Lib.hid (HK2.out.trans (hb3.mono HK2.out.size))
    clear hb3
    have hp := keep_heap HMD.out.hp HD3.out
    have hq := keep_heap HMD.out.hq HD3.out
    have x20 : World.cell? v3 ⟨(w6.heap.size + 1), 20, none⟩ = some (.slice ao an ac) := (cells_at hp 20 _ rfl).1
    have y20 : World.cell? v3 ⟨w6.heap.size, 20, none⟩ = some (.slice bo bn bc) := (cells_at hq 20 _ rfl).1
    clear hp hq
    go_wp2_with fail
    clear x20 y20
    refine ((HR.out v3 (HB6.out.trans (HK3.out.mono HB6.out.size)))).mono ?_
    rintro e v4 ⟨rfl, hb4⟩
    have HD4 := Lib.hid (HD3.out.trans (hb4.mono HD3.out.size))
    have HK4 := Lib.hid (HK3.out.trans (hb4.mono HK3.out.size))
    clear hb4
    have hp := keep_heap HMD.out.hp HD4.out
    have hq := keep_heap HMD.out.hq HD4.out
    have x21 : World.cell? v4 ⟨(w6.heap.size + 1), 21, none⟩ = some (.int .i8 0) := (cells_at hp 21 _ rfl).1
    have y21 : World.cell? v4 ⟨w6.heap.size, 21, none⟩ = some (.int .i8 0) := (cells_at hq 21 _ rfl).1
    have x22 : World.cell? v4 ⟨(w6.heap.size + 1), 22, none⟩ = some (.int .i64 0) := (cells_at hp 22 _ rfl).1
    have y22 : World.cell? v4 ⟨w6.heap.size, 22, none⟩ = some (.int .i64 0) := (cells_at hq 22 _ rfl).1
    have x23 : World.cell? v4 ⟨(w6.heap.size + 1), 23, none⟩ = some (.int .i64 0) := (cells_at hp 23 _ rfl).1
    have y23 : World.cell? v4 ⟨w6.heap.size, 23, none⟩ = some (.int .i64 0) := (cells_at hq 23 _ rfl).1
    have x24 : World.cell? v4 ⟨(w6.heap.size + 1), 24, none⟩ = some (.slice none 0 0) := (cells_at hp 24 _ rfl).1
    have y24 : World.cell? v4 ⟨w6.heap.size, 24, none⟩ = some (.slice none 0 0) := (cells_at hq 24 _ rfl).1
    clear hp hq
    go_wp2_with fail
    clear x21 y21 x22 y22 x23 y23 x24 y24
    refine (sup_zero v4).mono ?_
    rintro e v5 ⟨rfl, hb5⟩
    have HD5 := Lib.hid (HD4.out.trans (hb5.mono HD4.out.size))
    have HK5 := Lib.hid (HK4.out.trans (hb5.mono HK4.out.size))
    clear hb5
    have hp := keep_heap HMD.out.hp HD5.out
    have hq := keep_heap HMD.out.hq HD5.out
    have x25 : World.cell? v5 ⟨(w6.heap.size + 1), 25, none⟩ = some (.slice none 0 0) := (cells_at hp 25 _ rfl).1
    have y25 : World.cell? v5 ⟨w6.heap.size, 25, none⟩ = some (.slice none 0 0) := (cells_at hq 25 _ rfl).1
    clear hp hq
    go_wp2_with fail
    clear x25 y25
    refine (ints_nil v5).mono ?_
    rintro e v6 ⟨rfl, hb6⟩
    have HD6 := Lib.hid (HD5.out.trans (hb6.mono HD5.out.size))
    have HK6 := Lib.hid (HK5.out.trans (hb6.mono HK5.out.size))
    clear hb6
    have hp := keep_heap HMD.out.hp HD6.out
    have hq := keep_heap HMD.out.hq HD6.out
    have x26 : World.cell? v6 ⟨(w6.heap.size + 1), 26, none⟩ = some (.slice none 0 0) := (cells_at hp 26 _ rfl).1
    have y26 : World.cell? v6 ⟨w6.heap.size, 26, none⟩ = some (.slice none 0 0) := (cells_at hq 26 _ rfl).1
    clear hp hq
    go_wp2_with fail
    clear x26 y26
    refine (ints_nil v6).mono ?_
    rintro e v7 ⟨rfl, hb7⟩
    have HD7 := Lib.hid (HD6.out.trans (hb7.mono HD6.out.size))
    have HK7 := Lib.hid (HK6.out.trans (hb7.mono HK6.out.size))
    clear hb7
    go_wp2_with fail
    go_ret
    exact ⟨rfl, HB6.out.trans (HK7.out.mono HB6.out.size)⟩
theorem sameframe19_nf (w : World) (k pid dl : Int) (ao bo : Option Addr) (an ac bn bc : Nat) (hr : ∀ W, Below w.heap.size w W → Calls Tryz.prog 64 #[.slice ao an ac, .slice bo bn bc] W (IsPost W true)) :
    Calls Tryz.prog 14 #[.agg (nfC k pid dl ao an ac).toArray, .agg (nfC k pid dl bo bn bc).toArray] w (IsPost w true) := by
  obtain ⟨b1, b2, hb⟩ := two_boxesx w (.cells (nfC k pid dl ao an ac).toArray 39) (.cells (nfC k pid dl bo bn bc).toArray 39)
  have HC := Lib.hid (sameframe_nf ((w.alloc (.cells (nfC k pid dl ao an ac).toArray 39)).alloc (.cells (nfC k pid dl bo bn bc).toArray 39)) k pid dl ao bo an ac bn bc (fun W hW => hr W (hb.trans (hW.mono hb.size))))
  have HB := Lib.hid (And.intro hb (And.intro b1 b2))
  clear b1 b2 hb hr
  go_enter Tryz.func14, Tryz.ntmps14
  go_wp2_with (with_reducible refine stop_op (o := ⟨_, .load 39 (.tmp 2), _, _, _, _⟩) ?_)
  refine Lib.hid ?_
  generalize (w.alloc (.cells (nfC k pid dl ao an ac).toArray 39)).alloc (.cells (nfC k pid dl bo bn bc).toArray 39) = w1 at *
  refine wpList_load_row (o := ⟨_, _, _, _, _, _⟩) rfl 39 (.tmp 2) rfl w.heap.size rfl 39 (nfC k pid dl ao an ac).toArray (0, 0) _ HB.out.2.1 Tryz.underlying39 rfl (infoFR rfl) ?_
  go_wp2_with (with_reducible refine stop_op (o := ⟨_, .load 39 (.tmp 3), _, _, _, _⟩) ?_)
  refine Lib.hid ?_
  refine wpList_load_row (o := ⟨_, _, _, _, _, _⟩) rfl 39 (.tmp 3) rfl (w.heap.size + 1) rfl 39 (nfC k pid dl bo bn bc).toArray (0, 0) _ HB.out.2.2 Tryz.underlying39 rfl (infoFR rfl) ?_
  go_wp2_with fail
  refine HC.out.mono ?_
  clear HC
  rintro e w2 ⟨rfl, hb2⟩
  have HB2 := Lib.hid (HB.out.1.trans (hb2.mono HB.out.1.size))
  clear hb2
  go_wp2_with fail
  go_ret
  exact ⟨rfl, HB2.out⟩
end Go.Proofs.YthpmdeofdlcccaaGreatDoor
