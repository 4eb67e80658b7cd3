/- stop.tagged, stop.IsExit. Conditions: the item reads; the letters stand. -/
/- what waiting comes to; its worlds. In plain Lean and worlds. No conditions. -/
import Derived.Test.YtepfmanbllegiaaDoorMt11
namespace Go.Proofs.YtepfmanbllegiaaDoor
open Go.ChangeShapes Go.WideShapes Go.ChangeAt Go.RowKit
set_option linter.unusedVariables false
set_option linter.unusedSimpArgs false
set_option maxRecDepth 100000
/-- is it ours, and a tuple of so many parts, the first one that atom, the second one of that kind? -/
def tagB (t : Tm) (o : Bool) (tag : ByteArray) (n : Nat) (kd : Int) : Bool := o && (decide (t.k = 5) && (decide (t.l.length = n) && match t.l with
  | a :: b :: _ => decide (a.k = 1) && (decide (a.s = tag) && decide (b.k = kd))
  | _ => false))
set_option maxHeartbeats 4000000 in
theorem tagged_any (M : Nat → Prop) (w : World) (q : Nat) (it : It) (tag : ByteArray) (n : Nat) (kd : Int) (hi : TeOk M w it.x) (hq : w.heap[q]? = some (.cells #[.int .i8 it.x.k, .int .i64 it.x.n, .string it.x.s, .string it.x.u, .slice it.x.ao it.x.l.length it.x.cap, .bool it.o] 72 (0, 0))) (h2 : 2 ≤ n) (hn : n ≤ 100) :
    Calls Tryd.prog 50 #[.pointer (some ⟨q, 0, none⟩), .string tag, .int .i64 n, .int .i8 kd] w (IsPost w (tagB it.x.t it.o tag n kd)) := by
  have y0 : w.cell? ⟨q, 0, none⟩ = some (.int .i8 it.x.k) := (cells_at hq 0 _ rfl).1
  have y4 : w.cell? ⟨q, 4, none⟩ = some (.slice it.x.ao it.x.l.length it.x.cap) := (cells_at hq 4 _ rfl).1
  have y5 : w.cell? ⟨q, 5, none⟩ = some (.bool it.o) := (cells_at hq 5 _ rfl).1
  have HE := Lib.hid (show tagB it.x.t it.o tag n kd = (it.o && (decide (it.x.k = 5) && (decide (it.x.l.length = n) && match it.x.l with
    | a :: b :: _ => decide (a.k = 1) && (decide (a.s = tag) && decide (b.k = kd))
    | _ => false))) from rfl)
  clear hq
  cases ho : it.o
  · rw [ho] at y5
    have HF := Lib.hid (show tagB it.x.t false tag n kd = false from rfl)
    clear HE
    go_enter Tryd.func50, Tryd.ntmps50
    go_wp2_with fail
    go_ret
    exact ⟨by rw [HF.out]; rfl, Below.refl _ _⟩
  · rw [ho] at y5 HE
    by_cases hk : it.x.k = 5
    · by_cases hl : it.x.l.length = n
      · obtain ⟨b, off, y, e1, e2, -, hp0, -⟩ := hi.part (i := 0) (by omega)
        obtain ⟨b', off', z, e1', e2', -, hp1, -⟩ := hi.part (i := 1) (by omega)
        rw [e1] at e1'
        injection e1' with e1'
        injection e1' with g1 g2
        subst g1 g2
        have hE2 : tagB it.x.t true tag n kd = (decide (y.k = 1) && (decide (y.s = tag) && decide (z.k = kd))) := by
          have h0 := HE.out
          cases hxl : it.x.l with
          | nil => rw [hxl] at hl; simp at hl; omega
          | cons a l =>
            cases l with
            | nil => rw [hxl] at hl; simp at hl; omega
            | cons c l =>
              rw [hxl] at e2 e2'
              simp at e2 e2'
              subst e2 e2'
              rw [hxl] at h0 hl
              rw [h0]
              simp only [hk, hl, decide_true, Bool.true_and]
              rfl
        have HE2 := Lib.hid hE2
        clear hE2 HE e2 e2' hi
        rw [e1, hl] at y4
        rw [hk] at y0
        obtain ⟨p0, -, p2, -, -⟩ := hp0
        obtain ⟨r0, -, -, -, -⟩ := hp1
        rw [show off + 0 * 5 = off by omega] at p0 p2
        rw [show off + 1 * 5 = off + 5 by omega] at r0
        have hn0 : (0 : Int) < (n : Int) := by omega
        have hn1 : (1 : Int) < (n : Int) := by omega
        clear hl hk e1
        have HO := Lib.hid ho
        by_cases h1 : y.k = 1
        · rw [h1] at p0
          by_cases h3 : y.s = tag
          · rw [h3] at p2
            have HF := Lib.hid (show tagB it.x.t true tag n kd = (z.k == kd) by rw [HE2.out, h1, h3]; simp; by_cases h : z.k = kd <;> simp [h])
            clear HE2 h1 h3 ho
            go_enter Tryd.func50, Tryd.ntmps50
            go_wp2_with fail
            go_ret
            exact ⟨by rw [HF.out]; rfl, Below.refl _ _⟩
          · have q1 := str_ne h3
            have HF := Lib.hid (show tagB it.x.t true tag n kd = false by rw [HE2.out]; simp [h3])
            clear HE2 h1 h3 ho
            go_enter Tryd.func50, Tryd.ntmps50
            go_wp2_with fail
            go_ret
            exact ⟨by rw [HF.out]; rfl, Below.refl _ _⟩
        · have q1 : (y.k == 1) = false := by simp [h1]
          have HF := Lib.hid (show tagB it.x.t true tag n kd = false by rw [HE2.out]; simp [h1])
          clear HE2 h1 ho
          go_enter Tryd.func50, Tryd.ntmps50
          go_wp2_with fail
          go_ret
          exact ⟨by rw [HF.out]; rfl, Below.refl _ _⟩
      · have q1 : ((it.x.l.length : Int) == (n : Int)) = false := by simp; omega
        have HF := Lib.hid (show tagB it.x.t true tag n kd = false by rw [HE.out]; simp [hl])
        rw [hk] at y0
        clear HE hl hk
        go_enter Tryd.func50, Tryd.ntmps50
        go_wp2_with fail
        go_ret
        exact ⟨by rw [HF.out]; rfl, Below.refl _ _⟩
    · have q1 : (it.x.k == 5) = false := by simp [hk]
      have HF := Lib.hid (show tagB it.x.t true tag n kd = false by rw [HE.out]; simp [hk])
      clear HE hk
      go_enter Tryd.func50, Tryd.ntmps50
      go_wp2_with fail
      go_ret
      exact ⟨by rw [HF.out]; rfl, Below.refl _ _⟩
def exiS : ByteArray := ⟨#[101, 120, 105, 116, 101, 100]⟩
/-- an end of a process? -/
def exB (t : Tm) (o : Bool) : Bool := tagB t o exiS 3 4 && decide (checkN t = 0)
/-- whose, why -/
def exN (t : Tm) (o : Bool) : Int := if exB t o then ((t.l[1]?).getD zTm).n else 0
def exT (t : Tm) (o : Bool) : Tm := if exB t o then (t.l[2]?).getD zTm else zTm
def ExP (M : Nat → Prop) (w : World) (t : Tm) (o : Bool) (e : Ending) (w' : World) : Prop := Below w.heap.size w w' ∧ ∃ y : TE, e = .returned (.tuple #[.int .i64 (exN t o), .agg #[.int .i8 y.k, .int .i64 y.n, .string y.s, .string y.u, .slice y.ao y.l.length y.cap], .bool (exB t o)]) ∧ TeOk M w' y ∧ y.t = exT t o
theorem ret_row13 {P : Program} {fn : Func} {R : Ending → World → Prop} {tmps : Array Value} {w : World} {g p q r : Nat} {ty t : TypeId} {fr : Nat × Nat} {d : TypeDesc} {cs : Array Value} {u v : Value} (hg : w.heap[g]? = some (.cells cs t fr)) (hfn : fn.results = #[.tmp q, .cell p ty, .tmp r])
    (hu : P.underlying ty = some d) (hd : (match d with | .struct _ | .array _ _ => true | _ => false) = true) (hi : (P.info? ty).map (·.size) = some cs.size)
    (hp : tmps.getD p undef = .pointer (some ⟨g, 0, none⟩)) (hq : tmps.getD q undef = u) (hr : tmps.getD r undef = v) (hpost : R (.returned (.tuple #[u, .agg cs, v])) w) : bodyPost P fn R .ret { tmps := tmps, defers := [] } w := by
  refine bodyPost_ret (v := .tuple #[u, .agg cs, v]) ?_ rfl hpost
  have hl := run_loadVar_row (P := P) w g t ty cs fr d hg hu hd hi
  unfold results
  rw [hfn]
  simp only [Array.getD_eq_getD_getElem?] at hp hq hr
  simp [asAddr, hp, hq, hr, hl]
theorem check_x {M : Nat → Prop} (w : World) (hc : Cells w 0 letL) (x : TE) (hx : TeOk M w x) : Calls Tryd.prog 22 #[.agg #[.int .i8 x.k, .int .i64 x.n, .string x.s, .string x.u, .slice x.ao x.l.length x.cap]] w fun e w' => e = .returned (.int .i64 (checkN x.t)) ∧ Below w.heap.size w w' := check_any _ x.t _ w hc hx.tv.choose_spec
def ExS (q b o : Nat) (c : Nat) (yn : Int) (z : TE) (W : World) : Prop := W.cell? ⟨q, 4, none⟩ = some (.slice (some ⟨b, o, none⟩) 3 c) ∧ W.cell? ⟨b, o + 5 + 1, none⟩ = some (.int .i64 yn) ∧ W.cell? ⟨b, o + 10, none⟩ = some (.int .i8 z.k) ∧ W.cell? ⟨b, o + 10 + 1, none⟩ = some (.int .i64 z.n) ∧ W.cell? ⟨b, o + 10 + 2, none⟩ = some (.string z.s) ∧ W.cell? ⟨b, o + 10 + 3, none⟩ = some (.string z.u) ∧ W.cell? ⟨b, o + 10 + 4, none⟩ = some (.slice z.ao z.l.length z.cap)
theorem ExS.keep {q b o c : Nat} {yn : Int} {z : TE} {W W' : World} (h : ExS q b o c yn z W) (hb : Below W.heap.size W W') : ExS q b o c yn z W' := ⟨keep_cell h.1 hb, keep_cell h.2.1 hb, keep_cell h.2.2.1 hb, keep_cell h.2.2.2.1 hb, keep_cell h.2.2.2.2.1 hb, keep_cell h.2.2.2.2.2.1 hb, keep_cell h.2.2.2.2.2.2 hb⟩
set_option maxHeartbeats 8000000 in
theorem isexit_any (M : Nat → Prop) (w : World) (hc : Cells w 0 letL) (it : It) (hi : TeOk M w it.x) : Calls Tryd.prog 37 #[.agg #[.int .i8 it.x.k, .int .i64 it.x.n, .string it.x.s, .string it.x.u, .slice it.x.ao it.x.l.length it.x.cap, .bool it.o]] w (ExP M w it.x.t it.o) := by
  have hb2 := ((Below.refl w.heap.size w).alloc (Nat.le_refl _) (.cells #[.int .i8 it.x.k, .int .i64 it.x.n, .string it.x.s, .string it.x.u, .slice it.x.ao it.x.l.length it.x.cap, .bool it.o] 72)).alloc (by simp) (.cells zT 27)
  have n1 := heap_old (heap_new w (.cells #[.int .i8 it.x.k, .int .i64 it.x.n, .string it.x.s, .string it.x.u, .slice it.x.ao it.x.l.length it.x.cap, .bool it.o] 72)) (.cells zT 27)
  have n2 := heap_new (w.alloc (.cells #[.int .i8 it.x.k, .int .i64 it.x.n, .string it.x.s, .string it.x.u, .slice it.x.ao it.x.l.length it.x.cap, .bool it.o] 72)) (.cells zT 27)
  rw [World.size_alloc] at n2
  have HT := Lib.hid (tagged_any M ((w.alloc (.cells #[.int .i8 it.x.k, .int .i64 it.x.n, .string it.x.s, .string it.x.u, .slice it.x.ao it.x.l.length it.x.cap, .bool it.o] 72)).alloc (.cells zT 27)) w.heap.size it exiS 3 4 (hi.keep hb2) n1 (by decide) (by decide))
  have HB := Lib.hid (And.intro hb2 (And.intro n1 (And.intro n2 (And.intro hi hc))))
  have HE := Lib.hid (show exB it.x.t it.o = (tagB it.x.t it.o exiS 3 4 && decide (checkN it.x.t = 0)) from rfl)
  clear hb2 n1 n2 hi hc
  go_enter Tryd.func37, Tryd.ntmps37
  go_wp2_with fail
  generalize (w.alloc (.cells #[.int .i8 it.x.k, .int .i64 it.x.n, .string it.x.s, .string it.x.u, .slice it.x.ao it.x.l.length it.x.cap, .bool it.o] 72)).alloc (.cells zT 27) = w1 at *
  refine HT.out.mono ?_
  clear HT
  rintro e w2 ⟨rfl, hb2⟩
  have HB2 := Lib.hid (And.intro (HB.out.1.trans (hb2.mono HB.out.1.size)) (And.intro (keep_heap HB.out.2.1 hb2) (And.intro (keep_heap HB.out.2.2.1 hb2) HB.out.2.2.2)))
  clear hb2 HB
  cases htb : tagB it.x.t it.o exiS 3 4
  · have HF := Lib.hid (show exB it.x.t it.o = false by rw [HE.out, htb]; rfl)
    clear HE htb
    go_wp2_with (with_reducible refine stop_op (o := ⟨_, .store 27 (.tmp 3) (.tmp 13), _, _, _, _⟩) ?_)
    refine Lib.hid ?_
    refine wpList_store_row (o := ⟨none, _, _, _, _, _⟩) rfl 27 (.tmp 3) (.tmp 13) rfl (w.heap.size + 1) #[.int .i8 0, .int .i64 0, .string ⟨#[]⟩, .string ⟨#[]⟩, .slice none 0 0] rfl rfl 27 zT (HB2.out.2.2.1) (infoTM' _ rfl) rfl (by simp [Value.oneCell']) ?_
    have HZ := Lib.hid (And.intro (setRow_heap w2 (w.heap.size + 1) zT #[.int .i8 0, .int .i64 0, .string ⟨#[]⟩, .string ⟨#[]⟩, .slice none 0 0] 27 (0, 0) HB2.out.2.2.1) (bel_setRow HB2.out.1 HB2.out.1.size (Nat.le_succ _) #[.int .i8 0, .int .i64 0, .string ⟨#[]⟩, .string ⟨#[]⟩, .slice none 0 0]))
    generalize w2.setRow (w.heap.size + 1) #[.int .i8 0, .int .i64 0, .string ⟨#[]⟩, .string ⟨#[]⟩, .slice none 0 0] = w5 at *
    clear HB2
    go_wp2_with fail
    exact ret_row13 HZ.out.1 rfl Tryd.underlying27 rfl (infoTM' _ rfl) rfl rfl rfl ⟨HZ.out.2, numT 0 0, by rw [HF.out]; unfold exN; rw [HF.out]; rfl, numT_ok _ _ _ _ (by omega) (by omega), by unfold exT; rw [HF.out]; rfl⟩
  · rw [htb] at HE
    have HTB := Lib.hid htb
    clear htb
    have n2 := HB2.out.2.1
    have x0 : w2.cell? ⟨w.heap.size, 0, none⟩ = some (.int .i8 it.x.k) := (cells_at n2 0 _ rfl).1
    have x1 : w2.cell? ⟨w.heap.size, 1, none⟩ = some (.int .i64 it.x.n) := (cells_at n2 1 _ rfl).1
    have x2 : w2.cell? ⟨w.heap.size, 2, none⟩ = some (.string it.x.s) := (cells_at n2 2 _ rfl).1
    have x3 : w2.cell? ⟨w.heap.size, 3, none⟩ = some (.string it.x.u) := (cells_at n2 3 _ rfl).1
    have x4 : w2.cell? ⟨w.heap.size, 4, none⟩ = some (.slice it.x.ao it.x.l.length it.x.cap) := (cells_at n2 4 _ rfl).1
    have HC := Lib.hid (check_x w2 (keepCells HB2.out.2.2.2.2 HB2.out.1) it.x (HB2.out.2.2.2.1.keep HB2.out.1))
    clear n2
    go_wp2_with fail
    refine HC.out.mono ?_
    clear HC
    rintro e w3 ⟨rfl, hb3⟩
    have HB3 := Lib.hid (And.intro (HB2.out.1.trans (hb3.mono HB2.out.1.size)) (And.intro (keep_heap HB2.out.2.1 hb3) (And.intro (keep_heap HB2.out.2.2.1 hb3) HB2.out.2.2.2)))
    have z4 := keep_cell x4 hb3
    clear hb3 HB2 x0 x1 x2 x3 x4
    by_cases hck : checkN it.x.t = 0
    · have HF := Lib.hid (show exB it.x.t it.o = true by rw [HE.out, hck]; rfl)
      have q1 : (checkN it.x.t != 0) = false := by simp [hck]
      have hln : it.x.l.length = 3 := by
        have h0 := HTB.out
        unfold tagB at h0
        rw [Bool.and_eq_true, Bool.and_eq_true, Bool.and_eq_true] at h0
        exact of_decide_eq_true h0.2.2.1
      clear HE hck
      obtain ⟨b, off, y, e1, e2, hy, hp1, -⟩ := HB3.out.2.2.2.1.part (i := 1) (by omega)
      obtain ⟨b', off', z, e1', e2', hz, hp2, -⟩ := HB3.out.2.2.2.1.part (i := 2) (by omega)
      have HBL := Lib.hid (World.block_lt_of_cell? w _ hp1.c0)
      have hp1 := hp1.keep HB3.out.1
      have hp2 := hp2.keep HB3.out.1
      rw [e1] at e1'
      injection e1' with e1'
      injection e1' with g1 g2
      subst g1 g2
      rw [e1, hln] at z4
      rw [show off + 1 * 5 = off + 5 by omega] at hp1
      rw [show off + 2 * 5 = off + 10 by omega] at hp2
      have HN := Lib.hid (show exN it.x.t it.o = y.n by unfold exN; rw [HF.out, if_pos rfl, show it.x.t.l = it.x.l from rfl, e2]; rfl)
      have HTT := Lib.hid (And.intro hz (show z.t = exT it.x.t it.o by unfold exT; rw [HF.out, if_pos rfl, show it.x.t.l = it.x.l from rfl, e2']; rfl))
      generalize checkN it.x.t = cn at *
      go_wp2_with fail
      have hdr : Below w3.heap.size w3 w3.drew := (Below.refl _ _).drew
      have hS0 : ExS w.heap.size b off it.x.cap y.n z w3 := ⟨z4, hp1.c1, hp2.c0, hp2.c1, hp2.c2, hp2.c3, hp2.c4⟩
      have hS := hS0.keep hdr
      have HB4 := Lib.hid (And.intro (HB3.out.1.trans (hdr.mono HB3.out.1.size)) (keep_heap HB3.out.2.2.1 hdr))
      have HT4 := HTT
      clear hS0 hdr z4 hp1 hp2 hy hz e1 e2 e2' HTT HB3 hln
      refine region_plan (ExS w.heap.size b off it.x.cap y.n z) [(0, 0), (1, 0), (2, 0), (3, 0), (4, 0), (5, 0), (6, 0), (7, 0), (8, 0), (9, 0), (10, 0), (11, 0), (12, 1), (13, 0)] (by kernel_rfl) (by kernel_rfl) (by kernel_rfl) hS ?_
      generalize w3.drew = WD at *
      iterate 12 (first | (refine plan_skip rfl ?_ ?_; (focus (rfl)); (try simp only [Act.put, List.setIfInBounds_toArray, List.set_cons_zero, List.set_cons_succ])) | (refine plan_take (v := ?_) rfl ?_ (fun w hSw => ?_) ?_; rotate_left; (focus (rfl)); (focus (unfold ExS at hSw; (go_simp <;> with_reducible rfl))); (try simp only [Act.put, List.setIfInBounds_toArray, List.set_cons_zero, List.set_cons_succ])))
      refine plan_run rfl ?_ (fun K hK => ?_)
      focus (rfl)
      refine wp_store_row 27 (.tmp 3) (.tmp 24) rfl (w.heap.size + 1) #[.int .i8 z.k, .int .i64 z.n, .string z.s, .string z.u, .slice z.ao z.l.length z.cap] rfl rfl 27 _ HB4.out.2 (infoTM' _ rfl) (by simp [zT]) (by simp [Value.oneCell']) ?_
      have hc5 := chg_setRow WD (w.heap.size + 1) #[.int .i8 z.k, .int .i64 z.n, .string z.s, .string z.u, .slice z.ao z.l.length z.cap]
      have hb5 : ¬ b = w.heap.size + 1 := by have := HBL.out; show ¬ b = _; omega
      have hq5 : ¬ w.heap.size = w.heap.size + 1 := by omega
      have hS5 : ExS w.heap.size b off it.x.cap y.n z (WD.setRow (w.heap.size + 1) #[.int .i8 z.k, .int .i64 z.n, .string z.s, .string z.u, .slice z.ao z.l.length z.cap]) := ⟨hc5.cell hS.1 hq5, hc5.cell hS.2.1 hb5, hc5.cell hS.2.2.1 hb5, hc5.cell hS.2.2.2.1 hb5, hc5.cell hS.2.2.2.2.1 hb5, hc5.cell hS.2.2.2.2.2.1 hb5, hc5.cell hS.2.2.2.2.2.2 hb5⟩
      refine hK.out _ _ (hS5) ?_
      clear hK K
      (try simp only [Act.put, List.setIfInBounds_toArray, List.set_cons_zero, List.set_cons_succ])
      iterate 1 (first | (refine plan_skip rfl ?_ ?_; (focus (rfl)); (try simp only [Act.put, List.setIfInBounds_toArray, List.set_cons_zero, List.set_cons_succ])) | (refine plan_take (v := ?_) rfl ?_ (fun w hSw => ?_) ?_; rotate_left; (focus (rfl)); (focus (unfold ExS at hSw; (go_simp <;> with_reducible rfl))); (try simp only [Act.put, List.setIfInBounds_toArray, List.set_cons_zero, List.set_cons_succ])))
      refine plan_done ?_
      have hc5 := chg_setRow WD (w.heap.size + 1) #[.int .i8 z.k, .int .i64 z.n, .string z.s, .string z.u, .slice z.ao z.l.length z.cap]
      have HZ := Lib.hid (And.intro (setRow_heap WD (w.heap.size + 1) zT #[.int .i8 z.k, .int .i64 z.n, .string z.s, .string z.u, .slice z.ao z.l.length z.cap] 27 (0, 0) HB4.out.2) (And.intro (bel_setRow HB4.out.1 HB4.out.1.size (Nat.le_succ _) #[.int .i8 z.k, .int .i64 z.n, .string z.s, .string z.u, .slice z.ao z.l.length z.cap]) HT4.out))
      have HT5 := Lib.hid (And.intro (HT4.out.1.keep HZ.out.2.1) HT4.out.2)
      clear hc5 hb5 hq5 hS hS5 HB4 HT4
      generalize WD.setRow (w.heap.size + 1) #[.int .i8 z.k, .int .i64 z.n, .string z.s, .string z.u, .slice z.ao z.l.length z.cap] = w5 at *
      go_wp2_with fail
      exact ret_row13 HZ.out.1 rfl Tryd.underlying27 rfl (infoTM' _ rfl) rfl rfl rfl ⟨HZ.out.2.1, z, by rw [HF.out, HN.out]; rfl, HT5.out.1, HT5.out.2⟩
    · have HF := Lib.hid (show exB it.x.t it.o = false by rw [HE.out, decide_eq_false hck]; rfl)
      have q1 : (checkN it.x.t != 0) = true := by simp [hck]
      generalize checkN it.x.t = cn at *
      clear HE hck z4
      have HB2 := HB3
      clear HB3
      generalize w3 = w2 at *
      go_wp2_with (with_reducible refine stop_op (o := ⟨_, .store 27 (.tmp 3) (.tmp 13), _, _, _, _⟩) ?_)
      refine Lib.hid ?_
      refine wpList_store_row (o := ⟨none, _, _, _, _, _⟩) rfl 27 (.tmp 3) (.tmp 13) rfl (w.heap.size + 1) #[.int .i8 0, .int .i64 0, .string ⟨#[]⟩, .string ⟨#[]⟩, .slice none 0 0] rfl rfl 27 zT (HB2.out.2.2.1) (infoTM' _ rfl) rfl (by simp [Value.oneCell']) ?_
      have HZ := Lib.hid (And.intro (setRow_heap w2 (w.heap.size + 1) zT #[.int .i8 0, .int .i64 0, .string ⟨#[]⟩, .string ⟨#[]⟩, .slice none 0 0] 27 (0, 0) HB2.out.2.2.1) (bel_setRow HB2.out.1 HB2.out.1.size (Nat.le_succ _) #[.int .i8 0, .int .i64 0, .string ⟨#[]⟩, .string ⟨#[]⟩, .slice none 0 0]))
      generalize w2.setRow (w.heap.size + 1) #[.int .i8 0, .int .i64 0, .string ⟨#[]⟩, .string ⟨#[]⟩, .slice none 0 0] = w5 at *
      clear HB2
      go_wp2_with fail
      exact ret_row13 HZ.out.1 rfl Tryd.underlying27 rfl (infoTM' _ rfl) rfl rfl rfl ⟨HZ.out.2, numT 0 0, by rw [HF.out]; unfold exN; rw [HF.out]; rfl, numT_ok _ _ _ _ (by omega) (by omega), by unfold exT; rw [HF.out]; rfl⟩
end Go.Proofs.YtepfmanbllegiaaDoor
namespace Go.Proofs.YtepfmanbllegiaaDoor
open Go.ChangeShapes Go.WideShapes Go.ChangeAt Go.RowKit
set_option linter.unusedVariables false
set_option linter.unusedSimpArgs false
set_option maxRecDepth 100000
def okS : ByteArray := ⟨#[111, 107]⟩
def ignS : ByteArray := ⟨#[105, 103, 110, 111, 114, 101]⟩
def errS : ByteArray := ⟨#[101, 114, 114, 111, 114]⟩
def badS : ByteArray := ⟨#[98, 97, 100, 95, 97, 99, 107]⟩
def takeE (j : Int) : Ef := ⟨9, j, numT 0 0, chZ, faZ, mmZ⟩
def cutE (p : Int) : Ef := ⟨5, p, numT 0 0, chZ, faZ, mmZ⟩
/-- an acknowledgement, or an end, of that one? -/
def hitB (pid : Int) (it : It) : Bool := ackB it.x.t it.o pid || (exB it.x.t it.o && decide (exN it.x.t it.o = pid))
def isAt (t : Tm) (s : ByteArray) : Bool := decide (t.k = 1) && decide (t.s = s)
/-- {error, _}? -/
def isEr (t : Tm) : Bool := decide (t.k = 5) && (decide (t.l.length = 2) && match t.l with
  | a :: _ => decide (a.k = 1) && decide (a.s = errS)
  | [] => false)
/-- what is behind a hit -/
def WhQ (RL : List Rc) (m : Mm) (it : It) (N : Nat → Prop) (w' : World) (m' : Mm) (E2 : List Ef) (RL' : List Rc) : Prop :=
  (ackB it.x.t it.o m.pid = true ∧ isAt (ackT it.x.t true) okS = true ∧ SaQ RL m.pid m m' E2 RL') ∨
  (ackB it.x.t it.o m.pid = true ∧ isAt (ackT it.x.t true) okS = false ∧ ∃ E3, E2 = cutE m.pid :: E3 ∧
    ((isAt (ackT it.x.t true) ignS = true ∧ SaQ RL 0 m m' E3 RL') ∨
     (isAt (ackT it.x.t true) ignS = false ∧ ∃ x : TE, FaQ RL m x N w' m' E3 ∧ RL' = RL ∧ TeOk N w' x ∧ ((isEr (ackT it.x.t true) = true ∧ (ackT it.x.t true).l[1]? = some x.t) ∨ (isEr (ackT it.x.t true) = false ∧ x = atomT badS))))) ∨
  (ackB it.x.t it.o m.pid = false ∧ exB it.x.t it.o = true ∧ exN it.x.t it.o = m.pid ∧ ∃ E3, E2 = cutE m.pid :: E3 ∧ ∃ x : TE, FaQ RL m x N w' m' E3 ∧ RL' = RL ∧ TeOk N w' x ∧ x.t = exT it.x.t it.o)
/-- what waiting comes to, if there is a hit -/
def WaQ (RL : List Rc) (m : Mm) (ML : List It) (N : Nat → Prop) (w' : World) (m' : Mm) (E1 : List Ef) (RL' : List Rc) : Prop :=
  ∃ (j : Nat) (it : It) (E2 : List Ef), ML[j]? = some it ∧ hitB m.pid it = true ∧ (∀ x ∈ ML.take j, hitB m.pid x = false) ∧ E1 = takeE j :: E2 ∧ WhQ RL m it N w' m' E2 RL'
def SmQ (RL : List Rc) (m : Mm) (m' : Mm) (E1 : List Ef) (RL' : List Rc) : Prop := m' = m ∧ E1 = [] ∧ RL' = RL
theorem StaP.toR {M : Nat → Prop} {w w' : World} {ub rb : Nat} {m : Mm} {i : Im} {ev : Value} {bi : Bool} {E : List Ef} {RL : List Rc} {N : Nat} {p : Int} {e : Ending} (h : StaP w ub rb m i ev bi E RL N p e w') (hN : m.n = (N : Int)) (hob : (Value.slice m.rs.o m.rs.n m.rs.c).ownBlock = some rb) :
    UnR M w ub m i ev bi E (fun _ _ m' E1 RL' => SaQ RL p m m' E1 RL') e w' := by
  obtain ⟨hv, hu, hc, r, hr, hrs⟩ := h
  have hNn : m.n.toNat = N := by rw [hN, Int.toNat_natCast]
  refine ⟨hv, { m with ph := 0, n := m.n + 1 }, [], ev, RL.set N ⟨r.c, p⟩, ?_, rfl, hrs, hc.mono fun k _ h => h.elim (fun e => .inl (.inl e)) (fun e => .inr (by rw [e]; exact hob)), fun _ _ h => h, rfl, rfl, r, ?_, ?_⟩
  · rw [List.append_nil]
    exact hu
  · rw [hNn]
    exact hr
  · rw [hNn]
/-- while a hit is worked on -/
structure WtG (M : Nat → Prop) (w W : World) (ub : Nat) (m : Mm) (i : Im) (ev0 ev : Value) (E : List Ef) (RL : List Rc) (q4 q7 : Nat) (y z : TE) : Prop where
  un : UnOk W ub (unL m i) ev false E
  rs : RcOwn W ub m.rs RL
  hc : Chg (UnB ub ev0) w W
  hk : ∀ k, k < w.heap.size → ev.ownBlock = some k → ev0.ownBlock = some k
  b4 : W.heap[q4]? = some (.cells y.cells.toArray 27 (0, 0))
  n4 : ¬ UnB ub ev q4
  b7 : W.heap[q7]? = some (.cells z.cells.toArray 27 (0, 0))
  n7 : ¬ UnB ub ev q7
  ty : TeOk (MU M ub ev) W y
  tz : TeOk (MU M ub ev) W z
  lt : Cells W 0 letL
  lv : ¬ UnB ub ev 0
  hr : ∀ k, (Value.slice m.rs.o m.rs.n m.rs.c).ownBlock = some k → ¬ MU M ub ev k
section
variable {M : Nat → Prop} {w W W' : World} {ub : Nat} {m : Mm} {i : Im} {ev0 ev ev' : Value} {E : List Ef} {RL : List Rc} {q4 q7 : Nat} {y z : TE} {x : Ef}
theorem WtG.step (h : WtG M w W ub m i ev0 ev E RL q4 q7 y z) (hu : UnOk W' ub (unL m i) ev' false (E ++ [x])) (hc : Chg (UnB ub ev) W W') (hb : ∀ k, k < W.heap.size → ev'.ownBlock = some k → ev.ownBlock = some k) : WtG M w W' ub m i ev0 ev' (E ++ [x]) RL q4 q7 y z := by
  have key : ∀ k, k < W.heap.size → UnB ub ev' k → UnB ub ev k := fun k hk h => h.imp id (hb k hk)
  refine ⟨hu, own_chg h.rs hc fun k hk e => h.hr k hk (.inr e), un_trans h.hc h.hk hc, fun k hk e => h.hk k hk (hb k (Nat.lt_of_lt_of_le hk h.hc.size) e), hc.heap h.b4 h.n4, fun e => h.n4 (key _ (heap_lt h.b4) e), hc.heap h.b7 h.n7, fun e => h.n7 (key _ (heap_lt h.b7) e), un_te hc hb h.ty, un_te hc hb h.tz, let_chg h.lt hc h.lv, fun e => ?_, fun k hk e => ?_⟩
  · refine h.lv (key _ ?_ e)
    have := (h.lt 0 _ rfl).1
    exact World.block_lt_of_cell? W _ this
  · refine h.hr k hk (e.imp id fun e => key _ (own_lt h.rs (Nat.le_refl _) k hk) e)
theorem WtG.keep (h : WtG M w W ub m i ev0 ev E RL q4 q7 y z) (hb : Below W.heap.size W W') : WtG M w W' ub m i ev0 ev E RL q4 q7 y z :=
  ⟨h.un.keep hb, own_keep h.rs hb, h.hc.trans (chg_of_below hb _), h.hk, keep_heap h.b4 hb, h.n4, keep_heap h.b7 hb, h.n7, h.ty.keep hb, h.tz.keep hb, keepCells h.lt hb, h.lv, h.hr⟩
/-- a step behind effects -/
theorem UnR.behind {pre : List Ef} {Q : (Nat → Prop) → World → Mm → List Ef → List Rc → Prop} {e : Ending} {w' : World} (h : WtG M w W ub m i ev0 ev (E ++ pre) RL q4 q7 y z) (hu : UnR M W ub m i ev false (E ++ pre) Q e w') :
    UnR M w ub m i ev0 false E (fun N w' m' E1 RL' => ∃ E2, E1 = pre ++ E2 ∧ Q N w' m' E2 RL') e w' := by
  obtain ⟨hv, m', E1, ev', RL', h1, h2, h3, h4, h5, h6⟩ := hu
  refine ⟨hv, m', pre ++ E1, ev', RL', ?_, h2, h3, ?_, fun k hk e => h.hk k hk (h5 k (Nat.lt_of_lt_of_le hk h.hc.size) e), E1, rfl, h6⟩
  · rw [← List.append_assoc]
    exact h1
  · have a := h.hc.mono (T := fun k => (UnB ub ev0 k ∨ (Value.slice m.rs.o m.rs.n m.rs.c).ownBlock = some k) ∨ w.heap.size ≤ k) fun k _ h => .inl (.inl h)
    have b := h4.mono (T := fun k => (UnB ub ev0 k ∨ (Value.slice m.rs.o m.rs.n m.rs.c).ownBlock = some k) ∨ w.heap.size ≤ k) fun k _ h' => by
      by_cases hk : k < w.heap.size
      · exact .inl (h'.imp (fun h' => h'.imp id (h.hk k hk)) id)
      · exact .inr (by omega)
    exact (a.trans b).mono fun k hk h => h.resolve_right (by omega)
end
theorem PtAt.chg {w w' : World} {b o : Nat} {x : TE} {S : Nat → Prop} (h : PtAt w b o x) (hc : Chg S w w') (hb : ¬ S b) : PtAt w' b o x := ⟨hc.cell h.c0 hb, hc.cell h.c1 hb, hc.cell h.c2 hb, hc.cell h.c3 hb, hc.cell h.c4 hb⟩
/-- failing, and the reason that is kept -/
theorem UnQ.withx {M : Nat → Prop} {w w' : World} {ub : Nat} {m : Mm} {i : Im} {ev : Value} {bi : Bool} {E : List Ef} {RL : List Rc} {x : TE} {e : Ending} (h : UnQ M w ub i ev bi E (FaQ RL m x) e w') (hx : TeOk (MU M ub ev) w x) : UnQ M w ub i ev bi E (fun N w' m' E1 => FaQ RL m x N w' m' E1 ∧ TeOk N w' x) e w' := by
  obtain ⟨hv, m', E1, ev', h1, h2, h3, h4⟩ := h
  exact ⟨hv, m', E1, ev', h1, h2, h3, h4, un_te h2 h3 hx⟩
theorem UnR.imp {M : Nat → Prop} {w : World} {ub : Nat} {m : Mm} {i : Im} {ev : Value} {bi : Bool} {E : List Ef} {Q Q' : (Nat → Prop) → World → Mm → List Ef → List Rc → Prop} {e : Ending} {w' : World} (h : UnR M w ub m i ev bi E Q e w') (hq : ∀ N w' m' E1 RL', Q N w' m' E1 RL' → Q' N w' m' E1 RL') : UnR M w ub m i ev bi E Q' e w' := by
  obtain ⟨hv, m', E1, ev', RL', h1, h2, h3, h4, h5, h6⟩ := h
  exact ⟨hv, m', E1, ev', RL', h1, h2, h3, h4, h5, hq _ _ _ _ _ h6⟩
theorem UnR.ends {M : Nat → Prop} {w : World} {ub : Nat} {m : Mm} {i : Im} {ev : Value} {bi : Bool} {E : List Ef} {Q : (Nat → Prop) → World → Mm → List Ef → List Rc → Prop} {e : Ending} {w' : World} {v : Value} (h : UnR M w ub m i ev bi E Q e w') : UnR M w ub m i ev bi E Q (.returned v) w' := ⟨⟨_, rfl⟩, h.2⟩
end Go.Proofs.YtepfmanbllegiaaDoor
