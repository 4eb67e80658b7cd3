/- proc.Copy. Conditions: the process reads; its rows are not too long. -/
import Derived.Test.YtemgnljegbaobaaGreatDoorNe
namespace Go.Proofs.YtemgnljegbaobaaGreatDoor
open Go.ChangeShapes Go.WideShapes Go.ChangeAt Go.RowKit
set_option linter.unusedVariables false
set_option linter.unusedSimpArgs false
set_option maxRecDepth 100000
/-- two boxes, of any type; and rows of the call's own behind them -/
structure Bx2 (T : Nat) (z : Array Value) (w W : World) (cs : Array Value) (L : List Ow) : Prop where
  hb : Below w.heap.size w W
  hX : W.heap[w.heap.size]? = some (.cells cs T (0, 0))
  hY : W.heap[w.heap.size + 1]? = some (.cells z T (0, 0))
  hs : w.heap.size + 2 ≤ W.heap.size
  hO : ∀ o ∈ L, W.ownsRow (w.heap.size + 2) o.e o.size o.v o.n o.xs
theorem Bx2.start (T : Nat) (z : Array Value) (w : World) (cs : Array Value) : Bx2 T z w ((w.alloc (.cells cs T)).alloc (.cells z T)) cs [] := by
  have hY := heap_new (w.alloc (.cells cs T)) (.cells z T)
  have hs1 : (w.alloc (.cells cs T)).heap.size = w.heap.size + 1 := by simp
  rw [hs1] at hY
  exact ⟨((Below.refl w.heap.size w).alloc (Nat.le_refl _) (.cells cs T)).alloc (by simp) (.cells z T), heap_old (heap_new w (.cells cs T)) (.cells z T), hY, by simp, fun o ho => by cases ho⟩
theorem Bx2.keep {T : Nat} {z : Array Value} {w W W' : World} {cs : Array Value} {L : List Ow} (h : Bx2 T z w W cs L) (hb : Below W.heap.size W W') : Bx2 T z w W' cs L :=
  ⟨h.hb.trans (hb.mono h.hb.size), keep_heap h.hX hb, keep_heap h.hY hb, Nat.le_trans h.hs hb.size, fun o ho => own_keep (h.hO o ho) hb⟩
theorem Bx2.more {T : Nat} {z : Array Value} {w W : World} {cs : Array Value} {L : List Ow} (h : Bx2 T z w W cs L) (o : Ow) (ho : W.ownsRow (w.heap.size + 2) o.e o.size o.v o.n o.xs) : Bx2 T z w W cs (o :: L) :=
  ⟨h.hb, h.hX, h.hY, h.hs, fun q hq => (List.mem_cons.1 hq).elim (fun e => e ▸ ho) (h.hO q)⟩
theorem Bx2.set {T : Nat} {z : Array Value} {w W : World} {cs : Array Value} {L : List Ow} (h : Bx2 T z w W cs L) (i : Nat) (v : Value) : Bx2 T z w (W.setCell ⟨w.heap.size, i, none⟩ v) (cs.setIfInBounds i v) L := by
  have hc := chg_set (w := W) (p := ⟨w.heap.size, i, none⟩) v
  refine ⟨h.hb.trans (hc.below (B := w.heap.size) h.hb.size (fun k e => by have e : k = w.heap.size := e; omega)), set_at h.hX v, hc.heap h.hY (fun e => by have e : w.heap.size + 1 = w.heap.size := e; omega), Nat.le_trans h.hs hc.size, fun o ho => own_chg (h.hO o ho) hc fun k hk e => ?_⟩
  have := own_base (h.hO o ho) k hk
  have e : k = w.heap.size := e
  omega
theorem Bx2.shut {T : Nat} {z : Array Value} {w W : World} {cs : Array Value} {L : List Ow} (h : Bx2 T z w W cs L) (cs' : Array Value) : Bx2 T cs' w (W.setRow (w.heap.size + 1) cs') cs L := by
  have hE := chg_setRow W (w.heap.size + 1) cs'
  refine ⟨bel_setRow h.hb h.hb.size (by omega) cs', hE.heap h.hX (fun e => by have e : w.heap.size = w.heap.size + 1 := e; omega), setRow_heap W (w.heap.size + 1) z cs' T (0, 0) h.hY, Nat.le_trans h.hs hE.size, fun o ho => own_chg (h.hO o ho) hE fun k hk e => ?_⟩
  have := own_base (h.hO o ho) k hk
  have e : k = w.heap.size + 1 := e
  omega
/-- a process: its cells -/
structure Pv where
  (pid par : Int)
  (sv mv : Value)
  name : ByteArray
  (trap wait : Bool)
  (lv wv : Value)
abbrev Pv.cells (p : Pv) : Array Value := #[.int .i64 p.pid, .int .i64 p.par, p.sv, p.mv, .string p.name, .bool p.trap, .bool p.wait, p.lv, p.wv]
/-- what its rows hold -/
structure Px where
  L : List Fm
  (nm nl nw : Nat)
  (xm xl xw : List Value)
structure Px.ok (X : Px) : Prop where
  hL : X.L.length ≤ 10000
  hX : ∀ f ∈ X.L, f.X.ok
  hm : X.nm ≤ 100000
  hl : X.nl ≤ 100000
  hw : X.nw ≤ 100000
structure PrX (w : World) (p : Pv) (X : Px) : Prop where
  st : St w p.sv X.L
  ml : Rw w p.mv X.nm 6 X.xm
  lk : Rw w p.lv X.nl 1 X.xl
  wt : Rw w p.wv X.nw 2 X.xw
theorem PrX.keep {w w' : World} {p : Pv} {X : Px} (h : PrX w p X) (hb : Below w.heap.size w w') : PrX w' p X := ⟨h.st.keep hb, h.ml.keep hb, h.lk.keep hb, h.wt.keep hb⟩
/-- none of its rows lies in block k, but empty ones -/
structure PrN (k : Nat) (p : Pv) (L : List Fm) : Prop where
  s : p.sv.ownBlock = some k → lenS p.sv = 0
  m : p.mv.ownBlock = some k → lenS p.mv = 0
  l : p.lv.ownBlock = some k → lenS p.lv = 0
  w : p.wv.ownBlock = some k → lenS p.wv = 0
  f : ∀ f ∈ L, FrN k f.cs
theorem PrX.chg {S : Nat → Prop} {w w' : World} {p : Pv} {X : Px} (h : PrX w p X) (hc : Chg S w w') (hs : ∀ k, S k → PrN k p X.L) : PrX w' p X :=
  ⟨h.st.chg hc (fun k hk e => (hs k e).s hk) (fun k hk f hf => (hs k hk).f f hf), h.ml.chg hc (fun k hk e => (hs k e).m hk), h.lk.chg hc (fun k hk e => (hs k e).l hk), h.wt.chg hc (fun k hk e => (hs k e).w hk)⟩
theorem PrX.old {w : World} {p : Pv} {X : Px} (h : PrX w p X) {k : Nat} (hk : w.heap.size ≤ k) : PrN k p X.L :=
  ⟨fun e => h.st.row.old (by decide) e hk, fun e => h.ml.old (by decide) e hk, fun e => h.lk.old (by decide) e hk, fun e => h.wt.old (by decide) e hk, fun f hf => (h.st.fr f hf).old hk⟩
theorem infoPT {cs : Array Value} (h : cs.size = 9) : (Tryz.prog.info? 27).map (·.size) = some cs.size := by
  have : (Tryz.prog.info? 27).map (·.size) = some 9 := by kernel_rfl
  rw [this, h]
/-- the copy: its stack was made first, then the other rows -/
def CopyP (w : World) (p : Pv) (X : Px) (e : Ending) (w' : World) : Prop :=
  ∃ (q : Pv) (L' : List Fm), e = .returned (.agg q.cells) ∧ q.pid = p.pid ∧ q.par = p.par ∧ q.name = p.name ∧ q.trap = p.trap ∧ q.wait = p.wait ∧ Below w.heap.size w w' ∧ Cp X.L L' ∧ St w' q.sv L' ∧
    (∃ B, w.heap.size ≤ B ∧ B ≤ w'.heap.size ∧ w'.ownsRow B 33 6 q.mv X.nm X.xm ∧ w'.ownsRow B 3 1 q.lv X.nl X.xl ∧ w'.ownsRow B 81 2 q.wv X.nw X.xw ∧
      ∀ k, B ≤ k → (q.sv.ownBlock = some k → lenS q.sv = 0) ∧ ∀ f ∈ L', FrN k f.cs) ∧ ∀ k, k < w.heap.size → (∀ f ∈ X.L, FrN k f.cs) → PrN k q L'
theorem own_raise {w : World} {base b2 e size n : Nat} {v : Value} {xs : List Value} (h : w.ownsRow base e size v n xs) (hb : ∀ k, v.ownBlock = some k → b2 ≤ k) : w.ownsRow b2 e size v n xs := by
  obtain ⟨h1, h2⟩ := h
  refine ⟨h1, h2.imp id ?_⟩
  rintro ⟨g, cap, cur, rfl, hg, r⟩
  exact ⟨g, cap, cur, rfl, hb g rfl, r⟩
set_option maxHeartbeats 16000000 in
theorem copy_any (w : World) (p : Pv) (X : Px) (h : PrX w p X) (hX : X.ok) : Calls Tryz.prog 33 #[.agg p.cells] w (CopyP w p X) := by
  obtain ⟨pid, par, sv, mv, name, trap, wait, lv, wv⟩ := p
  obtain ⟨h2, h3, h7, h8⟩ := h
  simp only at h2 h3 h7 h8
  obtain ⟨so, sc, rfl, -, -⟩ := h2.row.slice
  obtain ⟨mo, mc, rfl, -, -⟩ := h3.slice
  obtain ⟨lo, lc, rfl, -, -⟩ := h7.slice
  obtain ⟨wo, wc, rfl, -, -⟩ := h8.slice
  have HR := Lib.hid (And.intro h2 (And.intro h3 (And.intro h7 h8)))
  clear h2 h3 h7 h8
  have H2 := Lib.hid (Bx2.start 27 #[.int .i64 0, .int .i64 0, .slice none 0 0, .slice none 0 0, .string ⟨#[]⟩, .bool false, .bool false, .slice none 0 0, .slice none 0 0] w #[.int .i64 pid, .int .i64 par, .slice so X.L.length sc, .slice mo X.nm mc, .string name, .bool trap, .bool wait, .slice lo X.nl lc, .slice wo X.nw wc])
  go_enter Tryz.func33, Tryz.ntmps33
  go_wp2_with fail
  generalize (w.alloc (.cells #[.int .i64 pid, .int .i64 par, .slice so X.L.length sc, .slice mo X.nm mc, .string name, .bool trap, .bool wait, .slice lo X.nl lc, .slice wo X.nw wc] 27)).alloc (.cells #[.int .i64 0, .int .i64 0, .slice none 0 0, .slice none 0 0, .string ⟨#[]⟩, .bool false, .bool false, .slice none 0 0, .slice none 0 0] 27) = W2 at *
  have hd := (Below.refl W2.heap.size W2).drew
  have H3 := Lib.hid (H2.out.keep hd)
  have hS : FS4 w.heap.size 2 3 7 8 (.slice so X.L.length sc) (.slice mo X.nm mc) (.slice lo X.nl lc) (.slice wo X.nw wc) W2.drew := ⟨(cells_at H3.out.hX 2 _ rfl).1, (cells_at H3.out.hX 3 _ rfl).1, (cells_at H3.out.hX 7 _ rfl).1, (cells_at H3.out.hX 8 _ rfl).1⟩
  clear hd H2
  refine region_planD [13, 15, 17, 19] (FS4 w.heap.size 2 3 7 8 (.slice so X.L.length sc) (.slice mo X.nm mc) (.slice lo X.nl lc) (.slice wo X.nw wc)) [(0, 0), (1, 0), (3, 0), (4, 0), (6, 0), (7, 0), (9, 0), (10, 0), (2, 1), (12, 0), (5, 1), (8, 1), (11, 1), (13, 1), (14, 0), (15, 1), (16, 0), (17, 1), (18, 0), (19, 1)] (by kernel_rfl) (by kernel_rfl) (by kernel_rfl) hS ?_
  generalize W2.drew = W3 at *
  iterate 8 (first | (refine planD_skip rfl ?_ ?_; (focus (rfl)); (try simp only [Act.put, List.setIfInBounds_toArray, List.set_cons_zero, List.set_cons_succ])) | (refine planD_take (v := ?_) rfl ?_ (fun w hSw => ?_) ?_; rotate_left; (focus (rfl)); (focus (unfold FS4 at hSw; (go_simp <;> with_reducible rfl))); (try simp only [Act.put, List.setIfInBounds_toArray, List.set_cons_zero, List.set_cons_succ])))
  refine planD_run rfl ?_ (fun K hK => ?_)
  focus (rfl)
  go_simp
  refine (frames_any _ _ _ (HR.out.1.keep H3.out.hb) hX.hL hX.hX).mono ?_
  rintro e w21 ⟨sv', L', rfl, st', cp', hb21, ob', ap'⟩
  obtain ⟨a21, c21, rfl, -, -⟩ := st'.row.slice
  have hS21 := hS.keep hb21
  have HST := Lib.hid (And.intro st' (And.intro cp' (And.intro hb21 (And.intro ob' ap'))))
  have H4 := Lib.hid (H3.out.keep hb21)
  have CH4 := Lib.hid (Chg.refl (fun k => k = w.heap.size ∨ k = w.heap.size + 1) w21)
  clear hS st' cp' ob' ap'
  refine hK.out _ _ hS21 ?_
  clear hK K 
  (try simp only [Act.put, List.setIfInBounds_toArray, List.set_cons_zero, List.set_cons_succ])
  iterate 1 (first | (refine planD_skip rfl ?_ ?_; (focus (rfl)); (try simp only [Act.put, List.setIfInBounds_toArray, List.set_cons_zero, List.set_cons_succ])) | (refine planD_take (v := ?_) rfl ?_ (fun w hSw => ?_) ?_; rotate_left; (focus (rfl)); (focus (unfold FS4 at hSw; (go_simp <;> with_reducible rfl))); (try simp only [Act.put, List.setIfInBounds_toArray, List.set_cons_zero, List.set_cons_succ])))
  refine planD_run rfl ?_ (fun K hK => ?_)
  focus (rfl)
  go_simp
  refine (cloneM_any _ _ _ _ (HR.out.2.1.keep H4.out.hb) hX.hm).mono ?_
  rintro e w22 ⟨v22, rfl, O22, hb22⟩
  obtain ⟨a22, c22, rfl⟩ := own_slice O22
  have hS22 := hS21.keep hb22
  have H5 := Lib.hid ((H4.out.keep hb22).more ⟨_, _, _, _, _⟩ (own_lower O22 H4.out.hs))
  have CH5 := Lib.hid (CH4.out.trans (chg_of_below hb22 _))
  have B22 := Lib.hid (fun k hk => Nat.le_trans CH4.out.size (own_base O22 k hk))
  clear H4 CH4 hS21 O22
  refine hK.out _ _ hS22 ?_
  clear hK K 
  (try simp only [Act.put, List.setIfInBounds_toArray, List.set_cons_zero, List.set_cons_succ])
  refine planD_run rfl ?_ (fun K hK => ?_)
  focus (rfl)
  go_simp
  refine (cloneI_any _ _ _ _ (HR.out.2.2.1.keep H5.out.hb) hX.hl).mono ?_
  rintro e w23 ⟨v23, rfl, O23, hb23⟩
  obtain ⟨a23, c23, rfl⟩ := own_slice O23
  have hS23 := hS22.keep hb23
  have H6 := Lib.hid ((H5.out.keep hb23).more ⟨_, _, _, _, _⟩ (own_lower O23 H5.out.hs))
  have CH6 := Lib.hid (CH5.out.trans (chg_of_below hb23 _))
  have B23 := Lib.hid (fun k hk => Nat.le_trans CH5.out.size (own_base O23 k hk))
  clear H5 CH5 hS22 O23
  refine hK.out _ _ hS23 ?_
  clear hK K 
  (try simp only [Act.put, List.setIfInBounds_toArray, List.set_cons_zero, List.set_cons_succ])
  refine planD_run rfl ?_ (fun K hK => ?_)
  focus (rfl)
  go_simp
  refine (cloneW_any _ _ _ _ (HR.out.2.2.2.keep H6.out.hb) hX.hw).mono ?_
  rintro e w24 ⟨v24, rfl, O24, hb24⟩
  obtain ⟨a24, c24, rfl⟩ := own_slice O24
  have hS24 := hS23.keep hb24
  have H7 := Lib.hid ((H6.out.keep hb24).more ⟨_, _, _, _, _⟩ (own_lower O24 H6.out.hs))
  have CH7 := Lib.hid (CH6.out.trans (chg_of_below hb24 _))
  have B24 := Lib.hid (fun k hk => Nat.le_trans CH6.out.size (own_base O24 k hk))
  clear H6 CH6 hS23 O24
  refine hK.out _ _ hS24 ?_
  clear hK K 
  (try simp only [Act.put, List.setIfInBounds_toArray, List.set_cons_zero, List.set_cons_succ])
  obtain ⟨c0, c0f⟩ := cells_at H7.out.hX 2 _ rfl
  have hxl := heap_lt H7.out.hX
  refine planD_turn rfl rfl ?_ (fun K hK => ?_)
  focus (rfl)
  go_simp
  refine hK.out (Any0) _ _ (trivial) ?_
  clear hK K
  (try simp only [Act.put, List.setIfInBounds_toArray, List.set_cons_zero, List.set_cons_succ])
  have H8 := Lib.hid (H7.out.set 2 (.slice a21 L'.length c21))
  have CH8 := Lib.hid (CH7.out.trans ((chg_set (w := w24) (p := ⟨w.heap.size, 2, none⟩) (.slice a21 L'.length c21)).mono (fun k _ e => show k = w.heap.size ∨ k = w.heap.size + 1 from .inl e)))
  generalize w24.setCell ⟨w.heap.size, 2, none⟩ (.slice a21 L'.length c21) = W4 at *
  clear c0 c0f hxl H7 CH7
  iterate 1 (first | (refine planD_skip rfl ?_ ?_; (focus (rfl)); (try simp only [Act.put, List.setIfInBounds_toArray, List.set_cons_zero, List.set_cons_succ])) | (refine planD_take (v := ?_) rfl ?_ (fun w hSw => ?_) ?_; rotate_left; (focus (rfl)); (focus (unfold Any0 at hSw; (go_simp <;> with_reducible rfl))); (try simp only [Act.put, List.setIfInBounds_toArray, List.set_cons_zero, List.set_cons_succ])))
  obtain ⟨c0, c0f⟩ := cells_at H8.out.hX 3 _ rfl
  have hxl := heap_lt H8.out.hX
  refine planD_turn rfl rfl ?_ (fun K hK => ?_)
  focus (rfl)
  go_simp
  refine hK.out (Any0) _ _ (trivial) ?_
  clear hK K
  (try simp only [Act.put, List.setIfInBounds_toArray, List.set_cons_zero, List.set_cons_succ])
  have H9 := Lib.hid (H8.out.set 3 (.slice a22 X.nm c22))
  have CH9 := Lib.hid (CH8.out.trans ((chg_set (w := W4) (p := ⟨w.heap.size, 3, none⟩) (.slice a22 X.nm c22)).mono (fun k _ e => show k = w.heap.size ∨ k = w.heap.size + 1 from .inl e)))
  generalize W4.setCell ⟨w.heap.size, 3, none⟩ (.slice a22 X.nm c22) = W5 at *
  clear c0 c0f hxl H8 CH8
  iterate 1 (first | (refine planD_skip rfl ?_ ?_; (focus (rfl)); (try simp only [Act.put, List.setIfInBounds_toArray, List.set_cons_zero, List.set_cons_succ])) | (refine planD_take (v := ?_) rfl ?_ (fun w hSw => ?_) ?_; rotate_left; (focus (rfl)); (focus (unfold Any0 at hSw; (go_simp <;> with_reducible rfl))); (try simp only [Act.put, List.setIfInBounds_toArray, List.set_cons_zero, List.set_cons_succ])))
  obtain ⟨c0, c0f⟩ := cells_at H9.out.hX 7 _ rfl
  have hxl := heap_lt H9.out.hX
  refine planD_turn rfl rfl ?_ (fun K hK => ?_)
  focus (rfl)
  go_simp
  refine hK.out (Any0) _ _ (trivial) ?_
  clear hK K
  (try simp only [Act.put, List.setIfInBounds_toArray, List.set_cons_zero, List.set_cons_succ])
  have H10 := Lib.hid (H9.out.set 7 (.slice a23 X.nl c23))
  have CH10 := Lib.hid (CH9.out.trans ((chg_set (w := W5) (p := ⟨w.heap.size, 7, none⟩) (.slice a23 X.nl c23)).mono (fun k _ e => show k = w.heap.size ∨ k = w.heap.size + 1 from .inl e)))
  generalize W5.setCell ⟨w.heap.size, 7, none⟩ (.slice a23 X.nl c23) = W6 at *
  clear c0 c0f hxl H9 CH9
  iterate 1 (first | (refine planD_skip rfl ?_ ?_; (focus (rfl)); (try simp only [Act.put, List.setIfInBounds_toArray, List.set_cons_zero, List.set_cons_succ])) | (refine planD_take (v := ?_) rfl ?_ (fun w hSw => ?_) ?_; rotate_left; (focus (rfl)); (focus (unfold Any0 at hSw; (go_simp <;> with_reducible rfl))); (try simp only [Act.put, List.setIfInBounds_toArray, List.set_cons_zero, List.set_cons_succ])))
  obtain ⟨c0, c0f⟩ := cells_at H10.out.hX 8 _ rfl
  have hxl := heap_lt H10.out.hX
  refine planD_turn rfl rfl ?_ (fun K hK => ?_)
  focus (rfl)
  go_simp
  refine hK.out (Any0) _ _ (trivial) ?_
  clear hK K
  (try simp only [Act.put, List.setIfInBounds_toArray, List.set_cons_zero, List.set_cons_succ])
  have H11 := Lib.hid (H10.out.set 8 (.slice a24 X.nw c24))
  have CH11 := Lib.hid (CH10.out.trans ((chg_set (w := W6) (p := ⟨w.heap.size, 8, none⟩) (.slice a24 X.nw c24)).mono (fun k _ e => show k = w.heap.size ∨ k = w.heap.size + 1 from .inl e)))
  generalize W6.setCell ⟨w.heap.size, 8, none⟩ (.slice a24 X.nw c24) = W7 at *
  clear c0 c0f hxl H10 CH10
  refine planD_done ?_
  have H12 : Hid (Bx2 27 #[.int .i64 0, .int .i64 0, .slice none 0 0, .slice none 0 0, .string ⟨#[]⟩, .bool false, .bool false, .slice none 0 0, .slice none 0 0] w W7 #[.int .i64 pid, .int .i64 par, .slice a21 L'.length c21, .slice a22 X.nm c22, .string name, .bool trap, .bool wait, .slice a23 X.nl c23, .slice a24 X.nw c24] [⟨81, 2, X.nw, .slice a24 X.nw c24, X.xw⟩, ⟨3, 1, X.nl, .slice a23 X.nl c23, X.xl⟩, ⟨33, 6, X.nm, .slice a22 X.nm c22, X.xm⟩]) := Lib.hid H11.out
  clear H11
  go_wp2_with (with_reducible refine stop_op (o := ⟨_, .load 27 (.tmp 1), _, _, _, _⟩) ?_)
  refine Lib.hid ?_
  refine wpList_load_row (o := ⟨_, _, _, _, _, _⟩) rfl 27 (.tmp 1) rfl w.heap.size rfl 27 #[.int .i64 pid, .int .i64 par, .slice a21 L'.length c21, .slice a22 X.nm c22, .string name, .bool trap, .bool wait, .slice a23 X.nl c23, .slice a24 X.nw c24] (0, 0) _ H12.out.hX Tryz.underlying27 rfl (infoPT rfl) ?_
  go_wp2_with (with_reducible refine stop_op (o := ⟨_, .store 27 (.tmp 2) (.tmp 19), _, _, _, _⟩) ?_)
  refine Lib.hid ?_
  refine wpList_store_row (o := ⟨none, _, _, _, _, _⟩) rfl 27 (.tmp 2) (.tmp 19) rfl (w.heap.size + 1) #[.int .i64 pid, .int .i64 par, .slice a21 L'.length c21, .slice a22 X.nm c22, .string name, .bool trap, .bool wait, .slice a23 X.nl c23, .slice a24 X.nw c24] rfl rfl 27 #[.int .i64 0, .int .i64 0, .slice none 0 0, .slice none 0 0, .string ⟨#[]⟩, .bool false, .bool false, .slice none 0 0, .slice none 0 0] H12.out.hY (infoPT rfl) rfl (by simp [Value.oneCell']) ?_
  have HF := Lib.hid (H12.out.shut #[.int .i64 pid, .int .i64 par, .slice a21 L'.length c21, .slice a22 X.nm c22, .string name, .bool trap, .bool wait, .slice a23 X.nl c23, .slice a24 X.nw c24])
  have CF := Lib.hid (CH11.out.trans ((chg_setRow W7 (w.heap.size + 1) #[.int .i64 pid, .int .i64 par, .slice a21 L'.length c21, .slice a22 X.nm c22, .string name, .bool trap, .bool wait, .slice a23 X.nl c23, .slice a24 X.nw c24]).mono (fun k _ e => show k = w.heap.size ∨ k = w.heap.size + 1 from .inr e)))
  generalize W7.setRow (w.heap.size + 1) #[.int .i64 pid, .int .i64 par, .slice a21 L'.length c21, .slice a22 X.nm c22, .string name, .bool trap, .bool wait, .slice a23 X.nl c23, .slice a24 X.nw c24] = W8 at *
  clear H12 CH11
  go_wp2_with fail
  obtain ⟨st', cp', hb21', ob', ap'⟩ := HST.out
  refine ret_cell HF.out.hY rfl Tryz.underlying27 rfl (infoPT rfl) rfl ⟨⟨pid, par, .slice a21 L'.length c21, .slice a22 X.nm c22, name, trap, wait, .slice a23 X.nl c23, .slice a24 X.nw c24⟩, L', rfl, rfl, rfl, rfl, rfl, rfl, HF.out.hb, cp', ?_, ⟨w21.heap.size, ?_, CF.out.size, ?_, ?_, ?_, ?_⟩, ?_⟩
  · refine st'.chg CF.out (fun k hk e => ?_) (fun k e f hf => ap' k ?_ (fun g hg => ?_) f hf)
    · have h1 := ob' k hk
      have h2 := H3.out.hs
      rcases e with e | e <;> omega
    · have h2 := H3.out.hs
      rcases e with e | e <;> omega
    · exact (HR.out.1.fr g hg).old (by rcases e with e | e <;> omega)
  · have h1 := H3.out.hs
    have h2 := hb21'.size
    omega
  · exact own_raise (HF.out.hO ⟨33, 6, X.nm, .slice a22 X.nm c22, X.xm⟩ (List.mem_cons_of_mem _ (List.mem_cons_of_mem _ List.mem_cons_self))) B22.out
  · exact own_raise (HF.out.hO ⟨3, 1, X.nl, .slice a23 X.nl c23, X.xl⟩ (List.mem_cons_of_mem _ List.mem_cons_self)) B23.out
  · exact own_raise (HF.out.hO ⟨81, 2, X.nw, .slice a24 X.nw c24, X.xw⟩ List.mem_cons_self) B24.out
  · exact fun k hk => ⟨fun e => st'.row.old (by decide) e hk, fun f hf => (st'.fr f hf).old hk⟩
  · intro k hk hf
    have h1 := H3.out.hs
    have h2 := hb21'.size
    refine ⟨fun e => ?_, fun e => ?_, fun e => ?_, fun e => ?_, ap' k (by omega) hf⟩
    · have := ob' k e
      omega
    · have := B22.out k e
      omega
    · have := B23.out k e
      omega
    · have := B24.out k e
      omega
end Go.Proofs.YtemgnljegbaobaaGreatDoor
