/- stop: the machine's first phase, walked. Conditions: at most 40 records. -/
import Derived.Test.YtjepiimggaiejaaPe
import Derived.IntWalk
namespace Go.Proofs.Ytjepiimggaiejaa
open Go.ChangeShapes Go.WideShapes Go.ChangeAt Go.RowKit Go.Shelf
set_option linter.unusedVariables false
attribute [local go_sem] Oper.semAt_some
/-- an effect's cells -/
def efC (kd to_ tk : Int) (ts : ByteArray) : Array Value :=
  #[.int .i8 kd, .int .i64 to_, zI, .int .i8 tk, zI, .string ts, zS, nS, z8, zI, zS, zS, nS, z8, zI, zS, zS, nS, z8, z8, zI, zS, zS, nS, nS, z8,
    z8, zI, zI, nS, nS, nS, nS, zI, z8, zI, zI, zI, zI, z8, zI, zS, zS, nS, z8, zI, zS, zS, nS, z8, zI, zS, zS, nS, nS, z8, zI, zI, nS, nS, nS]
theorem atom_any (s : ByteArray) (w : World) : Calls Try.prog 22 #[.string s] w fun e w' => e = .returned (.agg #[.int .i8 1, zI, .string s, zS, nS]) ∧ Below w.heap.size w w' := by
  go_enter Try.func22, Try.ntmps22
  go_wp2_with fail
  exact bodyPost_ret (v := .agg #[.int .i8 1, zI, .string s, zS, nS]) (by simp [results, Try.f22, go_sem]) rfl ⟨rfl, (Below.refl _ _).alloc (Nat.le_refl _) _⟩
def NextI (w : World) (R : List Rc) (ao : Option Addr) (cap q : Nat) (pre : List (Fin R.length)) (W : World) : Prop :=
  pre = [] ∧ W.heap[w.heap.size]? = some (.cells #[.pointer (some ⟨q, 0, none⟩)] 72 (0, 0)) ∧ W.heap[w.heap.size + 1]? = some (.cells #[nS] 52 (0, 0)) ∧
  W.heap[w.heap.size + 2]? = some (.cells #[.pointer (some ⟨q, 0, none⟩)] 72 (0, 0)) ∧ W.heap[w.heap.size + 3]? = some (.cells #[.int .i64 R.length] 3 (0, 0)) ∧ W.heap[q]? = some (.cells (frC 3 0 0 (.slice ao R.length cap)) 63 (0, 0)) ∧ Below w.heap.size w W
def tmpsN (w : World) (q : Nat) (u x : Value) : Array Value :=
  #[.pointer (some ⟨q, 0, none⟩), u, .pointer (some ⟨w.heap.size, 0, none⟩), undef, .pointer (some ⟨w.heap.size + 1, 0, none⟩), x, .pointer (some ⟨q, 0, none⟩),
    .func (.func 20) #[] #[.pointer (some ⟨w.heap.size + 3, 0, none⟩), .pointer (some ⟨w.heap.size + 2, 0, none⟩)], x, undef, undef, undef, undef, undef, undef, undef, undef, undef, undef, undef, undef, undef, undef, undef, undef, undef, undef, undef, undef, undef, undef, undef, undef]
def NextA (w : World) (R : List Rc) (ao : Option Addr) (cap q : Nat) (u : Value) (pre : List (Fin R.length)) (x : Fin R.length) (a : Act) (W : World) : Prop :=
  a = { tmps := tmpsN w q u (.int .i64 (x.val : Nat)), defers := [] } ∧ NextI w R ao cap q pre W
def NextX (w : World) (R : List Rc) (ao : Option Addr) (cap q : Nat) (c : Code) (pre : List (Fin R.length)) (W : World) : Prop :=
  c = .ret ∧ ∃ x, pre = [x] ∧ W.heap[q]? = some (.cells (frC 3 1 ((x.val : Int) + 1) (.slice ao R.length cap)) 63 (0, 0)) ∧ Chg (fun k => k = q) w W ∧
    ∃ g, w.heap.size ≤ g ∧ W.heap[w.heap.size + 1]? = some (.cells #[.slice (some ⟨g, 0, none⟩) 1 1] 52 (0, 0)) ∧ W.heap[g]? = some (.cells (efC 6 ((pidsL R).getD x.val 0) 0 ⟨#[]⟩) 56 (0, 0))
def NextS (w : World) (q : Nat) (W : World) : Prop := W.cell? ⟨w.heap.size, 0, none⟩ = some (.pointer (some ⟨q, 0, none⟩))
def NextP (w : World) (R : List Rc) (q : Nat) (v : Value) (e : Ending) (w' : World) : Prop :=
  ∃ g ph n ef, e = .returned (.slice (some ⟨g, 0, none⟩) 1 1) ∧ w.heap.size ≤ g ∧ w'.heap[g]? = some (.cells ef 56 (0, 0)) ∧ w'.heap[q]? = some (.cells (frC 3 ph n v) 63 (0, 0)) ∧ Chg (fun k => k = q) w w' ∧
    ((dn (pidsL R) R.length = [] ∧ ph = 0 ∧ n = 0 ∧ ef = efC 11 0 1 ⟨#[111, 107]⟩) ∨ (∃ k t, dn (pidsL R) R.length = k :: t ∧ ph = 1 ∧ n = (k : Int) + 1 ∧ ef = efC 6 ((pidsL R).getD k 0) 0 ⟨#[]⟩))
theorem NextI.keep {w : World} {R : List Rc} {ao : Option Addr} {cap q : Nat} {pre : List (Fin R.length)} {W W' : World} (h : NextI w R ao cap q pre W) (hb : Below W.heap.size W W') : NextI w R ao cap q pre W' := by
  obtain ⟨h1, h2, h3, h4, h5, h6, h7⟩ := h
  exact ⟨h1, keep_heap h2 hb, keep_heap h3 hb, keep_heap h4 hb, keep_heap h5 hb, keep_heap h6 hb, h7.trans (hb.mono h7.size)⟩
theorem NextI.its {w : World} {R : List Rc} {ao : Option Addr} {cap q : Nat} {pre : List (Fin R.length)} {W : World} (h : NextI w R ao cap q pre W) (hr : RRow w ao R) : ItS R ao cap q (w.heap.size + 2) (w.heap.size + 3) W := by
  obtain ⟨h1, h2, h3, h4, h5, h6, h7⟩ := h
  exact ⟨(cells_at h6 28 _ rfl).1, (cells_at h4 0 _ rfl).1, (cells_at h5 0 _ rfl).1, hr.keep h7⟩
theorem NextI.firm (w : World) (R : List Rc) (ao : Option Addr) (cap q : Nat) (hq : q < w.heap.size) : Firm (w.heap.size + 4) (NextI w R ao cap q) := by
  rintro pre W l o o' hl ho hc ⟨h1, h2, h3, h4, h5, h6, h7⟩
  have c := chg_put W l o'
  exact ⟨h1, c.heap h2 (by omega), c.heap h3 (by omega), c.heap h4 (by omega), c.heap h5 (by omega), c.heap h6 (by omega), h7.trans (c.below h7.size (fun k h => by omega))⟩
theorem NextX.firm (w : World) (R : List Rc) (ao : Option Addr) (cap q : Nat) (hq : q < w.heap.size) (c : Code) : Firm (w.heap.size + 4) (NextX w R ao cap q c) := by
  rintro pre W l o o' hl ho hc ⟨h1, x, h2, h3, h4, g, h5, h6, h7⟩
  have c := chg_put W l o'
  refine ⟨h1, x, h2, c.heap h3 (by omega), h4.grow c (fun k hk e => by omega), g, h5, c.heap h6 (by omega), c.heap h7 ?_⟩
  rintro rfl
  rw [h7] at ho
  cases ho
  cases hc
set_option maxRecDepth 100000 in
set_option maxHeartbeats 4000000 in
theorem next_any (w : World) (ao : Option Addr) (cap q : Nat) (u : Value) (R : List Rc) (hR : R.length ≤ 40) (hok : ∀ r ∈ R, r.ok) (hr : RRow w ao R) (hao : ∀ ad, ao = some ad → ad.block ≠ q) (hq : w.heap[q]? = some (.cells (frC 3 0 0 (.slice ao R.length cap)) 63 (0, 0))) :
    Calls Try.prog 16 #[.pointer (some ⟨q, 0, none⟩), u] w (NextP w R q (.slice ao R.length cap)) := by
  refine (callsIn_wide (n := 9)).1 ?_
  refine callsIn_of_wp_marks Try.func16 rfl trivial ?_ rfl
  simp only [Try.ntmps16, List.size_toArray, List.length_cons, List.length_nil, Nat.reduceAdd, Nat.reduceSub, Array.replicate_succ, Array.replicate_zero, List.push_toArray, List.append_toArray, List.nil_append, List.cons_append]
  have HR := Lib.hid hr
  have HK := Lib.hid hok
  have HQ := Lib.hid hq
  clear hr hok hq
  gi_wp2
  have hI0 : NextI w R ao cap q [] ((((w.alloc (.cells #[.pointer (some ⟨q, 0, none⟩)] 72)).alloc (.cells #[nS] 52)).alloc (.cells #[.pointer (some ⟨q, 0, none⟩)] 72)).alloc (.cells #[.int .i64 R.length] 3)) := by
    have z0 := heap_new w (.cells #[.pointer (some ⟨q, 0, none⟩)] 72)
    have z1 := heap_new (w.alloc (.cells #[.pointer (some ⟨q, 0, none⟩)] 72)) (.cells #[nS] 52)
    have z2 := heap_new ((w.alloc (.cells #[.pointer (some ⟨q, 0, none⟩)] 72)).alloc (.cells #[nS] 52)) (.cells #[.pointer (some ⟨q, 0, none⟩)] 72)
    have z3 := heap_new (((w.alloc (.cells #[.pointer (some ⟨q, 0, none⟩)] 72)).alloc (.cells #[nS] 52)).alloc (.cells #[.pointer (some ⟨q, 0, none⟩)] 72)) (.cells #[.int .i64 R.length] 3)
    simp only [World.size_alloc] at z0 z1 z2 z3
    exact ⟨rfl, heap_old (heap_old (heap_old z0 _) _) _, heap_old (heap_old z1 _) _, heap_old z2 _, z3, heap_old (heap_old (heap_old (heap_old HQ.out _) _) _) _, (((((Below.refl _ w).alloc (Nat.le_refl _) _).alloc (by simp) _).alloc (by simp; omega) _).alloc (by simp; omega) _)⟩
  have hsz : ((((w.alloc (.cells #[.pointer (some ⟨q, 0, none⟩)] 72)).alloc (.cells #[nS] 52)).alloc (.cells #[.pointer (some ⟨q, 0, none⟩)] 72)).alloc (.cells #[.int .i64 R.length] 3)).heap.size = w.heap.size + 4 := by simp
  have hqs := heap_lt HQ.out
  have c28 := (cells_at HQ.out 28 _ rfl).1
  have c12 := (cells_at HQ.out 12 _ rfl).1
  refine ⟨trivial, (callsIn_wide.2 (from_any _ R ao cap q ?_ ?_)).mono ?_⟩
  · exact keep_cell (keep_cell c28 ((Below.refl _ _).alloc (Nat.le_refl _) _)) ((Below.refl _ _).alloc (Nat.le_refl _) _)
  · exact keep_cell (keep_cell c12 ((Below.refl _ _).alloc (Nat.le_refl _) _)) ((Below.refl _ _).alloc (Nat.le_refl _) _)
  rintro e w' ⟨rfl, rfl⟩
  simp only [World.size_alloc]
  generalize ((((w.alloc (.cells #[.pointer (some ⟨q, 0, none⟩)] 72)).alloc (.cells #[nS] 52)).alloc (.cells #[.pointer (some ⟨q, 0, none⟩)] 72)).alloc (.cells #[.int .i64 R.length] 3)) = W3 at *
  clear c28 c12
  gi_wp2
  refine rf_law (α := Fin R.length) (encs := fun x => #[.int .i64 (x.val : Nat)]) rfl (by omega) (gf := 20) (lb := #[.pointer (some ⟨w.heap.size + 3, 0, none⟩), .pointer (some ⟨w.heap.size + 2, 0, none⟩)]) rfl trivial (enters_of Try.func20 (by kernel_rfl) rfl) (fun _ => rfl)
    (NextI w R ao cap q) (NextX w R ao cap q) (fun xs W => xs = dnF R.length (pidsL R) R.length ∧ NextI w R ao cap q xs W) (fun pre => pre ≠ [] ∧ pre <+: dnF R.length (pidsL R) R.length) 41 (NextA w R ao cap q u) (by rw [hsz]; exact NextI.firm w R ao cap q hqs) (fun W o h => h.keep ((Below.refl _ _).alloc (Nat.le_refl _) _)) (by rw [hsz]; exact NextX.firm w R ao cap q hqs) (by rw [hsz]; exact fun s W l o o' h1 h2 h3 h4 => ⟨h4.1, NextI.firm w R ao cap q hqs s W l o o' h1 h2 h3 h4.2⟩)
    (by rw [hsz]; exact fun pre x a W l o o' h1 h2 h3 h4 => ⟨h4.1, NextI.firm w R ao cap q hqs pre W l o o' h1 h2 h3 h4.2⟩) hI0 ?assign ?body ?iter ?done ?stop
  case assign =>
    rintro l pre x W K hI hlen hK
    gi_wp2
    exact hK _ _ ⟨rfl, hI⟩ (keeps_chg (chg_of_below (Below.refl _ _) (fun _ => False)) (fun _ h => h.elim))
  case iter =>
    exact fun l J Jx T h1 h2 h3 h4 W _ h0 => (from1_in l R hR HK.out ao cap _ _ _ J Jx T (fun pre W h => (h1 pre W h).its HR.out) (fun pre W h => h3 pre W W h (keeps_chg (chg_of_below (Below.refl _ _) (fun _ => False)) (fun _ h => h.elim))) h4 W h0).mono (by
      rintro e W' ⟨hv, (⟨xs, ⟨h1', h2'⟩, h3'⟩ | ⟨pre, hp, hx⟩)⟩
      · exact ⟨hv, .inl ⟨xs, ⟨h1', h1 _ _ h2'⟩, h3'⟩⟩
      · exact ⟨hv, .inr ⟨pre, hp, hx⟩⟩)
  case body =>
    rintro l pre ⟨k, hkR⟩ a1 W ⟨rfl, hI⟩ hlen
    obtain ⟨r, hr⟩ : ∃ r, R[k]? = some r := ⟨R[k], by simp⟩
    have hpv : (pidsL R).getD k 0 = r.p := by simp [pidsL, hr]
    have hdr := (Below.refl W.heap.size W).drew
    have hID := hI.keep hdr
    obtain ⟨rfl, -, -, -, -, -, h7⟩ := hI
    have HC := Lib.hid h7
    clear h7
    obtain ⟨_, h2, h3, h4, h5, h6, h7⟩ := hID
    obtain ⟨b, off, rfl, hb, hat⟩ := HR.out _ _ hr
    have hp := keep_cell hat.pid h7
    have hbq : ¬ b = q := hao _ rfl
    have hn3 := heap_lt h5
    obtain ⟨c1, c1f⟩ := cells_at h2 0 _ rfl
    obtain ⟨c2, c2f⟩ := cells_at h6 12 _ rfl
    obtain ⟨c3, c3f⟩ := cells_at h6 8 _ rfl
    have hD : NextS w q W.drew := c1
    have HPV := Lib.hid hpv
    have H3 := Lib.hid h3
    have H6 := Lib.hid h6
    have H7 := Lib.hid h7
    have H2 := Lib.hid h2
    have h40 : (k : Int) < 40 := by omega
    have hkd : KeepsFrom (w.heap.size + 4) W W.drew := keeps_chg (chg_of_below hdr (fun _ => False)) (fun _ h => h.elim)
    have HKD := Lib.hid hkd
    have hwr : IntKind.i64.wrap ((k : Int) + 1) = (k : Int) + 1 := IntWalk.i64_in _ (by omega)
    generalize r.p = p at *
    clear h2 h3 h4 h5 h6 h7 hat hr hpv hdr c1 hkd
    simp only [tmpsN]
    gi_wp2
    refine region_plan_in _ rfl (NextS w q) [(0, 0), (1, 0), (2, 0), (3, 0), (4, 0), (5, 0), (6, 0), (7, 1), (8, 0), (9, 0), (10, 0), (11, 1)] (by kernel_rfl) (by kernel_rfl) (by kernel_rfl) (by kernel_rfl) hD ?_
    generalize W.drew = WD at *
    have hnq : ¬ w.heap.size = q := by omega
    have hD2 : NextS w q (WD.setCell ⟨q, 12, none⟩ (.int .i64 ((k : Int) + 1))) := (chg_set (w := WD) (p := ⟨q, 12, none⟩) (.int .i64 ((k : Int) + 1))).cell hD (by simp; omega)
    have hD3 : NextS w q ((WD.setCell ⟨q, 12, none⟩ (.int .i64 ((k : Int) + 1))).setCell ⟨q, 8, none⟩ (.int .i8 1)) := (chg_set (p := ⟨q, 8, none⟩) (.int .i8 1)).cell hD2 (by simp; omega)
    iterate 7 (first | (refine plan_skip rfl ?_ ?_; (focus (rfl)); (try simp only [Act.put, List.setIfInBounds_toArray, List.set_cons_zero, List.set_cons_succ])) | (refine plan_take (v := ?_) rfl ?_ (fun w hSw => ?_) ?_; rotate_left; (focus (rfl)); (focus (unfold NextS at hSw; (go_simp <;> with_reducible rfl))); (try simp only [Act.put, List.setIfInBounds_toArray, List.set_cons_zero, List.set_cons_succ])))
    refine plan_run rfl ?_ (fun K hK => ?_)
    focus (rfl)
    go_simp
    refine hK.out _ _ hD2 ?_
    clear hK K
    (try simp only [Act.put, List.setIfInBounds_toArray, List.set_cons_zero, List.set_cons_succ])
    iterate 3 (first | (refine plan_skip rfl ?_ ?_; (focus (rfl)); (try simp only [Act.put, List.setIfInBounds_toArray, List.set_cons_zero, List.set_cons_succ])) | (refine plan_take (v := ?_) rfl ?_ (fun w hSw => ?_) ?_; rotate_left; (focus (rfl)); (focus (unfold NextS at hSw; (go_simp <;> with_reducible rfl))); (try simp only [Act.put, List.setIfInBounds_toArray, List.set_cons_zero, List.set_cons_succ])))
    refine plan_run rfl ?_ (fun K hK => ?_)
    focus (rfl)
    go_simp
    refine hK.out _ _ hD3 ?_
    clear hK K
    (try simp only [Act.put, List.setIfInBounds_toArray, List.set_cons_zero, List.set_cons_succ])
    refine plan_done_in ?_
    have hc2 := (chg_set (w := WD) (p := ⟨q, 12, none⟩) (.int .i64 ((k : Int) + 1))).trans (chg_set (p := ⟨q, 8, none⟩) (.int .i8 1))
    have e6 : ((WD.setCell ⟨q, 12, none⟩ (.int .i64 ((k : Int) + 1))).setCell ⟨q, 8, none⟩ (.int .i8 1)).heap[q]? = some (.cells (frC 3 1 ((k : Int) + 1) (.slice (some ⟨b, off, none⟩) R.length cap)) 63 (0, 0)) := set_at (i := 8) (set_at (i := 12) H6.out (.int .i64 ((k : Int) + 1))) (.int .i8 1)
    have e3 := hc2.heap H3.out (by simp; omega)
    have e2 := hc2.heap H2.out (by simp; omega)
    have ep := hc2.cell hp (by simp; omega)
    have c28 : ((WD.setCell ⟨q, 12, none⟩ (.int .i64 ((k : Int) + 1))).setCell ⟨q, 8, none⟩ (.int .i8 1)).cell? ⟨q, 28, none⟩ = some (.slice (some ⟨b, off, none⟩) R.length cap) := (cells_at e6 28 _ rfl).1
    obtain ⟨c4, c4f⟩ := cells_at e3 0 _ rfl
    have c1 := (cells_at e2 0 _ rfl).1
    have hs2 := hc2.size
    have HC2 := Lib.hid hc2
    have E6 := Lib.hid e6
    have E3 := Lib.hid e3
    clear hD hD2 hD3 c2 c2f c3 c3f hp hc2 e6 e3 e2
    generalize (WD.setCell ⟨q, 12, none⟩ (.int .i64 ((k : Int) + 1))).setCell ⟨q, 8, none⟩ (.int .i8 1) = W5 at *
    have hl1 := heap_lt E3.out
    have HF : Hid (KeepsFrom (w.heap.size + 4) W ((W5.setCell ⟨w.heap.size + 1, 0, none⟩ (.slice (some ⟨W5.heap.size, 0, none⟩) 1 1)).alloc (.cells (efC 6 p 0 ⟨#[]⟩) 56)) ∧
        NextX w R (some ⟨b, off, none⟩) cap q .ret [⟨k, hkR⟩] ((W5.setCell ⟨w.heap.size + 1, 0, none⟩ (.slice (some ⟨W5.heap.size, 0, none⟩) 1 1)).alloc (.cells (efC 6 p 0 ⟨#[]⟩) 56))) := Lib.hid (by
      have hset := chg_set (w := W5) (p := ⟨w.heap.size + 1, 0, none⟩) (.slice (some ⟨W5.heap.size, 0, none⟩) 1 1)
      have ha := chg_alloc (fun _ => False) (W5.setCell ⟨w.heap.size + 1, 0, none⟩ (.slice (some ⟨W5.heap.size, 0, none⟩) 1 1)) (.cells (efC 6 p 0 ⟨#[]⟩) 56)
      have hnew := heap_new (W5.setCell ⟨w.heap.size + 1, 0, none⟩ (.slice (some ⟨W5.heap.size, 0, none⟩) 1 1)) (.cells (efC 6 p 0 ⟨#[]⟩) 56)
      rw [show (W5.setCell ⟨w.heap.size + 1, 0, none⟩ (.slice (some ⟨W5.heap.size, 0, none⟩) 1 1)).heap.size = W5.heap.size by simp] at hnew
      have g1 := ha.heap (set_at (i := 0) E3.out (.slice (some ⟨W5.heap.size, 0, none⟩) 1 1)) (fun h => h)
      have g2 := ha.heap (hset.heap E6.out (by simp; omega)) (fun h => h)
      refine ⟨?_, rfl, _, rfl, g2, ?_, W5.heap.size, by omega, g1, ?_⟩
      · have k1 : KeepsFrom (w.heap.size + 4) WD W5 := keeps_chg HC2.out (fun k h => by simp at h; omega)
        exact ((HKD.out.trans k1).trans (keeps_chg hset (fun k h => by simp at h; omega))).trans (keeps_chg ha (fun _ h => h.elim))
      · have c1 : Chg (fun k => k = q) w WD := (chg_of_below H7.out _)
        have c2 := c1.grow HC2.out (fun i _ h => by simpa using h)
        exact (c2.grow hset (fun i hi h => by simp at h; omega)).grow ha (fun i _ h => h.elim)
      · rw [HPV.out]
        exact hnew)
    clear hs2
    gi_wp2
    exact HF.out
  case done =>
    rintro D xs W hD ⟨rfl, hnil, h2, h3, h4, h5, h6, h7⟩ hK
    have hl1 := heap_lt h3
    have HN : Hid (dn (pidsL R) R.length = []) := Lib.hid (by rw [← dnF_vals R.length (pidsL R) R.length (Nat.le_refl _), hnil]; rfl)
    have H3 := Lib.hid h3
    have H6 := Lib.hid h6
    have H7 := Lib.hid h7
    have HKD := Lib.hid hK
    have hlD := heap_lt hK
    clear hnil h2 h3 h4 h5 h6 h7 hK
    gi_wp2
    refine ⟨trivial, (callsIn_wide.2 (atom_any _ _)).mono ?_⟩
    rintro e W5 ⟨rfl, hb5⟩
    have h3 := keep_heap H3.out hb5
    have h6 := keep_heap H6.out hb5
    have hD5 := keep_heap HKD.out hb5
    obtain ⟨c4, c4f⟩ := cells_at h3 0 _ rfl
    have hl5 := heap_lt h3
    have hB5 := H7.out.trans (hb5.mono H7.out.size)
    have HF : Hid (((W5.setCell ⟨w.heap.size + 1, 0, none⟩ (.slice (some ⟨W5.heap.size, 0, none⟩) 1 1)).alloc (.cells (efC 11 0 1 ⟨#[111, 107]⟩) 56)).heap[D]? = some (.deferred (some [])) ∧
        (((W5.setCell ⟨w.heap.size + 1, 0, none⟩ (.slice (some ⟨W5.heap.size, 0, none⟩) 1 1)).alloc (.cells (efC 11 0 1 ⟨#[111, 107]⟩) 56)).putObj D (.deferred none)).cell? ⟨w.heap.size + 1, 0, none⟩ = some (.slice (some ⟨W5.heap.size, 0, none⟩) 1 1) ∧
        NextP w R q (.slice ao R.length cap) (.returned (.slice (some ⟨W5.heap.size, 0, none⟩) 1 1)) (((W5.setCell ⟨w.heap.size + 1, 0, none⟩ (.slice (some ⟨W5.heap.size, 0, none⟩) 1 1)).alloc (.cells (efC 11 0 1 ⟨#[111, 107]⟩) 56)).putObj D (.deferred none))) := Lib.hid (by
      have hset := chg_set (w := W5) (p := ⟨w.heap.size + 1, 0, none⟩) (.slice (some ⟨W5.heap.size, 0, none⟩) 1 1)
      have ha := chg_alloc (fun _ => False) (W5.setCell ⟨w.heap.size + 1, 0, none⟩ (.slice (some ⟨W5.heap.size, 0, none⟩) 1 1)) (.cells (efC 11 0 1 ⟨#[111, 107]⟩) 56)
      have hnew := heap_new (W5.setCell ⟨w.heap.size + 1, 0, none⟩ (.slice (some ⟨W5.heap.size, 0, none⟩) 1 1)) (.cells (efC 11 0 1 ⟨#[111, 107]⟩) 56)
      rw [show (W5.setCell ⟨w.heap.size + 1, 0, none⟩ (.slice (some ⟨W5.heap.size, 0, none⟩) 1 1)).heap.size = W5.heap.size by simp] at hnew
      have hlD5 := heap_lt hD5
      have gR := ha.heap (set_at (i := 0) h3 (.slice (some ⟨W5.heap.size, 0, none⟩) 1 1)) (fun h => h)
      have g6 := ha.heap (hset.heap h6 (by simp; omega)) (fun h => h)
      have gD := ha.heap (hset.heap hD5 (by simp; omega)) (fun h => h)
      have hc := chg_put ((W5.setCell ⟨w.heap.size + 1, 0, none⟩ (.slice (some ⟨W5.heap.size, 0, none⟩) 1 1)).alloc (.cells (efC 11 0 1 ⟨#[111, 107]⟩) 56)) D (.deferred none)
      refine ⟨gD, (cells_at (hc.heap gR (by omega)) 0 _ rfl).1, W5.heap.size, 0, 0, _, rfl, by omega, hc.heap hnew (by omega), hc.heap g6 (by omega), ?_, .inl ⟨HN.out, rfl, rfl, rfl⟩⟩
      exact (((chg_of_below hB5 _).grow hset (fun i hi h => by simp at h; omega)).grow ha (fun i _ h => h.elim)).grow hc (fun i hi h => by omega))
    clear h3 h6 hD5 hB5 hb5
    gi_wp2
    refine ⟨by simp, .inl ⟨_, _, rfl, run_takeDeferred HF.out.1, ?_⟩⟩
    have hcell := HF.out.2.1
    refine ⟨_, results_slice rfl Try.underlying52 rfl hcell, HF.out.2.2⟩
  case stop =>
    rintro D c pre W hD hpre ⟨rfl, ⟨k, hkR⟩, rfl, h3, h4, g, h5, h6, h7⟩ hK
    have hl6 := heap_lt h6
    have hc := chg_put W D (.deferred none)
    have hgD : ¬ g = D := by
      rintro rfl
      rw [hK] at h7
      cases h7
    obtain ⟨t, ht⟩ := hpre.2
    have e1 := dnF_vals R.length (pidsL R) R.length (Nat.le_refl _)
    have hcell := (cells_at (hc.heap h6 (by omega)) 0 _ rfl).1
    have HF : Hid (NextP w R q (.slice ao R.length cap) (.returned (.slice (some ⟨g, 0, none⟩) 1 1)) (W.putObj D (.deferred none))) := Lib.hid
      ⟨g, 1, (k : Int) + 1, _, rfl, h5, hc.heap h7 hgD, hc.heap h3 (by omega), h4.grow hc (fun i hi h => by omega), .inr ⟨k, t.map Fin.val, by rw [← e1, ← ht]; rfl, rfl, rfl, rfl⟩⟩
    clear h3 h4 h7 hc hl6 ht e1 hpre
    gi_wp2
    refine ⟨by simp, .inl ⟨_, _, rfl, run_takeDeferred hK, ?_⟩⟩
    refine ⟨_, results_slice rfl Try.underlying52 rfl hcell, HF.out⟩
end Go.Proofs.Ytjepiimggaiejaa
