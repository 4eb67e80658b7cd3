/- stop: Left. Conditions: at most 40 records. -/
import Derived.Test.YtjepiimggaiejaaPd
import Derived.Test.YtjepiimggaiejaaKi
namespace Go.Proofs.Ytjepiimggaiejaa
open Go.ChangeShapes Go.WideShapes Go.ChangeAt Go.RowKit Go.Shelf
set_option linter.unusedVariables false
attribute [local go_sem] Oper.semAt_some
theorem infoLI : (Try.prog.info? 3).map (fun i => (i.zero, i.size, i.bytes)) = some (some (.int .i64 0), 1, 8) := by kernel_rfl
def pidV (R : List Rc) (k : Nat) : Value := .int .i64 ((pidsL R).getD k 0)
/-- what stands while it goes over records -/
def LeftI (w : World) (R : List Rc) (ao : Option Addr) (cap : Nat) (pre : List (Fin R.length)) (W : World) : Prop :=
  (∃ ov, W.heap[w.heap.size + 2]? = some (.cells #[ov] 34 (0, 0)) ∧ W.ownsRow (w.heap.size + 5) 3 1 ov pre.length (pre.map fun x => pidV R x.val)) ∧
  W.heap[w.heap.size]? = some (.cells (frC 3 0 0 (.slice ao R.length cap)) 38 (0, 0)) ∧ W.heap[w.heap.size + 1]? = some (.cells (frC 3 0 0 (.slice ao R.length cap)) 63 (0, 0)) ∧
  W.heap[w.heap.size + 3]? = some (.cells #[.pointer (some ⟨w.heap.size + 1, 0, none⟩)] 72 (0, 0)) ∧ W.heap[w.heap.size + 4]? = some (.cells #[.int .i64 R.length] 3 (0, 0)) ∧ Below w.heap.size w W
theorem LeftI.keep {w : World} {R : List Rc} {ao : Option Addr} {cap : Nat} {pre : List (Fin R.length)} {W W' : World} (h : LeftI w R ao cap pre W) (hb : Below W.heap.size W W') : LeftI w R ao cap pre W' := by
  obtain ⟨⟨ov, h1, h2⟩, h3, h4, h5, h6, h7⟩ := h
  exact ⟨⟨ov, keep_heap h1 hb, own_keep h2 hb⟩, keep_heap h3 hb, keep_heap h4 hb, keep_heap h5 hb, keep_heap h6 hb, h7.trans (hb.mono h7.size)⟩
theorem LeftI.its {w : World} {R : List Rc} {ao : Option Addr} {cap : Nat} {pre : List (Fin R.length)} {W : World} (h : LeftI w R ao cap pre W) (hr : RRow w ao R) : ItS R ao cap (w.heap.size + 1) (w.heap.size + 3) (w.heap.size + 4) W := by
  obtain ⟨⟨ov, h1, h2⟩, h3, h4, h5, h6, h7⟩ := h
  exact ⟨(cells_at h4 28 _ rfl).1, (cells_at h5 0 _ rfl).1, (cells_at h6 0 _ rfl).1, hr.keep h7⟩
theorem LeftI.firm (w : World) (R : List Rc) (ao : Option Addr) (cap : Nat) : Firm (w.heap.size + 5) (LeftI w R ao cap) := by
  rintro pre W l o o' hl ho hc ⟨⟨ov, h1, h2⟩, h3, h4, h5, h6, h7⟩
  have c := chg_put W l o'
  refine ⟨⟨ov, c.heap h1 (by omega), own_chg h2 c (fun k hk e => ?_)⟩, c.heap h3 (by omega), c.heap h4 (by omega), c.heap h5 (by omega), c.heap h6 (by omega), h7.trans (c.below h7.size (fun k h => by omega))⟩
  subst e
  obtain ⟨cur, hcur⟩ := own_type h2 k hk
  rw [ho] at hcur
  cases hcur
  cases hc
def tmpsL (w : World) (R : List Rc) (ao : Option Addr) (cap : Nat) (x : Value) : Array Value :=
  #[frV 3 0 0 (.slice ao R.length cap), .pointer (some ⟨w.heap.size, 0, none⟩), .slice none 0 0, .pointer (some ⟨w.heap.size + 1, 0, none⟩), .pointer (some ⟨w.heap.size + 2, 0, none⟩), x, .pointer (some ⟨w.heap.size, 0, none⟩), .int .i8 3, .bool false, .bool false, .bool true, .bool false, .bool false,
    .agg (frC 3 0 0 (.slice ao R.length cap)), .func (.func 20) #[] #[.pointer (some ⟨w.heap.size + 4, 0, none⟩), .pointer (some ⟨w.heap.size + 3, 0, none⟩)], x, undef, undef, undef, undef, undef, undef, undef, undef, undef, undef, undef]
def LeftA (w : World) (R : List Rc) (ao : Option Addr) (cap : Nat) (pre : List (Fin R.length)) (x : Fin R.length) (a : Act) (W : World) : Prop :=
  a = { tmps := tmpsL w R ao cap (.int .i64 (x.val : Nat)), defers := [] } ∧ LeftI w R ao cap pre W
/-- what a round reads -/
def LeftS (w : World) (b o : Nat) (v : Value) (p : Int) (W : World) : Prop :=
  W.cell? ⟨w.heap.size, 28, none⟩ = some v ∧ W.cell? ⟨b, o, none⟩ = some (.int .i64 p)
def LeftP (w : World) (R : List Rc) (e : Ending) (w' : World) : Prop :=
  ∃ v, e = .returned v ∧ Below w.heap.size w w' ∧ w'.ownsRow w.heap.size 3 1 v (dn (pidsL R) R.length).length ((dn (pidsL R) R.length).map (pidV R))
theorem fits_any (w : World) (q len cap : Nat) (n : Int) (ao : Option Addr) (h1 : w.cell? ⟨q, 12, none⟩ = some (.int .i64 n)) (h2 : w.cell? ⟨q, 28, none⟩ = some (.slice ao len cap)) (h3 : 0 ≤ n) (h4 : n ≤ len) (h5 : len ≤ 4611686018427387904) :
    Calls Try.prog 13 #[.pointer (some ⟨q, 0, none⟩)] w fun e w' => e = .returned (.bool true) ∧ ∃ k, w' = w.drewN k := by
  have d1 : decide (0 ≤ n) = true := by simpa using h3
  have d2 : decide (n ≤ (len : Int)) = true := by simpa using h4
  go_enter Try.func13, Try.ntmps13
  go_wp2_with fail
  go_quiet (fail)
  go_wp2_with fail
  go_ret
  exact ⟨rfl, _, rfl⟩
theorem infoROW (kd ph n : Int) (v : Value) : (Try.prog.info? 63).map (·.size) = some (frC kd ph n v).size := by
  have : (Try.prog.info? 63).map (·.size) = some 35 := by kernel_rfl
  exact this
set_option maxRecDepth 100000 in
set_option maxHeartbeats 4000000 in
theorem left_any (w : World) (ao : Option Addr) (cap : Nat) (R : List Rc) (hR : R.length ≤ 40) (hok : ∀ r ∈ R, r.ok) (hr : RRow w ao R) : Calls Try.prog 8 #[frV 3 0 0 (.slice ao R.length cap)] w (LeftP w R) := by
  obtain ⟨i0, hi, hz0, hz1, hz2⟩ := info_parts infoLI
  refine (callsIn_wide (n := 9)).1 ?_
  refine callsIn_of_wp_marks Try.func8 rfl trivial ?_ rfl
  simp only [Try.ntmps8, List.size_toArray, List.length_cons, List.length_nil, Nat.reduceAdd, Nat.reduceSub, Array.replicate_succ, Array.replicate_zero, List.push_toArray, List.append_toArray, List.nil_append, List.cons_append]
  have HR := Lib.hid hr
  have HK := Lib.hid hok
  clear hr hok
  simp only [frV, frC]
  gi_wp2
  have hF0 : (w.alloc (.cells (frC 3 0 0 (.slice ao R.length cap)) 38)).heap[w.heap.size]? = some (.cells (frC 3 0 0 (.slice ao R.length cap)) 38 (0, 0)) := heap_new w _
  have hB0 : Below w.heap.size w (w.alloc (.cells (frC 3 0 0 (.slice ao R.length cap)) 38)) := (Below.refl _ w).alloc (Nat.le_refl _) _
  have hS0 : (w.alloc (.cells (frC 3 0 0 (.slice ao R.length cap)) 38)).heap.size = w.heap.size + 1 := by simp
  show Fence.wide.fn 13 ∧ CallsIn Fence.wide 8 Try.prog 13 _ (w.alloc (.cells (frC 3 0 0 (.slice ao R.length cap)) 38)) _
  generalize (w.alloc (.cells (frC 3 0 0 (.slice ao R.length cap)) 38)) = W0 at *
  refine ⟨trivial, (callsIn_wide.2 (fits_any W0 w.heap.size R.length cap 0 ao (cells_at hF0 12 _ rfl).1 (cells_at hF0 28 _ rfl).1 (by omega) (by omega) (by omega))).mono ?_⟩
  rintro e w' ⟨rfl, kd, rfl⟩
  have hdr := below_drewN (Below.refl W0.heap.size W0) kd
  have hF0' := keep_heap hF0 hdr
  have hB0' := hB0.trans (hdr.mono hB0.size)
  have hS0' : (W0.drewN kd).heap.size = w.heap.size + 1 := hS0
  clear hF0 hB0 hS0 hdr
  generalize W0.drewN kd = W0 at *
  have HF := Lib.hid hF0'
  have HB := Lib.hid hB0'
  have hS0 := hS0'
  clear hF0' hB0' hS0'
  gi_wp2_with (with_reducible refine stop_opIn (o := ⟨_, .load 38 (.tmp 1), _, _, _, _⟩) ?_)
  refine Lib.hid ?_
  refine wpListIn_op none rfl rfl (fun c e => by cases e) (wp_load_row 38 (.tmp 1) rfl w.heap.size rfl 38 (frC 3 0 0 (.slice ao R.length cap)) (0, 0) _ HF.out Try.underlying38 rfl (infoFR _ _ _ _) ?_)
  gi_wp2_with (with_reducible refine stop_opIn (o := ⟨_, .store 63 (.tmp 3) (.tmp 13), _, _, _, _⟩) ?_)
  refine Lib.hid ?_
  have hF1 := heap_old HF.out (.cells (frC 0 0 0 nS) 63)
  have hX1 := heap_new W0 (.cells (frC 0 0 0 nS) 63)
  have hB1 := HB.out.alloc HB.out.size (.cells (frC 0 0 0 nS) 63)
  have hS1 : (W0.alloc (.cells (frC 0 0 0 nS) 63)).heap.size = w.heap.size + 2 := by simp; omega
  rw [hS0] at hX1
  show wpListIn Fence.wide 9 Try.prog _ _ _ _ (W0.alloc (.cells (frC 0 0 0 nS) 63))
  generalize (W0.alloc (.cells (frC 0 0 0 nS) 63)) = W1 at *
  refine wpListIn_op none rfl rfl (fun c e => by cases e) (wp_store_row 63 (.tmp 3) (.tmp 13) rfl (w.heap.size + 1) (frC 3 0 0 (.slice ao R.length cap)) rfl rfl 63 (frC 0 0 0 nS) hX1 (infoROW _ _ _ _) rfl (frC_one _ _ _ rfl) ?_)
  have hX2 := setRow_heap W1 (w.heap.size + 1) _ (frC 3 0 0 (.slice ao R.length cap)) _ _ hX1
  have hF2 := (chg_setRow W1 (w.heap.size + 1) (frC 3 0 0 (.slice ao R.length cap))).heap hF1 (by simp)
  have hB2 := bel_setRow hB1 hB1.size (by omega : w.heap.size ≤ w.heap.size + 1) (frC 3 0 0 (.slice ao R.length cap))
  have hS2 : (W1.setRow (w.heap.size + 1) (frC 3 0 0 (.slice ao R.length cap))).heap.size = w.heap.size + 2 := by simp; omega
  generalize (W1.setRow (w.heap.size + 1) (frC 3 0 0 (.slice ao R.length cap))) = W2 at *
  have c28 := (cells_at hX2 28 _ rfl).1
  have c12 := (cells_at hX2 12 _ rfl).1
  clear hF1 hX1 hB1 hS1 HF HB hS0
  have HX2 := Lib.hid hX2
  have HF2 := Lib.hid hF2
  have HB2 := Lib.hid hB2
  clear hX2 hF2 hB2
  gi_wp2
  refine ⟨trivial, (callsIn_wide.2 (from_any _ R ao cap (w.heap.size + 1) ?_ ?_)).mono ?_⟩
  · exact keep_cell c28 ((Below.refl _ _).alloc (Nat.le_refl _) _)
  · exact keep_cell c12 ((Below.refl _ _).alloc (Nat.le_refl _) _)
  rintro e w' ⟨rfl, rfl⟩
  have hI0 : LeftI w R ao cap [] (((W2.alloc (.cells #[.slice none 0 0] 34)).alloc (.cells #[.pointer (some ⟨w.heap.size + 1, 0, none⟩)] 72)).alloc (.cells #[.int .i64 R.length] 3)) := by
    have z0 := heap_new W2 (.cells #[.slice none 0 0] 34)
    have z1 := heap_new (W2.alloc (.cells #[.slice none 0 0] 34)) (.cells #[.pointer (some ⟨w.heap.size + 1, 0, none⟩)] 72)
    have z2 := heap_new ((W2.alloc (.cells #[.slice none 0 0] 34)).alloc (.cells #[.pointer (some ⟨w.heap.size + 1, 0, none⟩)] 72)) (.cells #[.int .i64 R.length] 3)
    simp only [World.size_alloc, hS2] at z0 z1 z2
    have hb := HB2.out.alloc HB2.out.size (.cells #[.slice none 0 0] 34)
    have hb2 := hb.alloc hb.size (.cells #[.pointer (some ⟨w.heap.size + 1, 0, none⟩)] 72)
    exact ⟨⟨_, heap_old (heap_old z0 _) _, World.ownsRow_nil _ _ _ _⟩, heap_old (heap_old (heap_old HF2.out _) _) _, heap_old (heap_old (heap_old HX2.out _) _) _, heap_old z1 _, z2, hb2.alloc hb2.size _⟩
  have hsz : (((W2.alloc (.cells #[.slice none 0 0] 34)).alloc (.cells #[.pointer (some ⟨w.heap.size + 1, 0, none⟩)] 72)).alloc (.cells #[.int .i64 R.length] 3)).heap.size = w.heap.size + 5 := by simp; omega
  simp only [World.size_alloc, hS2]
  generalize (((W2.alloc (.cells #[.slice none 0 0] 34)).alloc (.cells #[.pointer (some ⟨w.heap.size + 1, 0, none⟩)] 72)).alloc (.cells #[.int .i64 R.length] 3)) = W3 at *
  clear c28 c12 HX2 HF2 HB2
  gi_wp2
  refine rf_law (α := Fin R.length) (encs := fun x => #[.int .i64 (x.val : Nat)]) rfl (by omega) (gf := 20) (lb := #[.pointer (some ⟨w.heap.size + 4, 0, none⟩), .pointer (some ⟨w.heap.size + 3, 0, none⟩)]) rfl trivial (enters_of Try.func20 (by kernel_rfl) rfl) (fun _ => rfl)
    (LeftI w R ao cap) (fun _ _ _ => False) (fun xs W => xs = dnF R.length (pidsL R) R.length ∧ LeftI w R ao cap xs W) (fun _ => True) 41 (LeftA w R ao cap) (by rw [hsz]; exact LeftI.firm w R ao cap) (fun W o h => h.keep ((Below.refl _ _).alloc (Nat.le_refl _) _)) (fun _ _ _ _ _ _ _ _ _ h => h) (by rw [hsz]; exact fun s W l o o' h1 h2 h3 h4 => ⟨h4.1, LeftI.firm w R ao cap s W l o o' h1 h2 h3 h4.2⟩)
    (by rw [hsz]; exact fun pre x a W l o o' h1 h2 h3 h4 => ⟨h4.1, LeftI.firm w R ao cap pre W l o o' h1 h2 h3 h4.2⟩) hI0 ?assign ?body ?iter ?done ?stop
  case assign =>
    rintro l pre x W K hI hlen hK
    gi_wp2
    exact hK _ _ ⟨rfl, hI⟩ (keeps_chg (chg_of_below (Below.refl _ _) (fun _ => False)) (fun _ h => h.elim))
  case body =>
    rintro l pre ⟨k, hkR⟩ a1 W ⟨rfl, hI⟩ hlen
    obtain ⟨r, hr⟩ : ∃ r, R[k]? = some r := ⟨R[k], by simp⟩
    have hpv : pidV R k = .int .i64 r.p := by simp [pidV, pidsL, hr]
    have hdr := (Below.refl W.heap.size W).drew
    have hID := hI.keep hdr
    have HC := Lib.hid (chg_of_below hdr (fun _ => False))
    obtain ⟨⟨ov, h1, h2⟩, h3, h4, h5, h6, h7⟩ := id hID
    obtain ⟨b, off, rfl, hb, hat⟩ := HR.out _ _ hr
    have hp := keep_cell hat.pid h7
    have hn4 := heap_lt h6
    obtain ⟨c1, c1f⟩ := cells_at h1 0 _ rfl
    have hD : LeftS w b (off + k * 13 + 12) (.slice (some ⟨b, off, none⟩) R.length cap) r.p W.drew := ⟨(cells_at h3 28 _ rfl).1, hp⟩
    have HPV := Lib.hid hpv
    have HID := Lib.hid hID
    have H1 := Lib.hid h1
    generalize r.p = p at *
    clear h1 h3 h4 h5 h6 h7 hat hp hr hpv hI hID hdr
    simp only [tmpsL]
    gi_wp2
    refine region_plan_in _ rfl (LeftS w b (off + k * 13 + 12) (.slice (some ⟨b, off, none⟩) R.length cap) p) [(1, 0), (2, 0), (3, 0), (4, 0), (5, 0), (6, 0), (7, 0), (0, 10), (9, 1), (10, 1)] (by kernel_rfl) (by kernel_rfl) (by kernel_rfl) (by kernel_rfl) hD ?_
    generalize W.drew = WD at *
    have h63 : WD.heap.size < WD.heap.size + 1 := by omega
    have hlt := heap_lt H1.out
    have hD2 : LeftS w b (off + k * 13 + 12) (.slice (some ⟨b, off, none⟩) R.length cap) p (WD.alloc (.cells #[.int .i64 p] 3)) := by
      have hb2 := (Below.refl WD.heap.size WD).alloc (Nat.le_refl _) (.cells #[.int .i64 p] 3)
      exact ⟨keep_cell hD.1 hb2, keep_cell hD.2 hb2⟩
    have c1b : (WD.alloc (.cells #[.int .i64 p] 3)).cell? ⟨w.heap.size + 2, 0, none⟩ = some ov := keep_cell c1 ((Below.refl WD.heap.size WD).alloc (Nat.le_refl _) _)
    have hnew : ∀ j u, [Value.int .i64 p][j]? = some u → (WD.alloc (.cells #[.int .i64 p] 3)).cell? ((⟨WD.heap.size, 0, none⟩ : Addr).add j) = some u := one_new WD _ _
    have HNEW := Lib.hid hnew
    clear hnew
    iterate 7 (first | (refine plan_skip rfl ?_ ?_; (focus (rfl)); (try simp only [Act.put, List.setIfInBounds_toArray, List.set_cons_zero, List.set_cons_succ])) | (refine plan_take (v := ?_) rfl ?_ (fun w hSw => ?_) ?_; rotate_left; (focus (rfl)); (focus (unfold LeftS at hSw; (go_simp <;> with_reducible rfl))); (try simp only [Act.put, List.setIfInBounds_toArray, List.set_cons_zero, List.set_cons_succ])))
    refine ⟨?_, ?_⟩
    · skip
      refine plan_op rfl ?_ (fun K hK => ?_)
      focus (rfl)
      go_simp
      refine hK.out _ _ hD ?_
      clear hK K
      (try simp only [Act.put, List.setIfInBounds_toArray, List.set_cons_zero, List.set_cons_succ])
      refine plan_op rfl ?_ (fun K hK => ?_)
      focus (rfl)
      go_simp
      refine hK.out _ _ hD2 ?_
      clear hK K
      (try simp only [Act.put, List.setIfInBounds_toArray, List.set_cons_zero, List.set_cons_succ])
      refine plan_run rfl ?_ (fun K hK => ?_)
      focus (rfl)
      refine op_append_own2 (.tmp 16) (.tmp 24) 34 rfl (w.heap.size + 5) 3 i0 (.int .i64 0) 1 8 Try.underlying34 hi hz0 hz1 hz2 rfl (by decide) ov pre.length (pre.map fun x => pidV R x.val) rfl (h2.alloc _) ⟨WD.heap.size, 0, none⟩ 1 1 [.int .i64 p] rfl rfl HNEW.out (by simp [Value.oneCell']) (by unfold maxLen; omega) (by omega) (by simp; omega) ?_
      intro v' W5 hown hg _
      obtain ⟨ao', cc, rfl⟩ := own_slice hown
      have hc3 := chg_grown hg
      have hob := own_base h2
      have hca : Chg (fun k => w.heap.size + 5 ≤ k) WD W5 := (chg_alloc _ WD (.cells #[.int .i64 p] 3)).trans (hc3.mono (fun k _ hk => hob k hk.symm))
      have k1 := hca.heap H1.out (by omega)
      obtain ⟨f1, f2⟩ := cells_at k1 0 _ rfl
      have hS3 : LeftS w b (off + k * 13 + 12) (.slice (some ⟨b, off, none⟩) R.length cap) p W5 := ⟨hca.cell hD.1 (by simp), hca.cell hD.2 (by simp; omega)⟩
      refine hK.out _ _ hS3 ?_
      clear hK K
      (try simp only [Act.put, List.setIfInBounds_toArray, List.set_cons_zero, List.set_cons_succ])
      have hset := chg_set (w := W5) (p := ⟨w.heap.size + 2, 0, none⟩) (.slice ao' (pre.length + 1) cc)
      have hS4 : LeftS w b (off + k * 13 + 12) (.slice (some ⟨b, off, none⟩) R.length cap) p (W5.setCell ⟨w.heap.size + 2, 0, none⟩ (.slice ao' (pre.length + 1) cc)) := ⟨hset.cell hS3.1 (by simp), hset.cell hS3.2 (by simp; omega)⟩
      have HF : Hid (KeepsFrom (w.heap.size + 5) W (W5.setCell ⟨w.heap.size + 2, 0, none⟩ (.slice ao' (pre.length + 1) cc)) ∧ LeftI w R (some ⟨b, off, none⟩) cap (pre ++ [⟨k, hkR⟩]) (W5.setCell ⟨w.heap.size + 2, 0, none⟩ (.slice ao' (pre.length + 1) cc))) := Lib.hid (by
        obtain ⟨⟨ov', g1, g2⟩, g3, g4, g5, g6, g7⟩ := HID.out
        refine ⟨?_, ⟨⟨_, set_at (i := 0) k1 _, ?_⟩, hset.heap (hca.heap g3 (by omega)) (by simp), hset.heap (hca.heap g4 (by omega)) (by simp), hset.heap (hca.heap g5 (by omega)) (by simp), hset.heap (hca.heap g6 (by omega)) (by simp), (g7.trans (hca.below g7.size (fun k e => by omega))).setCell (p := ⟨w.heap.size + 2, 0, none⟩) (by simp) _⟩⟩
        · have h0 : KeepsFrom (w.heap.size + 5) W (WD.alloc (.cells #[.int .i64 p] 3)) := keeps_chg (HC.out.trans (chg_alloc (fun _ => False) WD _)) (fun _ h => h.elim)
          have h1' : KeepsFrom (w.heap.size + 5) (WD.alloc (.cells #[.int .i64 p] 3)) W5 := ⟨hc3.size, fun k o _ ho hc => hc3.heap ho (fun e => by
            obtain ⟨cur, hcur⟩ := own_type (h2.alloc _) k e.symm
            rw [ho] at hcur
            cases hcur
            cases hc)⟩
          exact (h0.trans h1').trans (keeps_chg hset (fun k h => by simp at h; omega))
        · have := own_chg hown hset (fun k hk e => by have := own_base hown k hk; simp at e; omega)
          have hpv := HPV.out
          simpa [hpv] using this)
      clear hown hg hc3 hob hca k1 hset
      refine plan_run rfl ?_ (fun K hK => ?_)
      focus (rfl)
      go_simp
      refine hK.out _ _ hS4 ?_
      clear hK K
      (try simp only [Act.put, List.setIfInBounds_toArray, List.set_cons_zero, List.set_cons_succ])
      refine plan_done_in ?_
      gi_wp2
      show KeepsFrom W3.heap.size _ _ ∧ _
      rw [hsz]
      exact HF.out
    · skip
      refine plan_op rfl ?_ (fun K hK => ?_)
      focus (rfl)
      go_simp
      refine hK.out _ _ hD2 ?_
      clear hK K
      (try simp only [Act.put, List.setIfInBounds_toArray, List.set_cons_zero, List.set_cons_succ])
      refine plan_op rfl ?_ (fun K hK => ?_)
      focus (rfl)
      go_simp
      refine hK.out _ _ hD2 ?_
      clear hK K
      (try simp only [Act.put, List.setIfInBounds_toArray, List.set_cons_zero, List.set_cons_succ])
      refine plan_run rfl ?_ (fun K hK => ?_)
      focus (rfl)
      refine op_append_own2 (.tmp 16) (.tmp 24) 34 rfl (w.heap.size + 5) 3 i0 (.int .i64 0) 1 8 Try.underlying34 hi hz0 hz1 hz2 rfl (by decide) ov pre.length (pre.map fun x => pidV R x.val) rfl (h2.alloc _) ⟨WD.heap.size, 0, none⟩ 1 1 [.int .i64 p] rfl rfl HNEW.out (by simp [Value.oneCell']) (by unfold maxLen; omega) (by omega) (by simp; omega) ?_
      intro v' W5 hown hg _
      obtain ⟨ao', cc, rfl⟩ := own_slice hown
      have hc3 := chg_grown hg
      have hob := own_base h2
      have hca : Chg (fun k => w.heap.size + 5 ≤ k) WD W5 := (chg_alloc _ WD (.cells #[.int .i64 p] 3)).trans (hc3.mono (fun k _ hk => hob k hk.symm))
      have k1 := hca.heap H1.out (by omega)
      obtain ⟨f1, f2⟩ := cells_at k1 0 _ rfl
      have hS3 : LeftS w b (off + k * 13 + 12) (.slice (some ⟨b, off, none⟩) R.length cap) p W5 := ⟨hca.cell hD.1 (by simp), hca.cell hD.2 (by simp; omega)⟩
      refine hK.out _ _ hS3 ?_
      clear hK K
      (try simp only [Act.put, List.setIfInBounds_toArray, List.set_cons_zero, List.set_cons_succ])
      have hset := chg_set (w := W5) (p := ⟨w.heap.size + 2, 0, none⟩) (.slice ao' (pre.length + 1) cc)
      have hS4 : LeftS w b (off + k * 13 + 12) (.slice (some ⟨b, off, none⟩) R.length cap) p (W5.setCell ⟨w.heap.size + 2, 0, none⟩ (.slice ao' (pre.length + 1) cc)) := ⟨hset.cell hS3.1 (by simp), hset.cell hS3.2 (by simp; omega)⟩
      have HF : Hid (KeepsFrom (w.heap.size + 5) W (W5.setCell ⟨w.heap.size + 2, 0, none⟩ (.slice ao' (pre.length + 1) cc)) ∧ LeftI w R (some ⟨b, off, none⟩) cap (pre ++ [⟨k, hkR⟩]) (W5.setCell ⟨w.heap.size + 2, 0, none⟩ (.slice ao' (pre.length + 1) cc))) := Lib.hid (by
        obtain ⟨⟨ov', g1, g2⟩, g3, g4, g5, g6, g7⟩ := HID.out
        refine ⟨?_, ⟨⟨_, set_at (i := 0) k1 _, ?_⟩, hset.heap (hca.heap g3 (by omega)) (by simp), hset.heap (hca.heap g4 (by omega)) (by simp), hset.heap (hca.heap g5 (by omega)) (by simp), hset.heap (hca.heap g6 (by omega)) (by simp), (g7.trans (hca.below g7.size (fun k e => by omega))).setCell (p := ⟨w.heap.size + 2, 0, none⟩) (by simp) _⟩⟩
        · have h0 : KeepsFrom (w.heap.size + 5) W (WD.alloc (.cells #[.int .i64 p] 3)) := keeps_chg (HC.out.trans (chg_alloc (fun _ => False) WD _)) (fun _ h => h.elim)
          have h1' : KeepsFrom (w.heap.size + 5) (WD.alloc (.cells #[.int .i64 p] 3)) W5 := ⟨hc3.size, fun k o _ ho hc => hc3.heap ho (fun e => by
            obtain ⟨cur, hcur⟩ := own_type (h2.alloc _) k e.symm
            rw [ho] at hcur
            cases hcur
            cases hc)⟩
          exact (h0.trans h1').trans (keeps_chg hset (fun k h => by simp at h; omega))
        · have := own_chg hown hset (fun k hk e => by have := own_base hown k hk; simp at e; omega)
          have hpv := HPV.out
          simpa [hpv] using this)
      clear hown hg hc3 hob hca k1 hset
      refine plan_run rfl ?_ (fun K hK => ?_)
      focus (rfl)
      go_simp
      refine hK.out _ _ hS4 ?_
      clear hK K
      (try simp only [Act.put, List.setIfInBounds_toArray, List.set_cons_zero, List.set_cons_succ])
      refine plan_done_in ?_
      gi_wp2
      show KeepsFrom W3.heap.size _ _ ∧ _
      rw [hsz]
      exact HF.out
  case iter =>
    exact fun l J Jx T h1 h2 h3 h4 W _ h0 => (from1_in l R hR HK.out ao cap _ _ _ J Jx T (fun pre W h => (h1 pre W h).its HR.out) (fun pre W h => h3 pre W W h (keeps_chg (chg_of_below (Below.refl _ _) (fun _ => False)) (fun _ h => h.elim))) h4 W h0).mono (by
      rintro e W' ⟨hv, (⟨xs, ⟨h1', h2'⟩, h3'⟩ | ⟨pre, hp, hx⟩)⟩
      · exact ⟨hv, .inl ⟨xs, ⟨h1', h1 _ _ h2'⟩, h3'⟩⟩
      · exact ⟨hv, .inr ⟨pre, trivial, hx⟩⟩)
  case done =>
    rintro D xs W hD ⟨rfl, hI⟩ hK
    obtain ⟨⟨ov, h1, h2⟩, h3, h4, h5, h6, h7⟩ := hI
    obtain ⟨c1, c1f⟩ := cells_at h1 0 _ rfl
    obtain ⟨ao', cc, rfl⟩ := own_slice h2
    have H2 := Lib.hid h2
    have H7 := Lib.hid h7
    have hn6 := heap_lt h6
    clear h1 h2 h3 h4 h5 h6 h7
    gi_wp2
    refine ⟨by simp, .inl ⟨_, _, rfl, run_takeDeferred hK, ?_⟩⟩
    refine ⟨_, results_tmp rfl _ _ _, ?_⟩
    have hc := chg_put W D (.deferred none)
    have e1 := dnF_vals R.length (pidsL R) R.length (Nat.le_refl _)
    have e2 := congrArg List.length e1
    have e3 : (dnF R.length (pidsL R) R.length).map (fun x => pidV R x.val) = (dn (pidsL R) R.length).map (pidV R) := by rw [← e1, List.map_map]; rfl
    simp only [List.length_map] at e2
    refine ⟨_, rfl, H7.out.trans (hc.below H7.out.size (fun k e => by omega)), ?_⟩
    have h9 := own_lower (own_chg H2.out hc (fun k hk e => ?_)) (by omega : w.heap.size ≤ w.heap.size + 5)
    · rw [e3] at h9
      rw [← e2]
      exact h9
    · obtain ⟨cur, hcur⟩ := own_type H2.out k hk
      subst e
      rw [hK] at hcur
      cases hcur
  case stop => exact fun D c pre W _ _ h _ => h.elim
end Go.Proofs.Ytjepiimggaiejaa
