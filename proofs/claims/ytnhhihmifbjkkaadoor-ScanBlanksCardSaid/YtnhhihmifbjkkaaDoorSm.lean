/- scan: Scan, walked. Conditions: lengths fit; the tables read as laid. -/
import Derived.Test.YtnhhihmifbjkkaaDoorSl
namespace Go.Proofs.YtnhhihmifbjkkaaDoor
open Go.ChangeShapes Go.WideShapes Go.ChangeAt Go.RowKit Go.Shelf
set_option linter.unusedVariables false
attribute [local go_sem] Oper.semAt_some
theorem infoTK : (Tryd.prog.info? 25).map (fun i => (i.zero, i.size, i.bytes)) = some (some (.agg #[.int .i8 0, .int .i64 0, .string ⟨#[]⟩, .int .i64 0]), 4, 40) := by kernel_rfl
theorem chg_put (W : World) (l : Nat) (o' : Obj) : Chg (fun k => k = l) W (W.putObj l o') := ⟨rfl, rfl, rfl, by simp, fun k _ hk => World.putObj_heap_other (fun e => hk e)⟩
theorem own_put {W : World} {base e size n l : Nat} {v : Value} {xs : List Value} {o : Obj} (h : W.ownsRow base e size v n xs) (hl : W.heap[l]? = some o) (ho : o.isCells = false) (o' : Obj) : (W.putObj l o').ownsRow base e size v n xs :=
  own_chg h (chg_put W l o') (fun k hk e => by
    obtain ⟨cur, hc⟩ := own_type h k hk
    subst e
    rw [hl] at hc
    cases hc
    cases ho)
theorem ScanI.firm (w : World) (s : ByteArray) : Firm (w.heap.size + 4) (ScanI w s) := by
  rintro pre W l o o' hB hl ho ⟨⟨ov, h1, h2⟩, h3, h4, h5, h6, h7⟩
  have hc := chg_put W l o'
  refine ⟨⟨ov, hc.heap h1 (by omega), own_put h2 hl ho o'⟩, hc.heap h3 (by omega), hc.heap h4 (by omega), hc.heap h5 (by omega), h6.chg hc (fun k hk e => by omega), h7.trans (hc.below h7.size (fun k e => by omega))⟩
theorem ScanE.firm (w : World) (s : ByteArray) : Firm (w.heap.size + 4) (ScanE w s) := by
  rintro pre W l o o' hB hl ho ⟨⟨ov, h1, h2⟩, h3, h7⟩
  have hc := chg_put W l o'
  exact ⟨⟨ov, hc.heap h1 (by omega), fun e => own_put (h2 e) hl ho o'⟩, hc.heap h3 (by omega), h7.trans (hc.below h7.size (fun k e => by omega))⟩
def tmpsS (w : World) (s : ByteArray) (q : Nat) (x : NT) : Array Value :=
  #[.string s, undef, .pointer (some ⟨w.heap.size, 0, none⟩), .pointer (some ⟨w.heap.size + 1, 0, none⟩), undef, .pointer (some ⟨q, 0, none⟩), .string s, .func (.func 28) #[] #[.pointer (some ⟨w.heap.size + 2, 0, none⟩), .pointer (some ⟨w.heap.size + 3, 0, none⟩)],
    .int .i64 x.1, .agg #[.int .i8 x.2.1, .int .i64 x.2.2.1, .string x.2.2.2.1, .int .i64 x.2.2.2.2], undef, undef, undef, undef, undef, undef, undef, undef, undef, undef]
def ScanA (w : World) (s : ByteArray) (pre : List NT) (x : NT) (a : Act) (W : World) : Prop :=
  ∃ q, a = { tmps := tmpsS w s q x, defers := [] } ∧ ScanI w s pre W ∧ W.heap[q]? = some (.cells #[.int .i8 x.2.1, .int .i64 x.2.2.1, .string x.2.2.2.1, .int .i64 x.2.2.2.2] 25 (0, 0)) ∧ w.heap.size + 4 ≤ q
theorem ScanA.firm (w : World) (s : ByteArray) (pre : List NT) (x : NT) : Firm (w.heap.size + 4) (ScanA w s pre x) := by
  rintro a W l o o' hB hl ho ⟨q, h1, h2, h3, h4⟩
  have hc := chg_put W l o'
  refine ⟨q, h1, ScanI.firm w s _ _ _ _ _ hB hl ho h2, hc.heap h3 ?_, h4⟩
  rintro rfl
  rw [hl] at h3
  cases h3
  cases ho
def ScanP (w : World) (s : ByteArray) (e : Ending) (w' : World) : Prop :=
  ∃ v, e = .returned (.tuple #[v, .agg #[.int .i64 (scanR s).2.1, .int .i64 (scanR s).2.2]]) ∧ Below w.heap.size w w' ∧
    ((scanR s).2.1 = 0 → w'.ownsRow w.heap.size 25 4 v (scanR s).1.length ((scanR s).1.flatMap fun x => tkC (tv x))) ∧ ((scanR s).2.1 ≠ 0 → v = .slice none 0 0)
theorem own_lower {w : World} {base b2 e size n : Nat} {v : Value} {xs : List Value} (h : w.ownsRow base e size v n xs) (hb : b2 ≤ base) : w.ownsRow b2 e size v n xs := by
  obtain ⟨h1, h2⟩ := h
  refine ⟨h1, h2.imp id ?_⟩
  rintro ⟨g, cap, cur, hv, hg, r⟩
  exact ⟨g, cap, cur, hv, by omega, r⟩
set_option maxRecDepth 100000 in
set_option maxHeartbeats 4000000 in
theorem scan_any (s : ByteArray) (hs : s.size ≤ 1099511627776) (w : World) (hT : Tabs w) : Calls Tryd.prog 11 #[.string s] w (ScanP w s) := by
  obtain ⟨i0, hi, hz0, hz1, hz2⟩ := info_parts infoTK
  refine (callsIn_wide (n := 9)).1 ?_
  refine callsIn_of_wp_marks Tryd.func11 rfl trivial ?_ rfl
  simp only [Tryd.ntmps11, List.size_toArray, List.length_cons, List.length_nil, Nat.reduceAdd, Nat.reduceSub, Array.replicate_succ, Array.replicate_zero, List.push_toArray, List.append_toArray, List.nil_append, List.cons_append]
  gi_wp2
  refine ⟨trivial, ?_⟩
  refine (callsIn_wide.2 (all_in _ _ _)).mono ?_
  rintro e w' ⟨rfl, rfl⟩
  gi_wp2
  have hI0 : ScanI w s [] ((((w.alloc (.cells #[.slice none 0 0] 34)).alloc (.cells #[.int .i64 0, .int .i64 0] 28)).alloc (.cells #[.string s] 9)).alloc (.cells #[.pointer (some ⟨w.heap.size + 1, 0, none⟩)] 46)) := by
    have hb : Below w.heap.size w ((((w.alloc (.cells #[.slice none 0 0] 34)).alloc (.cells #[.int .i64 0, .int .i64 0] 28)).alloc (.cells #[.string s] 9)).alloc (.cells #[.pointer (some ⟨w.heap.size + 1, 0, none⟩)] 46)) :=
      ((((Below.refl _ w).alloc (Nat.le_refl _) _).alloc (by simp) _).alloc (by simp; omega) _).alloc (by simp; omega) _
    have z0 := heap_new w (.cells #[.slice none 0 0] 34)
    have z1 := heap_new (w.alloc (.cells #[.slice none 0 0] 34)) (.cells #[.int .i64 0, .int .i64 0] 28)
    have z2 := heap_new ((w.alloc (.cells #[.slice none 0 0] 34)).alloc (.cells #[.int .i64 0, .int .i64 0] 28)) (.cells #[.string s] 9)
    have z3 := heap_new (((w.alloc (.cells #[.slice none 0 0] 34)).alloc (.cells #[.int .i64 0, .int .i64 0] 28)).alloc (.cells #[.string s] 9)) (.cells #[.pointer (some ⟨w.heap.size + 1, 0, none⟩)] 46)
    simp only [World.size_alloc] at z1 z2 z3
    exact ⟨⟨_, heap_old (heap_old (heap_old z0 _) _) _, World.ownsRow_nil _ _ _ _⟩, heap_old (heap_old z1 _) _, heap_old z2 _, z3, (TabsB.new hT).keep hb, hb⟩
  have hsz : ((((w.alloc (.cells #[.slice none 0 0] 34)).alloc (.cells #[.int .i64 0, .int .i64 0] 28)).alloc (.cells #[.string s] 9)).alloc (.cells #[.pointer (some ⟨w.heap.size + 1, 0, none⟩)] 46)).heap.size = w.heap.size + 4 := by simp
  generalize hWX : ((((w.alloc (.cells #[.slice none 0 0] 34)).alloc (.cells #[.int .i64 0, .int .i64 0] 28)).alloc (.cells #[.string s] 9)).alloc (.cells #[.pointer (some ⟨w.heap.size + 1, 0, none⟩)] 46)) = W0 at *
  clear hWX
  refine rf_law (α := NT) (encs := encT) rfl (by omega) (gf := 28) (lb := #[.pointer (some ⟨w.heap.size + 2, 0, none⟩), .pointer (some ⟨w.heap.size + 3, 0, none⟩)]) rfl trivial (enters_of Tryd.func28 (by kernel_rfl) rfl) (fun _ => rfl)
    (ScanI w s) (fun _ _ _ => False) (ScanE w s) (fun _ => True) 8193 (ScanA w s) (by rw [hsz]; exact ScanI.firm w s) (fun W o h => h.keep ((Below.refl _ _).alloc (Nat.le_refl _) _)) (fun _ _ _ _ _ _ _ _ _ h => h) (by rw [hsz]; exact ScanE.firm w s) (by rw [hsz]; exact ScanA.firm w s) hI0 ?assign ?body ?iter ?done ?stop
  case assign =>
    rintro l pre ⟨x1, x2, x3, x4, x5⟩ W K hI hlen hK
    dsimp only [encT]
    gi_wp2
    have hn := heap_lt hI.2.2.2.1
    exact hK _ _ ⟨W.heap.size, rfl, hI.keep ((Below.refl _ _).alloc (Nat.le_refl _) _), heap_new _ _, by omega⟩ (keeps_chg (chg_alloc (fun _ => False) _ _) (fun _ h => h.elim))
  case body =>
    rintro l pre ⟨x1, x2, x3, x4, x5⟩ a1 W ⟨q, rfl, hI, hq, hqn⟩ hlen
    dsimp only at hq
    obtain ⟨⟨ov, h1, h2⟩, h3, h4, h5, h6, h7⟩ := id hI
    have c1 := (cells_at h1 0 _ rfl).1
    have c1f := (cells_at h1 0 _ rfl).2
    have q0 := (cells_at hq 0 _ rfl).1
    have q1 := (cells_at hq 1 _ rfl).1
    have q2 := (cells_at hq 2 _ rfl).1
    have q3 := (cells_at hq 3 _ rfl).1
    have HI := Lib.hid hI
    have H1 := Lib.hid h1
    clear h1 h3 h4 h5 h6 hI hq
    simp only [tmpsS]
    gi_wp2_with (gi_at_builtin; refine stop_here ?_)
    refine Lib.hid ?_
    have hn3 := heap_lt HI.out.2.2.2.1
    have hnew : ∀ j u, [Value.int .i8 x2, .int .i64 x3, .string x4, .int .i64 x5][j]? = some u → (W.alloc (.cells #[.int .i8 x2, .int .i64 x3, .string x4, .int .i64 x5] 25)).cell? ((⟨W.heap.size, 0, none⟩ : Addr).add j) = some u := by
      intro j u hj
      have hz := heap_new W (.cells #[.int .i8 x2, .int .i64 x3, .string x4, .int .i64 x5] 25)
      have ha : (⟨W.heap.size, 0, none⟩ : Addr).add j = ⟨W.heap.size, j, none⟩ := by unfold Addr.add; split <;> simp_all
      rw [ha]
      exact (cells_at hz j u (by simpa using hj)).1
    refine wpListIn_append_own _ rfl (.tmp 10) (.tmp 12) 34 rfl (w.heap.size + 4) 25 i0 (.agg #[.int .i8 0, .int .i64 0, .string ⟨#[]⟩, .int .i64 0]) 4 40 Tryd.underlying34 hi hz0 hz1 hz2 rfl (by decide) ov pre.length (pre.flatMap fun x => tkC x.2) rfl (h2.alloc _) ⟨W.heap.size, 0, none⟩ 1 1 [.int .i8 x2, .int .i64 x3, .string x4, .int .i64 x5] rfl rfl hnew (by simp [Value.oneCell']) (by unfold maxLen; omega) (by omega) (by simp; omega) ?_
    intro v' W3 hown3 hg3 _
    obtain ⟨ao3, cc3, rfl⟩ := own_slice hown3
    have hc3 := chg_grown hg3
    have hob := own_base h2
    have hca : Chg (fun k => w.heap.size + 4 ≤ k) W W3 := (chg_alloc _ W (.cells #[.int .i8 x2, .int .i64 x3, .string x4, .int .i64 x5] 25)).trans (hc3.mono (fun k _ hk => hob k hk.symm))
    have k1 := hca.heap H1.out (by omega)
    obtain ⟨f1, f2⟩ := cells_at k1 0 _ rfl
    have hk1 := heap_lt k1
    have HF : Hid (KeepsFrom (w.heap.size + 4) W (W3.setCell ⟨w.heap.size, 0, none⟩ (.slice ao3 (pre.length + 1) cc3)) ∧ ScanI w s (pre ++ [(x1, x2, x3, x4, x5)]) (W3.setCell ⟨w.heap.size, 0, none⟩ (.slice ao3 (pre.length + 1) cc3))) := Lib.hid (by
      have hset := chg_set (w := W3) (p := ⟨w.heap.size, 0, none⟩) (.slice ao3 (pre.length + 1) cc3)
      obtain ⟨⟨ov', g1, g2⟩, g3, g4, g5, g6, g7⟩ := HI.out
      refine ⟨?_, ⟨⟨_, set_at (i := 0) k1 _, ?_⟩, hset.heap (hca.heap g3 (by omega)) (by simp), hset.heap (hca.heap g4 (by omega)) (by simp), hset.heap (hca.heap g5 (by omega)) (by simp), (g6.chg hca (fun k hk e => by omega)).chg hset (fun k hk e => by simp at e; omega), (g7.trans (hca.below g7.size (fun k e => by omega))).setCell (p := ⟨w.heap.size, 0, none⟩) (Nat.le_refl _) _⟩⟩
      · have h0 : KeepsFrom (w.heap.size + 4) W (W.alloc (.cells #[.int .i8 x2, .int .i64 x3, .string x4, .int .i64 x5] 25)) := keeps_chg (chg_alloc (fun _ => False) W _) (fun _ h => h.elim)
        have h1' : KeepsFrom (w.heap.size + 4) (W.alloc (.cells #[.int .i8 x2, .int .i64 x3, .string x4, .int .i64 x5] 25)) W3 := ⟨hc3.size, fun k o _ ho hc => hc3.heap ho (fun e => by
          obtain ⟨cur, hcur⟩ := own_type (h2.alloc _) k e.symm
          rw [ho] at hcur
          cases hcur
          cases hc)⟩
        have h2' : KeepsFrom (w.heap.size + 4) W3 (W3.setCell ⟨w.heap.size, 0, none⟩ (.slice ao3 (pre.length + 1) cc3)) := keeps_chg hset (fun k h => by simp at h; omega)
        exact (h0.trans h1').trans h2'
      · have := own_chg hown3 hset (fun k hk e => by have := own_base hown3 k hk; simp at e; omega)
        simpa [tkC] using this)
    clear hown3 hg3 hc3 hob hca k1 h2 h7 c1 c1f q0 q1 q2 q3 hnew
    gi_wp2
    show KeepsFrom W0.heap.size _ _ ∧ _
    rw [hsz]
    exact HF.out
  case iter => exact fun l J Jx T h1 h2 h3 h4 W _ h0 => all1_in l w s hs J Jx T h1 (by rw [hsz] at h2; exact h2) (by rw [hsz] at h3; exact h3) h4 W h0
  case done =>
    rintro D xs W hD ⟨⟨ov, h1, h2⟩, h3, h7⟩ hK
    obtain ⟨c1, c2⟩ := cells_at h1 0 _ rfl
    obtain ⟨c3, c4⟩ := cells_at h3 0 _ rfl
    obtain ⟨c5, c6⟩ := cells_at h3 1 _ rfl
    have hn : w.heap.size + 4 ≤ D := by omega
    by_cases he : (scanR s).2.1 = 0
    · have hq : ((scanR s).2.1 != 0) = false := by rw [he]; rfl
      have hown := h2 he
      obtain ⟨ao, cc, rfl⟩ := own_slice hown
      have HE := Lib.hid he
      have H1 := Lib.hid h1
      have H3 := Lib.hid h3
      clear he h2 h1 h3
      gi_wp2
      gi_region
      gi_wp2
      have hs1 := chg_set (w := W) (p := ⟨w.heap.size, 0, none⟩) (.slice ao (scanR s).1.length cc)
      have hs2 := chg_set (w := W.setCell ⟨w.heap.size, 0, none⟩ (.slice ao (scanR s).1.length cc)) (p := ⟨w.heap.size + 1, 0, none⟩) (.int .i64 (scanR s).2.1)
      have hs3 := chg_set (w := (W.setCell ⟨w.heap.size, 0, none⟩ (.slice ao (scanR s).1.length cc)).setCell ⟨w.heap.size + 1, 0, none⟩ (.int .i64 (scanR s).2.1)) (p := ⟨w.heap.size + 1, 1, none⟩) (.int .i64 ((scanR s).2.2 : Int))
      have k1 := hs3.heap (hs2.heap (set_at (i := 0) H1.out (.slice ao (scanR s).1.length cc)) (by simp)) (by simp)
      have k3 := set_at (i := 1) (set_at (i := 0) (hs1.heap H3.out (by simp)) (.int .i64 (scanR s).2.1)) (.int .i64 ((scanR s).2.2 : Int))
      have kD := hs3.heap (hs2.heap (hs1.heap hK (by simp; omega)) (by simp; omega)) (by simp; omega)
      generalize hWW : (((W.setCell ⟨w.heap.size, 0, none⟩ (.slice ao (scanR s).1.length cc)).setCell ⟨w.heap.size + 1, 0, none⟩ (.int .i64 (scanR s).2.1)).setCell ⟨w.heap.size + 1, 1, none⟩ (.int .i64 ((scanR s).2.2 : Int))) = W5 at *
      have hc5 : Chg (fun k => k = w.heap.size ∨ k = w.heap.size + 1 ∨ k = D) W W5 :=
        ((hs1.mono (fun k _ h => .inl h)).trans (hs2.mono (fun k _ h => .inr (.inl h)))).trans (hs3.mono (fun k _ h => .inr (.inl h)))
      have hcc : Chg (fun k => k = w.heap.size ∨ k = w.heap.size + 1 ∨ k = D) W (W5.drew.putObj D (.deferred none)) := (hc5.trans (chg_of_below (Below.refl _ W5).drew _)).trans ((chg_put _ _ _).mono (fun k _ h => .inr (.inr h)))
      have hbel : Below w.heap.size w (W5.drew.putObj D (.deferred none)) := h7.trans (hcc.below h7.size (fun k h => by omega))
      have hK' : W5.drew.heap[D]? = some (.deferred (some [])) := kD
      refine ⟨by simp, .inl ⟨_, _, rfl, run_takeDeferred hK', ?_⟩⟩
      have m1 := (chg_put W5.drew D (.deferred none)).heap k1 (by omega)
      have m3 := (chg_put W5.drew D (.deferred none)).heap k3 (by omega)
      have f1 := (cells_at m1 0 _ rfl).1
      have f2 := (cells_at m3 0 _ rfl).1
      have f3 := (cells_at m3 1 _ rfl).1
      refine ⟨.tuple #[.slice ao (scanR s).1.length cc, .agg #[.int .i64 (scanR s).2.1, .int .i64 (scanR s).2.2]], (by simp [results, Tryd.f11, go_sem, f1, f2, f3]), ?_⟩
      refine ⟨_, rfl, hbel, fun _ => own_lower (own_chg hown hcc (fun k hk e => ?_)) (by omega), fun h => absurd HE.out h⟩
      have := own_base hown k hk
      obtain ⟨cur, hcur⟩ := own_type hown k hk
      rcases e with e | e | e
      · omega
      · omega
      · subst e
        rw [hK] at hcur
        cases hcur
    · have hq : ((scanR s).2.1 != 0) = true := by rw [bne_iff_ne]; exact he
      have HE := Lib.hid he
      have H1 := Lib.hid h1
      have H3 := Lib.hid h3
      clear he h2 h1 h3
      gi_wp2
      gi_region
      gi_wp2
      have hs1 := chg_set (w := W) (p := ⟨w.heap.size, 0, none⟩) (.slice none 0 0)
      have hs2 := chg_set (w := W.setCell ⟨w.heap.size, 0, none⟩ (.slice none 0 0)) (p := ⟨w.heap.size + 1, 0, none⟩) (.int .i64 (scanR s).2.1)
      have hs3 := chg_set (w := (W.setCell ⟨w.heap.size, 0, none⟩ (.slice none 0 0)).setCell ⟨w.heap.size + 1, 0, none⟩ (.int .i64 (scanR s).2.1)) (p := ⟨w.heap.size + 1, 1, none⟩) (.int .i64 ((scanR s).2.2 : Int))
      have k1 := hs3.heap (hs2.heap (set_at (i := 0) H1.out (.slice none 0 0)) (by simp)) (by simp)
      have k3 := set_at (i := 1) (set_at (i := 0) (hs1.heap H3.out (by simp)) (.int .i64 (scanR s).2.1)) (.int .i64 ((scanR s).2.2 : Int))
      have kD := hs3.heap (hs2.heap (hs1.heap hK (by simp; omega)) (by simp; omega)) (by simp; omega)
      generalize hWW : (((W.setCell ⟨w.heap.size, 0, none⟩ (.slice none 0 0)).setCell ⟨w.heap.size + 1, 0, none⟩ (.int .i64 (scanR s).2.1)).setCell ⟨w.heap.size + 1, 1, none⟩ (.int .i64 ((scanR s).2.2 : Int))) = W5 at *
      have hc5 : Chg (fun k => k = w.heap.size ∨ k = w.heap.size + 1 ∨ k = D) W W5 :=
        ((hs1.mono (fun k _ h => .inl h)).trans (hs2.mono (fun k _ h => .inr (.inl h)))).trans (hs3.mono (fun k _ h => .inr (.inl h)))
      have hcc : Chg (fun k => k = w.heap.size ∨ k = w.heap.size + 1 ∨ k = D) W (W5.drew.putObj D (.deferred none)) := (hc5.trans (chg_of_below (Below.refl _ W5).drew _)).trans ((chg_put _ _ _).mono (fun k _ h => .inr (.inr h)))
      have hbel : Below w.heap.size w (W5.drew.putObj D (.deferred none)) := h7.trans (hcc.below h7.size (fun k h => by omega))
      have hK' : W5.drew.heap[D]? = some (.deferred (some [])) := kD
      refine ⟨by simp, .inl ⟨_, _, rfl, run_takeDeferred hK', ?_⟩⟩
      have m1 := (chg_put W5.drew D (.deferred none)).heap k1 (by omega)
      have m3 := (chg_put W5.drew D (.deferred none)).heap k3 (by omega)
      have f1 := (cells_at m1 0 _ rfl).1
      have f2 := (cells_at m3 0 _ rfl).1
      have f3 := (cells_at m3 1 _ rfl).1
      refine ⟨.tuple #[.slice none 0 0, .agg #[.int .i64 (scanR s).2.1, .int .i64 (scanR s).2.2]], (by simp [results, Tryd.f11, go_sem, f1, f2, f3]), ?_⟩
      exact ⟨_, rfl, hbel, fun h => absurd h HE.out, fun _ => rfl⟩
  case stop => exact fun D c pre W _ _ h _ => h.elim
end Go.Proofs.YtnhhihmifbjkkaaDoor
