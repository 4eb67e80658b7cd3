/- term.Size. Conditions: the term reads. -/
import Derived.Test.YthpmdeofdlcccaaGreatDoorTf
import Derived.Test.YthpmdeofdlcccaaGreatDoorYn
namespace Go.Proofs.YthpmdeofdlcccaaGreatDoor
open Go.ChangeShapes Go.WideShapes Go.ChangeAt Go.RowKit
set_option linter.unusedVariables false
mutual
def szT : Tm → Int → Int
  | .mk k n s u l, c => szL l (c + 1)
def szL : List Tm → Int → Int
  | [], c => c
  | t :: l, c => if 256 < c then c else szL l (szT t c)
end
mutual
theorem szT_le : ∀ (t : Tm) (c : Int), 0 ≤ c → c ≤ 256 → c ≤ szT t c ∧ szT t c ≤ 257
  | .mk k n s u l, c, h0, h => by
    rw [szT]
    have := szL_le l (c + 1) (by omega) (by omega)
    omega
theorem szL_le : ∀ (l : List Tm) (c : Int), 0 ≤ c → c ≤ 257 → c ≤ szL l c ∧ szL l c ≤ 257
  | [], c, h0, h => by rw [szL]; omega
  | t :: l, c, h0, h => by
    rw [szL]
    split
    · omega
    · have h1 := szT_le t c h0 (by omega)
      have h2 := szL_le l (szT t c) (by omega) h1.2
      omega
end
mutual
theorem szT_eq : ∀ (t : Tm) (c : Int), 0 ≤ c → c + nT t ≤ 256 → szT t c = c + nT t
  | .mk k n s u l, c, h0, h => by
    rw [szT]
    rw [nT] at h ⊢
    rw [szL_eq l (c + 1) (by omega) (by omega)]
    omega
theorem szL_eq : ∀ (l : List Tm) (c : Int), 0 ≤ c → c + nL l ≤ 256 → szL l c = c + nL l
  | [], c, h0, h => by rw [szL, nL]; omega
  | t :: l, c, h0, h => by
    rw [nL] at h ⊢
    rw [szL, if_neg (by omega), szT_eq t c h0 (by omega), szL_eq l _ (by omega) (by omega)]
    omega
end
def Szs (w : World) (pn pw : Nat) (c : Int) : Prop :=
  w.heap[pn]? = some (.cells #[.int .i64 c] 3 (0, 0)) ∧ w.heap[pw]? = some (.cells #[.func (.func 97) #[] #[.pointer (some ⟨pn, 0, none⟩), .pointer (some ⟨pw, 0, none⟩)]] 113 (0, 0))
theorem Szs.small {w : World} {pn pw : Nat} {c : Int} (h : Szs w pn pw c) : Small w (fun k => k = pn) := by
  rintro k rfl
  exact ⟨_, _, _, h.1, by simp⟩
theorem Szs.ne {w : World} {pn pw : Nat} {c : Int} (h : Szs w pn pw c) : pw ≠ pn := by
  obtain ⟨h1, h2⟩ := h
  rintro rfl
  rw [h1] at h2; injection h2 with h2; injection h2 with _ h2; cases h2
theorem Szs.setN {w : World} {pn pw : Nat} {c : Int} (h : Szs w pn pw c) (c' : Int) : Szs (w.setCell ⟨pn, 0, none⟩ (.int .i64 c')) pn pw c' := by
  have hg := chg_set (w := w) (p := ⟨pn, 0, none⟩) (.int .i64 c')
  exact ⟨set_at h.1 _, hg.heap h.2 h.ne⟩
theorem Szs.keep {w w' : World} {pn pw : Nat} {c : Int} (h : Szs w pn pw c) (hb : Below w.heap.size w w') : Szs w' pn pw c := ⟨keep_heap h.1 hb, keep_heap h.2 hb⟩
theorem Szs.cells {w : World} {pn pw : Nat} {c : Int} (h : Szs w pn pw c) :
    (w.cell? ⟨pn, 0, none⟩ = some (.int .i64 c) ∧ w.frozen? ⟨pn, 0, none⟩ = false ∧ pn < w.heap.size) ∧
    w.cell? ⟨pw, 0, none⟩ = some (.func (.func 97) #[] #[.pointer (some ⟨pn, 0, none⟩), .pointer (some ⟨pw, 0, none⟩)]) :=
  ⟨⟨(cells_at h.1 0 _ rfl).1, (cells_at h.1 0 _ rfl).2, heap_lt h.1⟩, (cells_at h.2 0 _ rfl).1⟩
def SzPost (w : World) (pn pw : Nat) (c : Int) (e : Ending) (w' : World) : Prop := (∃ v, e = .returned v) ∧ Szs w' pn pw c ∧ Chg (fun k => k = pn) w w'
def SzS (pn pw b o : Nat) (lv : Value) (w : World) : Prop :=
  w.cell? ⟨pw, 0, none⟩ = some (.func (.func 97) #[] #[.pointer (some ⟨pn, 0, none⟩), .pointer (some ⟨pw, 0, none⟩)]) ∧ w.cell? ⟨b, o + 4, none⟩ = some lv
set_option maxHeartbeats 4000000 in
theorem walkz_any : ∀ (f : Nat) (t : Tm) (b o : Nat) (w : World) (c : Int) (pn pw : Nat), At f w b o t → Szs w pn pw c → 0 ≤ c → c ≤ 256 →
    Calls Tryz.prog 97 #[.pointer (some ⟨b, o, none⟩), .pointer (some ⟨pn, 0, none⟩), .pointer (some ⟨pw, 0, none⟩)] w (SzPost w pn pw (szT t c)) := by
  intro f
  induction f with
  | zero => intro t b o w c pn pw h; exact h.elim
  | succ f ih =>
    intro t b o w c pn pw ht hs hc0 hc1
    obtain ⟨k, n, s, u, l⟩ := t
    obtain ⟨hf, lv, hnode, hrow⟩ := ht.open
    have hrow0 := hrow
    obtain ⟨ao, cap, rfl, hl, hcap, _⟩ := hrow
    have IH := Lib.hid ih
    have hcN : Chg (fun k => k = pn) w (w.setCell ⟨pn, 0, none⟩ (.int .i64 (c + 1))) := chg_set (p := ⟨pn, 0, none⟩) _
    obtain ⟨⟨x1, x2, x3⟩, x7⟩ := hs.cells
    have hnX : ∀ W, Chg (fun k => k = pn) w W → W.cell? ⟨b, o + 4, none⟩ = some (.slice ao l.length cap) := fun W hc => hc.cell hnode.2.2.2.2 (hnode.apart hs.small)
    have hx := hnX _ hcN
    have HNX := Lib.hid hnX
    have HS0 := Lib.hid hs
    have HST := Lib.hid (And.intro (hs.setN (c + 1)) (And.intro hcN (show Hid (szL (l.drop 0) (c + 1) = szT (.mk k n s u l) c) from Lib.hid (by rw [List.drop_zero, szT]))))
    have HROW := Lib.hid hrow0
    have hl63 : l.length ≤ 9223372036854775807 := by omega
    clear ih hs hcN hnode hrow0 ht hf x7 hnX
    go_enter Tryz.func97, Tryz.ntmps97
    go_wp2_with fail
    clear x1 x2 x3
    go_loopw [12] (fun iv wr => ∃ (i : Nat) (c' : Int), i ≤ l.length ∧ iv = .int .i64 i ∧ Szs wr pn pw c' ∧ Chg (fun k => k = pn) w wr ∧ 0 ≤ c' ∧ c' ≤ 257 ∧ Hid (szL (l.drop i) c' = szT (.mk k n s u l) c))
      (fun iv _ => l.length - (intOf iv).toNat)
    case atStart => exact ⟨0, c + 1, by omega, rfl, HST.out.1, HST.out.2.1, by omega, by omega, HST.out.2.2⟩
    case round =>
      clear HST hx
      obtain ⟨i, c', hi, rfl, hs1, hcg, hc2, hc3, HF⟩ := hrel
      have hx := HNX.out _ hcg
      obtain ⟨⟨q1, q2, q3⟩, q7⟩ := hs1.cells
      have HS1 := Lib.hid hs1
      have HCG := Lib.hid hcg
      clear hs1 hcg
      by_cases hlt : i < l.length
      · obtain ⟨t, ht⟩ : ∃ t, l[i]? = some t := ⟨l[i], by simp [hlt]⟩
        obtain ⟨b', off, e, hat⟩ := HROW.out.at ht
        subst e
        have hat1 := hat.chg HCG.out HS0.out.small
        have HD := Lib.hid (drop_cons ht)
        clear hat ht
        by_cases hbig : 256 < c'
        · have hd1 : decide (256 < c') = true := by simpa using hbig
          have hfin : c' = szT (.mk k n s u l) c := by
            have := HF.out
            rw [HD.out, szL, if_pos hbig] at this
            exact this
          have HFIN := Lib.hid hfin
          clear hfin hbig
          go_wp2_with fail
          refine bodyPost_ret (results_none rfl _ _ _) rfl ⟨⟨_, rfl⟩, ?_, HCG.out⟩
          rw [← HFIN.out]
          exact HS1.out
        · have hd1 : decide (256 < c') = false := by simpa using hbig
          have hfin : szL (l.drop (i + 1)) (szT t c') = szT (.mk k n s u l) c := by
            have := HF.out
            rw [HD.out, szL, if_neg hbig] at this
            exact this
          have hle := szT_le t c' hc2 (by omega)
          have HFIN := Lib.hid hfin
          have hdr : Below wr.heap.size wr wr.drew := (Below.refl _ _).drew
          have hcgd := HCG.out.trans (chg_of_below hdr _)
          have HCD := Lib.hid hcgd
          have hcall := IH.out t b' (off + i * 5) wr.drew c' pn pw (hat1.keep hdr) (HS1.out.keep hdr) hc2 (by omega)
          have HCALL := Lib.hid hcall
          have hS : SzS pn pw b o (.slice (some ⟨b', off, none⟩) l.length cap) wr := ⟨q7, hx⟩
          clear hfin hcall hat1 hcgd hdr
          go_wp2_with fail
          have hD : SzS pn pw b o (.slice (some ⟨b', off, none⟩) l.length cap) wr.drew := hS
          refine region_plan (SzS pn pw b o (.slice (some ⟨b', off, none⟩) l.length cap)) [(0, 0), (1, 0), (2, 0), (3, 0), (4, 0), (5, 0), (6, 0), (7, 1)] (by kernel_rfl) (by kernel_rfl) (by kernel_rfl) hD ?_
          iterate 7 (first | (refine plan_skip rfl ?_ ?_; (focus (rfl)); (try simp only [Act.put, List.setIfInBounds_toArray, List.set_cons_zero, List.set_cons_succ])) | (refine plan_take (v := ?_) rfl ?_ (fun w hSw => ?_) ?_; rotate_left; (focus (rfl)); (focus (unfold SzS at hSw; (go_simp <;> with_reducible rfl))); (try simp only [Act.put, List.setIfInBounds_toArray, List.set_cons_zero, List.set_cons_succ])))
          refine plan_run rfl ?_ (fun K hK => ?_)
          focus (rfl)
          go_simp
          refine (HCALL.out).mono ?_
          rintro e W1 ⟨⟨v, rfl⟩, hs2, hcg2⟩
          have hcg3 := HCD.out.trans hcg2
          have hS1 : SzS pn pw b o (.slice (some ⟨b', off, none⟩) l.length cap) W1 := ⟨hs2.cells.2, HNX.out _ hcg3⟩
          refine hK.out _ _ hS1 ?_
          clear hK K 
          (try simp only [Act.put, List.setIfInBounds_toArray, List.set_cons_zero, List.set_cons_succ])
          refine plan_done ?_
          go_wp2_with fail
          go_roundw
          case rel => exact ⟨i + 1, _, by omega, by go_num, hs2, hcg3, by omega, hle.2, HFIN.out⟩
          case measure => simp [intOf]; omega
      · have hil : i = l.length := by omega
        have hfin : c' = szT (.mk k n s u l) c := by
          have := HF.out
          rw [hil, List.drop_length, szL] at this
          exact this
        have HFIN := Lib.hid hfin
        clear hfin hil
        go_wp2_with fail
        go_end0
        refine ⟨⟨_, rfl⟩, ?_, HCG.out⟩
        rw [← HFIN.out]
        exact HS1.out
theorem szs_new (w : World) (n : Nat) (hn : w.heap.size = n) (o1 o3 : Obj) (h1 : o1 = .cells #[.int .i64 0] 3)
    (h3 : o3 = .cells #[.func (.func 97) #[] #[.pointer (some ⟨n, 0, none⟩), .pointer (some ⟨n + 1, 0, none⟩)]] 113) :
    Szs ((w.alloc o1).alloc o3) n (n + 1) 0 ∧ Below w.heap.size w ((w.alloc o1).alloc o3) := by
  subst h1 h3 hn
  refine ⟨⟨heap_old (heap_new _ _) _, ?_⟩, ((Below.refl _ _).alloc (Nat.le_refl _) _).alloc (by simp) _⟩
  have := heap_new (w.alloc (.cells #[.int .i64 0] 3)) (.cells #[.func (.func 97) #[] #[.pointer (some ⟨w.heap.size, 0, none⟩), .pointer (some ⟨w.heap.size + 1, 0, none⟩)]] 113)
  rw [World.size_alloc] at this
  exact this
set_option maxHeartbeats 1000000 in
theorem psize_any (f : Nat) (t : Tm) (v : Value) (w : World) (h : TermV f w v t) : Calls Tryz.prog 86 #[v] w (IntPost w (szT t 0)) := by
  obtain ⟨lv, rfl, hat⟩ := h.boxed
  clear h
  go_enter Tryz.func86, Tryz.ntmps86
  go_wp2_with fail
  have hb0 := (Below.refl w.heap.size w).alloc (Nat.le_refl _) (.cells #[.int .i8 t.k, .int .i64 t.n, .string t.s, .string t.u, lv] 25)
  obtain ⟨hs, hb1⟩ := szs_new (w.alloc (.cells #[.int .i8 t.k, .int .i64 t.n, .string t.s, .string t.u, lv] 25)) (w.heap.size + 1) (by simp) _ _ rfl rfl
  have hB := hb0.trans (hb1.mono (by simp))
  refine (walkz_any (f + 1) t w.heap.size 0 _ 0 _ _ (hat.keep hb1) hs (by omega) (by omega)).mono ?_
  rintro e w2 ⟨⟨v, rfl⟩, hs2, hc2⟩
  have hB2 : Below w.heap.size w w2 := hB.trans (hc2.below (by have := hB.size; omega) (by rintro k rfl; omega))
  obtain ⟨⟨x1, _, _⟩, _⟩ := hs2.cells
  clear hs hb0 hb1 hB hat hs2 hc2
  generalize szT t 0 = p at *
  go_wp2_with fail
  go_ret
  exact ⟨rfl, hB2⟩
end Go.Proofs.YthpmdeofdlcccaaGreatDoor
