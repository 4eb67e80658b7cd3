/- the law's wakes. Conditions: the letters stand. -/
/- the reference's tagged and IsCall. Conditions: what is handed over reads; the letters stand. -/
import Derived.Test.YthpmdeofdlcccaaGreatDoorMs9
import Derived.Test.YthpmdeofdlcccaaGreatDoorMs3
import Derived.Test.YthpmdeofdlcccaaGreatDoorTj
namespace Go.Proofs.YthpmdeofdlcccaaGreatDoor
open Go.ChangeShapes Go.WideShapes Go.ChangeAt Go.RowKit
set_option linter.unusedVariables false
set_option linter.unusedSimpArgs false
set_option maxRecDepth 100000
theorem ratom_any (w : World) (s : ByteArray) : Calls Tryz.prog 25 #[.string s] w fun e w' => e = .returned (.agg #[.int .i8 1, .int .i64 0, .string s, .string ⟨#[]⟩, .slice none 0 0]) ∧ Below w.heap.size w w' := by
  have hb1 := (Below.refl w.heap.size w).alloc (Nat.le_refl _) (.cells #[.int .i8 1, .int .i64 0, .string s, .string ⟨#[]⟩, .slice none 0 0] 25)
  have hx1 := heap_new w (.cells #[.int .i8 1, .int .i64 0, .string s, .string ⟨#[]⟩, .slice none 0 0] 25)
  have HB := Lib.hid (And.intro hb1 hx1)
  clear hb1 hx1
  go_enter Tryz.func25, Tryz.ntmps25
  go_wp2_with fail
  exact ret_cell HB.out.2 rfl Tryz.underlying25 rfl (infoTM' _ rfl) rfl ⟨rfl, HB.out.1⟩
theorem rint_any (w : World) (n : Int) : Calls Tryz.prog 44 #[.int .i64 n] w fun e w' => e = .returned (.agg #[.int .i8 0, .int .i64 n, .string ⟨#[]⟩, .string ⟨#[]⟩, .slice none 0 0]) ∧ Below w.heap.size w w' := by
  have hb1 := (Below.refl w.heap.size w).alloc (Nat.le_refl _) (.cells #[.int .i8 0, .int .i64 n, .string ⟨#[]⟩, .string ⟨#[]⟩, .slice none 0 0] 25)
  have hx1 := heap_new w (.cells #[.int .i8 0, .int .i64 n, .string ⟨#[]⟩, .string ⟨#[]⟩, .slice none 0 0] 25)
  have HB := Lib.hid (And.intro hb1 hx1)
  clear hb1 hx1
  go_enter Tryz.func44, Tryz.ntmps44
  go_wp2_with fail
  exact ret_cell HB.out.2 rfl Tryz.underlying25 rfl (infoTM' _ rfl) rfl ⟨rfl, HB.out.1⟩
def ch0 (g : Nat) : Ch := ⟨numT 0 0, 0, 0, 0, ⟨#[109]⟩, ⟨#[]⟩, some ⟨g, 0, none⟩, 1, 1, none, 0, 0⟩
set_option maxHeartbeats 4000000 in
theorem child_any (w : World) : Calls Tryz.prog 23 #[] w fun e w' => ∃ g, e = .returned (.agg #[.int .i8 0, .int .i64 0, .string ⟨#[]⟩, .string ⟨#[]⟩, .slice none 0 0, .int .i8 0, .int .i8 0, .int .i64 0, .string ⟨#[109]⟩, .string ⟨#[]⟩, .slice (some ⟨g, 0, none⟩) 1 1, .slice none 0 0]) ∧ w.heap.size ≤ g ∧ w'.heap[g]? = some (.cells #[.int .i8 0, .int .i64 1, .string ⟨#[]⟩, .string ⟨#[]⟩, .slice none 0 0] 25 (0, 0)) ∧ Below w.heap.size w w' := by
  have hz := heap_new w (.cells #[.int .i8 0, .int .i64 0, .string ⟨#[]⟩, .string ⟨#[]⟩, .slice none 0 0, .int .i8 0, .int .i8 0, .int .i64 0, .string ⟨#[]⟩, .string ⟨#[]⟩, .slice none 0 0, .slice none 0 0] 28)
  have hb0 := (Below.refl w.heap.size w).alloc (Nat.le_refl _) (.cells #[.int .i8 0, .int .i64 0, .string ⟨#[]⟩, .string ⟨#[]⟩, .slice none 0 0, .int .i8 0, .int .i8 0, .int .i64 0, .string ⟨#[]⟩, .string ⟨#[]⟩, .slice none 0 0, .slice none 0 0] 28)
  have HZ := Lib.hid (And.intro hz hb0)
  clear hz hb0
  go_enter Tryz.func23, Tryz.ntmps23
  go_wp2_with fail
  generalize w.alloc (.cells #[.int .i8 0, .int .i64 0, .string ⟨#[]⟩, .string ⟨#[]⟩, .slice none 0 0, .int .i8 0, .int .i8 0, .int .i64 0, .string ⟨#[]⟩, .string ⟨#[]⟩, .slice none 0 0, .slice none 0 0] 28) = w0 at *
  refine (rint_any _ _).mono ?_
  rintro e w1 ⟨rfl, hb1⟩
  have H1 := Lib.hid (And.intro (keep_heap HZ.out.1 hb1) (HZ.out.2.trans (hb1.mono HZ.out.2.size)))
  clear hb1 HZ
  go_wp2_with (with_reducible refine stop_op (o := ⟨_, .store 28 (.tmp 0) (.tmp 3), _, _, _, _⟩) ?_)
  refine Lib.hid ?_
  have hg := heap_new w1 (.cells #[.int .i8 0, .int .i64 1, .string ⟨#[]⟩, .string ⟨#[]⟩, .slice none 0 0] 25)
  have hb2 := (Below.refl w1.heap.size w1).alloc (Nat.le_refl _) (.cells #[.int .i8 0, .int .i64 1, .string ⟨#[]⟩, .string ⟨#[]⟩, .slice none 0 0] 25)
  have hq := keep_heap H1.out.1 hb2
  have hlt := heap_lt H1.out.1
  have hb3 := H1.out.2.trans (hb2.mono H1.out.2.size)
  generalize w1.alloc (.cells #[.int .i8 0, .int .i64 1, .string ⟨#[]⟩, .string ⟨#[]⟩, .slice none 0 0] 25) = w2 at *
  generalize w1.heap.size = g at *
  refine wpList_store_row (o := ⟨none, _, _, _, _, _⟩) rfl 28 (.tmp 0) (.tmp 3) rfl w.heap.size #[.int .i8 0, .int .i64 0, .string ⟨#[]⟩, .string ⟨#[]⟩, .slice none 0 0, .int .i8 0, .int .i8 0, .int .i64 0, .string ⟨#[109]⟩, .string ⟨#[]⟩, .slice (some ⟨g, 0, none⟩) 1 1, .slice none 0 0] rfl rfl 28 #[.int .i8 0, .int .i64 0, .string ⟨#[]⟩, .string ⟨#[]⟩, .slice none 0 0, .int .i8 0, .int .i8 0, .int .i64 0, .string ⟨#[]⟩, .string ⟨#[]⟩, .slice none 0 0, .slice none 0 0] hq (infoCH rfl) rfl (by simp [Value.oneCell']) ?_
  have hc := chg_setRow w2 w.heap.size #[.int .i8 0, .int .i64 0, .string ⟨#[]⟩, .string ⟨#[]⟩, .slice none 0 0, .int .i8 0, .int .i8 0, .int .i64 0, .string ⟨#[109]⟩, .string ⟨#[]⟩, .slice (some ⟨g, 0, none⟩) 1 1, .slice none 0 0]
  have HF := Lib.hid (And.intro (setRow_heap w2 w.heap.size _ #[.int .i8 0, .int .i64 0, .string ⟨#[]⟩, .string ⟨#[]⟩, .slice none 0 0, .int .i8 0, .int .i8 0, .int .i64 0, .string ⟨#[109]⟩, .string ⟨#[]⟩, .slice (some ⟨g, 0, none⟩) 1 1, .slice none 0 0] 28 (0, 0) hq) (And.intro (hb3.trans (hc.below hb3.size fun k hk => by have hk : k = w.heap.size := hk; omega)) (And.intro (hc.heap hg (show ¬ g = w.heap.size by omega)) hlt)))
  clear hc hg hb2 hq hlt hb3 H1
  generalize w2.setRow w.heap.size #[.int .i8 0, .int .i64 0, .string ⟨#[]⟩, .string ⟨#[]⟩, .slice none 0 0, .int .i8 0, .int .i8 0, .int .i64 0, .string ⟨#[109]⟩, .string ⟨#[]⟩, .slice (some ⟨g, 0, none⟩) 1 1, .slice none 0 0] = w3 at *
  go_wp2_with fail
  exact ret_cell HF.out.1 rfl Tryz.underlying28 rfl (infoCH rfl) rfl ⟨g, rfl, by have := HF.out.2.2.2; omega, HF.out.2.2.1, HF.out.2.1⟩

def in5 : Inn := ⟨0, 5, none, 0, 0, 0, false, numT 0 0⟩
def in6 (g : Nat) : Inn := ⟨0, 5, some ⟨g, 0, none⟩, 1, 1, 0, false, numT 0 0⟩
def castT (g : Nat) : TE := ⟨5, 0, ⟨#[]⟩, ⟨#[]⟩, some ⟨g, 0, none⟩, 2, [(atomT gcaS).t, (atomT ⟨#[97]⟩).t]⟩
def mc2 (rb : Nat) : Mc := ⟨2, 4, -2, numT 0 0, numT 0 0, atomT ⟨#[115]⟩, rb⟩
theorem may0 (g : Nat) : mayC (ch0 g) [numT 0 1] = true := by
  show (decide ((0 : Int) = 0) && (mayS ⟨#[109]⟩ && oneOk [numT 0 1])) = true
  kernel_rfl
theorem fine0 (g rb : Nat) : fineB (mc0 4 rb) (ch0 g) [numT 0 1] = true := by
  show (mayC (ch0 g) [numT 0 1] && allB [numT 0 0, numT 0 0, numT 0 0]) = true
  rw [may0]
  kernel_rfl
theorem fine2 (g rb : Nat) : fineB (mc2 rb) (ch0 g) [numT 0 1] = true := by
  show (mayC (ch0 g) [numT 0 1] && allB [atomT ⟨#[115]⟩, numT 0 0, numT 0 0]) = true
  rw [may0]
  kernel_rfl
theorem call0 (g : Nat) : callP (castT g).t = none := by
  show callP (.mk 5 0 ⟨#[]⟩ ⟨#[]⟩ [(atomT gcaS).t, (atomT ⟨#[97]⟩).t]) = none
  kernel_rfl
theorem is0 (g : Nat) : isB (castT g).t gcaS 2 = true := by
  show isB (.mk 5 0 ⟨#[]⟩ ⟨#[]⟩ [(atomT gcaS).t, (atomT ⟨#[97]⟩).t]) gcaS 2 = true
  decide
/-- the first unit -/
theorem step0 {M : Nat → Prop} {w' : World} {B g rb : Nat} {m' : Mc} {E1 : List Ef} (h : StR M B w' (mc0 4 rb) (ch0 g) [numT 0 1] in5 [] m' E1) : m' = { mc0 4 rb with ph := 1 } ∧ E1 = [callE (ch0 g) iniS (some ⟨g, 0, none⟩) 1 1] := by
  rcases h with ⟨h, -⟩ | ⟨-, h1, h2⟩ | ⟨h, -⟩ | ⟨h, -⟩ | ⟨h, -⟩ | ⟨h, -⟩ | ⟨h, -⟩
  · rcases h with h | ⟨h, -⟩
    · rw [fine0] at h
      cases h
    · have h : (0 : Int) = 1 ∨ (0 : Int) = 3 ∨ (0 : Int) = 4 := h
      omega
  · exact ⟨h1, h2⟩
  · exact absurd (show (0 : Int) = 1 from h) (by decide)
  · exact absurd (show (0 : Int) = 2 from h) (by decide)
  · exact absurd (show (0 : Int) = 3 ∨ (0 : Int) = 4 from h) (by decide)
  · exact absurd (show (0 : Int) = 5 from h) (by decide)
  · exact absurd (show (0 : Int) = 6 from h) (by decide)
/-- the second one -/
theorem step2 {M : Nat → Prop} {w' : World} {B g g2 gm rb : Nat} {m' : Mc} {E1 : List Ef} (h : StR M B w' (mc2 rb) (ch0 g) [numT 0 1] (in6 gm) [⟨castT g2, false⟩] m' E1) : m' = { mc2 rb with ph := 4 } ∧ ∃ b, E1 = [takeE, callE (ch0 g) hcsS (some ⟨b, 0, none⟩) 2 2] := by
  rcases h with ⟨h, -⟩ | ⟨h, -⟩ | ⟨h, -⟩ | ⟨-, h⟩ | ⟨h, -⟩ | ⟨h, -⟩ | ⟨h, -⟩
  · rcases h with h | ⟨h, -⟩
    · rw [fine2] at h
      cases h
    · have h : (2 : Int) = 1 ∨ (2 : Int) = 3 ∨ (2 : Int) = 4 := h
      omega
  · exact absurd (show (2 : Int) = 0 from h) (by decide)
  · exact absurd (show (2 : Int) = 1 from h) (by decide)
  · rcases h with ⟨h, -⟩ | ⟨h, -⟩ | ⟨it, r, h, hp, -⟩ | ⟨it, r, f, x, h, hp, -⟩ | ⟨it, r, nm, x, h, hn, h1, h2, b, L, h3, -, -, h4⟩
    · cases h
    · cases h
    · injection h with h h'
      subst h
      rw [parB, fsB] at hp
      simp at hp
    · injection h with h h'
      subst h
      rw [call0] at hp
      cases hp
    · injection h with h h'
      subst h
      have e := hn (is0 _)
      subst e
      refine ⟨h1, b, ?_⟩
      rw [h2, h3, List.length_append, h4]
      rfl
  · exact absurd (show (2 : Int) = 3 ∨ (2 : Int) = 4 from h) (by decide)
  · exact absurd (show (2 : Int) = 5 from h) (by decide)
  · exact absurd (show (2 : Int) = 6 from h) (by decide)

/-- what stands while wakes goes on -/
structure WkW (w W : World) (g q1 : Nat) (m : Mc) : Prop where
  hb : Below w.heap.size w W
  hq : w.heap.size ≤ q1
  hF : W.heap[q1]? = some (.cells (frL m).toArray 39 (0, 0))
  hm : McOk (fun k => k = q1) W m (ch0 g) [numT 0 1]
theorem WkW.keep {w W W' : World} {g q1 : Nat} {m : Mc} (h : WkW w W g q1 m) (hb : Below W.heap.size W W') : WkW w W' g q1 m := ⟨h.hb.trans (hb.mono h.hb.size), h.hq, keep_heap h.hF hb, h.hm.keep hb⟩
theorem WkW.put {w W W' : World} {g q1 : Nat} {m m' : Mc} (h : WkW w W g q1 m) (hc : Chg (fun k => k = q1) W W') (hF : W'.heap[q1]? = some (.cells (frL m').toArray 39 (0, 0))) (hph : 0 ≤ m'.ph ∧ m'.ph ≤ 6) (hT : m'.T = m.T) (hU : m'.U = m.U) (hV : TeOk (fun k => k = q1) W' m'.V) (hrb : m'.rb = m.rb) : WkW w W' g q1 m' := by
  have hq := h.hq
  have hk : McOk (fun k => k = q1) W' m (ch0 g) [numT 0 1] := h.hm.chg hc (fun k hk _ => hk) (fun k hk _ => hk)
  exact ⟨h.hb.trans (hc.below h.hb.size fun k hk => by have hk : k = q1 := hk; omega), hq, hF, hph, hT ▸ hk.hT, hU ▸ hk.hU, hV, hrb ▸ hk.hr, hrb ▸ hk.hrM, hk.hE, hk.hm⟩
theorem there_of {w : World} {q o n : Nat} {cs : List Value} {t : TypeId} (h : w.heap[q]? = some (.cells cs.toArray t (0, 0))) (hn : o + n ≤ cs.length) : w.there q o n := fun j hj => by
  have hi : o + j < cs.length := by omega
  have := cells_at h (o + j) _ (by rw [List.getElem?_toArray]; exact List.getElem?_eq_getElem hi)
  exact ⟨by rw [this.1]; rfl, this.2⟩
theorem cast_ok {M : Nat → Prop} {w : World} {g : Nat} (h : TesOk M w (.slice (some ⟨g, 0, none⟩) 2 2) [atomT gcaS, atomT ⟨#[97]⟩]) : TeOk M w (castT g) := by
  obtain ⟨F, hF⟩ := h.rowS
  exact ⟨⟨⟨by show (-128 : Int) ≤ 5; decide, by show (5 : Int) ≤ 127; decide⟩, ⟨by show (-9223372036854775808 : Int) ≤ 0; decide, by show (0 : Int) ≤ 9223372036854775807; decide⟩, by show (ByteArray.mk #[]).size ≤ _; decide, by show (ByteArray.mk #[]).size ≤ _; decide⟩, F, hF.chg (Chg.refl (fun _ => False) w) (fun _ _ _ h => h) (fun k hk hl => hk.1) (Nat.le_refl _)⟩
/-- effects' cells -/
theorem EfAt.one {W : World} {B : Nat} {v : Value} {E : List Ef} (h : EfAt W B v E) (hE : E ≠ []) : ∃ b ec, v = .slice (some ⟨b, 0, none⟩) E.length ec ∧ B ≤ b ∧ ∀ j u, (efs E)[j]? = some u → W.cell? ⟨b, j, none⟩ = some u := by
  obtain ⟨eo, ec, rfl, -, -, h4⟩ := h
  have h0 : 0 < (efs E).length := by
    rw [efs_len]
    have := List.length_pos_iff.2 hE
    omega
  obtain ⟨b, rfl, hB, -⟩ := h4 0 _ (List.getElem?_eq_getElem h0)
  refine ⟨b, ec, rfl, hB, fun j u hj => ?_⟩
  obtain ⟨b', e, -, hc⟩ := h4 j u hj
  injection e with e
  injection e with e
  subst e
  exact hc
set_option maxHeartbeats 16000000 in
theorem wakes_any (w : World) (hc : Cells w 0 letL) : Calls Tryz.prog 7 #[] w fun e w' => e = .returned (.bool true) ∧ Below w.heap.size w w' := by
  have HX := Lib.hid hc
  clear hc
  go_enter Tryz.func7, Tryz.ntmps7
  go_wp2_with fail
  refine (child_any w).mono ?_
  rintro e w1 ⟨g, rfl, hg, hgc, hb1⟩
  have hE : TesOk (fun _ => False) w1 (ch0 g).ar [numT 0 1] := ⟨⟨some ⟨g, 0, none⟩, 1, rfl, Nat.le_refl _, by omega, .inr ⟨g, 0, rfl, id, fun j u hj => by rw [Nat.zero_add]; exact (cells_at hgc j u (by rw [List.getElem?_toArray]; simpa [tcs, TE.cells, numT] using hj)).1⟩⟩, fun x hx => by simp only [List.mem_cons, List.not_mem_nil, or_false] at hx; subst hx; exact numT_ok _ _ _ _ (by omega) (by omega)⟩
  have HN := Lib.hid (new_any (fun _ => False) w1 (fun k hk => hk.elim) (keepCells HX.out hb1) (ch0 g) [numT 0 1] hE (by show (ByteArray.mk #[109]).size ≤ _; decide) 4)
  change Hid (Calls Tryz.prog 8 #[.agg #[.int .i8 0, .int .i64 0, .string ⟨#[]⟩, .string ⟨#[]⟩, .slice none 0 0, .int .i8 0, .int .i8 0, .int .i64 0, .string ⟨#[109]⟩, .string ⟨#[]⟩, .slice (some ⟨g, 0, none⟩) 1 1, .slice none 0 0], .int .i64 4] w1 _) at HN
  have HB := Lib.hid hb1
  clear hg hgc hb1 hE
  go_wp2_with fail
  refine HN.out.mono ?_
  clear HN
  rintro e w2 ⟨hb2, h⟩
  have h1 : ∃ rb, e = .returned (.tuple #[.agg (frL (mc0 4 rb)).toArray, .int .i64 0]) ∧ McOk (fun _ => False) w2 (mc0 4 rb) (ch0 g) [numT 0 1] := by
    rcases h with ⟨-, -, rb, h1, -, h2⟩ | ⟨h1 | h1, -⟩
    · exact ⟨rb, h1, h2⟩
    · rw [may0] at h1
      cases h1
    · omega
  clear h
  obtain ⟨rb, rfl, hm⟩ := h1
  go_wp2_with (with_reducible refine stop_op (o := ⟨_, .store 39 (.tmp 1) (.tmp 11), _, _, _, _⟩) ?_)
  refine Lib.hid ?_
  refine wpList_store_new (o := ⟨none, _, _, _, _, _⟩) rfl 39 (.tmp 1) (.tmp 11) rfl (frL (mc0 4 rb)).toArray rfl rfl (infoFR rfl) rfl (all_oneCell_toArray (frL_one _)) ?_
  have hb3 := (Below.refl w2.heap.size w2).alloc (Nat.le_refl _) (.cells (frL (mc0 4 rb)).toArray 39)
  have hn3 := heap_new w2 (.cells (frL (mc0 4 rb)).toArray 39)
  have hbb := HB.out.trans (hb2.mono HB.out.size)
  have H3 : Hid (WkW w (w2.alloc (.cells (frL (mc0 4 rb)).toArray 39)) g w2.heap.size (mc0 4 rb)) := Lib.hid ⟨hbb.trans (hb3.mono hbb.size), hbb.size, hn3, hm.chg (chg_of_below hb3 (fun _ => False)) (fun _ h => h.elim) (fun k hk hl => by have hk : k = w2.heap.size := hk; omega)⟩
  clear hb3 hn3 hbb hm hb2 HB
  generalize w2.alloc (.cells (frL (mc0 4 rb)).toArray 39) = w3 at *
  generalize w2.heap.size = q1 at *
  go_wp2_with (with_reducible refine stop_op (o := ⟨_, .load 39 (.tmp 1), _, _, _, _⟩) ?_)
  refine Lib.hid ?_
  refine wpList_load_row (o := ⟨_, _, _, _, _, _⟩) rfl 39 (.tmp 1) rfl q1 rfl 39 (frL (mc0 4 rb)).toArray (0, 0) _ H3.out.hF Tryz.underlying39 rfl (infoFR rfl) ?_
  have HS := Lib.hid (step_any (fun k => k = q1) w3 (fun k hk => by rw [show k = q1 from hk]; exact heap_lt H3.out.hF) (keepCells HX.out H3.out.hb) (mc0 4 rb) (ch0 g) [numT 0 1] in5 [] H3.out.hm ⟨by show (-9223372036854775808 : Int) ≤ 4; decide, by show (4 : Int) ≤ 9223372036854775807; decide⟩ (numT_ok _ _ _ _ (by omega) (by omega)) ⟨none, 0, rfl, Nat.le_refl _, by omega, fun i hi => by cases hi⟩)
  change Hid (Calls Tryz.prog 24 #[.agg (frL (mc0 4 rb)).toArray, .agg #[.int .i64 0, .int .i64 5, .slice none 0 0, .int .i8 0, .bool false, .int .i8 0, .int .i64 0, .string ⟨#[]⟩, .string ⟨#[]⟩, .slice none 0 0, .int .i64 0]] w3 _) at HS
  go_wp2_with fail
  refine HS.out.mono ?_
  clear HS
  rintro e w4 ⟨m1, v1, E1, rfl, hb4, hef, -, hR⟩
  obtain ⟨rfl, rfl⟩ := step0 hR
  obtain ⟨b1, ec1, rfl, hB1, hcl⟩ := hef.one (by simp)
  have k0 : w4.cell? ⟨b1, 0, none⟩ = some (.int .i8 10) := hcl 0 _ rfl
  have k22 : w4.cell? ⟨b1, 22, none⟩ = some (.string ⟨#[105, 110, 105, 116]⟩) := hcl 22 _ rfl
  have H4 := Lib.hid (And.intro (H3.out.keep hb4) (And.intro (Nat.lt_of_lt_of_le (heap_lt H3.out.hF) hB1) (And.intro k0 k22)))
  clear hcl hef hR hb4 hB1 k0 k22 H3
  go_wp2_with (with_reducible refine stop_op (o := ⟨_, .store 39 (.tmp 3) (.tmp 19), _, _, _, _⟩) ?_)
  refine Lib.hid ?_
  refine wpList_store_new (o := ⟨none, _, _, _, _, _⟩) rfl 39 (.tmp 3) (.tmp 19) rfl (frL { mc0 4 rb with ph := 1 }).toArray rfl rfl (infoFR rfl) rfl (all_oneCell_toArray (frL_one _)) ?_
  have hb5 := (Below.refl w4.heap.size w4).alloc (Nat.le_refl _) (.cells (frL { mc0 4 rb with ph := 1 }).toArray 39)
  have H5 := Lib.hid (And.intro (H4.out.1.keep hb5) (And.intro H4.out.2.1 (And.intro (keep_cell H4.out.2.2.1 hb5) (keep_cell H4.out.2.2.2 hb5))))
  clear hb5 H4
  generalize w4.alloc (.cells (frL { mc0 4 rb with ph := 1 }).toArray 39) = w5 at *
  have c8 : w5.cell? ⟨q1, 8, none⟩ = some (.int .i8 0) := (cells_at H5.out.1.hF 8 _ rfl).1
  have f8 : w5.frozen? ⟨q1, 8, none⟩ = false := (cells_at H5.out.1.hF 8 _ rfl).2
  have hc6 := chg_set (w := w5) (p := ⟨q1, 8, none⟩) (.int .i8 2)
  have hF6 : (w5.setCell ⟨q1, 8, none⟩ (.int .i8 2)).heap[q1]? = some (.cells (frL { mc0 4 rb with ph := 2 }).toArray 39 (0, 0)) := setRow_cells [.int .i8 2] 8 H5.out.1.hF
  have hne : ¬ b1 = q1 := by
    have := H5.out.2.1
    omega
  have H6 := Lib.hid (And.intro (H5.out.1.put (m' := { mc0 4 rb with ph := 2 }) hc6 hF6 (by simp) rfl rfl (numT_ok _ _ _ _ (by omega) (by omega)) rfl) (And.intro H5.out.2.1 (And.intro (hc6.cell H5.out.2.2.1 hne) (hc6.cell H5.out.2.2.2 hne))))
  clear hc6 hF6 hne
  go_wp2_with fail
  generalize w5.setCell ⟨q1, 8, none⟩ (.int .i8 2) = w6 at *
  clear c8 f8 H5
  refine (ratom_any w6 _).mono ?_
  rintro e w7 ⟨rfl, hb7⟩
  have H7 := Lib.hid (And.intro (H6.out.1.keep hb7) (And.intro H6.out.2.1 (And.intro (keep_cell H6.out.2.2.1 hb7) (keep_cell H6.out.2.2.2 hb7))))
  clear hb7 H6
  go_wp2_with (with_reducible refine stop_op (o := ⟨_, .store 25 (.tmp 25) (.tmp 23), _, _, _, _⟩) ?_)
  refine Lib.hid ?_
  refine wpList_store_mid (op := ⟨none, _, _, _, _, _⟩) rfl 25 (.tmp 25) (.tmp 23) rfl q1 23 #[.int .i8 1, .int .i64 0, .string ⟨#[115]⟩, .string ⟨#[]⟩, .slice none 0 0] rfl rfl (there_of H7.out.1.hF (by show 28 ≤ 35; decide)) (infoTM' _ rfl) (by simp [Value.oneCell']) ?_
  have hc8 := chg_cells (#[.int .i8 1, .int .i64 0, .string ⟨#[115]⟩, .string ⟨#[]⟩, .slice none 0 0] : Array Value).toList q1 23 w7
  have hF8 : (w7.setCells q1 23 (#[.int .i8 1, .int .i64 0, .string ⟨#[115]⟩, .string ⟨#[]⟩, .slice none 0 0] : Array Value).toList).heap[q1]? = some (.cells (frL (mc2 rb)).toArray 39 (0, 0)) := setRow_cells (#[.int .i8 1, .int .i64 0, .string ⟨#[115]⟩, .string ⟨#[]⟩, .slice none 0 0] : Array Value).toList 23 H7.out.1.hF
  have hne : ¬ b1 = q1 := by
    have := H7.out.2.1
    omega
  have H8 := Lib.hid (And.intro (H7.out.1.put (m' := mc2 rb) hc8 hF8 (by simp [mc2]) rfl rfl (atomT_ok _ _ _ (by decide)) rfl) (And.intro H7.out.2.1 (And.intro (hc8.cell H7.out.2.2.1 hne) (hc8.cell H7.out.2.2.2 hne))))
  clear hc8 hF8 hne H7
  generalize w7.setCells q1 23 (#[.int .i8 1, .int .i64 0, .string ⟨#[115]⟩, .string ⟨#[]⟩, .slice none 0 0] : Array Value).toList = w8 at *
  go_wp2_with fail
  refine (ratom_any w8 _).mono ?_
  rintro e w9 ⟨rfl, hb9⟩
  have H9 := Lib.hid (And.intro (H8.out.1.keep hb9) (And.intro H8.out.2.1 (And.intro (keep_cell H8.out.2.2.1 hb9) (keep_cell H8.out.2.2.2 hb9))))
  clear hb9 H8
  go_wp2_with fail
  refine (ratom_any w9 _).mono ?_
  rintro e wa ⟨rfl, hba⟩
  have Ha := Lib.hid (And.intro (H9.out.1.keep hba) (And.intro H9.out.2.1 (And.intro (keep_cell H9.out.2.2.1 hba) (keep_cell H9.out.2.2.2 hba))))
  clear hba H9
  go_wp2_with (with_reducible refine stop_op (o := ⟨_, .store 25 (.tmp 5) (.tmp 29), _, _, _, _⟩) ?_)
  refine Lib.hid ?_
  have hbA := (Below.refl wa.heap.size wa).alloc (Nat.le_refl _) (.cells #[.int .i8 1, .int .i64 0, .string ⟨#[103, 101, 110, 95, 99, 97, 115, 116]⟩, .string ⟨#[]⟩, .slice none 0 0, .int .i8 1, .int .i64 0, .string ⟨#[97]⟩, .string ⟨#[]⟩, .slice none 0 0] 25)
  have hte := two_tes (fun k => k = q1) wa (fun k hk => by rw [show k = q1 from hk]; exact heap_lt Ha.out.1.hF) (atomT gcaS) (atomT ⟨#[97]⟩) (atomT_ok _ _ _ (by decide)) (atomT_ok _ _ _ (by decide))
  change TesOk _ (wa.alloc (.cells #[.int .i8 1, .int .i64 0, .string ⟨#[103, 101, 110, 95, 99, 97, 115, 116]⟩, .string ⟨#[]⟩, .slice none 0 0, .int .i8 1, .int .i64 0, .string ⟨#[97]⟩, .string ⟨#[]⟩, .slice none 0 0] 25)) _ _ at hte
  have Hb := Lib.hid (And.intro (Ha.out.1.keep hbA) (And.intro Ha.out.2.1 (And.intro (keep_cell Ha.out.2.2.1 hbA) (And.intro (keep_cell Ha.out.2.2.2 hbA) (cast_ok hte)))))
  have hsz : (wa.alloc (.cells #[.int .i8 1, .int .i64 0, .string ⟨#[103, 101, 110, 95, 99, 97, 115, 116]⟩, .string ⟨#[]⟩, .slice none 0 0, .int .i8 1, .int .i64 0, .string ⟨#[97]⟩, .string ⟨#[]⟩, .slice none 0 0] 25)).heap.size = wa.heap.size + 1 := World.size_alloc _ _
  clear hbA hte Ha
  generalize hwb : wa.alloc (.cells #[.int .i8 1, .int .i64 0, .string ⟨#[103, 101, 110, 95, 99, 97, 115, 116]⟩, .string ⟨#[]⟩, .slice none 0 0, .int .i8 1, .int .i64 0, .string ⟨#[97]⟩, .string ⟨#[]⟩, .slice none 0 0] 25) = wb at *
  clear hwb
  generalize wa.heap.size = ga at *
  refine wpList_store_new (o := ⟨none, _, _, _, _, _⟩) rfl 25 (.tmp 5) (.tmp 29) rfl #[.int .i8 5, .int .i64 0, .string ⟨#[]⟩, .string ⟨#[]⟩, .slice (some ⟨ga, 0, none⟩) 2 2] (by rw [hsz]; rfl) rfl (infoTM' _ rfl) rfl (by simp [Value.oneCell']) ?_
  have hbC := (Below.refl wb.heap.size wb).alloc (Nat.le_refl _) (.cells #[.int .i8 5, .int .i64 0, .string ⟨#[]⟩, .string ⟨#[]⟩, .slice (some ⟨ga, 0, none⟩) 2 2] 25)
  have hq5 := heap_new wb (.cells #[.int .i8 5, .int .i64 0, .string ⟨#[]⟩, .string ⟨#[]⟩, .slice (some ⟨ga, 0, none⟩) 2 2] 25)
  rw [hsz] at hq5
  have Hc := Lib.hid (And.intro (Hb.out.1.keep hbC) (And.intro Hb.out.2.1 (And.intro (keep_cell Hb.out.2.2.1 hbC) (And.intro (keep_cell Hb.out.2.2.2.1 hbC) (And.intro (Hb.out.2.2.2.2.keep hbC) hq5)))))
  clear hbC hq5 hsz Hb
  generalize wb.alloc (.cells #[.int .i8 5, .int .i64 0, .string ⟨#[]⟩, .string ⟨#[]⟩, .slice (some ⟨ga, 0, none⟩) 2 2] 25) = wc at *
  go_wp2_with (with_reducible refine stop_op (o := ⟨_, .load 39 (.tmp 1), _, _, _, _⟩) ?_)
  refine Lib.hid ?_
  refine wpList_load_row (o := ⟨_, _, _, _, _, _⟩) rfl 39 (.tmp 1) rfl q1 rfl 39 (frL (mc2 rb)).toArray (0, 0) _ Hc.out.1.hF Tryz.underlying39 rfl (infoFR rfl) ?_
  obtain ⟨y0, y1, y2, y3, y4⟩ := BxS.of (x := castT ga) Hc.out.2.2.2.2.2
  change wc.cell? _ = some (.int .i8 5) at y0
  change wc.cell? _ = some (.int .i64 0) at y1
  change wc.cell? _ = some (.string ⟨#[]⟩) at y2
  change wc.cell? _ = some (.string ⟨#[]⟩) at y3
  change wc.cell? _ = some (.slice (some ⟨ga, 0, none⟩) 2 2) at y4
  have hbD := (Below.refl wc.heap.size wc).alloc (Nat.le_refl _) (.cells #[.int .i8 5, .int .i64 0, .string ⟨#[]⟩, .string ⟨#[]⟩, .slice (some ⟨ga, 0, none⟩) 2 2, .bool false] 59)
  have hmm := heap_new wc (.cells #[.int .i8 5, .int .i64 0, .string ⟨#[]⟩, .string ⟨#[]⟩, .slice (some ⟨ga, 0, none⟩) 2 2, .bool false] 59)
  have Hd := Lib.hid (And.intro (Hc.out.1.keep hbD) (And.intro Hc.out.2.1 (And.intro (keep_cell Hc.out.2.2.1 hbD) (And.intro (keep_cell Hc.out.2.2.2.1 hbD) (And.intro (Hc.out.2.2.2.2.1.keep hbD) hmm)))))
  clear hbD hmm Hc
  go_wp2_with fail
  generalize hwd : wc.alloc (.cells #[.int .i8 5, .int .i64 0, .string ⟨#[]⟩, .string ⟨#[]⟩, .slice (some ⟨ga, 0, none⟩) 2 2, .bool false] 59) = wd at *
  clear hwd y0 y1 y2 y3 y4
  generalize wc.heap.size = gm at *
  have hit : ItAt wd gm 0 ⟨castT ga, false⟩ := by
    have hh := Hd.out.2.2.2.2.2
    exact ⟨(cells_at hh 0 _ rfl).1, (cells_at hh 1 _ rfl).1, (cells_at hh 2 _ rfl).1, (cells_at hh 3 _ rfl).1, (cells_at hh 4 _ rfl).1, (cells_at hh 5 _ rfl).1⟩
  have HS := Lib.hid (step_any (fun k => k = q1) wd (fun k hk => by rw [show k = q1 from hk]; exact heap_lt Hd.out.1.hF) (keepCells HX.out Hd.out.1.hb) (mc2 rb) (ch0 g) [numT 0 1] (in6 gm) [⟨castT ga, false⟩] Hd.out.1.hm ⟨by show (-9223372036854775808 : Int) ≤ 4; decide, by show (4 : Int) ≤ 9223372036854775807; decide⟩ (numT_ok _ _ _ _ (by omega) (by omega)) ⟨some ⟨gm, 0, none⟩, 1, rfl, Nat.le_refl _, by omega, fun i hi => by
    have hi : (⟨castT ga, false⟩ : It) = i := by simpa using hi
    subst hi
    exact ⟨Hd.out.2.2.2.2.1, gm, 0, rfl, hit⟩⟩)
  clear hit
  change Hid (Calls Tryz.prog 24 #[.agg (frL (mc2 rb)).toArray, .agg #[.int .i64 0, .int .i64 5, .slice (some ⟨gm, 0, none⟩) 1 1, .int .i8 0, .bool false, .int .i8 0, .int .i64 0, .string ⟨#[]⟩, .string ⟨#[]⟩, .slice none 0 0, .int .i64 0]] wd _) at HS
  refine HS.out.mono ?_
  clear HS
  rintro e we ⟨m1, v1, E1, rfl, hbe, hef, -, hR⟩
  obtain ⟨rfl, bb, rfl⟩ := step2 hR
  obtain ⟨b2, ec2, rfl, hB2, hcl⟩ := hef.one (by simp)
  have He := Lib.hid (And.intro (Hd.out.1.keep hbe).hb (And.intro (keep_cell Hd.out.2.2.1 hbe) (And.intro (keep_cell Hd.out.2.2.2.1 hbe) (And.intro (show we.cell? ⟨b2, 0, none⟩ = some (.int .i8 9) from hcl 0 _ rfl) (And.intro (show we.cell? ⟨b2, 83, none⟩ = some (.string ⟨#[104, 97, 110, 100, 108, 101, 95, 99, 97, 115, 116]⟩) from hcl 83 _ rfl) (show we.cell? ⟨b2, 84, none⟩ = some (.slice (some ⟨bb, 0, none⟩) 2 2) from hcl 84 _ rfl))))))
  clear hcl hef hR hbe hB2 Hd
  go_wp2_with (with_reducible refine stop_op (o := ⟨_, .store 39 (.tmp 6) (.tmp 37), _, _, _, _⟩) ?_)
  refine Lib.hid ?_
  refine wpList_store_new (o := ⟨none, _, _, _, _, _⟩) rfl 39 (.tmp 6) (.tmp 37) rfl (frL { mc2 rb with ph := 4 }).toArray rfl rfl (infoFR rfl) rfl (all_oneCell_toArray (frL_one _)) ?_
  have hbF := (Below.refl we.heap.size we).alloc (Nat.le_refl _) (.cells (frL { mc2 rb with ph := 4 }).toArray 39)
  have hnF := heap_new we (.cells (frL { mc2 rb with ph := 4 }).toArray 39)
  have HB := Lib.hid (He.out.1.trans (hbF.mono He.out.1.size))
  have k1 := keep_cell He.out.2.1 hbF
  have k2 := keep_cell He.out.2.2.1 hbF
  have k3 := keep_cell He.out.2.2.2.1 hbF
  have k4 := keep_cell He.out.2.2.2.2.1 hbF
  have k5 := keep_cell He.out.2.2.2.2.2 hbF
  have k6 : (we.alloc (.cells (frL { mc2 rb with ph := 4 }).toArray 39)).cell? ⟨we.heap.size, 8, none⟩ = some (.int .i8 4) := (cells_at hnF 8 _ rfl).1
  clear hbF hnF He
  generalize we.alloc (.cells (frL { mc2 rb with ph := 4 }).toArray 39) = wf at *
  generalize we.heap.size = q6 at *
  go_wp2_with fail
  go_ret
  exact ⟨rfl, HB.out⟩
end Go.Proofs.YthpmdeofdlcccaaGreatDoor
namespace Go.Proofs.YthpmdeofdlcccaaGreatDoor
open Go.ChangeShapes Go.WideShapes Go.ChangeAt Go.RowKit
set_option linter.unusedVariables false
set_option linter.unusedSimpArgs false
set_option maxRecDepth 100000
set_option maxHeartbeats 1000000 in
theorem rtagged_any (M : Nat → Prop) (w : World) (x : TE) (tag : ByteArray) (n : Nat) (hx : TeOk M w x) (h0 : 0 < n) (hn : n ≤ 100) : Calls Tryz.prog 60 #[.agg x.cells.toArray, .int .i64 n, .string tag] w (IsPost w (isB x.t tag n)) := by
  have hb1 := (Below.refl w.heap.size w).alloc (Nat.le_refl _) (.cells x.cells.toArray 25)
  have hx1 := heap_new w (.cells x.cells.toArray 25)
  have HB := Lib.hid hb1
  have y0 : (w.alloc (.cells x.cells.toArray 25)).cell? ⟨w.heap.size, 0, none⟩ = some (.int .i8 x.k) := (cells_at hx1 0 _ rfl).1
  have y4 : (w.alloc (.cells x.cells.toArray 25)).cell? ⟨w.heap.size, 4, none⟩ = some (.slice x.ao x.l.length x.cap) := (cells_at hx1 4 _ rfl).1
  have hx2 := hx.keep hb1
  clear hx1 hb1 hx
  have hE : isB x.t tag n = (decide (x.k = 5) && (decide (x.l.length = n) && match x.l with
    | a :: _ => decide (a.k = 1) && decide (a.s = tag)
    | [] => false)) := rfl
  go_enter Tryz.func60, Tryz.ntmps60
  by_cases hk : x.k = 5
  · by_cases hl : x.l.length = n
    · obtain ⟨b, off, y, e1, e2, hy, hp, -⟩ := hx2.part (i := 0) (by omega)
      have hE2 : isB x.t tag n = isAtomB y.t tag := by
        rw [hE]
        cases hxl : x.l with
        | nil => rw [hxl] at hl; simp at hl; omega
        | cons a l =>
          rw [hxl] at e2 hl
          simp at e2
          subst e2
          simp only [hk, hl, decide_true, Bool.true_and]
          rfl
      have HE := Lib.hid hE2
      have HA := Lib.hid (isatom_any _ _ _ tag _ hy.tv.choose_spec)
      change Hid (Calls Tryz.prog 37 #[.agg #[.int .i8 y.k, .int .i64 y.n, .string y.s, .string y.u, .slice y.ao y.l.length y.cap], .string tag] (w.alloc (.cells x.cells.toArray 25)) _) at HA
      clear hE hE2 hx2 hy e2
      rw [e1, hl] at y4
      rw [hk] at y0
      obtain ⟨p0, p1, p2, p3, p4⟩ := hp
      rw [show off + 0 * 5 = off by omega] at p0 p1 p2 p3 p4
      have hn0 : (0 : Int) < (n : Int) := by omega
      clear hl hk e1
      go_wp2_with fail
      refine HA.out.mono ?_
      clear HA
      rintro e w2 ⟨rfl, hb2⟩
      have HB2 := Lib.hid (HB.out.trans (hb2.mono HB.out.size))
      clear hb2 y0 y4 p0 p1 p2 p3 p4
      go_wp2_with fail
      go_ret
      exact ⟨by rw [HE.out]; rfl, HB2.out⟩
    · have q1 : ((x.l.length : Int) == (n : Int)) = false := by
        simp only [beq_eq_false_iff_ne, ne_eq, Int.natCast_inj]
        exact hl
      have HF := Lib.hid (show isB x.t tag n = false by rw [hE]; simp [hl])
      rw [hk] at y0
      clear hE hk hl hx2
      go_wp2_with fail
      go_ret
      exact ⟨by rw [HF.out]; rfl, HB.out⟩
  · have q1 : (x.k == 5) = false := by simp [hk]
    have HF := Lib.hid (show isB x.t tag n = false by rw [hE]; simp [hk])
    clear hE hk hx2
    go_wp2_with fail
    go_ret
    exact ⟨by rw [HF.out]; rfl, HB.out⟩
theorem callP_no {t : Tm} (h : isB t gcS 3 = false) : callP t = none := by
  unfold callP
  split
  · next hc =>
    split
    · next a f q hl =>
      split
      · next h1 =>
        unfold isB at h
        rw [hl] at h
        simp [hc.2, h1.1, h1.2.1] at h
      · rfl
    · rfl
  · rfl
theorem callP_bad {t : Tm} (h : checkN t ≠ 0) : callP t = none := by
  unfold callP
  rw [if_neg (fun h' => h h'.1)]
theorem callP_yes {t a f q : Tm} (hc : checkN t = 0) (hb : isB t gcS 3 = true) (hl : t.l = [a, f, q]) : callP t = (if f.k = 5 then match f.l with
    | [p, r] => if p.k = 4 ∧ r.k = 2 then some (p.n, r.n, q) else none
    | _ => none
  else none) := by
  unfold isB at hb
  rw [hl] at hb
  simp only [Bool.and_eq_true, decide_eq_true_eq] at hb
  unfold callP
  rw [if_pos ⟨hc, hb.1⟩, hl]
  show (if a.k = 1 ∧ a.s = gcS ∧ f.k = 5 then _ else none) = _
  by_cases h5 : f.k = 5
  · rw [if_pos ⟨hb.2.2.1, hb.2.2.2, h5⟩, if_pos h5]
    first | rfl | (split <;> rfl)
  · rw [if_neg (fun h => h5 h.2.2), if_neg h5]
theorem lst3 {l : List Tm} {a b c : Tm} (hl : l.length = 3) (ea : l[0]? = some a) (eb : l[1]? = some b) (ec : l[2]? = some c) : l = [a, b, c] := by
  match l, hl with
  | [_, _, _], _ => simp at ea eb ec; rw [ea, eb, ec]
theorem lst2 {l : List Tm} {a b : Tm} (hl : l.length = 2) (ea : l[0]? = some a) (eb : l[1]? = some b) : l = [a, b] := by
  match l, hl with
  | [_, _], _ => simp at ea eb; rw [ea, eb]
theorem rtagged_x (M : Nat → Prop) (w : World) (x : TE) (hx : TeOk M w x) : Calls Tryz.prog 60 #[.agg #[.int .i8 x.k, .int .i64 x.n, .string x.s, .string x.u, .slice x.ao x.l.length x.cap], .int .i64 3, .string ⟨#[103, 101, 110, 95, 99, 97, 108, 108]⟩] w (IsPost w (isB x.t gcS 3)) := rtagged_any M w x gcS 3 hx (by omega) (by omega)
def IdS (q qf b2 o2 b o : Nat) (lv flv : Value) (pn rn k n : Int) (s u : ByteArray) (l : Value) (W : World) : Prop := W.cell? ⟨q, 4, none⟩ = some lv ∧ W.cell? ⟨qf, 4, none⟩ = some flv ∧ W.cell? ⟨b2, o2 + 1, none⟩ = some (.int .i64 pn) ∧ W.cell? ⟨b2, o2 + 5 + 1, none⟩ = some (.int .i64 rn) ∧
  W.cell? ⟨b, o, none⟩ = some (.int .i8 k) ∧ W.cell? ⟨b, o + 1, none⟩ = some (.int .i64 n) ∧ W.cell? ⟨b, o + 2, none⟩ = some (.string s) ∧ W.cell? ⟨b, o + 3, none⟩ = some (.string u) ∧ W.cell? ⟨b, o + 4, none⟩ = some l
set_option maxHeartbeats 4000000 in
theorem riscall_any (M : Nat → Prop) (w : World) (hM : ∀ k, M k → k < w.heap.size) (x : TE) (hx : TeOk M w x) : Calls Tryz.prog 34 #[.agg x.cells.toArray] w (IcPost M w x.t) := by
  have hR := RpW.start w M x
  have HCK := Lib.hid (rcheck_any _ _ _ _ (hx.keep hR.hb).tv.choose_spec)
  rw [check_eq] at HCK
  obtain ⟨x0, x1, x2, x3, x4⟩ := BxS.of hR.h1
  have HR0 := Lib.hid hR
  have HX := Lib.hid (And.intro hx hM)
  clear hR hx hM
  have hcn := fun h : checkN x.t ≠ 0 => callP_bad h
  have hcy := fun (a f q : Tm) (h : checkN x.t = 0) => callP_yes (t := x.t) (a := a) (f := f) (q := q) h
  generalize checkN x.t = c at *
  have HCN := Lib.hid (And.intro hcn hcy)
  clear hcn hcy
  go_enter Tryz.func34, Tryz.ntmps34
  go_wp2_with fail
  generalize (w.alloc (.cells x.cells.toArray 25)).alloc (.cells zT 25) = w2 at *
  refine HCK.out.mono ?_
  rintro e w3 ⟨rfl, hb3⟩
  have HR := Lib.hid (HR0.out.keep hb3)
  clear hb3 HR0 HCK x0 x1 x2 x3 x4
  obtain ⟨x0, x1, x2, x3, x4⟩ := BxS.of HR.out.h1
  by_cases hc0 : c = 0
  · have q1 : (c != 0) = false := by simp [hc0]
    have HC0 := Lib.hid hc0
    clear hc0
    go_wp2_with fail
    refine (rtagged_x M w3 x (HX.out.1.keep HR.out.hb)).mono ?_
    rintro e w4 ⟨rfl, hb4⟩
    have HR4 := Lib.hid (HR.out.keep hb4)
    clear hb4 HR q1 x0 x1 x2 x3 x4
    cases hbb : isB x.t gcS 3
    · have HE := Lib.hid (show callP x.t = (if false then some (0, 0, (numT 0 0).t) else none) by rw [callP_no hbb]; rfl)
      clear hbb
      go_wp2_with (with_reducible refine stop_op (o := ⟨_, .store 25 (.tmp 4) (.tmp 15), _, _, _, _⟩) ?_)
      refine Lib.hid ?_
      refine wpList_store_row (o := ⟨none, _, _, _, _, _⟩) rfl 25 (.tmp 4) (.tmp 15) rfl (w.heap.size + 1) #[.int .i8 0, .int .i64 0, .string ⟨#[]⟩, .string ⟨#[]⟩, .slice none 0 0] rfl rfl 25 zT HR4.out.h2 (infoTM' _ rfl) rfl (by simp [Value.oneCell']) ?_
      have HZ := Lib.hid (And.intro (setRow_heap w4 (w.heap.size + 1) zT #[.int .i8 0, .int .i64 0, .string ⟨#[]⟩, .string ⟨#[]⟩, .slice none 0 0] 25 (0, 0) HR4.out.h2) (bel_setRow HR4.out.hb HR4.out.hb.size (Nat.le_succ _) #[.int .i8 0, .int .i64 0, .string ⟨#[]⟩, .string ⟨#[]⟩, .slice none 0 0]))
      generalize World.setRow w4 (w.heap.size + 1) #[.int .i8 0, .int .i64 0, .string ⟨#[]⟩, .string ⟨#[]⟩, .slice none 0 0] = W9 at *
      clear HR4
      go_wp2_with fail
      exact ret_call HZ.out.1 rfl Tryz.underlying25 rfl (infoTM' _ rfl) rfl rfl rfl rfl ⟨numT 0 0, 0, 0, false, rfl, numT_ok _ _ _ _ (by omega) (by omega), HZ.out.2, HE.out, fun _ => rfl⟩
    · have hl : x.l.length = 3 := by
        unfold isB at hbb
        simp only [Bool.and_eq_true, decide_eq_true_eq] at hbb
        exact hbb.2.1
      obtain ⟨b, off, a, e0, ea, ha, pa, -⟩ := HX.out.1.part (i := 0) (by omega)
      obtain ⟨b', off', f, e1, ef, hf, pf, -⟩ := HX.out.1.part (i := 1) (by omega)
      obtain ⟨b'', off'', y, e2, ey, hy, py, -⟩ := HX.out.1.part (i := 2) (by omega)
      rw [e0] at e1 e2
      injection e1 with e1
      injection e1 with g1 g2 g3
      subst g1 g2
      injection e2 with e2
      injection e2 with g1 g2 g3
      subst g1 g2
      have hxl := lst3 hl ea ef ey
      have HEE := Lib.hid (HCN.out.2 a.t f.t y.t HC0.out hbb hxl)
      have HPF := Lib.hid (pf.keep HR4.out.hb)
      have HPY := Lib.hid (And.intro py (And.intro hy hf))
      have x4 := (BxS.of HR4.out.h1).2.2.2.2
      rw [hl, e0] at x4
      clear hxl ea ef ey pa pf py hy hf ha hl e0 g3 hbb
      obtain ⟨f0, f1, f2, f3, f4⟩ := HPF.out
      rw [show off + 1 * 5 = off + 5 by omega] at f0 f1 f2 f3 f4
      go_wp2_with (with_reducible refine stop_op (o := ⟨_, .store 25 (.tmp 6) (.tmp 19), _, _, _, _⟩) ?_)
      refine Lib.hid ?_
      refine wpList_store_new (o := ⟨none, _, _, _, _, _⟩) rfl 25 (.tmp 6) (.tmp 19) rfl #[.int .i8 f.k, .int .i64 f.n, .string f.s, .string f.u, .slice f.ao f.l.length f.cap] rfl rfl (infoTM' _ rfl) rfl (by simp [Value.oneCell']) ?_
      have hb5 := (Below.refl w4.heap.size w4).alloc (Nat.le_refl _) (.cells #[.int .i8 f.k, .int .i64 f.n, .string f.s, .string f.u, .slice f.ao f.l.length f.cap] 25)
      have HR5 := Lib.hid (HR4.out.keep hb5)
      have HQF := Lib.hid HR4.out.hl
      have HF5 := Lib.hid (heap_new w4 (.cells #[.int .i8 f.k, .int .i64 f.n, .string f.s, .string f.u, .slice f.ao f.l.length f.cap] 25))
      obtain ⟨g0, -, -, -, g4⟩ := BxS.of (x := f) HF5.out
      have x4b := keep_cell x4 hb5
      clear f0 f1 f2 f3 f4 HPF hb5 x4 HR4
      generalize w4.alloc (.cells #[.int .i8 f.k, .int .i64 f.n, .string f.s, .string f.u, .slice f.ao f.l.length f.cap] 25) = w5 at *
      generalize w4.heap.size = qf at *
      by_cases h3 : f.k = 5
      · rw [h3] at g0
        have HE4 := Lib.hid (HEE.out.trans (if_pos h3))
        by_cases h4 : f.l.length = 2
        · obtain ⟨b2, o2, p, e3, ep, -, pp, -⟩ := HPY.out.2.2.part (i := 0) (by omega)
          obtain ⟨b3, o3, r, e4, er, -, pr, -⟩ := HPY.out.2.2.part (i := 1) (by omega)
          rw [e3] at e4
          injection e4 with e4
          injection e4 with k1 k2 k3
          subst k1 k2
          have hfl := lst2 h4 ep er
          have hE5 := HE4.out
          rw [show f.t.l = [p.t, r.t] from hfl] at hE5
          have HE5 := Lib.hid (show callP x.t = (if p.k = 4 ∧ r.k = 2 then some (p.n, r.n, y.t) else none) from hE5)
          rw [h4, e3] at g4
          have HPP := Lib.hid pp
          obtain ⟨p0, p1, -, -, -⟩ := pp.keep HR5.out.hb
          obtain ⟨r0, r1, -, -, -⟩ := pr.keep HR5.out.hb
          rw [show o2 + 0 * 5 = o2 by omega] at p0 p1
          rw [show o2 + 1 * 5 = o2 + 5 by omega] at r0 r1
          clear hE5 hfl ep er pp pr e3 h3 h4 HE4 HEE
          by_cases h5 : p.k = 4
          · rw [h5] at p0
            by_cases h6 : r.k = 2
            · rw [h6] at r0
              have HE := Lib.hid (show callP x.t = (if true then some (p.n, r.n, y.t) else none) by rw [HE5.out, if_pos ⟨h5, h6⟩]; rfl)
              clear HE5 h5 h6
              go_wp2_with fail
              obtain ⟨z0, z1, z2, z3, z4⟩ := HPY.out.1.keep HR5.out.hb
              rw [show off + 2 * 5 = off + 10 by omega] at z0 z1 z2 z3 z4
              have hdr : Below w5.heap.size w5 w5.drew := (Below.refl _ _).drew
              have hS : IdS w.heap.size qf b2 o2 b (off + 10) (.slice (some ⟨b, off, none⟩) 3 x.cap) (.slice (some ⟨b2, o2, none⟩) 2 f.cap) p.n r.n y.k y.n y.s y.u (.slice y.ao y.l.length y.cap) w5.drew :=
                ⟨keep_cell x4b hdr, keep_cell g4 hdr, keep_cell p1 hdr, keep_cell r1 hdr, keep_cell z0 hdr, keep_cell z1 hdr, keep_cell z2 hdr, keep_cell z3 hdr, keep_cell z4 hdr⟩
              have hR := HR5.out.keep hdr
              have hqf : Hid (w.heap.size + 1 ≠ qf ∧ w.heap.size + 1 ≠ b ∧ w.heap.size + 1 ≠ b2) := by
                have l1 := HQF.out
                have l2 := World.block_lt_of_cell? w _ HPY.out.1.c0
                have l3 := World.block_lt_of_cell? w _ HPP.out.c0
                exact Lib.hid ⟨by omega, by simp only at l2; omega, by simp only at l3; omega⟩
              refine region_plan (IdS w.heap.size qf b2 o2 b (off + 10) (.slice (some ⟨b, off, none⟩) 3 x.cap) (.slice (some ⟨b2, o2, none⟩) 2 f.cap) p.n r.n y.k y.n y.s y.u (.slice y.ao y.l.length y.cap)) [(0, 0), (1, 0), (2, 0), (3, 0), (4, 0), (5, 0), (6, 0), (7, 0), (8, 0), (9, 0), (10, 0), (11, 0), (12, 0), (13, 0), (14, 0), (15, 0), (16, 1), (17, 0)] (by kernel_rfl) (by kernel_rfl) (by kernel_rfl) hS ?_
              generalize w5.drew = WD at *
              clear HR5 x4b g4 p1 r1 z0 z1 z2 z3 z4 hdr
              iterate 16 (first | (refine plan_skip rfl ?_ ?_; (focus (rfl)); (try simp only [Act.put, List.setIfInBounds_toArray, List.set_cons_zero, List.set_cons_succ])) | (refine plan_take (v := ?_) rfl ?_ (fun w hSw => ?_) ?_; rotate_left; (focus (rfl)); (focus (unfold IdS at hSw; (go_simp <;> with_reducible rfl))); (try simp only [Act.put, List.setIfInBounds_toArray, List.set_cons_zero, List.set_cons_succ])))
              have hc4 := chg_setRow WD (w.heap.size + 1) #[.int .i8 y.k, .int .i64 y.n, .string y.s, .string y.u, .slice y.ao y.l.length y.cap]
              have hZ := And.intro (setRow_heap WD (w.heap.size + 1) zT #[.int .i8 y.k, .int .i64 y.n, .string y.s, .string y.u, .slice y.ao y.l.length y.cap] 25 (0, 0) hR.h2) (bel_setRow hR.hb hR.hb.size (Nat.le_succ _) #[.int .i8 y.k, .int .i64 y.n, .string y.s, .string y.u, .slice y.ao y.l.length y.cap])
              have hS4 : IdS w.heap.size qf b2 o2 b (off + 10) (.slice (some ⟨b, off, none⟩) 3 x.cap) (.slice (some ⟨b2, o2, none⟩) 2 f.cap) p.n r.n y.k y.n y.s y.u (.slice y.ao y.l.length y.cap) (WD.setRow (w.heap.size + 1) #[.int .i8 y.k, .int .i64 y.n, .string y.s, .string y.u, .slice y.ao y.l.length y.cap]) := by
                obtain ⟨k1, k2, k3, k4, k5, k6, k7, k8, k9⟩ := hS
                have n0 : ¬ (w.heap.size = w.heap.size + 1) := by omega
                have n1 : ¬ (qf = w.heap.size + 1) := fun e => hqf.out.1 e.symm
                have n2 : ¬ (b = w.heap.size + 1) := fun e => hqf.out.2.1 e.symm
                have n3 : ¬ (b2 = w.heap.size + 1) := fun e => hqf.out.2.2 e.symm
                exact ⟨hc4.cell k1 n0, hc4.cell k2 n1, hc4.cell k3 n3, hc4.cell k4 n3, hc4.cell k5 n2, hc4.cell k6 n2, hc4.cell k7 n2, hc4.cell k8 n2, hc4.cell k9 n2⟩
              refine plan_run rfl ?_ (fun K hK => ?_)
              focus (rfl)
              refine wp_store_row 25 (.tmp 4) (.tmp 59) rfl (w.heap.size + 1) #[.int .i8 y.k, .int .i64 y.n, .string y.s, .string y.u, .slice y.ao y.l.length y.cap] rfl rfl 25 zT hR.h2 (infoTM' _ rfl) rfl (by simp [Value.oneCell']) ?_
              refine hK.out _ _ (hS4) ?_
              clear hK K
              (try simp only [Act.put, List.setIfInBounds_toArray, List.set_cons_zero, List.set_cons_succ])
              iterate 1 (first | (refine plan_skip rfl ?_ ?_; (focus (rfl)); (try simp only [Act.put, List.setIfInBounds_toArray, List.set_cons_zero, List.set_cons_succ])) | (refine plan_take (v := ?_) rfl ?_ (fun w hSw => ?_) ?_; rotate_left; (focus (rfl)); (focus (unfold IdS at hSw; (go_simp <;> with_reducible rfl))); (try simp only [Act.put, List.setIfInBounds_toArray, List.set_cons_zero, List.set_cons_succ])))
              refine plan_done ?_
              have HZ := Lib.hid hZ
              generalize WD.setRow (w.heap.size + 1) #[.int .i8 y.k, .int .i64 y.n, .string y.s, .string y.u, .slice y.ao y.l.length y.cap] = W3 at *
              clear hZ hS4 hc4 hR hS
              go_wp2_with fail
              exact ret_call HZ.out.1 rfl Tryz.underlying25 rfl (infoTM' _ rfl) rfl rfl rfl rfl ⟨y, p.n, r.n, true, rfl, HPY.out.2.1.keep HZ.out.2, HZ.out.2, HE.out, fun h => by cases h⟩
            · have q3 : (r.k != 2) = true := by simp [h6]
              have HE := Lib.hid (show callP x.t = (if false then some (0, 0, (numT 0 0).t) else none) by rw [HE5.out, if_neg (fun h => h6 h.2)]; rfl)
              clear HE5 h5 h6
              go_wp2_with (with_reducible refine stop_op (o := ⟨_, .store 25 (.tmp 4) (.tmp 45), _, _, _, _⟩) ?_)
              refine Lib.hid ?_
              refine wpList_store_row (o := ⟨none, _, _, _, _, _⟩) rfl 25 (.tmp 4) (.tmp 45) rfl (w.heap.size + 1) #[.int .i8 0, .int .i64 0, .string ⟨#[]⟩, .string ⟨#[]⟩, .slice none 0 0] rfl rfl 25 zT HR5.out.h2 (infoTM' _ rfl) rfl (by simp [Value.oneCell']) ?_
              have HZ := Lib.hid (And.intro (setRow_heap w5 (w.heap.size + 1) zT #[.int .i8 0, .int .i64 0, .string ⟨#[]⟩, .string ⟨#[]⟩, .slice none 0 0] 25 (0, 0) HR5.out.h2) (bel_setRow HR5.out.hb HR5.out.hb.size (Nat.le_succ _) #[.int .i8 0, .int .i64 0, .string ⟨#[]⟩, .string ⟨#[]⟩, .slice none 0 0]))
              generalize World.setRow w5 (w.heap.size + 1) #[.int .i8 0, .int .i64 0, .string ⟨#[]⟩, .string ⟨#[]⟩, .slice none 0 0] = W9 at *
              clear HR5
              go_wp2_with fail
              exact ret_call HZ.out.1 rfl Tryz.underlying25 rfl (infoTM' _ rfl) rfl rfl rfl rfl ⟨numT 0 0, 0, 0, false, rfl, numT_ok _ _ _ _ (by omega) (by omega), HZ.out.2, HE.out, fun _ => rfl⟩
          · have q3 : (p.k != 4) = true := by simp [h5]
            have HE := Lib.hid (show callP x.t = (if false then some (0, 0, (numT 0 0).t) else none) by rw [HE5.out, if_neg (fun h => h5 h.1)]; rfl)
            clear HE5 h5
            go_wp2_with (with_reducible refine stop_op (o := ⟨_, .store 25 (.tmp 4) (.tmp 45), _, _, _, _⟩) ?_)
            refine Lib.hid ?_
            refine wpList_store_row (o := ⟨none, _, _, _, _, _⟩) rfl 25 (.tmp 4) (.tmp 45) rfl (w.heap.size + 1) #[.int .i8 0, .int .i64 0, .string ⟨#[]⟩, .string ⟨#[]⟩, .slice none 0 0] rfl rfl 25 zT HR5.out.h2 (infoTM' _ rfl) rfl (by simp [Value.oneCell']) ?_
            have HZ := Lib.hid (And.intro (setRow_heap w5 (w.heap.size + 1) zT #[.int .i8 0, .int .i64 0, .string ⟨#[]⟩, .string ⟨#[]⟩, .slice none 0 0] 25 (0, 0) HR5.out.h2) (bel_setRow HR5.out.hb HR5.out.hb.size (Nat.le_succ _) #[.int .i8 0, .int .i64 0, .string ⟨#[]⟩, .string ⟨#[]⟩, .slice none 0 0]))
            generalize World.setRow w5 (w.heap.size + 1) #[.int .i8 0, .int .i64 0, .string ⟨#[]⟩, .string ⟨#[]⟩, .slice none 0 0] = W9 at *
            clear HR5
            go_wp2_with fail
            exact ret_call HZ.out.1 rfl Tryz.underlying25 rfl (infoTM' _ rfl) rfl rfl rfl rfl ⟨numT 0 0, 0, 0, false, rfl, numT_ok _ _ _ _ (by omega) (by omega), HZ.out.2, HE.out, fun _ => rfl⟩
        · have q3 : ((f.l.length : Int) != 2) = true := by simp; omega
          have HE := Lib.hid (show callP x.t = (if false then some (0, 0, (numT 0 0).t) else none) by
            rw [HE4.out]
            match hq : f.t.l with
            | [] => simp
            | [_] => simp
            | [_, _] => exact absurd (show f.l.length = 2 by rw [show f.l = _ from hq]; rfl) h4
            | _ :: _ :: _ :: _ => simp)
          clear HE4 h3 h4 HEE
          go_wp2_with (with_reducible refine stop_op (o := ⟨_, .store 25 (.tmp 4) (.tmp 45), _, _, _, _⟩) ?_)
          refine Lib.hid ?_
          refine wpList_store_row (o := ⟨none, _, _, _, _, _⟩) rfl 25 (.tmp 4) (.tmp 45) rfl (w.heap.size + 1) #[.int .i8 0, .int .i64 0, .string ⟨#[]⟩, .string ⟨#[]⟩, .slice none 0 0] rfl rfl 25 zT HR5.out.h2 (infoTM' _ rfl) rfl (by simp [Value.oneCell']) ?_
          have HZ := Lib.hid (And.intro (setRow_heap w5 (w.heap.size + 1) zT #[.int .i8 0, .int .i64 0, .string ⟨#[]⟩, .string ⟨#[]⟩, .slice none 0 0] 25 (0, 0) HR5.out.h2) (bel_setRow HR5.out.hb HR5.out.hb.size (Nat.le_succ _) #[.int .i8 0, .int .i64 0, .string ⟨#[]⟩, .string ⟨#[]⟩, .slice none 0 0]))
          generalize World.setRow w5 (w.heap.size + 1) #[.int .i8 0, .int .i64 0, .string ⟨#[]⟩, .string ⟨#[]⟩, .slice none 0 0] = W9 at *
          clear HR5
          go_wp2_with fail
          exact ret_call HZ.out.1 rfl Tryz.underlying25 rfl (infoTM' _ rfl) rfl rfl rfl rfl ⟨numT 0 0, 0, 0, false, rfl, numT_ok _ _ _ _ (by omega) (by omega), HZ.out.2, HE.out, fun _ => rfl⟩
      · have q3 : (f.k != 5) = true := by simp [h3]
        have HE := Lib.hid (show callP x.t = (if false then some (0, 0, (numT 0 0).t) else none) by rw [HEE.out, if_neg (show ¬ f.t.k = 5 from h3)]; rfl)
        clear HEE h3
        go_wp2_with (with_reducible refine stop_op (o := ⟨_, .store 25 (.tmp 4) (.tmp 45), _, _, _, _⟩) ?_)
        refine Lib.hid ?_
        refine wpList_store_row (o := ⟨none, _, _, _, _, _⟩) rfl 25 (.tmp 4) (.tmp 45) rfl (w.heap.size + 1) #[.int .i8 0, .int .i64 0, .string ⟨#[]⟩, .string ⟨#[]⟩, .slice none 0 0] rfl rfl 25 zT HR5.out.h2 (infoTM' _ rfl) rfl (by simp [Value.oneCell']) ?_
        have HZ := Lib.hid (And.intro (setRow_heap w5 (w.heap.size + 1) zT #[.int .i8 0, .int .i64 0, .string ⟨#[]⟩, .string ⟨#[]⟩, .slice none 0 0] 25 (0, 0) HR5.out.h2) (bel_setRow HR5.out.hb HR5.out.hb.size (Nat.le_succ _) #[.int .i8 0, .int .i64 0, .string ⟨#[]⟩, .string ⟨#[]⟩, .slice none 0 0]))
        generalize World.setRow w5 (w.heap.size + 1) #[.int .i8 0, .int .i64 0, .string ⟨#[]⟩, .string ⟨#[]⟩, .slice none 0 0] = W9 at *
        clear HR5
        go_wp2_with fail
        exact ret_call HZ.out.1 rfl Tryz.underlying25 rfl (infoTM' _ rfl) rfl rfl rfl rfl ⟨numT 0 0, 0, 0, false, rfl, numT_ok _ _ _ _ (by omega) (by omega), HZ.out.2, HE.out, fun _ => rfl⟩
  · have q1 : (c != 0) = true := by simp [hc0]
    have HE := Lib.hid (show callP x.t = (if false then some (0, 0, (numT 0 0).t) else none) by rw [HCN.out.1 hc0]; rfl)
    clear hc0
    go_wp2_with (with_reducible refine stop_op (o := ⟨_, .store 25 (.tmp 4) (.tmp 15), _, _, _, _⟩) ?_)
    refine Lib.hid ?_
    refine wpList_store_row (o := ⟨none, _, _, _, _, _⟩) rfl 25 (.tmp 4) (.tmp 15) rfl (w.heap.size + 1) #[.int .i8 0, .int .i64 0, .string ⟨#[]⟩, .string ⟨#[]⟩, .slice none 0 0] rfl rfl 25 zT HR.out.h2 (infoTM' _ rfl) rfl (by simp [Value.oneCell']) ?_
    have HZ := Lib.hid (And.intro (setRow_heap w3 (w.heap.size + 1) zT #[.int .i8 0, .int .i64 0, .string ⟨#[]⟩, .string ⟨#[]⟩, .slice none 0 0] 25 (0, 0) HR.out.h2) (bel_setRow HR.out.hb HR.out.hb.size (Nat.le_succ _) #[.int .i8 0, .int .i64 0, .string ⟨#[]⟩, .string ⟨#[]⟩, .slice none 0 0]))
    generalize World.setRow w3 (w.heap.size + 1) #[.int .i8 0, .int .i64 0, .string ⟨#[]⟩, .string ⟨#[]⟩, .slice none 0 0] = W9 at *
    clear HR
    go_wp2_with fail
    exact ret_call HZ.out.1 rfl Tryz.underlying25 rfl (infoTM' _ rfl) rfl rfl rfl rfl ⟨numT 0 0, 0, 0, false, rfl, numT_ok _ _ _ _ (by omega) (by omega), HZ.out.2, HE.out, fun _ => rfl⟩
end Go.Proofs.YthpmdeofdlcccaaGreatDoor
