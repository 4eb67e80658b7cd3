/- the reference's Copies of any row of frames. Conditions: the frames read, their rows are not too long; at most 10000 frames. -/
import Derived.Test.YtemgnljegbaobaaDoorOg
namespace Go.Proofs.YtemgnljegbaobaaDoor
open Go.ChangeShapes Go.WideShapes Go.ChangeAt Go.RowKit
set_option linter.unusedVariables false
set_option linter.unusedSimpArgs false
set_option maxRecDepth 100000
structure CpI (w wr : World) (L : List Fm) (ov : Value) (M : List Fm) : Prop where
  hb : Below w.heap.size w wr
  own : wr.ownsRow w.heap.size 45 35 ov M.length (frs M)
  cp : Cp (L.take M.length) M
  fr : ∀ f ∈ M, FrX wr f.cs f.X ∧ ∀ k, k < w.heap.size ∨ ov.ownBlock = some k → FrN k f.cs
theorem CpI.step {w wr w1 W2 Wn : World} {L M : List Fm} {ov v' : Value} {f : Fm} {cs' : Array Value} (h : CpI w wr L ov M) (hf : L[M.length]? = some f) (hb1 : Below wr.heap.size wr w1) (q1 : FrX w1 cs' f.X) (q2 : SBR f.cs cs')
    (q4 : ∀ k, k < wr.heap.size → FrN k cs') (hba : Below w1.heap.size w1 W2) (hg : W2.grownBy Wn ov.ownBlock) (hown : Wn.ownsRow w.heap.size 45 35 v' (M.length + 1) (frs M ++ cs'.toList)) (hwh : v'.ownBlock = ov.ownBlock ∨ v'.ownBlock = some W2.heap.size) :
    CpI w Wn L v' (M ++ [⟨cs', f.X⟩]) := by
  have hcg := chg_grown hg
  have hB := h.hb.trans ((hb1.trans (hba.mono hb1.size)).mono h.hb.size)
  have hlt : ∀ k, ov.ownBlock = some k → k < wr.heap.size := own_lt h.own (Nat.le_refl _)
  have hs := h.hb.size
  refine ⟨hB.trans (hcg.below (B := w.heap.size) hB.size (fun k e => own_base h.own _ e.symm)), ?_, ?_, ?_⟩
  · rw [frs_snoc, List.length_append]
    exact hown
  · have e : L.take (M ++ [(⟨cs', f.X⟩ : Fm)]).length = L.take M.length ++ [f] := by rw [List.length_append]; show L.take (M.length + 1) = _; rw [List.take_add_one, hf]; rfl
    rw [e]
    exact h.cp.snoc rfl q2
  · intro g hg'
    rcases List.mem_append.1 hg' with hg' | hg'
    · obtain ⟨h1, h2⟩ := h.fr g hg'
      have h3 := (h1.keep hb1).keep hba
      refine ⟨h3.chg hcg (fun k e => h2 k (.inr e.symm)), fun k hk => ?_⟩
      rcases hk with hk | hk
      · exact h2 k (.inl hk)
      · rcases hwh with hw | hw
        · exact h2 k (.inr (hw ▸ hk))
        · have : W2.heap.size = k := Option.some.inj (hw.symm.trans hk)
          exact h3.old (by omega)
    · obtain rfl := List.mem_singleton.1 hg'
      have h3 := q1.keep hba
      refine ⟨h3.chg hcg (fun k e => q4 k (hlt k e.symm)), fun k hk => ?_⟩
      rcases hk with hk | hk
      · exact q4 k (by omega)
      · rcases hwh with hw | hw
        · exact q4 k (hlt k (hw ▸ hk))
        · have : W2.heap.size = k := Option.some.inj (hw.symm.trans hk)
          exact h3.old (by omega)
set_option maxHeartbeats 8000000 in
theorem copies_any (w : World) (v : Value) (L : List Fm) (h : St w v L) (hn : L.length ≤ 10000) (hX : ∀ g ∈ L, g.X.ok) : Calls Tryd.prog 22 #[v] w (StackP w L) := by
  obtain ⟨ao, c, rfl, hc1, hc2⟩ := h.row.slice
  have HL := Lib.hid h
  have HX := Lib.hid hX
  clear h hX
  go_enter Tryd.func22, Tryd.ntmps22
  go_wp2_with fail
  go_loopw [3, 4] (fun ov jw wr => ∃ M : List Fm, ∃ oo oc, ov = .slice oo M.length oc ∧ jw = .int .i64 M.length ∧ M.length ≤ L.length ∧ Hid (CpI w wr L ov M)) (fun _ jw _ => L.length - (intOf jw).toNat)
  case atStart => exact ⟨[], none, 0, rfl, rfl, Nat.zero_le _, Lib.hid ⟨Below.refl _ _, World.ownsRow_nil _ _ _ _, Cp.refl [], fun f hf => by cases hf⟩⟩
  case round =>
    obtain ⟨M, oo, oc, rfl, rfl, hle, HI⟩ := hrel
    by_cases hlt : M.length < L.length
    · obtain ⟨f, hf⟩ : ∃ f, L[M.length]? = some f := ⟨L[M.length], List.getElem?_eq_getElem hlt⟩
      obtain ⟨b, off, c', he, hr, hsz, hfr⟩ := (HL.out.keep HI.out.hb).range hf
      injection he with e1 e2 e3
      subst e1 e3
      clear e2
      have HR := Lib.hid (And.intro hr (And.intro hsz hfr))
      have HF := Lib.hid hf
      clear hr hsz hfr hf
      go_wp2_with (with_reducible refine stop_op (o := ⟨_, .load 45 (.tmp 14), _, _, _, _⟩) ?_)
      refine Lib.hid ?_
      refine wpList_load_mid (op := ⟨_, _, _, _, _, _⟩) rfl 45 (.tmp 14) rfl b (off + M.length * 35) rfl f.cs.toList _ HR.out.1 Tryd.underlying45 rfl ((infoFR HR.out.2.1).trans (by simp)) ?_
      rw [show f.cs.toList.toArray = f.cs from rfl]
      have HO := Lib.hid (rcopy_any wr f.cs f.X HR.out.2.2 (HX.out f (List.mem_of_getElem? HF.out)))
      go_wp2_with fail
      refine HO.out.mono ?_
      rintro e w1 ⟨cs', rfl, q1, q2, hb1, q4⟩
      have H1 := Lib.hid (And.intro q1 (And.intro q2 (And.intro hb1 q4)))
      clear HO q1 q2 hb1 q4
      go_wp2_with (with_reducible refine stop_op (o := ⟨_, .buildSlice 24 1 #[(0, .tmp 16)], _, _, _, _⟩) ?_)
      refine Lib.hid ?_
      refine wpList_plain rfl fun K hK => ?_
      go_simp
      rw [if_neg (by have := H1.out.1.size; simp [this])]
      rw [fold_zip _ _ (by rw [H1.out.1.size]; rfl)]
      go_simp
      refine hK _ _ ?_
      clear hK K
      have hba := (Below.refl w1.heap.size w1).alloc (Nat.le_refl _) (.cells cs' 45)
      have hna := heap_new w1 (.cells cs' 45)
      have HA := Lib.hid (And.intro hba hna)
      clear hba hna
      go_wp2_with (with_reducible refine stop_op (o := ⟨_, .call { callee := .builtin .append, args := #[.tmp 11, .tmp 17], argTypes := #[24, 24] }, _, _, _, _⟩) ?_)
      generalize w1.alloc (.cells cs' 45) = W2 at *
      obtain ⟨i0, z0, i1, i2, i3, i4, i5⟩ := info_of (P := Tryd.prog) (e := 45) 35 (by kernel_rfl)
      have hbs := H1.out.2.2.1.size
      have hbs2 := HA.out.1.size
      have hws := HI.out.hb.size
      have hO2 := own_keep (own_keep HI.out.own H1.out.2.2.1) HA.out.1
      refine Lib.hid ?_
      refine wpList_append_own2 (o := ⟨_, _, _, _, _, _⟩) rfl (.tmp 11) (.tmp 17) 24 rfl w.heap.size 45 i0 z0 35 i0.bytes Tryd.underlying24 i1 i2 i3 rfl i5 (by decide) (.slice oo M.length oc) M.length (frs M) rfl hO2 ⟨w1.heap.size, 0, none⟩ 1 1 cs'.toList rfl (by simp [H1.out.1.size]) (fun j u hj => by
        rw [Addr.add_lit, Nat.zero_add]
        exact (cells_at HA.out.2 j u (by simpa using hj)).1) (fun u hu => by
        have := H1.out.1.one
        rw [Array.all_eq_true_iff_forall_mem] at this
        exact this u (by simpa using hu)) (by unfold maxLen; omega) (le_bytes (by omega) i4) (by omega) ?_
      intro v' Wn hown hg hwh
      obtain ⟨uo, uc, rfl⟩ := own_slice hown
      have HN := Lib.hid (HI.out.step HF.out H1.out.2.2.1 H1.out.1 H1.out.2.1 H1.out.2.2.2 HA.out.1 hg hown hwh)
      clear hown hg hwh hO2 hbs hbs2 hws HI H1 HA HR i1 i2 i3 i4 i5
      go_wp2_with fail
      go_roundw
      case rel => exact ⟨M ++ [⟨cs', f.X⟩], uo, uc, by rw [List.length_append]; rfl, by rw [List.length_append]; go_num, by rw [List.length_append]; exact hlt, HN⟩
      case measure => simp [intOf]; omega
    · have hE : M.length = L.length := by omega
      have hlt' : ¬ ((M.length : Int) < (L.length : Int)) := by omega
      have HS : Hid (wr.ownsRow w.heap.size 45 35 (.slice oo L.length oc) L.length (frs M) ∧ ∀ f ∈ M, FrX wr f.cs f.X ∧ ∀ k, k < w.heap.size ∨ (Value.slice oo L.length oc).ownBlock = some k → FrN k f.cs) := Lib.hid (by rw [← hE]; exact ⟨HI.out.own, HI.out.fr⟩)
      go_wp2_with fail
      go_ret
      have := HI.out.cp
      rw [hE, List.take_length] at this
      exact ⟨_, M, rfl, HS.out.1, this, HS.out.2, HI.out.hb⟩
end Go.Proofs.YtemgnljegbaobaaDoor
