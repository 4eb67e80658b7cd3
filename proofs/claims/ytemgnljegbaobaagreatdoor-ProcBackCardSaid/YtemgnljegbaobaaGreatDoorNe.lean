/- proc.frames: a stack in new memory. Conditions: the frames read, their rows are not too long. -/
import Derived.Test.YtemgnljegbaobaaGreatDoorNd
namespace Go.Proofs.YtemgnljegbaobaaGreatDoor
open Go.ChangeShapes Go.WideShapes Go.ChangeAt Go.RowKit
set_option linter.unusedVariables false
set_option linter.unusedSimpArgs false
set_option maxRecDepth 100000
theorem St.nil (w : World) : St w (.slice none 0 0) [] := ⟨Rw.nil w 35, fun f hf => by cases hf⟩
theorem St.own {w : World} {B n : Nat} {v : Value} {L : List Fm} (h : w.ownsRow B 65 35 v n (frs L)) (hn : n = L.length) (hf : ∀ f ∈ L, FrX w f.cs f.X) : St w v L := by
  subst hn
  refine ⟨Rw_own h fun u hu => ?_, hf⟩
  simp only [frs, List.mem_flatMap] at hu
  obtain ⟨g, hg1, hg2⟩ := hu
  have := (hf g hg1).one
  rw [Array.all_eq_true_iff_forall_mem] at this
  exact this u (by simpa using hg2)
def FramesP (w : World) (L : List Fm) (e : Ending) (w' : World) : Prop := ∃ v' L', e = .returned v' ∧ St w' v' L' ∧ Cp L L' ∧ Below w.heap.size w w' ∧ (∀ k, v'.ownBlock = some k → w.heap.size ≤ k) ∧ ∀ k, k < w.heap.size → (∀ f ∈ L, FrN k f.cs) → ∀ f ∈ L', FrN k f.cs
structure FrI (w wr : World) (L : List Fm) (ov : Value) (M : List Fm) : Prop where
  hb : Below w.heap.size w wr
  st : St wr ov M
  le : M.length ≤ L.length
  cp : Cp (L.take M.length) M
  ob : ∀ k, ov.ownBlock = some k → w.heap.size ≤ k
  ap : ∀ k, k < w.heap.size → ∀ f ∈ M, FrN k f.cs
set_option maxHeartbeats 8000000 in
theorem frames_any (w : World) (v : Value) (L : List Fm) (h : St w v L) (hn : L.length ≤ 10000) (hX : ∀ g ∈ L, g.X.ok) : Calls Tryz.prog 59 #[v] w (FramesP w L) := by
  obtain ⟨ao, c, rfl, hc1, hc2⟩ := h.row.slice
  have HL := Lib.hid h
  have HX := Lib.hid hX
  clear h hX
  have q24 : ∀ (w : World) (a : Option Addr) (n c n' c' : Nat), (binOp .eql 22 (.slice a n c) (.slice none n' c')).run Tryz.prog w = .ok (.bool a.isNone) w := fun w a n c n' c' => Lib.run_eql_slice_nil w _ _ a n c n' c' Tryz.underlying22
  go_enter Tryz.func59, Tryz.ntmps59
  go_wp2_with fail
  go_loopw [3] (fun ov wr => ∃ M : List Fm, ∃ oo oc, ov = .slice oo M.length oc ∧ M.length ≤ L.length ∧ Hid (FrI w wr L ov M)) (fun ov _ => L.length - lenS ov)
  case atStart => exact ⟨[], none, 0, rfl, Nat.zero_le _, Lib.hid ⟨Below.refl _ _, St.nil _, Nat.zero_le _, Cp.refl [], (fun k hk => by cases hk), (fun k hk f hf => by cases hf)⟩⟩
  case round =>
    obtain ⟨M, oo, oc, rfl, hle, HI⟩ := hrel
    by_cases hlt : M.length < L.length
    · obtain ⟨f, hf⟩ : ∃ f, L[M.length]? = some f := ⟨L[M.length], List.getElem?_eq_getElem hlt⟩
      obtain ⟨b, off, c', he, hr, hsz, hfr⟩ := (HL.out.keep HI.out.hb).range hf
      injection he with e1 e2 e3
      subst e1 e3
      clear e2
      have HR := Lib.hid (And.intro hr (And.intro hsz hfr))
      have HF := Lib.hid hf
      clear hr hsz hfr hf
      go_wp2_with (with_reducible refine stop_op (o := ⟨_, .load 65 (.tmp 14), _, _, _, _⟩) ?_)
      refine Lib.hid ?_
      refine wpList_load_mid (op := ⟨_, _, _, _, _, _⟩) rfl 65 (.tmp 14) rfl b (off + M.length * 35) rfl f.cs.toList _ HR.out.1 Tryz.underlying65 rfl ((infoFR HR.out.2.1).trans (by simp)) ?_
      rw [show f.cs.toList.toArray = f.cs from rfl]
      have HO := Lib.hid (push_any wr _ M f HI.out.st HR.out.2.2 (by omega) (HI.out.cp.ok fun g hg => HX.out g (List.mem_of_mem_take hg)) (HX.out f (List.mem_of_getElem? HF.out)))
      go_wp2_with fail
      refine HO.out.mono ?_
      rintro e w1 ⟨hb1, ⟨h64, rfl⟩ | ⟨h64, v', M', rfl, st', cp', ob', ap'⟩⟩
      · have HLk := Lib.hid ((HL.out.keep HI.out.hb).keep hb1)
        have HB := Lib.hid (HI.out.hb.trans (hb1.mono HI.out.hb.size))
        clear HO HR HF hb1
        go_wp2_with fail
        refine (cloneF_any _ _ _ _ HLk.out.row (by omega)).mono ?_
        rintro e w2 ⟨v2, rfl, o2, hb2⟩
        have HE := Lib.hid (And.intro (St.own o2 rfl fun g hg => (HLk.out.fr g hg).keep hb2) (And.intro (HB.out.trans (hb2.mono HB.out.size)) (fun k hk => Nat.le_trans HB.out.size (own_base o2 k hk))))
        clear o2 hb2
        go_wp2_with fail
        go_ret
        exact ⟨_, L, rfl, HE.out.1, Cp.refl L, HE.out.2.1, HE.out.2.2, fun k hk h => h⟩
      · obtain ⟨vo, vc, rfl, hv1, hv2⟩ := st'.row.slice
        have hl' : M'.length = M.length + 1 := by rw [cp'.1]; simp
        obtain ⟨-, vb, voff, rfl, -⟩ := st'.row.at (by omega)
        have hI : FrI w w1 L (.slice (some ⟨vb, voff, none⟩) M'.length vc) M' := by
          have hs := HI.out.hb.size
          refine ⟨HI.out.hb.trans (hb1.mono HI.out.hb.size), st', by omega, ?_, fun k hk => Nat.le_trans hs (ob' k hk), fun k hk g hg => ap' g hg k (by omega)⟩
          rw [hl', List.take_add_one, HF.out]
          exact (HI.out.cp.snoc rfl (fun _ _ _ _ _ _ _ _ => rfl)).trans cp'
        have HI2 := Lib.hid hI
        rw [hl'] at hv1
        clear HO HR HF hb1 hI st' cp' HI ob' ap'
        rw [hl'] at HI2 ⊢
        go_wp2_with fail
        go_roundw
        case rel => exact ⟨M', _, _, by rw [hl'], by omega, HI2⟩
        case measure => simp [lenS]; omega
    · have hE : M.length = L.length := by omega
      have hlt' : ¬ ((M.length : Int) < (L.length : Int)) := by omega
      have hS : St wr (.slice oo L.length oc) M := by rw [← hE]; exact HI.out.st
      have HS := Lib.hid (And.intro hS (show ∀ k, (Value.slice oo L.length oc).ownBlock = some k → w.heap.size ≤ k by rw [← hE]; exact HI.out.ob))
      clear hS
      go_wp2_with fail
      go_ret
      have := HI.out.cp
      rw [hE, List.take_length] at this
      exact ⟨_, M, rfl, HS.out.1, this, HI.out.hb, HS.out.2, fun k hk _ => HI.out.ap k hk⟩
end Go.Proofs.YtemgnljegbaobaaGreatDoor
