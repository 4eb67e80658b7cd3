/- stop: Clone, walked. Conditions: at most 40 records. -/
import Derived.Test.YtjepiimggaiejaaPa
import Derived.Lib.SliceRun
namespace Go.Proofs.Ytjepiimggaiejaa
open Go.ChangeShapes Go.WideShapes Go.ChangeAt Go.RowKit
set_option linter.unusedVariables false
theorem infoRC2 : ∃ i z, Try.prog.info? 47 = some i ∧ i.zero = some z ∧ i.size = 13 ∧ i.bytes = 176 ∧ z.cells.size = 13 := by
  have h : (Try.prog.info? 47).map (fun i => (i.zero.map (fun z => z.cells.size), i.size, i.bytes)) = some (some 13, 13, 176) := by kernel_rfl
  cases hi : Try.prog.info? 47 with
  | none => rw [hi] at h; cases h
  | some i =>
    rw [hi] at h
    simp only [Option.map_some, Option.some.injEq, Prod.mk.injEq] at h
    obtain ⟨h1, h2, h3⟩ := h
    cases hz : i.zero with
    | none => rw [hz] at h1; cases h1
    | some z =>
      rw [hz] at h1
      exact ⟨i, z, rfl, hz, h2, h3, by simpa using h1⟩
def CloneP (w : World) (R : List Rc) (e : Ending) (w' : World) : Prop :=
  ∃ v, e = .returned v ∧ Below w.heap.size w w' ∧ w'.ownsRow w.heap.size 47 13 v R.length (rcs R)
set_option maxHeartbeats 1000000 in
theorem clone_any (w : World) (ao : Option Addr) (cap : Nat) (R : List Rc) (hR : R.length ≤ 40) (hr : RRow w ao R) (hn : ao = none → R = []) : Calls Try.prog 12 #[.slice ao R.length cap] w (CloneP w R) := by
  obtain ⟨i0, z, hi, hz0, hz1, hz2, hz3⟩ := infoRC2
  have hq := Lib.run_eql_slice_nil (P := Try.prog) w 22 47 ao R.length cap 0 0 Try.underlying22
  cases ao with
  | none =>
    obtain rfl := hn rfl
    simp only [Option.isNone_none, List.length_nil] at hq
    go_enter Try.func12, Try.ntmps12
    go_wp2_with fail
    go_ret
    exact ⟨_, rfl, Below.refl _ _, World.ownsRow_nil _ _ _ _⟩
  | some ad =>
    simp only [Option.isNone_some] at hq
    have hnews : ∀ j u, (rcs R)[j]? = some u → (w.alloc (.cells #[] 47)).cell? (ad.add j) = some u := by
      intro j u hj
      obtain ⟨r, h1, h2⟩ := rcs_split hj
      obtain ⟨b, off, e, hb, hc⟩ := hr _ r h1
      have h3 := hc _ _ h2
      injection e with e
      subst e
      rw [Addr.add_lit]
      have e2 : off + j / 13 * 13 + j % 13 = off + j := by omega
      rw [e2] at h3
      exact keep_cell h3 ((Below.refl _ _).alloc (Nat.le_refl _) _)
    have hone : ∀ u ∈ rcs R, u.oneCell' = true := by
      intro u hu
      obtain ⟨j, hj⟩ := List.getElem?_of_mem hu
      obtain ⟨r, h1, h2⟩ := rcs_split hj
      exact r.one u (List.mem_of_getElem? h2)
    have HN := Lib.hid hnews
    have HO := Lib.hid hone
    have HR := Lib.hid hr
    clear hnews hone hr
    go_enter Try.func12, Try.ntmps12
    go_wp2_with (at_builtin; refine stop_here ?_)
    refine Lib.hid ?_
    refine wpList_append_own2 rfl (.tmp 5) (.tmp 6) 22 rfl w.heap.size 47 i0 z 13 176 Try.underlying22 hi hz0 hz1 hz2 hz3 (by decide) _ 0 [] rfl (World.ownsRow_lit w #[] 0 (Nat.le_refl _) (by unfold maxLen; omega) rfl) ad R.length cap (rcs R) rfl (rcs_len R) HN.out HO.out (by unfold maxLen; omega) (by omega) (by simp) ?_
    intro v' W hown hg _
    obtain ⟨ao', cc, rfl⟩ := own_slice hown
    rw [List.nil_append, Nat.zero_add] at hown
    have hca : Chg (fun k => w.heap.size ≤ k) w W := (chg_alloc _ w (.cells #[] 47)).trans ((chg_grown hg).mono (fun k _ hk => by injection hk with hk; have e : k = w.heap.size := hk; omega))
    have HB := Lib.hid (hca.below (Nat.le_refl _) (fun k h => h))
    have HW := Lib.hid hown
    clear hown hg hca
    go_wp2_with fail
    go_ret
    exact ⟨_, rfl, HB.out, by simpa using HW.out⟩
end Go.Proofs.Ytjepiimggaiejaa
