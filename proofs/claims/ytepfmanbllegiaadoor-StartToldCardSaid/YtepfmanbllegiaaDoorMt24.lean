/- plain: what a machine comes back with tells who is done with. No conditions. -/
/- pleachlaw28.wakes. Conditions: the letters stand. -/
import Derived.Test.YtepfmanbllegiaaDoorMt23
import Derived.Test.YtepfmanbllegiaaDoorMt15
import Derived.Test.YtepfmanbllegiaaDoorMt16
import Derived.Test.YtepfmanbllegiaaDoorMt20
import Derived.Test.YtepfmanbllegiaaDoorMt21
namespace Go.Proofs.YtepfmanbllegiaaDoor
open Go.ChangeShapes Go.WideShapes Go.ChangeAt Go.RowKit
set_option linter.unusedVariables false
set_option linter.unusedSimpArgs false
set_option maxRecDepth 100000
theorem md_all : ∀ (l : List Tm) (n : Int), 1 ≤ n → okL l → n + nL l ≤ 256 → mdN l n = 0
  | [], n, _, _, h => by
    rw [nL] at h
    rw [mdN, if_neg (by omega)]
  | x :: l, n, h1, h2, h3 => by
    rw [okL] at h2
    rw [nL] at h3
    rw [mdN, ok_check h2.1 (by omega), if_neg (by decide), ok_size (by omega)]
    exact md_all l _ (by omega) h2.2 (by omega)
theorem nT_at (s : ByteArray) : nT (.mk 1 0 s ⟨#[]⟩ []) = 1 := by simp [nT, nL]
theorem okT_ok : okT okA := by rw [okA, okT]; exact ⟨by kernel_rfl, trivial⟩
theorem okT_er : okT errA := by rw [errA, okT]; exact ⟨by kernel_rfl, trivial⟩
theorem okT_lim : okT (.mk 1 0 limS ⟨#[]⟩ []) := by rw [okT]; exact ⟨by kernel_rfl, trivial⟩
theorem bk_ok {RL : List Rc} (hp : ∀ r ∈ RL, r.pid ≤ 576460752303423487) (hl : RL.length ≤ 100) {y : Tm} (h : y = tupS [okA, listT RL]) : y = .mk 5 0 ⟨#[]⟩ ⟨#[]⟩ (bkL false RL nilT) ∧ checkN y = 0 := by
  obtain ⟨h1, h2⟩ := list_ok hp
  have hL : okL [okA, listT RL] := by
    rw [okL, okL, okL]
    exact ⟨okT_ok, h1, trivial⟩
  have hn : nL [okA, listT RL] = 1 + (2 * RL.length + 1) := by
    rw [nL, nL, nL, h2, okA, nT_at]
  have hm : mdN [okA, listT RL] 1 = 0 := md_all _ _ (by omega) hL (by omega)
  have e : y = .mk 5 0 ⟨#[]⟩ ⟨#[]⟩ (bkL false RL nilT) := by
    rw [h]
    unfold tupS
    rw [if_pos hm]
    rfl
  refine ⟨e, ?_⟩
  rw [e]
  refine ok_check ?_ ?_
  · rw [okT]
    exact ⟨by kernel_rfl, hL⟩
  · have e2 : nT (.mk 5 0 ⟨#[]⟩ ⟨#[]⟩ (bkL false RL nilT)) = nL [okA, listT RL] + 1 := by
      rw [nT]
      rfl
    omega
theorem bk_err {RL : List Rc} (hp : ∀ r ∈ RL, r.pid ≤ 576460752303423487) (hl : RL.length ≤ 100) (t : Tm) {y : Tm} (h : y = tupS [errA, listT RL, t]) : ∃ r, y = .mk 5 0 ⟨#[]⟩ ⟨#[]⟩ (bkL true RL r) ∧ checkN y = 0 := by
  obtain ⟨h1, h2⟩ := list_ok hp
  have fin : ∀ r : Tm, okT r → 1 + nL [errA, listT RL, r] ≤ 256 → checkN (.mk 5 0 ⟨#[]⟩ ⟨#[]⟩ (bkL true RL r)) = 0 := fun r hr hn => by
    refine ok_check ?_ ?_
    · rw [okT]
      refine ⟨by kernel_rfl, ?_⟩
      show okL [errA, listT RL, r]
      rw [okL, okL, okL, okL]
      exact ⟨okT_er, h1, hr, trivial⟩
    · have e2 : nT (.mk 5 0 ⟨#[]⟩ ⟨#[]⟩ (bkL true RL r)) = nL [errA, listT RL, r] + 1 := by
        rw [nT]
        rfl
      omega
  by_cases hm : mdN [errA, listT RL, t] 1 = 0
  · obtain ⟨g1, g2⟩ := md_ok _ _ (by omega) hm
    rw [okL, okL, okL] at g1
    have e : y = .mk 5 0 ⟨#[]⟩ ⟨#[]⟩ (bkL true RL t) := by
      rw [h]
      unfold tupS
      rw [if_pos hm]
      rfl
    exact ⟨t, e, by rw [e]; exact fin t g1.2.2.1 (by omega)⟩
  · have hL : okL [errA, listT RL, .mk 1 0 limS ⟨#[]⟩ []] := by
      rw [okL, okL, okL, okL]
      exact ⟨okT_er, h1, okT_lim, trivial⟩
    have hn : nL [errA, listT RL, .mk 1 0 limS ⟨#[]⟩ []] = 1 + (2 * RL.length + 1) + 1 := by
      rw [nL, nL, nL, nL, h2, errA, nT_at, nT_at]
      omega
    have hm2 : mdN (limL [errA, listT RL, t]) 1 = 0 := md_all [errA, listT RL, .mk 1 0 limS ⟨#[]⟩ []] _ (by omega) hL (by omega)
    have e : y = .mk 5 0 ⟨#[]⟩ ⟨#[]⟩ (bkL true RL (.mk 1 0 limS ⟨#[]⟩ [])) := by
      rw [h]
      unfold tupS
      rw [if_neg hm, if_pos hm2]
      rfl
    exact ⟨_, e, by rw [e]; exact fin _ okT_lim (by omega)⟩
/-- what an effect that comes back tells -/
def BkE (RL : List Rc) (a : Fa) (m m' : Mm) (RL' : List Rc) (N : Nat → Prop) (w' : World) (e : Ef) : Prop :=
  e.kd = 11 → ∃ y er D r, e = backE y ∧ TeOk N w' y ∧ y.t = .mk 5 0 ⟨#[]⟩ ⟨#[]⟩ (bkL er D r) ∧ checkN y.t = 0 ∧ (er = false → (doneL a m' RL').length = RL.length) ∧ ((m.ph = 4 ∧ er = true ∧ D = []) ∨ (m.ph ≠ 4 ∧ D = doneL a m' RL')) ∧ D.length ≤ 100 ∧ ∀ r ∈ D, r.pid ≤ 576460752303423487
theorem BkE.not {RL : List Rc} {a : Fa} {m m' : Mm} {RL' : List Rc} {N : Nat → Prop} {w' : World} {e : Ef} (h : e.kd ≠ 11) : BkE RL a m m' RL' N w' e := fun hk => absurd hk h
theorem fa_told {RL : List Rc} {a : Fa} {m m' : Mm} {x : TE} {N : Nat → Prop} {w' : World} {E1 : List Ef} (h : FaQ RL m x N w' m' E1) (ha : a.k = 4) (h0 : 0 ≤ m.n) (h1 : m.n ≤ (RL.length : Int)) (hph : m.ph ≠ 4) (hl : RL.length ≤ 100) (hp : ∀ r ∈ RL, r.pid ≤ 576460752303423487) : ∀ e ∈ E1, BkE RL a m m' RL N w' e := by
  rcases h with ⟨-, rfl, y, rfl, hy, hyo⟩ | ⟨-, -, rfl⟩
  · intro e he
    simp only [List.mem_cons, List.not_mem_nil, or_false] at he
    subst he
    intro _
    have hp' : ∀ r ∈ RL.take m.n.toNat, r.pid ≤ 576460752303423487 := fun r hr => hp r (List.mem_of_mem_take hr)
    have hl' : (RL.take m.n.toNat).length ≤ 100 := by rw [List.length_take]; omega
    obtain ⟨r, e1, e2⟩ := bk_err hp' hl' x.t hy
    exact ⟨y, true, RL.take m.n.toNat, r, rfl, hyo, e1, e2, (fun h => by cases h), .inr ⟨hph, by unfold doneL; rw [if_pos ⟨ha, h0, h1⟩]⟩, hl', hp'⟩
  · intro e he
    simp at he
theorem told_all {RL RL' : List Rc} {a : Fa} {m m' : Mm} {i : Im} {ML : List It} {N : Nat → Prop} {w' : World} {E1 : List Ef} (h : SrQ a RL i ML m N w' m' E1 RL') (hrs : m.rs.n = RL.length) (hl : RL.length ≤ 100) (hp : ∀ r ∈ RL, r.pid ≤ 576460752303423487) : ∀ e ∈ E1, BkE RL a m m' RL' N w' e := by
  rcases h with ⟨-, rfl, rfl, rfl⟩ | ⟨hf, rs1, h⟩
  · intro e he
    simp only [List.mem_cons, List.not_mem_nil, or_false] at he
    subst he
    exact .not (by decide)
  · obtain ⟨k1, k2, k3, k4, k5, -, -⟩ := finB_iff.1 hf
    rw [hrs] at k5
    rcases h with ⟨h0, h, rfl⟩ | ⟨h0, h⟩ | ⟨h0, h⟩ | ⟨h0, h, rfl⟩ | ⟨h0, h1, h, rfl⟩
    · have h0 : m.ph = 0 := h0
      rcases h with ⟨g1, rfl, y, rfl, g3, g4⟩ | ⟨-, -, r, -, rfl⟩
      · intro e he
        simp only [List.mem_cons, List.not_mem_nil, or_false] at he
        subst he
        intro _
        obtain ⟨e1, e2⟩ := bk_ok hp hl g3
        have g1 : m.n = (RL'.length : Int) := g1
        have hd : doneL a { m with rs := rs1 } RL' = RL' := by
          unfold doneL
          rw [if_pos ⟨k1, k4, k5⟩]
          show RL'.take m.n.toNat = RL'
          rw [g1, Int.toNat_natCast, List.take_length]
        exact ⟨y, false, RL', nilT, rfl, g4, e1, e2, fun _ => by rw [hd], .inr ⟨by omega, hd.symm⟩, hl, hp⟩
      · intro e he
        simp only [List.mem_cons, List.not_mem_nil, or_false] at he
        subst he
        exact .not (by show (3 : Int) ≠ 11; decide)
    · have h0 : m.ph = 1 := h0
      rcases h with ⟨-, ⟨-, -, h, -⟩ | ⟨-, -, h, -⟩⟩ | ⟨-, h, rfl⟩
      · intro e he
        rw [h] at he
        simp at he
      · intro e he
        rw [h] at he
        simp at he
      · exact fa_told (m := { m with rs := rs1 }) h k1 k4 k5 (by show m.ph ≠ 4; omega) hl hp
    · have h0 : m.ph = 2 := h0
      obtain ⟨j, it, E2, -, -, -, rfl, h⟩ := h
      intro e he
      rcases List.mem_cons.1 he with rfl | he
      · exact .not (by show (9 : Int) ≠ 11; decide)
      · rcases h with ⟨-, -, -, h, -⟩ | ⟨-, -, E3, rfl, h⟩ | ⟨-, -, -, E3, rfl, x, h, rfl, -, -⟩
        · rw [h] at he
          simp at he
        · rcases List.mem_cons.1 he with rfl | he
          · exact .not (by show (5 : Int) ≠ 11; decide)
          · rcases h with ⟨-, -, h, -⟩ | ⟨-, x, h, rfl, -, -⟩
            · rw [h] at he
              simp at he
            · exact fa_told (m := { m with rs := rs1 }) h k1 k4 k5 (by show m.ph ≠ 4; omega) hl hp e he
        · rcases List.mem_cons.1 he with rfl | he
          · exact .not (by show (5 : Int) ≠ 11; decide)
          · exact fa_told (m := { m with rs := rs1 }) h k1 k4 k5 (by show m.ph ≠ 4; omega) hl hp e he
    · obtain ⟨-, b, mm, rfl⟩ := h
      intro e he
      simp only [List.mem_cons, List.not_mem_nil, or_false] at he
      subst he
      exact .not (by show (10 : Int) ≠ 11; decide)
    · have h0 : m.ph = 4 := h0
      obtain ⟨-, ⟨-, y, rfl, hy, hyo⟩ | ⟨-, rfl⟩⟩ := h
      · intro e he
        simp only [List.mem_cons, List.not_mem_nil, or_false] at he
        subst he
        intro _
        obtain ⟨r, e1, e2⟩ := bk_err (RL := []) (fun r hr => by simp at hr) (by simp) _ hy
        exact ⟨y, true, [], r, rfl, hyo, e1, e2, (fun h => by cases h), .inl ⟨h0, rfl, rfl⟩, by simp, fun r hr => by simp at hr⟩
      · intro e he
        simp at he
/-- the pid of a frame that reads -/
theorem pid_of {H : Type} {enc : TypeId × Value → H} {W : World} {a : Fa} {m : Mm} {d0 : DataW H} {p0 : List MemPlace} (h0 : DataW.Trod enc Tryd.prog W 0 (fun _ => true) true 36 (.agg (flL a m).toArray) d0 p0) : -9223372036854775808 ≤ m.pid ∧ m.pid ≤ 9223372036854775807 := by
  obtain ⟨fuel, hf⟩ := h0
  obtain ⟨h1, hj⟩ := flat_trod 6 36 frTL _ _ _ flat_FR hf
  obtain ⟨u9, n9, y9, c9, -, r9⟩ := hj 9 _ rfl
  obtain ⟨a9, rfl, w9⟩ := leaf_int Tryd.underlying3 r9
  have e : a9 = m.pid := by
    have c9 : some (Value.int .i64 m.pid) = some (.int .i64 a9) := c9
    injection c9 with c9
    injection c9 with _ c9
    exact c9.symm
  subst e
  exact bd w9
end Go.Proofs.YtepfmanbllegiaaDoor
namespace Go.Proofs.YtepfmanbllegiaaDoor
open Go.ChangeShapes Go.WideShapes Go.ChangeAt Go.RowKit
set_option linter.unusedVariables false
set_option linter.unusedSimpArgs false
set_option maxRecDepth 100000
def im1 : Im := ⟨0, 1, slZ, 0, false, numT 0 0, 0⟩
def im7 : Im := ⟨0, 1, slZ, 0, false, numT 0 0, 7⟩
def r7 : Rc := ⟨r0.c, 7⟩
abbrev M00 : Nat → Prop := fun _ => False
theorem its_nil (w : World) : ItsOk M00 w (.slice slZ.o slZ.n slZ.c) [] := ⟨⟨none, 0, rfl, by simp, by omega, fun _ => rfl, fun i x h => by simp at h⟩, fun x h => by simp at h⟩
theorem mc_zero (w : World) : McOk M00 w mmZ [] := ⟨numT_ok _ _ _ _ (by decide) (by decide), rfl, by decide, by decide, .inl rfl⟩
theorem rc_of {w : World} {B : Nat} {rs : Sl} {L : List Rc} (hB : 1 ≤ B) (h : w.ownsRow B 46 13 (.slice rs.o rs.n rs.c) L.length (rcs L)) : RcAt M00 w rs L :=
  RcOwn.at (ub := 0) (own_lower h (b2 := 0 + 1) hB) (fun _ _ h => h)
theorem listT_nil : listT [] = nilT := rfl
theorem tup_ok0 : tupS [okA, listT []] = .mk 5 0 ⟨#[]⟩ ⟨#[]⟩ [okA, nilT] := (bk_ok (RL := []) (fun r h => by simp at h) (by simp) rfl).1
theorem tup_ok7 : tupS [okA, listT [r7]] = .mk 5 0 ⟨#[]⟩ ⟨#[]⟩ [okA, .mk 7 0 ⟨#[]⟩ ⟨#[]⟩ [pidT, nilT0]] := (bk_ok (RL := [r7]) (fun r h => by simp only [List.mem_cons, List.not_mem_nil, or_false] at h; subst h; decide) (by simp) rfl).1
theorem sr_nil {N : Nat → Prop} {w' : World} {m' : Mm} {E1 : List Ef} {RL' : List Rc} (h : SrQ faS [] im1 [] mmZ N w' m' E1 RL') : ∃ y, E1 = [backE y] ∧ y.t = .mk 5 0 ⟨#[]⟩ ⟨#[]⟩ [okA, nilT] ∧ TeOk N w' y := by
  rcases h with ⟨h | h | h, -⟩ | ⟨-, rs1, h⟩
  · exact absurd ((finB_iff (a := faS) (m := mmZ)).2 ⟨by decide, by decide, by decide, by decide, by decide, fun h => absurd h (by decide), fun h => absurd h (by decide)⟩) (by rw [h]; decide)
  · exact absurd h.1 (by decide)
  · exact absurd h.1 (by decide)
  · rcases h with ⟨-, h, -⟩ | ⟨h, -⟩ | ⟨h, -⟩ | ⟨h, -⟩ | ⟨h, -⟩
    · rcases h with ⟨-, -, y, h1, h2, h3⟩ | ⟨h, -⟩
      · exact ⟨y, h1, h2.trans tup_ok0, h3⟩
      · exact False.elim (by have h : (0 : Int) < 0 := h; omega)
    · exact False.elim (by have h : (0 : Int) = 1 := h; omega)
    · exact False.elim (by have h : (0 : Int) = 2 := h; omega)
    · exact False.elim (by have h : (0 : Int) = 3 := h; omega)
    · exact False.elim (by have h : (0 : Int) = 4 := h; omega)
theorem sr_one {N : Nat → Prop} {w' : World} {rs : Sl} {m' : Mm} {E1 : List Ef} {RL' : List Rc} (h : SrQ faS [r0] im1 [] { mmZ with ref := 1, rs := rs } N w' m' E1 RL') : ∃ rs1, m' = { mmZ with ref := 1, rs := rs1, ph := 1 } ∧ E1 = [spawnE r0.c] ∧ RL' = [r0] := by
  rcases h with ⟨h | h | h, -⟩ | ⟨-, rs1, h⟩
  · exact absurd ((finB_iff (a := faS) (m := { mmZ with ref := 1, rs := rs })).2 ⟨rfl, (by decide : (0 : Int) ≤ 0), (by decide : (0 : Int) ≤ 4), (by decide : (0 : Int) ≤ 0), by show (0 : Int) ≤ rs.n; omega, fun h => False.elim (by have h : (0 : Int) = 1 ∨ (0 : Int) = 2 := h; omega), fun h => False.elim (by have h : (0 : Int) = 4 := h; omega)⟩) (by rw [h]; decide)
  · exact False.elim (by have h : (0 : Int) = 2 := h.1; omega)
  · exact False.elim (by have h : (0 : Int) = 4 := h.1; omega)
  · rcases h with ⟨-, h, hr⟩ | ⟨h, -⟩ | ⟨h, -⟩ | ⟨h, -⟩ | ⟨h, -⟩
    · rcases h with ⟨h, -⟩ | ⟨-, h1, r, h2, h3⟩
      · exact False.elim (by have h : (0 : Int) = 1 := h; omega)
      · have e : r0 = r := by
          have : [r0][0]? = some r := h2
          simpa using this
        subst e
        exact ⟨rs1, h1, h3, hr⟩
    · exact False.elim (by have h : (0 : Int) = 1 := h; omega)
    · exact False.elim (by have h : (0 : Int) = 2 := h; omega)
    · exact False.elim (by have h : (0 : Int) = 3 := h; omega)
    · exact False.elim (by have h : (0 : Int) = 4 := h; omega)
theorem sr_two {N : Nat → Prop} {w' : World} {rs : Sl} {m' : Mm} {E1 : List Ef} {RL' : List Rc} (hn : rs.n = 1) (h : SrQ faS [r0] im7 [] { mmZ with ref := 1, rs := rs, ph := 1 } N w' m' E1 RL') : ∃ rs1, m' = { mmZ with ref := 1, rs := rs1, ph := 0, n := 1 } ∧ E1 = [] ∧ RL' = [r7] := by
  rcases h with ⟨h | h | h, -⟩ | ⟨-, rs1, h⟩
  · exact absurd ((finB_iff (a := faS) (m := { mmZ with ref := 1, rs := rs, ph := 1 })).2 ⟨rfl, (by decide : (0 : Int) ≤ 1), (by decide : (1 : Int) ≤ 4), (by decide : (0 : Int) ≤ 0), by show (0 : Int) ≤ rs.n; omega, fun h => by show (0 : Int) < rs.n; omega, fun h => False.elim (by have h : (1 : Int) = 4 := h; omega)⟩) (by rw [h]; decide)
  · exact False.elim (by have h : (1 : Int) = 2 := h.1; omega)
  · exact False.elim (by have h : (1 : Int) = 4 := h.1; omega)
  · rcases h with ⟨h, -⟩ | ⟨-, h⟩ | ⟨h, -⟩ | ⟨h, -⟩ | ⟨h, -⟩
    · exact False.elim (by have h : (1 : Int) = 0 := h; omega)
    · rcases h with ⟨-, ⟨-, h1, h2, r, h3, h4⟩ | ⟨⟨r, h3, h4⟩, -⟩⟩ | ⟨h, -⟩
      · have e : r0 = r := by
          have : [r0][0]? = some r := h3
          simpa using this
        subst e
        exact ⟨rs1, h1, h2, h4⟩
      · have e : r0 = r := by
          have : [r0][0]? = some r := h3
          simpa using this
        subst e
        exact absurd rfl h4
      · exact False.elim (by have h : (7 : Int) ≤ 0 := h; omega)
    · exact False.elim (by have h : (1 : Int) = 2 := h; omega)
    · exact False.elim (by have h : (1 : Int) = 3 := h; omega)
    · exact False.elim (by have h : (1 : Int) = 4 := h; omega)
theorem sr_three {N : Nat → Prop} {w' : World} {rs : Sl} {m' : Mm} {E1 : List Ef} {RL' : List Rc} (hn : rs.n = 1) (h : SrQ faS [r7] im1 [] { mmZ with ref := 1, rs := rs, ph := 0, n := 1 } N w' m' E1 RL') : ∃ y, E1 = [backE y] ∧ y.t = .mk 5 0 ⟨#[]⟩ ⟨#[]⟩ [okA, .mk 7 0 ⟨#[]⟩ ⟨#[]⟩ [pidT, nilT0]] ∧ TeOk N w' y := by
  rcases h with ⟨h | h | h, -⟩ | ⟨-, rs1, h⟩
  · exact absurd ((finB_iff (a := faS) (m := { mmZ with ref := 1, rs := rs, ph := 0, n := 1 })).2 ⟨rfl, (by decide : (0 : Int) ≤ 0), (by decide : (0 : Int) ≤ 4), (by decide : (0 : Int) ≤ 1), by show (1 : Int) ≤ rs.n; omega, fun h => False.elim (by have h : (0 : Int) = 1 ∨ (0 : Int) = 2 := h; omega), fun h => False.elim (by have h : (0 : Int) = 4 := h; omega)⟩) (by rw [h]; decide)
  · exact False.elim (by have h : (0 : Int) = 2 := h.1; omega)
  · exact False.elim (by have h : (0 : Int) = 4 := h.1; omega)
  · rcases h with ⟨-, h, -⟩ | ⟨h, -⟩ | ⟨h, -⟩ | ⟨h, -⟩ | ⟨h, -⟩
    · rcases h with ⟨-, -, y, h1, h2, h3⟩ | ⟨h, -⟩
      · exact ⟨y, h1, h2.trans tup_ok7, h3⟩
      · exact False.elim (by have h : (1 : Int) < 1 := h; omega)
    · exact False.elim (by have h : (0 : Int) = 1 := h; omega)
    · exact False.elim (by have h : (0 : Int) = 2 := h; omega)
    · exact False.elim (by have h : (0 : Int) = 3 := h; omega)
    · exact False.elim (by have h : (0 : Int) = 4 := h; omega)
theorem TermV.more {f : Nat} {w : World} {v : Value} {t : Tm} (h : TermV f w v t) : TermV (f + 1) w v t := by
  obtain ⟨h1, lv, h2, ao, cap, h3, h4, h5, h6⟩ := h
  exact ⟨h1, lv, h2, ao, cap, h3, h4, h5, fun i t hi => by
    obtain ⟨b, off, e, ha⟩ := h6 i t hi
    exact ⟨b, off, e, ha.more⟩⟩
/-- an effect that tells a term -/
theorem EfAt.back {w : World} {B : Nat} {v : Value} {y : TE} (h : EfAt w B v [backE y]) : ∃ b ec, v = .slice (some ⟨b, 0, none⟩) 1 ec ∧ w.cell? ⟨b, 3, none⟩ = some (.int .i8 y.k) ∧ w.cell? ⟨b, 4, none⟩ = some (.int .i64 y.n) ∧ w.cell? ⟨b, 5, none⟩ = some (.string y.s) ∧ w.cell? ⟨b, 6, none⟩ = some (.string y.u) ∧ w.cell? ⟨b, 7, none⟩ = some (.slice y.ao y.l.length y.cap) := by
  obtain ⟨eo, ec, h1, h2, h3, h4⟩ := h
  obtain ⟨b, rfl, -, c3⟩ := h4 3 _ rfl
  obtain ⟨b', e, -, c4⟩ := h4 4 _ rfl
  injection e with e; injection e with e; subst e
  obtain ⟨b', e, -, c5⟩ := h4 5 _ rfl
  injection e with e; injection e with e; subst e
  obtain ⟨b', e, -, c6⟩ := h4 6 _ rfl
  injection e with e; injection e with e; subst e
  obtain ⟨b', e, -, c7⟩ := h4 7 _ rfl
  injection e with e; injection e with e; subst e
  exact ⟨b, ec, h1, c3, c4, c5, c6, c7⟩
theorem EfAt.kind {w : World} {B : Nat} {v : Value} {x : Ef} (h : EfAt w B v [x]) : ∃ b ec, v = .slice (some ⟨b, 0, none⟩) 1 ec ∧ w.cell? ⟨b, 0, none⟩ = (efL x)[0]? := by
  obtain ⟨eo, ec, h1, h2, h3, h4⟩ := h
  obtain ⟨b, rfl, -, c3⟩ := h4 0 _ rfl
  exact ⟨b, ec, h1, c3⟩
/-- the law's worlds -/
def WkS (w W : World) : Prop := Below w.heap.size w W ∧ Cells W 0 letL
theorem WkS.keep {w W W' : World} (h : WkS w W) (hb : Below W.heap.size W W') : WkS w W' := ⟨h.1.trans (hb.mono h.1.size), keepCells h.2 hb⟩
def FRS (w : World) (p : Nat) (a : Fa) (m : Mm) : Prop := w.heap[p]? = some (.cells (flL a m).toArray 36 (0, 0))
set_option maxHeartbeats 16000000 in
theorem wakes_x (w : World) (hc : Cells w 0 letL) : Calls Tryd.prog 5 #[] w (IsPost w true) := by
  have H0 : Hid (WkS w w) := Lib.hid ⟨Below.refl _ _, hc⟩
  clear hc
  go_enter Tryd.func5, Tryd.ntmps5
  go_wp2_with fail
  refine (new_nil w).mono ?_
  rintro e w1 ⟨rfl, hb1⟩
  have H1 := Lib.hid (H0.out.keep hb1)
  clear H0 hb1
  go_wp2_with (with_reducible refine stop_op (o := ⟨_, .store 36 (.tmp 1) (.tmp 15), _, _, _, _⟩) ?_)
  refine Lib.hid ?_
  refine wpList_store_new (o := ⟨none, _, _, _, _, _⟩) rfl 36 (.tmp 1) (.tmp 15) rfl (flL faS mmZ).toArray rfl rfl (infoFR rfl) rfl (all_oneCell_toArray (flL_one _ _)) ?_
  have hbf := (Below.refl w1.heap.size w1).alloc (Nat.le_refl _) (.cells (flL faS mmZ).toArray 36)
  have HFR := Lib.hid (heap_new w1 (.cells (flL faS mmZ).toArray 36))
  have H2 := Lib.hid (H1.out.keep hbf)
  clear H1 hbf
  generalize w1.alloc (.cells (flL faS mmZ).toArray 36) = w2 at *
  generalize w1.heap.size = p1 at *
  go_wp2_with (with_reducible refine stop_op (o := ⟨_, .load 36 (.tmp 1), _, _, _, _⟩) ?_)
  refine Lib.hid ?_
  refine wpList_load_row (o := ⟨_, _, _, _, _, _⟩) rfl 36 (.tmp 1) rfl p1 rfl 36 (flL faS mmZ).toArray (0, 0) _ HFR.out Tryd.underlying36 rfl (infoFR rfl) ?_
  go_wp2_with fail
  refine (step_any M00 w2 (fun _ h => h.elim) H2.out.2 faS mmZ [] im1 [] (mc_zero _) (its_nil _) (by simp) (fun r h => by simp at h) (by decide)).mono ?_
  rintro e w3 ⟨m1, v1, E1, RL1, rfl, hb3, he1, -, hq⟩
  obtain ⟨y1, rfl, hy1, hyo1⟩ := sr_nil hq
  have H3 := Lib.hid (And.intro (H2.out.keep hb3) (And.intro he1 hyo1))
  have HY1 := Lib.hid hy1
  clear H2 hb3 he1 hq hy1 hyo1 HFR
  go_wp2_with (with_reducible refine stop_op (o := ⟨_, .store 36 (.tmp 3) (.tmp 21), _, _, _, _⟩) ?_)
  refine Lib.hid ?_
  refine wpList_store_new (o := ⟨none, _, _, _, _, _⟩) rfl 36 (.tmp 3) (.tmp 21) rfl (flL faS m1).toArray rfl rfl (infoFR rfl) rfl (all_oneCell_toArray (flL_one _ _)) ?_
  have hbf := (Below.refl w3.heap.size w3).alloc (Nat.le_refl _) (.cells (flL faS m1).toArray 36)
  have HFR := Lib.hid (heap_new w3 (.cells (flL faS m1).toArray 36))
  have H4 := Lib.hid (And.intro (H3.out.1.keep hbf) (And.intro (H3.out.2.1.keep hbf) (H3.out.2.2.keep hbf)))
  clear H3 hbf HFR
  generalize w3.alloc (.cells (flL faS m1).toArray 36) = w4 at *
  generalize w3.heap.size = p3 at *
  go_wp2_with fail
  refine (proc_x w4).mono ?_
  rintro e w5 ⟨rfl, hb5⟩
  have hb6 := (Below.refl w5.heap.size w5).alloc (Nat.le_refl _) (.cells #[.int .i8 1, .int .i64 0, .string ⟨#[97]⟩, .string ⟨#[]⟩, .slice none 0 0, .int .i8 1, .int .i8 0, .int .i64 5, .string ⟨#[109]⟩, .string ⟨#[102]⟩, .slice none 0 0, .slice none 0 0, .int .i64 0] 46)
  have H6 := Lib.hid (And.intro ((H4.out.1.keep hb5).keep hb6) (And.intro ((H4.out.2.1.keep hb5).keep hb6) ((H4.out.2.2.keep hb5).keep hb6)))
  have HR6 := Lib.hid (heap_new w5 (.cells #[.int .i8 1, .int .i64 0, .string ⟨#[97]⟩, .string ⟨#[]⟩, .slice none 0 0, .int .i8 1, .int .i8 0, .int .i64 5, .string ⟨#[109]⟩, .string ⟨#[102]⟩, .slice none 0 0, .slice none 0 0, .int .i64 0] 46))
  clear H4 hb5 hb6
  go_wp2_with fail
  generalize w5.alloc (.cells #[.int .i8 1, .int .i64 0, .string ⟨#[97]⟩, .string ⟨#[]⟩, .slice none 0 0, .int .i8 1, .int .i8 0, .int .i64 5, .string ⟨#[109]⟩, .string ⟨#[102]⟩, .slice none 0 0, .slice none 0 0, .int .i64 0] 46) = w6 at *
  generalize w5.heap.size = g at *
  refine (new_one w6 H6.out.1.2 g HR6.out).mono ?_
  rintro e w7 ⟨hb7, rs, rfl, hown7⟩
  have H7 := Lib.hid (And.intro (H6.out.1.keep hb7) (And.intro (H6.out.2.1.keep hb7) (And.intro (H6.out.2.2.keep hb7) (rc_of (w := w7) (rs := rs) (L := [r0]) (by omega) hown7))))
  clear H6 hb7 hown7 HR6
  go_wp2_with (with_reducible refine stop_op (o := ⟨_, .store 36 (.tmp 5) (.tmp 27), _, _, _, _⟩) ?_)
  refine Lib.hid ?_
  refine wpList_store_new (o := ⟨none, _, _, _, _, _⟩) rfl 36 (.tmp 5) (.tmp 27) rfl (flL faS { mmZ with ref := 1, rs := rs }).toArray rfl rfl (infoFR rfl) rfl (all_oneCell_toArray (flL_one _ _)) ?_
  have hbf := (Below.refl w7.heap.size w7).alloc (Nat.le_refl _) (.cells (flL faS { mmZ with ref := 1, rs := rs }).toArray 36)
  have HFR := Lib.hid (heap_new w7 (.cells (flL faS { mmZ with ref := 1, rs := rs }).toArray 36))
  have H8 := Lib.hid (And.intro (H7.out.1.keep hbf) (And.intro (H7.out.2.1.keep hbf) (And.intro (H7.out.2.2.1.keep hbf) (H7.out.2.2.2.keep hbf))))
  clear H7 hbf
  generalize w7.alloc (.cells (flL faS { mmZ with ref := 1, rs := rs }).toArray 36) = w8 at *
  generalize w7.heap.size = p5 at *
  go_wp2_with (with_reducible refine stop_op (o := ⟨_, .load 36 (.tmp 5), _, _, _, _⟩) ?_)
  refine Lib.hid ?_
  refine wpList_load_row (o := ⟨_, _, _, _, _, _⟩) rfl 36 (.tmp 5) rfl p5 rfl 36 (flL faS { mmZ with ref := 1, rs := rs }).toArray (0, 0) _ HFR.out Tryd.underlying36 rfl (infoFR rfl) ?_
  go_wp2_with fail
  refine (step_any M00 w8 (fun _ h => h.elim) H8.out.1.2 faS { mmZ with ref := 1, rs := rs } [r0] im1 [] ⟨numT_ok _ _ _ _ (by decide) (by decide), H8.out.2.2.2⟩ (its_nil _) (by simp) (fun r h => by simp only [List.mem_cons, List.not_mem_nil, or_false] at h; subst h; decide) (by show -9223372036854775808 ≤ (0 : Int) ∧ (0 : Int) ≤ 9223372036854775807; decide)).mono ?_
  rintro e w9 ⟨m2, v2, E2, RL2, rfl, hb9, he2, hm2, hq⟩
  obtain ⟨rs2, rfl, rfl, rfl⟩ := sr_one hq
  have H9 := Lib.hid (And.intro (H8.out.1.keep hb9) (And.intro (H8.out.2.1.keep hb9) (And.intro (H8.out.2.2.1.keep hb9) (And.intro he2 hm2.rs))))
  clear H8 hb9 he2 hm2 hq HFR
  go_wp2_with (with_reducible refine stop_op (o := ⟨_, .store 36 (.tmp 7) (.tmp 33), _, _, _, _⟩) ?_)
  refine Lib.hid ?_
  refine wpList_store_new (o := ⟨none, _, _, _, _, _⟩) rfl 36 (.tmp 7) (.tmp 33) rfl (flL faS { mmZ with ref := 1, rs := rs2, ph := 1 }).toArray rfl rfl (infoFR rfl) rfl (all_oneCell_toArray (flL_one _ _)) ?_
  have hbf := (Below.refl w9.heap.size w9).alloc (Nat.le_refl _) (.cells (flL faS { mmZ with ref := 1, rs := rs2, ph := 1 }).toArray 36)
  have HFR := Lib.hid (heap_new w9 (.cells (flL faS { mmZ with ref := 1, rs := rs2, ph := 1 }).toArray 36))
  have H10 := Lib.hid (And.intro (H9.out.1.keep hbf) (And.intro (H9.out.2.1.keep hbf) (And.intro (H9.out.2.2.1.keep hbf) (And.intro (H9.out.2.2.2.1.keep hbf) (H9.out.2.2.2.2.keep hbf)))))
  clear H9 hbf
  generalize w9.alloc (.cells (flL faS { mmZ with ref := 1, rs := rs2, ph := 1 }).toArray 36) = w10 at *
  generalize w9.heap.size = p7 at *
  go_wp2_with (with_reducible refine stop_op (o := ⟨_, .load 36 (.tmp 7), _, _, _, _⟩) ?_)
  refine Lib.hid ?_
  refine wpList_load_row (o := ⟨_, _, _, _, _, _⟩) rfl 36 (.tmp 7) rfl p7 rfl 36 (flL faS { mmZ with ref := 1, rs := rs2, ph := 1 }).toArray (0, 0) _ HFR.out Tryd.underlying36 rfl (infoFR rfl) ?_
  go_wp2_with fail
  refine (step_any M00 w10 (fun _ h => h.elim) H10.out.1.2 faS { mmZ with ref := 1, rs := rs2, ph := 1 } [r0] im7 [] ⟨numT_ok _ _ _ _ (by decide) (by decide), H10.out.2.2.2.2⟩ (its_nil _) (by simp) (fun r h => by simp only [List.mem_cons, List.not_mem_nil, or_false] at h; subst h; decide) (by show -9223372036854775808 ≤ (0 : Int) ∧ (0 : Int) ≤ 9223372036854775807; decide)).mono ?_
  rintro e w11 ⟨m3, v3, E3, RL3, rfl, hb11, he3, hm3, hq⟩
  obtain ⟨rs3, rfl, rfl, rfl⟩ := sr_two H10.out.2.2.2.2.1 hq
  have H11 := Lib.hid (And.intro (H10.out.1.keep hb11) (And.intro (H10.out.2.1.keep hb11) (And.intro (H10.out.2.2.1.keep hb11) (And.intro (H10.out.2.2.2.1.keep hb11) hm3.rs))))
  obtain ⟨eo3, ec3, rfl, -, -, -⟩ := he3
  clear H10 hb11 hm3 hq HFR
  go_wp2_with (with_reducible refine stop_op (o := ⟨_, .store 36 (.tmp 9) (.tmp 39), _, _, _, _⟩) ?_)
  refine Lib.hid ?_
  refine wpList_store_new (o := ⟨none, _, _, _, _, _⟩) rfl 36 (.tmp 9) (.tmp 39) rfl (flL faS { mmZ with ref := 1, rs := rs3, ph := 0, n := 1 }).toArray rfl rfl (infoFR rfl) rfl (all_oneCell_toArray (flL_one _ _)) ?_
  have hbf := (Below.refl w11.heap.size w11).alloc (Nat.le_refl _) (.cells (flL faS { mmZ with ref := 1, rs := rs3, ph := 0, n := 1 }).toArray 36)
  have HFR := Lib.hid (heap_new w11 (.cells (flL faS { mmZ with ref := 1, rs := rs3, ph := 0, n := 1 }).toArray 36))
  have H12 := Lib.hid (And.intro (H11.out.1.keep hbf) (And.intro (H11.out.2.1.keep hbf) (And.intro (H11.out.2.2.1.keep hbf) (And.intro (H11.out.2.2.2.1.keep hbf) (H11.out.2.2.2.2.keep hbf)))))
  clear H11 hbf
  generalize w11.alloc (.cells (flL faS { mmZ with ref := 1, rs := rs3, ph := 0, n := 1 }).toArray 36) = w12 at *
  generalize w11.heap.size = p9 at *
  go_wp2_with (with_reducible refine stop_op (o := ⟨_, .load 36 (.tmp 9), _, _, _, _⟩) ?_)
  refine Lib.hid ?_
  refine wpList_load_row (o := ⟨_, _, _, _, _, _⟩) rfl 36 (.tmp 9) rfl p9 rfl 36 (flL faS { mmZ with ref := 1, rs := rs3, ph := 0, n := 1 }).toArray (0, 0) _ HFR.out Tryd.underlying36 rfl (infoFR rfl) ?_
  go_wp2_with fail
  refine (step_any M00 w12 (fun _ h => h.elim) H12.out.1.2 faS { mmZ with ref := 1, rs := rs3, ph := 0, n := 1 } [r7] im1 [] ⟨numT_ok _ _ _ _ (by decide) (by decide), H12.out.2.2.2.2⟩ (its_nil _) (by simp) (fun r h => by simp only [List.mem_cons, List.not_mem_nil, or_false] at h; subst h; decide) (by show -9223372036854775808 ≤ (0 : Int) ∧ (0 : Int) ≤ 9223372036854775807; decide)).mono ?_
  rintro e w13 ⟨m4, v4, E4, RL4, rfl, hb13, he4, -, hq⟩
  obtain ⟨y4, rfl, hy4, hyo4⟩ := sr_three H12.out.2.2.2.2.1 hq
  have H13 := Lib.hid (And.intro (H12.out.1.keep hb13) (And.intro (H12.out.2.1.keep hb13) (And.intro (H12.out.2.2.1.keep hb13) (And.intro (H12.out.2.2.2.1.keep hb13) (And.intro he4 hyo4)))))
  have HY4 := Lib.hid hy4
  clear H12 hb13 he4 hq hy4 hyo4 HFR
  go_wp2_with (with_reducible refine stop_op (o := ⟨_, .store 36 (.tmp 11) (.tmp 45), _, _, _, _⟩) ?_)
  refine Lib.hid ?_
  refine wpList_store_new (o := ⟨none, _, _, _, _, _⟩) rfl 36 (.tmp 11) (.tmp 45) rfl (flL faS m4).toArray rfl rfl (infoFR rfl) rfl (all_oneCell_toArray (flL_one _ _)) ?_
  have hbf := (Below.refl w13.heap.size w13).alloc (Nat.le_refl _) (.cells (flL faS m4).toArray 36)
  have HFR := Lib.hid (heap_new w13 (.cells (flL faS m4).toArray 36))
  have H14 := Lib.hid (And.intro (H13.out.1.keep hbf) (And.intro (H13.out.2.1.keep hbf) (And.intro (H13.out.2.2.1.keep hbf) (And.intro (H13.out.2.2.2.1.keep hbf) (And.intro (H13.out.2.2.2.2.1.keep hbf) (H13.out.2.2.2.2.2.keep hbf))))))
  clear H13 hbf HFR
  generalize w13.alloc (.cells (flL faS m4).toArray 36) = w14 at *
  generalize w13.heap.size = p11 at *
  obtain ⟨b1, c1, rfl, k3, k4, k5, k6, k7⟩ := H14.out.2.1.back
  obtain ⟨b2, c2, rfl, k0⟩ := H14.out.2.2.2.1.kind
  change _ = some (Value.int .i8 3) at k0
  obtain ⟨F1, htv1⟩ := H14.out.2.2.1.tv
  rw [HY1.out] at htv1
  have HT1 := Lib.hid (rtext_ok0 F1 _ _ htv1.more)
  obtain ⟨b4, c4, rfl, -⟩ := H14.out.2.2.2.2.1.back
  have HX := Lib.hid (And.intro H14.out.2.2.2.2.1 H14.out.2.2.2.2.2)
  have HB14 := Lib.hid H14.out.1
  have HE2 := Lib.hid H14.out.2.2.2.1
  clear H14 htv1
  go_wp2_with fail
  refine HT1.out.mono ?_
  clear HT1
  rintro e w15 ⟨rfl, hb15⟩
  replace k0 := keep_cell k0 hb15
  have HB15 := Lib.hid (HB14.out.keep hb15)
  have HX15 := Lib.hid (And.intro (HX.out.1.keep hb15) (HX.out.2.keep hb15))
  clear k3 k4 k5 k6 k7 hb15 HB14 HX HE2
  obtain ⟨b5, c5, e5, g3, g4, g5, g6, g7⟩ := HX15.out.1.back
  injection e5 with e5 _ e6
  injection e5 with e5
  injection e5 with e5 _
  subst e5 e6
  obtain ⟨F4, htv4⟩ := HX15.out.2.tv
  rw [HY4.out] at htv4
  have HT4 := Lib.hid (rtext_ok7 F4 _ _ htv4.more.more)
  clear htv4
  go_wp2_with fail
  refine HT4.out.mono ?_
  rintro e w16 ⟨rfl, hb16⟩
  have HB16 := Lib.hid (HB15.out.1.trans (hb16.mono HB15.out.1.size))
  clear hb16 k0 g3 g4 g5 g6 g7
  go_wp2_with fail
  go_ret
  exact ⟨rfl, HB16.out⟩
end Go.Proofs.YtepfmanbllegiaaDoor
