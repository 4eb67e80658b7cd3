/- slices.IndexFunc at int and at api.Watch. Conditions: the row reads; the function that is handed over tells, in whatever world that has grown out of this one. -/
import Derived.Test.YtemgnljegbaobaaGreatDoorNg
namespace Go.Proofs.YtemgnljegbaobaaGreatDoor
open Go.ChangeShapes Go.WideShapes Go.ChangeAt Go.RowKit
set_option linter.unusedVariables false
set_option linter.unusedSimpArgs false
set_option maxRecDepth 100000
/-- the place of the first one of which p holds, or -1 -/
def idxOf {α : Type} (p : α → Bool) : List α → Int
  | [] => -1
  | x :: l => if p x then 0 else if idxOf p l < 0 then -1 else idxOf p l + 1
theorem idxOf_none {α : Type} {p : α → Bool} : ∀ {l : List α}, (∀ x ∈ l, p x = false) → idxOf p l = -1
  | [], _ => rfl
  | x :: l, h => by
    rw [idxOf, h x List.mem_cons_self, idxOf_none fun y hy => h y (List.mem_cons_of_mem _ hy)]
    rfl
theorem idxOf_some {α : Type} {p : α → Bool} : ∀ {l : List α} {i : Nat} {x : α}, l[i]? = some x → p x = true → (∀ y ∈ l.take i, p y = false) → idxOf p l = i
  | [], _, _, h, _, _ => by simp at h
  | y :: l, 0, x, h, hp, _ => by
    simp at h
    subst h
    rw [idxOf, hp]
    rfl
  | y :: l, i + 1, x, h, hp, ha => by
    have h0 : p y = false := ha y (by simp)
    have h1 := idxOf_some (l := l) (i := i) (by simpa using h) hp fun z hz => ha z (by rw [List.take_succ_cons]; exact List.mem_cons_of_mem _ hz)
    have h2 : ¬ ((i : Int) < 0) := by omega
    rw [idxOf, h0, h1, if_neg h2]
    simp
theorem idxOf_lt {α : Type} {p : α → Bool} : ∀ (l : List α), -1 ≤ idxOf p l ∧ idxOf p l < l.length
  | [] => by simp [idxOf]
  | x :: l => by
    have h := idxOf_lt (p := p) l
    rw [idxOf, List.length_cons]
    split
    · omega
    · split <;> omega
theorem idxOf_any {α : Type} {p : α → Bool} : ∀ (l : List α), decide (0 ≤ idxOf p l) = l.any p
  | [] => by simp [idxOf]
  | x :: l => by
    have h := idxOf_any (p := p) l
    rw [idxOf, List.any_cons]
    cases hx : p x
    · by_cases h0 : idxOf p l < 0
      · have : l.any p = false := by rw [← h]; simp; omega
        simp [this, h0]
      · have : l.any p = true := by rw [← h]; simp; omega
        have h1 : 0 ≤ idxOf p l + 1 := by omega
        simp [this, h0, h1]
    · simp
theorem idxOf_at {α : Type} {p : α → Bool} : ∀ {l : List α}, 0 ≤ idxOf p l → ∃ x, l[(idxOf p l).toNat]? = some x ∧ p x = true ∧ ∀ y ∈ l.take (idxOf p l).toNat, p y = false
  | [], h => by simp [idxOf] at h
  | x :: l, h => by
    rw [idxOf] at h ⊢
    by_cases hx : p x = true
    · rw [if_pos hx]
      exact ⟨x, rfl, hx, by simp⟩
    · have hx' : p x = false := by simpa using hx
      rw [if_neg hx] at h ⊢
      by_cases h0 : idxOf p l < 0
      · rw [if_pos h0] at h
        omega
      · rw [if_neg h0] at h ⊢
        obtain ⟨y, h1, h2, h3⟩ := idxOf_at (p := p) (l := l) (by omega)
        have e : (idxOf p l + 1).toNat = (idxOf p l).toNat + 1 := by omega
        refine ⟨y, by rw [e]; simpa using h1, h2, ?_⟩
        rw [e, List.take_succ_cons]
        intro z hz
        rcases List.mem_cons.1 hz with rfl | hz
        · exact hx'
        · exact h3 z hz
/-- integers' cells -/
def iv (ps : List Int) : List Value := ps.map (Value.int .i64)
theorem iv_at {ps : List Int} {i : Nat} {x : Int} (h : ps[i]? = some x) : (iv ps)[i]? = some (.int .i64 x) := by simp [iv, h]
theorem iv_len (ps : List Int) : (iv ps).length = ps.length := by simp [iv]
theorem iv_one (ps : List Int) : ∀ u ∈ iv ps, u.oneCell' = true := by
  intro u hu
  simp only [iv, List.mem_map] at hu
  obtain ⟨x, -, rfl⟩ := hu
  rfl
/-- monitors' cells -/
def wv (ps : List (Int × Int)) : List Value := ps.flatMap fun x => [.int .i64 x.1, .int .i64 x.2]
theorem wv_len : ∀ ps : List (Int × Int), (wv ps).length = ps.length * 2
  | [] => rfl
  | x :: l => by
    have := wv_len l
    unfold wv at this ⊢
    rw [List.flatMap_cons, List.length_append, this]
    simp
    omega
theorem wv_at : ∀ {ps : List (Int × Int)} {i : Nat} {x : Int × Int}, ps[i]? = some x → (wv ps)[i * 2]? = some (.int .i64 x.1) ∧ (wv ps)[i * 2 + 1]? = some (.int .i64 x.2)
  | [], _, _, h => by simp at h
  | y :: l, 0, x, h => by
    simp at h
    subst h
    exact ⟨rfl, rfl⟩
  | y :: l, i + 1, x, h => by
    obtain ⟨h1, h2⟩ := wv_at (ps := l) (i := i) (by simpa using h)
    unfold wv at h1 h2 ⊢
    rw [List.flatMap_cons]
    have e1 : (i + 1) * 2 = i * 2 + 2 := by omega
    rw [e1]
    exact ⟨h1, h2⟩
theorem wv_one (ps : List (Int × Int)) : ∀ u ∈ wv ps, u.oneCell' = true := by
  intro u hu
  simp only [wv, List.mem_flatMap, List.mem_cons, List.not_mem_nil, or_false] at hu
  obtain ⟨x, -, rfl | rfl⟩ := hu <;> rfl
set_option maxHeartbeats 4000000 in
theorem indexI_any (w : World) (v : Value) (ps : List Int) (g : FuncId) (lb : Array Value) (p : Int → Bool) (eg : ∀ args w, (callFunc g args).run Tryz.prog w = .ok (.enter g args) w) (h : Rw w v ps.length 1 (iv ps)) (hn : ps.length ≤ 100000)
    (hp : ∀ x ∈ ps, ∀ W, Below w.heap.size w W → Calls Tryz.prog g (#[.int .i64 x] ++ lb) W (IsPost W (p x))) : Calls Tryz.prog 60 #[v, .func (.func g) #[] lb] w (IntPost w (idxOf p ps)) := by
  obtain ⟨ao, c, rfl, hc1, hc2⟩ := h.slice
  have HR := Lib.hid h
  have HP := Lib.hid hp
  clear h hp
  go_enter Tryz.func60, Tryz.ntmps60
  go_wp2_with fail
  go_loopw [8] (fun iv wr => ∃ i : Nat, i ≤ ps.length ∧ iv = .int .i64 i ∧ Hid (Below w.heap.size w wr) ∧ Hid (∀ x ∈ ps.take i, p x = false)) (fun iv _ => ps.length - (intOf iv).toNat)
  case atStart => exact ⟨0, Nat.zero_le _, rfl, Lib.hid (Below.refl _ _), Lib.hid (by simp)⟩
  case round =>
    obtain ⟨i, hi, rfl, HB, HA⟩ := hrel
    by_cases hlt : i < ps.length
    · obtain ⟨x, hx⟩ : ∃ x, ps[i]? = some x := ⟨ps[i], List.getElem?_eq_getElem hlt⟩
      obtain ⟨-, b, off, rfl, hcell⟩ := (HR.out.keep HB.out).at (by omega)
      have hc := hcell i _ (iv_at hx)
      have HX := Lib.hid hx
      have HC := Lib.hid (HP.out x (List.mem_of_getElem? hx) wr HB.out)
      clear hx hcell
      go_wp2_with fail
      refine HC.out.mono ?_
      rintro e w1 ⟨rfl, hb1⟩
      have HB1 := Lib.hid (HB.out.trans (hb1.mono HB.out.size))
      clear hb1 HC
      cases hpx : p x
      · have HF := Lib.hid hpx
        clear hpx
        go_wp2_with fail
        go_roundw
        case rel =>
          refine ⟨i + 1, hlt, by go_num, HB1, Lib.hid fun y hy => ?_⟩
          rw [List.take_add_one, HX.out] at hy
          rcases List.mem_append.1 hy with hy | hy
          · exact HA.out y hy
          · simp at hy
            rw [hy]
            exact HF.out
        case measure => simp [intOf]; omega
      · have HF := Lib.hid hpx
        clear hpx
        go_wp2_with fail
        go_ret
        exact ⟨by rw [idxOf_some HX.out HF.out HA.out]; rfl, HB1.out⟩
    · have hE : i = ps.length := by omega
      have HA2 : Hid (∀ x ∈ ps, p x = false) := Lib.hid (by have := HA.out; rw [hE, List.take_length] at this; exact this)
      clear HA
      go_wp2_with fail
      go_ret
      exact ⟨by rw [idxOf_none HA2.out]; rfl, HB.out⟩
set_option maxHeartbeats 4000000 in
theorem indexW_any (w : World) (v : Value) (ps : List (Int × Int)) (g : FuncId) (lb : Array Value) (p : (Int × Int) → Bool) (eg : ∀ args w, (callFunc g args).run Tryz.prog w = .ok (.enter g args) w) (h : Rw w v ps.length 2 (wv ps)) (hn : ps.length ≤ 100000)
    (hp : ∀ x ∈ ps, ∀ W, Below w.heap.size w W → Calls Tryz.prog g (#[.agg #[.int .i64 x.1, .int .i64 x.2]] ++ lb) W (IsPost W (p x))) : Calls Tryz.prog 55 #[v, .func (.func g) #[] lb] w (IntPost w (idxOf p ps)) := by
  obtain ⟨ao, c, rfl, hc1, hc2⟩ := h.slice
  have HR := Lib.hid h
  have HP := Lib.hid hp
  clear h hp
  go_enter Tryz.func55, Tryz.ntmps55
  go_wp2_with fail
  go_loopw [8] (fun iv wr => ∃ i : Nat, i ≤ ps.length ∧ iv = .int .i64 i ∧ Hid (Below w.heap.size w wr) ∧ Hid (∀ x ∈ ps.take i, p x = false)) (fun iv _ => ps.length - (intOf iv).toNat)
  case atStart => exact ⟨0, Nat.zero_le _, rfl, Lib.hid (Below.refl _ _), Lib.hid (by simp)⟩
  case round =>
    obtain ⟨i, hi, rfl, HB, HA⟩ := hrel
    by_cases hlt : i < ps.length
    · obtain ⟨x, hx⟩ : ∃ x, ps[i]? = some x := ⟨ps[i], List.getElem?_eq_getElem hlt⟩
      obtain ⟨-, b, off, rfl, hcell⟩ := (HR.out.keep HB.out).at (by omega)
      obtain ⟨hc, hc'⟩ := And.intro (hcell (i * 2) _ (wv_at hx).1) (show wr.cell? ⟨b, off + i * 2 + 1, none⟩ = some (.int .i64 x.2) by rw [Nat.add_assoc]; exact hcell (i * 2 + 1) _ (wv_at hx).2)
      have HX := Lib.hid hx
      have HC := Lib.hid (HP.out x (List.mem_of_getElem? hx) wr HB.out)
      clear hx hcell
      go_wp2_with fail
      refine HC.out.mono ?_
      rintro e w1 ⟨rfl, hb1⟩
      have HB1 := Lib.hid (HB.out.trans (hb1.mono HB.out.size))
      clear hb1 HC
      cases hpx : p x
      · have HF := Lib.hid hpx
        clear hpx
        go_wp2_with fail
        go_roundw
        case rel =>
          refine ⟨i + 1, hlt, by go_num, HB1, Lib.hid fun y hy => ?_⟩
          rw [List.take_add_one, HX.out] at hy
          rcases List.mem_append.1 hy with hy | hy
          · exact HA.out y hy
          · simp at hy
            rw [hy]
            exact HF.out
        case measure => simp [intOf]; omega
      · have HF := Lib.hid hpx
        clear hpx
        go_wp2_with fail
        go_ret
        exact ⟨by rw [idxOf_some HX.out HF.out HA.out]; rfl, HB1.out⟩
    · have hE : i = ps.length := by omega
      have HA2 : Hid (∀ x ∈ ps, p x = false) := Lib.hid (by have := HA.out; rw [hE, List.take_length] at this; exact this)
      clear HA
      go_wp2_with fail
      go_ret
      exact ⟨by rw [idxOf_none HA2.out]; rfl, HB.out⟩
end Go.Proofs.YtemgnljegbaobaaGreatDoor
