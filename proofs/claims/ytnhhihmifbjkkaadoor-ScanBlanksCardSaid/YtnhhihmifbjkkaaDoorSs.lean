/- scan: blanks between tokens: one step, the end, the wide text. No program here (but openings). -/
import Derived.Test.YtnhhihmifbjkkaaDoorSp
namespace Go.Proofs.YtnhhihmifbjkkaaDoor
open Go.ChangeShapes Go.WideShapes Go.ChangeAt Go.RowKit
set_option linter.unusedVariables false
theorem step_law (nb : Nat → Nat) (s : ByteArray) {i o : Nat} {T : List Tk} (ho : o ≤ s.size) (hI : scan (s.data.toList.drop o) o = (T.drop i, (0, 0))) {x : Tk} (hx : T[i]? = some x) :
    ∃ b e : Nat, o ≤ b ∧ b < e ∧ e ≤ s.size ∧ nextV s (o : Int) = (tv x, (e : Int), (0, 0)) ∧ (tv x).2.2.2 = (b : Int) ∧ blankN s (o : Int) = (b : Int) ∧ scan (s.data.toList.drop e) e = (T.drop (i + 1), (0, 0)) ∧
      wid nb (s.data.toList.drop o) i = sp (nb i) ++ ((s.data.toList.drop b).take (e - b) ++ wid nb (s.data.toList.drop e) (i + 1)) := by
  have hlt := (List.getElem?_eq_some_iff.1 hx).1
  have hd : T.drop i = x :: T.drop (i + 1) := by
    rw [List.drop_eq_getElem_cons hlt]
    congr 1
    exact (List.getElem?_eq_some_iff.1 hx).2
  rw [hd] at hI
  have hl : (s.data.toList.drop o).length = s.size - o := by simp
  by_cases hb : blk false (s.data.toList.drop o) = (s.data.toList.drop o).length
  · rw [scan_end hb] at hI
    simp at hI
  · have hle := blk_le false (s.data.toList.drop o)
    obtain ⟨b, r, hr⟩ := Rest.mk' ho (by omega)
    have hat := hr.at_
    have hrest := hr.rest
    cases hlx : lex ((s.data.toList.drop o).drop (blk false (s.data.toList.drop o))) with
    | inl e =>
      rw [scan_bad hb hlx] at hI
      simp at hI
    | inr p =>
      obtain ⟨k, n, t, m⟩ := p
      have hm := lex_len hlx
      rw [List.length_drop] at hm
      have hw := wid_tok nb (i := i) hb hlx
      rw [scan_tok hb hlx] at hI
      rw [List.drop_drop, ← hat, ← hrest] at hlx
      have e1 : o + (blk false (s.data.toList.drop o) + m) = b + m := by omega
      rw [List.drop_drop, List.drop_drop, e1, ← hat] at hw
      rw [List.drop_drop, e1, ← hat] at hI
      injection hI with hI1 hI2
      injection hI1 with hI3 hI4
      subst hI3
      refine ⟨b, b + m, by omega, by omega, by omega, ?_, rfl, hr.blank, ?_, ?_⟩
      · rw [nextV, if_neg (by omega)]
        have h2 := nextN_tok hr hlx
        have : (o : Int).toNat = o := rfl
        rw [this, h2]
        simp [tv]
      · exact Prod.ext hI4 hI2
      · rw [hw, Nat.add_sub_cancel_left]
theorem end_law (nb : Nat → Nat) (s : ByteArray) {i o : Nat} {T : List Tk} (ho : o ≤ s.size) (hI : scan (s.data.toList.drop o) o = (T.drop i, (0, 0))) (hx : T.length ≤ i) :
    blankN s (o : Int) = (s.size : Int) ∧ wid nb (s.data.toList.drop o) i = [] := by
  rw [List.drop_eq_nil_of_le hx] at hI
  have hl : (s.data.toList.drop o).length = s.size - o := by simp
  by_cases hb : blk false (s.data.toList.drop o) = (s.data.toList.drop o).length
  · refine ⟨?_, wid_end nb hb⟩
    by_cases h1 : s.size ≤ o
    · rw [blankN, if_pos (by omega)]; omega
    · rw [blankN, if_neg (by omega)]
      have : (o : Int).toNat = o := rfl
      rw [this, hb, hl]
      omega
  · cases hlx : lex ((s.data.toList.drop o).drop (blk false (s.data.toList.drop o))) with
    | inl e => rw [scan_bad hb hlx] at hI; rcases lex_err hlx with rfl | rfl <;> simp at hI
    | inr p =>
      obtain ⟨k, n, t, m⟩ := p
      rw [scan_tok hb hlx] at hI
      simp at hI
def k3 (t : Tv) : Int × Int × ByteArray := (t.1, t.2.1, t.2.2.1)
theorem wide_law (nb : Nat → Nat) (hn : ∀ i, 1 ≤ nb i) (s u : ByteArray) (hs : s.size ≤ 2000) (h0 : (scanR s).2.1 = 0) (hu : u.data.toList = wid nb s.data.toList 0) :
    (8192 < u.size → scanR u = ([], (3, 0)) ∧ okT u = []) ∧ (u.size ≤ 8192 → (scanR u).2 = (0, 0) ∧ (okT u).map k3 = (okT s).map k3) := by
  refine ⟨fun h => ?_, fun h => ?_⟩
  · have : scanR u = ([], (3, 0)) := by unfold scanR; rw [if_pos h]
    exact ⟨this, by unfold okT; rw [this]; rfl⟩
  · have es : scanR s = scan s.data.toList 0 := by unfold scanR; rw [if_neg (by omega)]
    have eu : scanR u = scan (wid nb s.data.toList 0) 0 := by unfold scanR; rw [if_neg (by omega), hu]
    have hw := wid_scan nb hn s.data.toList 0 0 0 (by rw [← es]; exact h0)
    rw [← es, ← eu] at hw
    refine ⟨hw.1, ?_⟩
    have g : ∀ x : Tk, k3 (tv x) = (fun y : Int × Int × List UInt8 => ((y.1, y.2.1, (⟨y.2.2.toArray⟩ : ByteArray)) : Int × Int × ByteArray)) (kns x) := fun x => rfl
    unfold okT
    rw [if_pos (by rw [hw.1]), if_pos h0, List.map_map, List.map_map]
    have e1 : ∀ L : List Tk, L.map (k3 ∘ tv) = (L.map kns).map (fun y => (y.1, y.2.1, ⟨y.2.2.toArray⟩)) := fun L => by rw [List.map_map]; rfl
    rw [e1, e1, hw.2]
def nbZ (z : Int) : Int := 1 + Int.tmod (Int.tmod z 20 + 20) 20
theorem nbZ_in (z : Int) : (-20 < Int.tmod z 20 ∧ Int.tmod z 20 < 20) ∧ 1 ≤ nbZ z ∧ nbZ z ≤ 20 := by
  have h1 := Int.tmod_lt_of_pos z (b := 20) (by decide)
  have h2 := Int.lt_tmod_of_pos z (b := 20) (by decide)
  have h3 := Int.tmod_nonneg 20 (a := Int.tmod z 20 + 20) (by omega)
  have h4 := Int.tmod_lt_of_pos (Int.tmod z 20 + 20) (b := 20) (by decide)
  unfold nbZ
  omega
def nbN (bl : List Int) (i : Nat) : Nat := match bl[i]? with | some z => (nbZ z).toNat | none => 1
theorem nbN_in (bl : List Int) (i : Nat) : 1 ≤ nbN bl i ∧ nbN bl i ≤ 20 := by
  unfold nbN
  split
  · rename_i z _
    have := nbZ_in z
    omega
  · omega
theorem slv_ints {H : Type} {enc : TypeId × Value → H} {W : World} {base : Nat} {v0 : Value} {d0 : DataW H} {p0 : List MemPlace} (hv0 : Value.okWide Tryd.prog W .any base 33 v0) (h0 : DataW.Trod enc Tryd.prog W 0 (fun _ => true) true 33 v0 d0 p0) :
    ∃ l : List Int, (∀ x ∈ l, -9223372036854775808 ≤ x ∧ x ≤ 9223372036854775807) ∧ l.length ≤ 9223372036854775807 ∧ ∃ ao cap, v0 = .slice ao l.length cap ∧ SlV W (.slice ao l.length cap) (l.map (Value.int .i64)) := by
  obtain ⟨ao, n, cap, rfl⟩ := okWide_slice Tryd.underlying33 hv0
  obtain ⟨fuel, hf⟩ := h0
  rcases open_ints Tryd.underlying33 Tryd.underlying3 (by kernel_rfl) hf with ⟨hcs, _⟩ | ⟨x, l, c, zs, hcs, _, hl, hm, hz, _, hcell, hwz⟩
  · simp [Value.cells] at hcs
    obtain ⟨rfl, rfl, rfl⟩ := hcs
    exact ⟨[], by simp, by simp, none, 0, rfl, none, 0, rfl, Nat.le_refl _, by omega, .inl rfl⟩
  · simp [Value.cells] at hcs
    obtain ⟨rfl, rfl, rfl⟩ := hcs
    unfold maxLen at hm
    simp at hz
    have hlen : (zs.take n).length = n := by simp; omega
    refine ⟨zs.take n, fun s hs => bd (hwz s (List.mem_of_mem_take hs)), by omega, some x, cap, by rw [hlen], some x, cap, by simp, by simp; omega, by omega, ?_⟩
    rcases Nat.eq_zero_or_pos n with h0 | h0
    · left
      subst h0
      simp
    · right
      obtain ⟨b, off, sp⟩ := x
      have h00 := hcell 0 (by omega)
      obtain rfl : sp = none := by
        have := World.cell?_spot h00
        simpa [Addr.add] using this
      refine ⟨b, off, rfl, ?_, ?_⟩
      · have := World.block_lt_of_cell? W _ h00
        simpa [Addr.add] using this
      · intro i u hi
        have hin : i < n := by
          have := (List.getElem?_eq_some_iff.1 hi).1
          simp at this
          omega
        have hc := hcell i (by omega)
        rw [Addr.add_lit] at hc
        rw [hc]
        simp only [List.getElem?_map, List.getElem?_take, hin, if_true] at hi
        rw [List.getElem?_eq_getElem (by omega)] at hi
        simp at hi
        rw [← hi]
        simp [List.getD_eq_getElem?_getD, List.getElem?_eq_getElem (show i < zs.length by omega)]
end Go.Proofs.YtnhhihmifbjkkaaDoor
