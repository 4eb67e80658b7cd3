/- ProcMail's law. Condition: the argument reads as a slice of bools. -/
import Derived.Test.YtemgnljegbaobaaDoorNt
import Derived.Test.YtemgnljegbaobaaDoorFl
namespace Go.Proofs.YtemgnljegbaobaaDoor
open Go.ChangeShapes Go.WideShapes Go.ChangeAt Go.RowKit
set_option linter.unusedVariables false
set_option linter.unusedSimpArgs false
set_option maxRecDepth 100000
def bvs (l : List Bool) : List Value := l.map Value.bool
theorem bools_of_trod {H : Type} {enc : TypeId × Value → H} {W : World} {base : Nat} {v : Value} {d : DataW H} {p : List MemPlace} (hv : Value.okWide Tryd.prog W .any base 22 v) (h : DataW.Trod enc Tryd.prog W 0 (fun _ => true) true 22 v d p) : ∃ l : List Bool, Rw W v l.length 1 (bvs l) := by
  obtain ⟨ao, len, cap, rfl⟩ := okWide_slice Tryd.underlying22 hv
  obtain ⟨fuel, h⟩ := h
  obtain ⟨ao', n', cap', e, h1, h2, h3, h4⟩ := elems_trod (k := 5) (L := [4]) Tryd.underlying22 (by kernel_rfl) (by kernel_rfl) (by decide) h
  injection e with e1 e2 e3
  subst e1 e2 e3
  obtain ⟨l, hl, hall⟩ := list_choose (Q := fun i b => ∃ bb off, ao = some ⟨bb, off, none⟩ ∧ W.cell? ⟨bb, off + i, none⟩ = some (.bool b)) len fun i hi => by
    obtain ⟨b, off, e, _, hc⟩ := h4 i hi
    obtain ⟨u, n, y, hu, _, hr⟩ := hc 0 _ rfl
    obtain ⟨a, rfl⟩ := leaf_bool Tryd.underlying4 hr
    exact ⟨a, b, off, e, by simpa using hu⟩
  refine ⟨l, by simp [bvs], fun u hu => ?_, ao, cap, by rw [hl], by omega, h2, ?_⟩
  · simp only [bvs, List.mem_map] at hu
    obtain ⟨x, -, rfl⟩ := hu
    rfl
  · rcases Nat.eq_zero_or_pos len with h0 | h0
    · exact .inl (by omega)
    · obtain ⟨b, off, e, _⟩ := h4 0 h0
      refine .inr ⟨b, off, e, fun j u hj => ?_⟩
      rw [bvs, List.getElem?_map] at hj
      obtain ⟨x, hx, rfl⟩ := Option.map_eq_some_iff.1 hj
      obtain ⟨b2, off2, e2, hc⟩ := hall j x hx
      rw [e] at e2
      injection e2 with e2
      injection e2 with e3 e4
      subst e3 e4
      exact hc
theorem bvs_at {l : List Bool} {i : Nat} {b : Bool} (h : l[i]? = some b) : (bvs l)[i]? = some (.bool b) := by simp [bvs, h]
/-- the item of a round -/
def imOf (i : Nat) (b : Bool) : Im := ⟨0, i, ⟨#[]⟩, ⟨#[]⟩, none, 0, 0, b⟩
theorem imOf_ok (w : World) (i : Nat) (b : Bool) (hi : i ≤ 1000) : ImOk w (imOf i b) := by
  refine ⟨0, .mk 0 i ⟨#[]⟩ ⟨#[]⟩ [], ⟨⟨by show (-128 : Int) ≤ 0; decide, by show (0 : Int) ≤ 127; decide⟩, ⟨by show -9223372036854775808 ≤ (i : Int); omega, by show (i : Int) ≤ 9223372036854775807; omega⟩, by show (ByteArray.mk #[]).size ≤ _; decide, by show (ByteArray.mk #[]).size ≤ _; decide⟩, _, rfl, none, 0, rfl, Nat.le_refl _, by omega, fun j t hj => by simp [Tm.l] at hj⟩
/-- what is in the mail behind so many rounds -/
structure MlI (w W : World) (tp : Nat) (ov : Value) (l : List Bool) (i : Nat) (ml : List Im) (p : Pv) (D : Pd) : Prop where
  bx : Bxd w W tp p D
  own : W.ownsRow (tp + 1) 47 6 ov ml.length (mvs ml)
  xm : D.xm = mvs ml
  nm : D.nm = ml.length
  le : ml.length ≤ i
  us : usersOf ml ≤ 64
  ok : ∀ x ∈ ml, ∃ j b, j ≤ 1000 ∧ x = imOf j b
  apw : ∀ k, ov.ownBlock = some k → k ≠ tp ∧ PrN k p D.L
/-- another process is put into the box; a row of the caller's own has turned -/
theorem Bxd.put2 {S : Nat → Prop} {w W W2 W3 : World} {tb : Nat} {p q : Pv} {D D' : Pd} (h : Bxd w W tb p D) (hr : PrR W D W2 q D') (hc : Chg S W2 W3) (hS : ∀ k, S k → w.heap.size ≤ k ∧ k ≠ tb ∧ PrN k q D'.L) (hok : D'.ok) : Bxd w (W3.setRow tb q.cells) tb q D' := by
  have hl := heap_lt h.hX
  have hX3 := hc.heap (keep_heap h.hX hr.hb) (fun e => (hS _ e).2.1 rfl)
  have hn : PrN tb q D'.L := hr.ap tb hl h.ap.f
  have hb2 := h.hb.trans (hr.hb.mono h.hb.size)
  have hb3 := hb2.trans (hc.below (B := w.heap.size) hb2.size fun k hk => (hS k hk).1)
  refine ⟨bel_setRow hb3 hb3.size h.lt _, h.lt, setRow_heap W3 tb _ q.cells 29 (0, 0) hX3, (hr.pr.chg hc fun k hk => (hS k hk).2.2).chg (chg_setRow W3 tb q.cells) (fun k e => by have e : k = tb := e; rw [e]; exact hn), hn, hok⟩
set_option maxHeartbeats 16000000 in
theorem mail_law (W : World) (v : Value) (l : List Bool) (h : Rw W v l.length 1 (bvs l)) : Calls Tryd.prog 3 #[v] W (IsPost W true) := by
  obtain ⟨ao, c, rfl, hc1, hc2⟩ := h.slice
  have HR := Lib.hid h
  clear h
  go_enter Tryd.func3, Tryd.ntmps3
  by_cases h150 : 150 < l.length
  · have hd : decide ((150 : Int) < (l.length : Int)) = true := decide_eq_true (by omega)
    go_wp2_with fail
    refine (wakes_any W).mono ?_
    rintro e w1 ⟨rfl, hb1⟩
    have HB1 := Lib.hid hb1
    clear hb1
    go_wp2_with fail
    go_ret
    exact ⟨rfl, HB1.out⟩
  · have hd : decide ((150 : Int) < (l.length : Int)) = false := decide_eq_false (by omega)
    go_wp2_with fail
    refine (new_any W ⟨fr0L, X0⟩ (frX0 W) X0.ok).mono ?_
    rintro e w1 ⟨q, D, rfl, hsm, hpr, d1, d2, d3, d4⟩
    have hok : D.ok := ⟨by rw [hpr.cp.1]; decide, hpr.cp.ok (fun g hg => by obtain rfl := List.mem_singleton.1 hg; exact X0.ok), by rw [d1]; omega, by rw [d3]; decide, by rw [d4]; decide⟩
    have HQ := Lib.hid (And.intro hpr (And.intro hok (And.intro d1 d2)))
    clear hsm hpr d1 d2 d3 d4 hok
    go_wp2_with (with_reducible refine stop_op (o := ⟨_, .store 29 (.tmp 3) (.tmp 19), _, _, _, _⟩) ?_)
    refine Lib.hid ?_
    refine wpList_store_new (o := ⟨none, _, _, _, _, _⟩) rfl 29 (.tmp 3) (.tmp 19) rfl q.cells rfl rfl (infoPT rfl) rfl (Pv.one HQ.out.1.pr) ?_
    have hb2 := (Below.refl w1.heap.size w1).alloc (Nat.le_refl _) (.cells q.cells 29)
    have hbx : Bxd W (w1.alloc (.cells q.cells 29)) w1.heap.size q D := ⟨HQ.out.1.hb.trans (hb2.mono HQ.out.1.hb.size), HQ.out.1.hb.size, heap_new _ _, HQ.out.1.pr.keep hb2, HQ.out.1.pr.old (Nat.le_refl _), HQ.out.2.1⟩
    have HI0 : Hid (MlI W (w1.alloc (.cells q.cells 29)) w1.heap.size (.slice none 0 0) l 0 [] q D) := Lib.hid ⟨hbx, ⟨rfl, .inl ⟨rfl, rfl⟩⟩, HQ.out.2.2.2, HQ.out.2.2.1, Nat.le_refl _, by decide, (fun x hx => by cases hx), (fun k hk => by cases hk)⟩
    clear hb2 hbx HQ
    generalize w1.alloc (.cells q.cells 29) = w2 at *
    generalize w1.heap.size = tp at *
    go_wp2_with fail
    go_loopw [5, 6, 25] (fun uv ov iv wr => ∃ i : Nat, ∃ ml : List Im, ∃ oo oc, i ≤ l.length ∧ uv = .int .i64 (usersOf ml : Nat) ∧ ov = .slice oo ml.length oc ∧ iv = .int .i64 i ∧ Hid (∃ p D, MlI W wr tp ov l i ml p D)) (fun uv ov iv _ => l.length - (intOf iv).toNat)
    case atStart => exact ⟨0, [], none, 0, Nat.zero_le _, rfl, rfl, rfl, Lib.hid ⟨q, D, HI0.out⟩⟩
    case round =>
      obtain ⟨i, ml, oo, oc, hi, rfl, rfl, rfl, HI⟩ := hrel
      clear HI0
      obtain ⟨p, D, HJ⟩ : ∃ p D, Hid (MlI W wr tp (.slice oo ml.length oc) l i ml p D) := by
        obtain ⟨p, D, h⟩ := HI.out
        exact ⟨p, D, Lib.hid h⟩
      clear HI
      by_cases hlt : i < l.length
      · obtain ⟨b, hb⟩ : ∃ b, l[i]? = some b := ⟨l[i], List.getElem?_eq_getElem hlt⟩
        obtain ⟨-, bb, off, rfl, hc⟩ := (HR.out.keep HJ.out.bx.hb).at (by omega)
        have hcell := hc i _ (bvs_at hb)
        clear hc hb
        have hl1000 : i ≤ 1000 := by omega
        cases b
        · by_cases hu : usersOf ml < 64
          · have hdu : decide ((usersOf ml : Int) < 64) = true := decide_eq_true (by omega)
            go_wp2_with (with_reducible refine stop_op (o := ⟨_, .store 47 (.tmp 9) (.tmp 33), _, _, _, _⟩) ?_)
            refine Lib.hid ?_
            refine wpList_store_new (o := ⟨none, _, _, _, _, _⟩) rfl 47 (.tmp 9) (.tmp 33) rfl #[.int .i8 0, .int .i64 i, .string ⟨#[]⟩, .string ⟨#[]⟩, .slice none 0 0, .bool false] rfl rfl (infoIM rfl) rfl (by simp [Value.oneCell']) ?_
            have hb3 := (Below.refl wr.heap.size wr).alloc (Nat.le_refl _) (.cells #[.int .i8 0, .int .i64 i, .string ⟨#[]⟩, .string ⟨#[]⟩, .slice none 0 0, .bool false] 47)
            have hn3 := heap_new wr (.cells #[.int .i8 0, .int .i64 i, .string ⟨#[]⟩, .string ⟨#[]⟩, .slice none 0 0, .bool false] 47)
            have HN3 := Lib.hid hn3
            have HJ3 := Lib.hid (And.intro (HJ.out.bx.keep hb3) (own_keep HJ.out.own hb3))
            obtain ⟨x0, -⟩ := cells_at hn3 0 _ rfl
            obtain ⟨x1, -⟩ := cells_at hn3 1 _ rfl
            obtain ⟨x2, -⟩ := cells_at hn3 2 _ rfl
            obtain ⟨x3, -⟩ := cells_at hn3 3 _ rfl
            obtain ⟨x4, -⟩ := cells_at hn3 4 _ rfl
            obtain ⟨x5, -⟩ := cells_at hn3 5 _ rfl
            have hs3 : (wr.alloc (.cells #[.int .i8 0, .int .i64 i, .string ⟨#[]⟩, .string ⟨#[]⟩, .slice none 0 0, .bool false] 47)).heap.size = wr.heap.size + 1 := by simp
            have HS3 := Lib.hid hs3
            clear hb3 hn3 hcell hs3
            generalize wr.alloc (.cells #[.int .i8 0, .int .i64 i, .string ⟨#[]⟩, .string ⟨#[]⟩, .slice none 0 0, .bool false] 47) = w3 at *
            go_wp2_with (with_reducible refine stop_op (o := ⟨_, .load 29 (.tmp 3), _, _, _, _⟩) ?_)
            refine Lib.hid ?_
            refine wpList_load_row (o := ⟨_, _, _, _, _, _⟩) rfl 29 (.tmp 3) rfl tp rfl 29 p.cells (0, 0) _ HJ3.out.1.hX Tryd.underlying29 rfl (infoPT rfl) ?_
            go_wp2_with fail
            refine (put_any w3 p D ml (imOf i false) HJ3.out.1.pr HJ3.out.1.ok HJ.out.xm HJ.out.nm).mono ?_
            rintro e w4 hput
            unfold PutP at hput
            rw [if_neg (by intro h; omega)] at hput
            obtain ⟨q, D', rfl, hsm, hpr, d1, d2, d3, d4⟩ := hput
            have hok : D'.ok := HJ3.out.1.ok.of hpr.cp (by rw [d1, HJ.out.nm]; have := HJ.out.le; omega) (by rw [d3]; exact HJ3.out.1.ok.hl) (by rw [d4]; exact HJ3.out.1.ok.hw)
            have HQ := Lib.hid (And.intro hpr (And.intro hok (And.intro d1 d2)))
            clear hsm hpr d1 d2 d3 d4 hok
            go_wp2_with (with_reducible refine stop_op (o := ⟨_, .store 29 (.tmp 10) (.tmp 38), _, _, _, _⟩) ?_)
            refine Lib.hid ?_
            refine wpList_store_new (o := ⟨none, _, _, _, _, _⟩) rfl 29 (.tmp 10) (.tmp 38) rfl q.cells rfl rfl (infoPT rfl) rfl (Pv.one HQ.out.1.pr) ?_
            have hb5 := (Below.refl w4.heap.size w4).alloc (Nat.le_refl _) (.cells q.cells 29)
            have HB5 := Lib.hid (And.intro hb5 (heap_new w4 (.cells q.cells 29)))
            have hs5 : (w4.alloc (.cells q.cells 29)).heap.size = w4.heap.size + 1 := by simp
            have HS5 := Lib.hid hs5
            have hn5 := keep_heap (keep_heap HN3.out HQ.out.1.hb) hb5
            clear x0 x1 x2 x3 x4 x5 hb5 hs5
            obtain ⟨x0, -⟩ := cells_at hn5 0 _ rfl
            obtain ⟨x1, -⟩ := cells_at hn5 1 _ rfl
            obtain ⟨x2, -⟩ := cells_at hn5 2 _ rfl
            obtain ⟨x3, -⟩ := cells_at hn5 3 _ rfl
            obtain ⟨x4, -⟩ := cells_at hn5 4 _ rfl
            obtain ⟨x5, -⟩ := cells_at hn5 5 _ rfl
            clear hn5
            generalize w4.alloc (.cells q.cells 29) = w5 at *
            have hu1 : IntKind.i64.wrap ((usersOf ml : Int) + 1) = (usersOf ml : Int) + 1 := by have h1 := HJ.out.us; rw [IntKind.wrap_i64]; omega
            go_wp2_with (with_reducible refine stop_op (o := ⟨_, .call { callee := .builtin .append, args := #[.tmp 48, .tmp 50], argTypes := #[25, 25] }, _, _, _, _⟩) ?_)
            have hb6 := (Below.refl w5.heap.size w5).alloc (Nat.le_refl _) (.cells #[.int .i8 0, .int .i64 i, .string ⟨#[]⟩, .string ⟨#[]⟩, .slice none 0 0, .bool false] 47)
            have hn6 := heap_new w5 (.cells #[.int .i8 0, .int .i64 i, .string ⟨#[]⟩, .string ⟨#[]⟩, .slice none 0 0, .bool false] 47)
            have hs6 : (w5.alloc (.cells #[.int .i8 0, .int .i64 i, .string ⟨#[]⟩, .string ⟨#[]⟩, .slice none 0 0, .bool false] 47)).heap.size = w5.heap.size + 1 := by simp
            have HB6 := Lib.hid (And.intro (HB5.out.1.trans (hb6.mono HB5.out.1.size)) (And.intro (keep_heap HB5.out.2 hb6) (And.intro hn6 hs6)))
            clear hb6 hn6 hs6 x0 x1 x2 x3 x4 x5 HB5
            generalize w5.alloc (.cells #[.int .i8 0, .int .i64 i, .string ⟨#[]⟩, .string ⟨#[]⟩, .slice none 0 0, .bool false] 47) = w6 at *
            have HO6 := Lib.hid (own_keep HJ3.out.2 (HQ.out.1.hb.trans (HB6.out.1.mono HQ.out.1.hb.size)))
            obtain ⟨i0, z0, i1, i2, i3, i4, i5⟩ := info_of (P := Tryd.prog) (e := 47) 6 (by kernel_rfl)
            have htp := heap_lt HJ3.out.1.hX
            have hw34 := HQ.out.1.hb.size
            have hw46 := HB6.out.1.size
            refine Lib.hid ?_
            refine wpList_append_own2 (o := ⟨_, _, _, _, _, _⟩) rfl (.tmp 48) (.tmp 50) 25 rfl (tp + 1) 47 i0 z0 6 i0.bytes Tryd.underlying25 i1 i2 i3 rfl i5 (by decide) (.slice oo ml.length oc) ml.length (mvs ml) rfl HO6.out ⟨w5.heap.size, 0, none⟩ 1 1 (imOf i false).cells rfl rfl (fun j u hj => by
              rw [Addr.add_lit, Nat.zero_add]
              exact (cells_at HB6.out.2.2.1 j u (by simpa [Im.cells, imOf] using hj)).1) (Im.one _) (by have := HJ.out.le; unfold maxLen; omega) (le_bytes (by have := HJ.out.le; omega) i4) (by omega) ?_
            intro v7 w7 hown hg hwh
            obtain ⟨a7, c7, rfl⟩ := own_slice hown
            have hcg := chg_grown hg
            have hbs : ∀ k, (Value.slice oo ml.length oc).ownBlock = some k → tp + 1 ≤ k ∧ k < w3.heap.size := fun k hk => ⟨own_base HO6.out k hk, own_lt HJ3.out.2 (Nat.le_refl _) k hk⟩
            have hbx : Bxd W (w7.setRow tp q.cells) tp q D' := HJ3.out.1.put2 (S := fun k => some k = (Value.slice oo ml.length oc).ownBlock) HQ.out.1 (((chg_of_below HB6.out.1 _).trans hcg)) (fun k e => by
              obtain ⟨h1, h2⟩ := hbs k e.symm
              have h3 := HJ3.out.1.lt
              exact ⟨by omega, by omega, HQ.out.1.ap k h2 (HJ.out.apw k e.symm).2.f⟩) HQ.out.2.1
            have hlen : (ml ++ [imOf i false]).length = ml.length + 1 := by simp
            have hown8 : (w7.setRow tp q.cells).ownsRow (tp + 1) 47 6 (.slice a7 (ml.length + 1) c7) (ml ++ [imOf i false]).length (mvs (ml ++ [imOf i false])) := by
              rw [hlen, mvs_snoc]
              exact own_chg hown (chg_setRow w7 tp q.cells) (fun k hk e => by have e : k = tp := e; have := own_base hown k hk; omega)
            have happ : ∀ k, (Value.slice a7 (ml.length + 1) c7).ownBlock = some k → k ≠ tp ∧ PrN k q D'.L := fun k hk => by
              have h0 := own_base hown k hk
              refine ⟨by omega, ?_⟩
              rcases hwh with hwh | hwh
              · have h1 := hwh.symm.trans hk
                exact HQ.out.1.ap k (hbs k h1).2 (HJ.out.apw k h1).2.f
              · have h1 : w6.heap.size = k := Option.some.inj (hwh.symm.trans hk)
                exact HQ.out.1.pr.old (by omega)
            have hus : usersOf (ml ++ [imOf i false]) = usersOf ml + 1 := by rw [usersOf_snoc]; rfl
            have HU := Lib.hid hus
            have hI : MlI W (w7.setRow tp q.cells) tp (.slice a7 (ml.length + 1) c7) l (i + 1) (ml ++ [imOf i false]) q D' :=
              ⟨hbx, hown8, HQ.out.2.2.2, by rw [hlen, HQ.out.2.2.1, HJ.out.nm], by rw [hlen]; have := HJ.out.le; omega, by rw [hus]; omega, fun x hx => (List.mem_append.1 hx).elim (HJ.out.ok x) (fun h => ⟨i, false, hl1000, List.mem_singleton.1 h⟩), happ⟩
            have hz7 := hcg.heap HB6.out.2.1 (fun e => by have := (hbs _ e.symm).2; omega)
            have hy7 := hcg.heap (keep_heap (keep_heap HJ3.out.1.hX HQ.out.1.hb) HB6.out.1) (fun e => by have := (hbs _ e.symm).1; omega)
            have HZ := Lib.hid (And.intro hI (And.intro hz7 hy7))
            have HQ1 := Lib.hid (Pv.one HQ.out.1.pr)
            clear hown hg hwh hcg hbs hbx hown8 happ hus hI hz7 hy7 HQ HB6 HO6 HN3 HJ3 HJ HS3 HS5 hw34 hw46 htp hlen
            go_wp2_with (with_reducible refine stop_op (o := ⟨_, .load 29 (.tmp 10), _, _, _, _⟩) ?_)
            refine Lib.hid ?_
            refine wpList_load_row (o := ⟨_, _, _, _, _, _⟩) rfl 29 (.tmp 10) rfl w4.heap.size rfl 29 q.cells (0, 0) _ HZ.out.2.1 Tryd.underlying29 rfl (infoPT rfl) ?_
            go_wp2_with (with_reducible refine stop_op (o := ⟨_, .store 29 (.tmp 3) (.tmp 59), _, _, _, _⟩) ?_)
            refine Lib.hid ?_
            refine wpList_store_row (o := ⟨none, _, _, _, _, _⟩) rfl 29 (.tmp 3) (.tmp 59) rfl tp q.cells rfl rfl 29 p.cells HZ.out.2.2 (infoPT rfl) rfl HQ1.out ?_
            have HZ2 := Lib.hid HZ.out.1
            clear HZ
            generalize w7.setRow tp q.cells = w8 at *
            go_wp2_with fail
            go_roundw
            case rel => exact ⟨i + 1, ml ++ [imOf i false], a7, c7, hlt, by rw [HU.out]; go_num, by rw [List.length_append]; rfl, by go_num, Lib.hid ⟨q, D', HZ2.out⟩⟩
            case measure => simp [intOf]; omega
          · have hdu : decide ((usersOf ml : Int) < 64) = false := decide_eq_false (by omega)
            go_wp2_with (with_reducible refine stop_op (o := ⟨_, .store 47 (.tmp 9) (.tmp 33), _, _, _, _⟩) ?_)
            refine Lib.hid ?_
            refine wpList_store_new (o := ⟨none, _, _, _, _, _⟩) rfl 47 (.tmp 9) (.tmp 33) rfl #[.int .i8 0, .int .i64 i, .string ⟨#[]⟩, .string ⟨#[]⟩, .slice none 0 0, .bool false] rfl rfl (infoIM rfl) rfl (by simp [Value.oneCell']) ?_
            have hb3 := (Below.refl wr.heap.size wr).alloc (Nat.le_refl _) (.cells #[.int .i8 0, .int .i64 i, .string ⟨#[]⟩, .string ⟨#[]⟩, .slice none 0 0, .bool false] 47)
            have hn3 := heap_new wr (.cells #[.int .i8 0, .int .i64 i, .string ⟨#[]⟩, .string ⟨#[]⟩, .slice none 0 0, .bool false] 47)
            have HN3 := Lib.hid hn3
            have HJ3 := Lib.hid (And.intro (HJ.out.bx.keep hb3) (own_keep HJ.out.own hb3))
            obtain ⟨x0, -⟩ := cells_at hn3 0 _ rfl
            obtain ⟨x1, -⟩ := cells_at hn3 1 _ rfl
            obtain ⟨x2, -⟩ := cells_at hn3 2 _ rfl
            obtain ⟨x3, -⟩ := cells_at hn3 3 _ rfl
            obtain ⟨x4, -⟩ := cells_at hn3 4 _ rfl
            obtain ⟨x5, -⟩ := cells_at hn3 5 _ rfl
            have hs3 : (wr.alloc (.cells #[.int .i8 0, .int .i64 i, .string ⟨#[]⟩, .string ⟨#[]⟩, .slice none 0 0, .bool false] 47)).heap.size = wr.heap.size + 1 := by simp
            have HS3 := Lib.hid hs3
            clear hb3 hn3 hcell hs3
            generalize wr.alloc (.cells #[.int .i8 0, .int .i64 i, .string ⟨#[]⟩, .string ⟨#[]⟩, .slice none 0 0, .bool false] 47) = w3 at *
            go_wp2_with (with_reducible refine stop_op (o := ⟨_, .load 29 (.tmp 3), _, _, _, _⟩) ?_)
            refine Lib.hid ?_
            refine wpList_load_row (o := ⟨_, _, _, _, _, _⟩) rfl 29 (.tmp 3) rfl tp rfl 29 p.cells (0, 0) _ HJ3.out.1.hX Tryd.underlying29 rfl (infoPT rfl) ?_
            go_wp2_with fail
            refine (put_any w3 p D ml (imOf i false) HJ3.out.1.pr HJ3.out.1.ok HJ.out.xm HJ.out.nm).mono ?_
            rintro e w4 hput
            unfold PutP at hput
            rw [if_pos (by exact ⟨rfl, by omega⟩)] at hput
            obtain ⟨q, D', rfl, hsm, hpr, d1, d2, d3, d4⟩ := hput
            have hok : D'.ok := HJ3.out.1.ok.of hpr.cp (by rw [d1, HJ.out.nm]; have := HJ.out.le; omega) (by rw [d3]; exact HJ3.out.1.ok.hl) (by rw [d4]; exact HJ3.out.1.ok.hw)
            have HQ := Lib.hid (And.intro hpr (And.intro hok (And.intro d1 d2)))
            clear hsm hpr d1 d2 d3 d4 hok
            go_wp2_with (with_reducible refine stop_op (o := ⟨_, .store 29 (.tmp 10) (.tmp 38), _, _, _, _⟩) ?_)
            refine Lib.hid ?_
            refine wpList_store_new (o := ⟨none, _, _, _, _, _⟩) rfl 29 (.tmp 10) (.tmp 38) rfl q.cells rfl rfl (infoPT rfl) rfl (Pv.one HQ.out.1.pr) ?_
            have hb5 := (Below.refl w4.heap.size w4).alloc (Nat.le_refl _) (.cells q.cells 29)
            have HB5 := Lib.hid (And.intro hb5 (heap_new w4 (.cells q.cells 29)))
            have hs5 : (w4.alloc (.cells q.cells 29)).heap.size = w4.heap.size + 1 := by simp
            have HS5 := Lib.hid hs5
            clear x0 x1 x2 x3 x4 x5 hb5 hs5
            generalize w4.alloc (.cells q.cells 29) = w5 at *
            have htp := heap_lt HJ3.out.1.hX
            have hbs : ∀ k, (Value.slice oo ml.length oc).ownBlock = some k → tp + 1 ≤ k ∧ k < w3.heap.size := fun k hk => ⟨own_base HJ3.out.2 k hk, own_lt HJ3.out.2 (Nat.le_refl _) k hk⟩
            have hbx : Bxd W (w5.setRow tp q.cells) tp q D' := HJ3.out.1.put HQ.out.1 HB5.out.1 HQ.out.2.1
            have hown8 : (w5.setRow tp q.cells).ownsRow (tp + 1) 47 6 (.slice oo ml.length oc) ml.length (mvs ml) :=
              own_chg (own_keep HJ3.out.2 (HQ.out.1.hb.trans (HB5.out.1.mono HQ.out.1.hb.size))) (chg_setRow w5 tp q.cells) (fun k hk e => by have e : k = tp := e; have := (hbs k hk).1; omega)
            have hI : MlI W (w5.setRow tp q.cells) tp (.slice oo ml.length oc) l (i + 1) ml q D' :=
              ⟨hbx, hown8, HQ.out.2.2.2.trans HJ.out.xm, HQ.out.2.2.1.trans HJ.out.nm, by have := HJ.out.le; omega, HJ.out.us, HJ.out.ok, fun k hk => ⟨(HJ.out.apw k hk).1, HQ.out.1.ap k (hbs k hk).2 (HJ.out.apw k hk).2.f⟩⟩
            have HZ := Lib.hid (And.intro hI (And.intro HB5.out.2 (keep_heap (keep_heap HJ3.out.1.hX HQ.out.1.hb) HB5.out.1)))
            have HQ1 := Lib.hid (Pv.one HQ.out.1.pr)
            clear hbs hbx hown8 hI HQ HB5 HN3 HJ3 HJ HS3 HS5 htp
            go_wp2_with (with_reducible refine stop_op (o := ⟨_, .load 29 (.tmp 10), _, _, _, _⟩) ?_)
            refine Lib.hid ?_
            refine wpList_load_row (o := ⟨_, _, _, _, _, _⟩) rfl 29 (.tmp 10) rfl w4.heap.size rfl 29 q.cells (0, 0) _ HZ.out.2.1 Tryd.underlying29 rfl (infoPT rfl) ?_
            go_wp2_with (with_reducible refine stop_op (o := ⟨_, .store 29 (.tmp 3) (.tmp 59), _, _, _, _⟩) ?_)
            refine Lib.hid ?_
            refine wpList_store_row (o := ⟨none, _, _, _, _, _⟩) rfl 29 (.tmp 3) (.tmp 59) rfl tp q.cells rfl rfl 29 p.cells HZ.out.2.2 (infoPT rfl) rfl HQ1.out ?_
            have HZ2 := Lib.hid HZ.out.1
            clear HZ
            generalize w5.setRow tp q.cells = w8 at *
            go_wp2_with fail
            go_roundw
            case rel => exact ⟨i + 1, ml, oo, oc, hlt, rfl, rfl, by go_num, Lib.hid ⟨q, D', HZ2.out⟩⟩
            case measure => simp [intOf]; omega
        · skip
          go_wp2_with (with_reducible refine stop_op (o := ⟨_, .store 47 (.tmp 9) (.tmp 33), _, _, _, _⟩) ?_)
          refine Lib.hid ?_
          refine wpList_store_new (o := ⟨none, _, _, _, _, _⟩) rfl 47 (.tmp 9) (.tmp 33) rfl #[.int .i8 0, .int .i64 i, .string ⟨#[]⟩, .string ⟨#[]⟩, .slice none 0 0, .bool true] rfl rfl (infoIM rfl) rfl (by simp [Value.oneCell']) ?_
          have hb3 := (Below.refl wr.heap.size wr).alloc (Nat.le_refl _) (.cells #[.int .i8 0, .int .i64 i, .string ⟨#[]⟩, .string ⟨#[]⟩, .slice none 0 0, .bool true] 47)
          have hn3 := heap_new wr (.cells #[.int .i8 0, .int .i64 i, .string ⟨#[]⟩, .string ⟨#[]⟩, .slice none 0 0, .bool true] 47)
          have HN3 := Lib.hid hn3
          have HJ3 := Lib.hid (And.intro (HJ.out.bx.keep hb3) (own_keep HJ.out.own hb3))
          obtain ⟨x0, -⟩ := cells_at hn3 0 _ rfl
          obtain ⟨x1, -⟩ := cells_at hn3 1 _ rfl
          obtain ⟨x2, -⟩ := cells_at hn3 2 _ rfl
          obtain ⟨x3, -⟩ := cells_at hn3 3 _ rfl
          obtain ⟨x4, -⟩ := cells_at hn3 4 _ rfl
          obtain ⟨x5, -⟩ := cells_at hn3 5 _ rfl
          have hs3 : (wr.alloc (.cells #[.int .i8 0, .int .i64 i, .string ⟨#[]⟩, .string ⟨#[]⟩, .slice none 0 0, .bool true] 47)).heap.size = wr.heap.size + 1 := by simp
          have HS3 := Lib.hid hs3
          clear hb3 hn3 hcell hs3
          generalize wr.alloc (.cells #[.int .i8 0, .int .i64 i, .string ⟨#[]⟩, .string ⟨#[]⟩, .slice none 0 0, .bool true] 47) = w3 at *
          go_wp2_with (with_reducible refine stop_op (o := ⟨_, .load 29 (.tmp 3), _, _, _, _⟩) ?_)
          refine Lib.hid ?_
          refine wpList_load_row (o := ⟨_, _, _, _, _, _⟩) rfl 29 (.tmp 3) rfl tp rfl 29 p.cells (0, 0) _ HJ3.out.1.hX Tryd.underlying29 rfl (infoPT rfl) ?_
          go_wp2_with fail
          refine (put_any w3 p D ml (imOf i true) HJ3.out.1.pr HJ3.out.1.ok HJ.out.xm HJ.out.nm).mono ?_
          rintro e w4 hput
          unfold PutP at hput
          rw [if_neg (by intro h; have h := h.1; simp [imOf] at h)] at hput
          obtain ⟨q, D', rfl, hsm, hpr, d1, d2, d3, d4⟩ := hput
          have hok : D'.ok := HJ3.out.1.ok.of hpr.cp (by rw [d1, HJ.out.nm]; have := HJ.out.le; omega) (by rw [d3]; exact HJ3.out.1.ok.hl) (by rw [d4]; exact HJ3.out.1.ok.hw)
          have HQ := Lib.hid (And.intro hpr (And.intro hok (And.intro d1 d2)))
          clear hsm hpr d1 d2 d3 d4 hok
          go_wp2_with (with_reducible refine stop_op (o := ⟨_, .store 29 (.tmp 10) (.tmp 38), _, _, _, _⟩) ?_)
          refine Lib.hid ?_
          refine wpList_store_new (o := ⟨none, _, _, _, _, _⟩) rfl 29 (.tmp 10) (.tmp 38) rfl q.cells rfl rfl (infoPT rfl) rfl (Pv.one HQ.out.1.pr) ?_
          have hb5 := (Below.refl w4.heap.size w4).alloc (Nat.le_refl _) (.cells q.cells 29)
          have HB5 := Lib.hid (And.intro hb5 (heap_new w4 (.cells q.cells 29)))
          have hs5 : (w4.alloc (.cells q.cells 29)).heap.size = w4.heap.size + 1 := by simp
          have HS5 := Lib.hid hs5
          have hn5 := keep_heap (keep_heap HN3.out HQ.out.1.hb) hb5
          clear x0 x1 x2 x3 x4 x5 hb5 hs5
          obtain ⟨x0, -⟩ := cells_at hn5 0 _ rfl
          obtain ⟨x1, -⟩ := cells_at hn5 1 _ rfl
          obtain ⟨x2, -⟩ := cells_at hn5 2 _ rfl
          obtain ⟨x3, -⟩ := cells_at hn5 3 _ rfl
          obtain ⟨x4, -⟩ := cells_at hn5 4 _ rfl
          obtain ⟨x5, -⟩ := cells_at hn5 5 _ rfl
          clear hn5
          generalize w4.alloc (.cells q.cells 29) = w5 at *
          have hu1 : IntKind.i64.wrap ((usersOf ml : Int) + 1) = (usersOf ml : Int) + 1 := by have h1 := HJ.out.us; rw [IntKind.wrap_i64]; omega
          go_wp2_with (with_reducible refine stop_op (o := ⟨_, .call { callee := .builtin .append, args := #[.tmp 48, .tmp 50], argTypes := #[25, 25] }, _, _, _, _⟩) ?_)
          have hb6 := (Below.refl w5.heap.size w5).alloc (Nat.le_refl _) (.cells #[.int .i8 0, .int .i64 i, .string ⟨#[]⟩, .string ⟨#[]⟩, .slice none 0 0, .bool true] 47)
          have hn6 := heap_new w5 (.cells #[.int .i8 0, .int .i64 i, .string ⟨#[]⟩, .string ⟨#[]⟩, .slice none 0 0, .bool true] 47)
          have hs6 : (w5.alloc (.cells #[.int .i8 0, .int .i64 i, .string ⟨#[]⟩, .string ⟨#[]⟩, .slice none 0 0, .bool true] 47)).heap.size = w5.heap.size + 1 := by simp
          have HB6 := Lib.hid (And.intro (HB5.out.1.trans (hb6.mono HB5.out.1.size)) (And.intro (keep_heap HB5.out.2 hb6) (And.intro hn6 hs6)))
          clear hb6 hn6 hs6 x0 x1 x2 x3 x4 x5 HB5
          generalize w5.alloc (.cells #[.int .i8 0, .int .i64 i, .string ⟨#[]⟩, .string ⟨#[]⟩, .slice none 0 0, .bool true] 47) = w6 at *
          have HO6 := Lib.hid (own_keep HJ3.out.2 (HQ.out.1.hb.trans (HB6.out.1.mono HQ.out.1.hb.size)))
          obtain ⟨i0, z0, i1, i2, i3, i4, i5⟩ := info_of (P := Tryd.prog) (e := 47) 6 (by kernel_rfl)
          have htp := heap_lt HJ3.out.1.hX
          have hw34 := HQ.out.1.hb.size
          have hw46 := HB6.out.1.size
          refine Lib.hid ?_
          refine wpList_append_own2 (o := ⟨_, _, _, _, _, _⟩) rfl (.tmp 48) (.tmp 50) 25 rfl (tp + 1) 47 i0 z0 6 i0.bytes Tryd.underlying25 i1 i2 i3 rfl i5 (by decide) (.slice oo ml.length oc) ml.length (mvs ml) rfl HO6.out ⟨w5.heap.size, 0, none⟩ 1 1 (imOf i true).cells rfl rfl (fun j u hj => by
            rw [Addr.add_lit, Nat.zero_add]
            exact (cells_at HB6.out.2.2.1 j u (by simpa [Im.cells, imOf] using hj)).1) (Im.one _) (by have := HJ.out.le; unfold maxLen; omega) (le_bytes (by have := HJ.out.le; omega) i4) (by omega) ?_
          intro v7 w7 hown hg hwh
          obtain ⟨a7, c7, rfl⟩ := own_slice hown
          have hcg := chg_grown hg
          have hbs : ∀ k, (Value.slice oo ml.length oc).ownBlock = some k → tp + 1 ≤ k ∧ k < w3.heap.size := fun k hk => ⟨own_base HO6.out k hk, own_lt HJ3.out.2 (Nat.le_refl _) k hk⟩
          have hbx : Bxd W (w7.setRow tp q.cells) tp q D' := HJ3.out.1.put2 (S := fun k => some k = (Value.slice oo ml.length oc).ownBlock) HQ.out.1 (((chg_of_below HB6.out.1 _).trans hcg)) (fun k e => by
            obtain ⟨h1, h2⟩ := hbs k e.symm
            have h3 := HJ3.out.1.lt
            exact ⟨by omega, by omega, HQ.out.1.ap k h2 (HJ.out.apw k e.symm).2.f⟩) HQ.out.2.1
          have hlen : (ml ++ [imOf i true]).length = ml.length + 1 := by simp
          have hown8 : (w7.setRow tp q.cells).ownsRow (tp + 1) 47 6 (.slice a7 (ml.length + 1) c7) (ml ++ [imOf i true]).length (mvs (ml ++ [imOf i true])) := by
            rw [hlen, mvs_snoc]
            exact own_chg hown (chg_setRow w7 tp q.cells) (fun k hk e => by have e : k = tp := e; have := own_base hown k hk; omega)
          have happ : ∀ k, (Value.slice a7 (ml.length + 1) c7).ownBlock = some k → k ≠ tp ∧ PrN k q D'.L := fun k hk => by
            have h0 := own_base hown k hk
            refine ⟨by omega, ?_⟩
            rcases hwh with hwh | hwh
            · have h1 := hwh.symm.trans hk
              exact HQ.out.1.ap k (hbs k h1).2 (HJ.out.apw k h1).2.f
            · have h1 : w6.heap.size = k := Option.some.inj (hwh.symm.trans hk)
              exact HQ.out.1.pr.old (by omega)
          have hus : usersOf (ml ++ [imOf i true]) = usersOf ml + 0 := by rw [usersOf_snoc]; rfl
          have HU := Lib.hid hus
          have hI : MlI W (w7.setRow tp q.cells) tp (.slice a7 (ml.length + 1) c7) l (i + 1) (ml ++ [imOf i true]) q D' :=
            ⟨hbx, hown8, HQ.out.2.2.2, by rw [hlen, HQ.out.2.2.1, HJ.out.nm], by rw [hlen]; have := HJ.out.le; omega, by rw [hus]; have := HJ.out.us; omega, fun x hx => (List.mem_append.1 hx).elim (HJ.out.ok x) (fun h => ⟨i, true, hl1000, List.mem_singleton.1 h⟩), happ⟩
          have hz7 := hcg.heap HB6.out.2.1 (fun e => by have := (hbs _ e.symm).2; omega)
          have hy7 := hcg.heap (keep_heap (keep_heap HJ3.out.1.hX HQ.out.1.hb) HB6.out.1) (fun e => by have := (hbs _ e.symm).1; omega)
          have HZ := Lib.hid (And.intro hI (And.intro hz7 hy7))
          have HQ1 := Lib.hid (Pv.one HQ.out.1.pr)
          clear hown hg hwh hcg hbs hbx hown8 happ hus hI hz7 hy7 HQ HB6 HO6 HN3 HJ3 HJ HS3 HS5 hw34 hw46 htp hlen
          go_wp2_with (with_reducible refine stop_op (o := ⟨_, .load 29 (.tmp 10), _, _, _, _⟩) ?_)
          refine Lib.hid ?_
          refine wpList_load_row (o := ⟨_, _, _, _, _, _⟩) rfl 29 (.tmp 10) rfl w4.heap.size rfl 29 q.cells (0, 0) _ HZ.out.2.1 Tryd.underlying29 rfl (infoPT rfl) ?_
          go_wp2_with (with_reducible refine stop_op (o := ⟨_, .store 29 (.tmp 3) (.tmp 59), _, _, _, _⟩) ?_)
          refine Lib.hid ?_
          refine wpList_store_row (o := ⟨none, _, _, _, _, _⟩) rfl 29 (.tmp 3) (.tmp 59) rfl tp q.cells rfl rfl 29 p.cells HZ.out.2.2 (infoPT rfl) rfl HQ1.out ?_
          have HZ2 := Lib.hid HZ.out.1
          clear HZ
          generalize w7.setRow tp q.cells = w8 at *
          go_wp2_with fail
          go_roundw
          case rel => exact ⟨i + 1, ml ++ [imOf i true], a7, c7, hlt, by rw [HU.out]; go_num, by rw [List.length_append]; rfl, by go_num, Lib.hid ⟨q, D', HZ2.out⟩⟩
          case measure => simp [intOf]; omega
      · have hlt' : ¬ ((i : Int) < (l.length : Int)) := by omega
        obtain ⟨pid, par, sv, mv, name, trap, wait, lv, wv0⟩ := p
        have hm := HJ.out.bx.pr.ml
        obtain ⟨mo, mc, e, -, -⟩ := hm.slice
        simp only [Pd.X] at e
        subst e
        obtain ⟨y3, -⟩ := cells_at HJ.out.bx.hX 3 _ rfl
        have hm2 : Rw wr (.slice mo D.nm mc) ml.length 6 (mvs ml) := by
          have h2 : Rw wr (.slice mo D.nm mc) D.nm 6 D.xm := hm
          rw [HJ.out.xm] at h2
          rw [← HJ.out.nm]
          exact h2
        have HSM := Lib.hid (samemail_any wr (.slice mo D.nm mc) (.slice oo ml.length oc) ml hm2 (Rw_own HJ.out.own (by
          intro u hu
          simp only [mvs, List.mem_flatMap] at hu
          obtain ⟨x, -, hx⟩ := hu
          exact Im.one x u hx)) (fun x hx => by
          obtain ⟨j, b, hj, rfl⟩ := HJ.out.ok x hx
          exact imOf_ok wr j b hj) (by have := HJ.out.le; omega))
        have HB := Lib.hid HJ.out.bx.hb
        clear hm hm2 HJ
        go_wp2_with fail
        refine HSM.out.mono ?_
        rintro e w2 ⟨rfl, hb2⟩
        have HB2 := Lib.hid (HB.out.trans (hb2.mono HB.out.size))
        clear hb2 y3 HSM
        go_wp2_with fail
        refine (wakes_any w2).mono ?_
        rintro e w3 ⟨rfl, hb3⟩
        have HB3 := Lib.hid (HB2.out.trans (hb3.mono HB2.out.size))
        clear hb3
        go_wp2_with fail
        go_ret
        exact ⟨rfl, HB3.out⟩
theorem mail_row {H : Type} {enc : TypeId × Value → H} (W : World) {base : Nat} {v0 : Value} {d0 : DataW H} {p0 : List MemPlace} (hv0 : Value.okWide Tryd.prog W .any base 22 v0) (h0 : DataW.Trod enc Tryd.prog W 0 (fun _ => true) true 22 v0 d0 p0) {A : Prop} (hL : A) :
    Calls Tryd.prog 3 #[v0] W (IsPost W true) := by
  obtain ⟨l, h⟩ := bools_of_trod hv0 h0
  exact mail_law W v0 l h
end Go.Proofs.YtemgnljegbaobaaDoor
