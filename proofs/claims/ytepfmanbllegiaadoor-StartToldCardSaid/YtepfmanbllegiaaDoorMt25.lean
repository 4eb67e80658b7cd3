/- what the listed variable gives the walks. -/
/- the law StartTold: the walk. Conditions: what is handed over reads; the letters stand. -/
import Derived.Test.YtepfmanbllegiaaDoorAa
import Derived.Lib.LaidU8
import Derived.LaidMore
import Derived.ShutString
import Derived.Test.YtepfmanbllegiaaDoorMt24
import Derived.Test.YtepfmanbllegiaaDoorMt17
namespace Go.Proofs.YtepfmanbllegiaaDoor
open Go.ChangeShapes Go.WideShapes Go.ChangeAt Go.RowKit
open Go.ChangeMaps (open_string shut_string)
set_option linter.unusedVariables false
def letD : DataW Unit := .agg (letL.map fun r => .agg ([r.1, r.2].map fun z => .lit (.int .u8 z)))
theorem letters_of (W : World) (h : laidMetH Tryd.prog [("pleach/atoms.letters", letD)] W) : Cells W 0 letL := by
  rw [MakeChecks.laidMetH_plain _ _ _ (by kernel_rfl)] at h
  obtain ⟨g, t, cs, fuel, p, hg, hty, hvar, hd⟩ := Lib.laidMet.reads h (List.mem_singleton.2 rfl)
  obtain rfl := Option.some.inj ((show Tryd.prog.globalNamed "pleach/atoms.letters" = some 0 by kernel_rfl).symm.trans hg)
  obtain rfl := Option.some.inj ((show (Tryd.prog.globals[0]?).map (·.type) = some 139 by kernel_rfl).symm.trans hty)
  have c2 : Tryd.prog.cellsOf 138 = 2 := by kernel_rfl
  have c1 : Tryd.prog.cellsOf 5 = 1 := by kernel_rfl
  intro j r hj
  have hi : j < 4 := by
    have := (List.getElem?_eq_some_iff.1 hj).1
    simpa [letL] using this
  obtain ⟨fuel', d, q, hdi, he⟩ := Lib.array_elem Tryd.underlying139 hd j hi
  simp only [List.getElem?_map, hj, Option.map_some, Option.some.injEq] at hdi
  subst hdi
  rw [c2] at he
  have hcs := Lib.cells_of_tab Tryd.underlying138 Tryd.underlying5 c1 c2 he
  have e0 := congrArg (·[0]?) hcs
  have e1 := congrArg (·[1]?) hcs
  simp only [List.getElem?_take, List.getElem?_drop] at e0 e1
  constructor
  · have := World.var?_cell hg hvar (j * 2)
    rw [show 0 + j * 2 = j * 2 from by omega, this, ← Array.getElem?_toList]
    simpa using e0
  · have := World.var?_cell hg hvar (j * 2 + 1)
    rw [show 0 + j * 2 + 1 = j * 2 + 1 from by omega, this, ← Array.getElem?_toList]
    simpa using e1
end Go.Proofs.YtepfmanbllegiaaDoor
namespace Go.Proofs.YtepfmanbllegiaaDoor
open Go.ChangeShapes Go.WideShapes Go.ChangeAt Go.RowKit
set_option linter.unusedVariables false
set_option linter.unusedSimpArgs false
set_option maxRecDepth 100000
theorem efs_at : ∀ (E : List Ef) (k j : Nat) (e : Ef), E[k]? = some e → j < 61 → (efs E)[k * 61 + j]? = (efL e)[j]?
  | [], k, j, e, h, hj => by simp at h
  | y :: E, 0, j, e, h, hj => by
    simp at h
    subst h
    have e1 : efs (y :: E) = efL y ++ efs E := rfl
    rw [e1, Nat.zero_mul, Nat.zero_add, List.getElem?_append_left (by show j < 61; omega)]
  | y :: E, k + 1, j, e, h, hj => by
    have e1 : efs (y :: E) = efL y ++ efs E := rfl
    have h' : E[k]? = some e := by simpa using h
    have e2 : (efL y).length = 61 := rfl
    rw [e1, List.getElem?_append_right (by omega), show (k + 1) * 61 + j - (efL y).length = k * 61 + j by omega]
    exact efs_at E k j e h' hj
/-- an effect's cells -/
theorem EfAt.at {w : World} {B : Nat} {v : Value} {E : List Ef} (h : EfAt w B v E) {k : Nat} {e : Ef} (hk : E[k]? = some e) : ∃ b ec, v = .slice (some ⟨b, 0, none⟩) E.length ec ∧ B ≤ b ∧ ∀ j u, j < 61 → (efL e)[j]? = some u → w.cell? ⟨b, k * 61 + j, none⟩ = some u := by
  obtain ⟨eo, ec, h1, -, -, h4⟩ := h
  obtain ⟨b, e0, hB, -⟩ := h4 (k * 61 + 0) _ (by rw [efs_at E k 0 e hk (by omega)]; rfl)
  refine ⟨b, ec, by rw [h1, e0], hB, fun j u hj hu => ?_⟩
  obtain ⟨b', e1, -, hc⟩ := h4 (k * 61 + j) u (by rw [efs_at E k j e hk hj]; exact hu)
  rw [e0] at e1
  injection e1 with e1
  injection e1 with e1
  subst e1
  exact hc
theorem sr_len {RL RL' : List Rc} {a : Fa} {m m' : Mm} {i : Im} {ML : List It} {N : Nat → Prop} {w' : World} {E1 : List Ef} (h : SrQ a RL i ML m N w' m' E1 RL') : RL'.length = RL.length := by
  rcases h with ⟨-, -, -, rfl⟩ | ⟨-, rs1, h⟩
  · rfl
  · rcases h with ⟨-, -, rfl⟩ | ⟨-, h⟩ | ⟨-, h⟩ | ⟨-, -, rfl⟩ | ⟨-, -, -, rfl⟩
    · rfl
    · rcases h with ⟨-, ⟨-, -, -, r, -, rfl⟩ | ⟨-, -, -, rfl⟩⟩ | ⟨-, -, rfl⟩
      · rw [List.length_set]
      · rfl
      · rfl
    · obtain ⟨j, it, E2, -, -, -, -, h⟩ := h
      rcases h with ⟨-, -, -, -, r, -, rfl⟩ | ⟨-, -, E3, -, ⟨-, -, -, r, -, rfl⟩ | ⟨-, x, -, rfl, -⟩⟩ | ⟨-, -, -, E3, -, x, -, rfl, -⟩
      · rw [List.length_set]
      · rw [List.length_set]
      · rfl
      · rfl
    · rfl
    · rfl
/-- the law's boxes -/
structure ToS (w W : World) (a : Fa) (m : Mm) (im : Im) : Prop where
  hb : Below w.heap.size w W
  hF : W.heap[w.heap.size]? = some (.cells (flL a m).toArray 36 (0, 0))
  hI : W.heap[w.heap.size + 1]? = some (.cells (imL im).toArray 39 (0, 0))
theorem ToS.keep {w W W' : World} {a : Fa} {m : Mm} {im : Im} (h : ToS w W a m im) (hb : Below W.heap.size W W') : ToS w W' a m im := ⟨h.hb.trans (hb.mono h.hb.size), keep_heap h.hF hb, keep_heap h.hI hb⟩
/-- behind the step -/
structure TlI (w w6 W : World) (a : Fa) (m m' : Mm) (im : Im) (p : Nat) : Prop where
  s : ToS w W a m im
  h6 : Below w6.heap.size w6 W
  hG : W.heap[p]? = some (.cells (flL a m').toArray 36 (0, 0))
theorem TlI.keep {w w6 W W' : World} {a : Fa} {m m' : Mm} {im : Im} {p : Nat} (h : TlI w w6 W a m m' im p) (hb : Below W.heap.size W W') : TlI w w6 W' a m m' im p := ⟨h.s.keep hb, h.h6.trans (hb.mono h.h6.size), keep_heap h.hG hb⟩
theorem own_cells {w : World} {B size n g c : Nat} {e : TypeId} {xs : List Value} (h : w.ownsRow B e size (.slice (some ⟨g, 0, none⟩) n c) n xs) {j : Nat} {u : Value} (hj : xs[j]? = some u) : w.cell? ⟨g, j, none⟩ = some u := by
  have := (World.ownsRowF_of h).cells (g := g) rfl j u hj
  rw [Addr.add_lit, Nat.zero_add] at this
  exact this
theorem own_some {w : World} {B size n : Nat} {e : TypeId} {v : Value} {xs : List Value} (h : w.ownsRow B e size v n xs) (hn : 0 < n) : ∃ g c, v = .slice (some ⟨g, 0, none⟩) n c := by
  rcases h.2 with ⟨-, e⟩ | ⟨g, c, cur, e, -⟩
  · omega
  · exact ⟨g, c, e⟩
def CmS (g k g2 : Nat) (p : Int) (W : World) : Prop := W.cell? ⟨g, k, none⟩ = some (.int .i64 (max p 0)) ∧ W.cell? ⟨g2, k * 13 + 12, none⟩ = some (.int .i64 p)
set_option maxHeartbeats 32000000 in
theorem told_any (w : World) (hc : Cells w 0 letL) (a : Fa) (m : Mm) (RL : List Rc) (im : Im) (ML : List It) (h : FrOkA M00 w a m RL) (hml : ItsOk M00 w (.slice im.ml.o im.ml.n im.ml.c) ML) (hg : TeOk M00 w im.got) (hpid : -9223372036854775808 ≤ m.pid ∧ m.pid ≤ 9223372036854775807) :
    Calls Tryd.prog 3 #[.agg (flL a m).toArray, .agg (imL im).toArray] w (IsPost w true) := by
  have hb1 := ((Below.refl w.heap.size w).alloc (Nat.le_refl _) (.cells (flL a m).toArray 36)).alloc (by simp) (.cells (imL im).toArray 39)
  have n1 := heap_old (heap_new w (.cells (flL a m).toArray 36)) (.cells (imL im).toArray 39)
  have n2 := heap_new (w.alloc (.cells (flL a m).toArray 36)) (.cells (imL im).toArray 39)
  rw [World.size_alloc] at n2
  have H1 : Hid (ToS w ((w.alloc (.cells (flL a m).toArray 36)).alloc (.cells (imL im).toArray 39)) a m im) := Lib.hid ⟨hb1, n1, n2⟩
  have HX := Lib.hid (And.intro hc (And.intro h (And.intro hml (And.intro hg hpid))))
  have HL := Lib.hid (And.intro h.rs.1 (And.intro h.rs.2.1 h.rs.2.2.1))
  clear hb1 n1 n2 hc h hml hg hpid
  go_enter Tryd.func3, Tryd.ntmps3
  go_wp2_with (with_reducible refine stop_op (o := ⟨_, .load 36 (.tmp 2), _, _, _, _⟩) ?_)
  refine Lib.hid ?_
  generalize (w.alloc (.cells (flL a m).toArray 36)).alloc (.cells (imL im).toArray 39) = w1 at *
  refine wpList_load_row (o := ⟨_, _, _, _, _, _⟩) rfl 36 (.tmp 2) rfl w.heap.size rfl 36 (flL a m).toArray (0, 0) _ H1.out.hF Tryd.underlying36 rfl (infoFR rfl) ?_
  go_wp2_with (with_reducible refine stop_op (o := ⟨_, .load 39 (.tmp 3), _, _, _, _⟩) ?_)
  refine Lib.hid ?_
  refine wpList_load_row (o := ⟨_, _, _, _, _, _⟩) rfl 39 (.tmp 3) rfl (w.heap.size + 1) rfl 39 (imL im).toArray (0, 0) _ H1.out.hI Tryd.underlying39 rfl (infoIN rfl) ?_
  go_wp2_with fail
  refine (g24_any M00 w1 a m RL im ML (HX.out.2.1.keep H1.out.hb) (HX.out.2.2.1.keep H1.out.hb) (HX.out.2.2.2.1.keep H1.out.hb)).mono ?_
  rintro e w2 ⟨b, rfl, hb2, hlen⟩
  have H2 := Lib.hid (H1.out.keep hb2)
  clear hb2 H1
  cases b
  rotate_left
  · clear hlen
    go_wp2_with fail
    refine (wakes_x w2 (keepCells HX.out.1 H2.out.hb)).mono ?_
    rintro e WW ⟨rfl, hbW⟩
    have HBW := Lib.hid (H2.out.hb.trans (hbW.mono H2.out.hb.size))
    clear hbW H2
    go_wp2_with fail
    go_ret
    exact ⟨rfl, HBW.out⟩
  have HLN := Lib.hid (hlen rfl)
  clear hlen
  go_wp2_with fail
  go_loopw [5] (fun iv wr => ∃ i : Nat, i ≤ RL.length ∧ iv = .int .i64 i ∧ Hid (ToS w wr a m im ∧ ∀ r ∈ RL.take i, r.pid ≤ 576460752303423487)) (fun iv _ => RL.length - (intOf iv).toNat)
  case atStart => exact ⟨0, by omega, rfl, Lib.hid ⟨H2.out, fun r hr => by simp at hr⟩⟩
  case round =>
    clear H2
    obtain ⟨i, hi, rfl, HI⟩ := hrel
    have hln := HLN.out
    have c28 : wr.cell? ⟨w.heap.size, 28, none⟩ = some (.slice m.rs.o m.rs.n m.rs.c) := (cells_at HI.out.1.hF 28 _ rfl).1
    rw [HL.out.1] at c28
    by_cases hlt : i < RL.length
    · obtain ⟨r, hr⟩ : ∃ r, RL[i]? = some r := ⟨RL[i], List.getElem?_eq_getElem hlt⟩
      obtain ⟨b, off, e, -, hcl⟩ := (HX.out.2.1.rs.keep HI.out.1.hb).at hr
      have c12 := hcl 12 _ rfl
      rw [e] at c28
      have HR := Lib.hid (And.intro hr e)
      clear hcl hr e
      by_cases hbig : 576460752303423487 < r.pid
      · have hd : decide (576460752303423487 < r.pid) = true := by simpa using hbig
        clear hbig
        have H3 := Lib.hid HI.out.1
        clear HI
        go_wp2_with fail
        refine (wakes_x wr (keepCells HX.out.1 H3.out.hb)).mono ?_
        rintro e WW ⟨rfl, hbW⟩
        have HBW := Lib.hid (H3.out.hb.trans (hbW.mono H3.out.hb.size))
        clear hbW H3 c28 c12
        go_wp2_with fail
        go_ret
        exact ⟨rfl, HBW.out⟩
      · have hd : decide (576460752303423487 < r.pid) = false := by simpa using hbig
        have HI' : Hid (ToS w wr a m im ∧ ∀ r ∈ RL.take (i + 1), r.pid ≤ 576460752303423487) := Lib.hid ⟨HI.out.1, fun q hq => by
          rw [List.take_add_one, HR.out.1] at hq
          simp only [Option.toList_some, List.mem_append, List.mem_cons, List.not_mem_nil, or_false] at hq
          rcases hq with hq | rfl
          · exact HI.out.2 q hq
          · omega⟩
        clear hbig HI
        go_wp2_with fail
        go_roundw
        case rel => exact ⟨i + 1, by omega, by go_num, HI'⟩
        case measure => simp [intOf]; omega
    · obtain rfl : i = RL.length := by omega
      have HP := Lib.hid (show ∀ r ∈ RL, r.pid ≤ 576460752303423487 from fun r hr => HI.out.2 r (by rw [List.take_length]; exact hr))
      have H3 := Lib.hid HI.out.1
      clear HI hi
      go_wp2_with (with_reducible refine stop_op (o := ⟨_, .load 36 (.tmp 2), _, _, _, _⟩) ?_)
      refine Lib.hid ?_
      refine wpList_load_row (o := ⟨_, _, _, _, _, _⟩) rfl 36 (.tmp 2) rfl w.heap.size rfl 36 (flL a m).toArray (0, 0) _ H3.out.hF Tryd.underlying36 rfl (infoFR rfl) ?_
      go_wp2_with (with_reducible refine stop_op (o := ⟨_, .load 39 (.tmp 3), _, _, _, _⟩) ?_)
      refine Lib.hid ?_
      refine wpList_load_row (o := ⟨_, _, _, _, _, _⟩) rfl 39 (.tmp 3) rfl (w.heap.size + 1) rfl 39 (imL im).toArray (0, 0) _ H3.out.hI Tryd.underlying39 rfl (infoIN rfl) ?_
      clear c28 hln hlt
      go_wp2_with fail
      refine (step_any M00 wr (fun _ h => h.elim) (keepCells HX.out.1 H3.out.hb) a m RL im ML ⟨HX.out.2.1.U.keep H3.out.hb, HX.out.2.1.rs.keep H3.out.hb⟩ (HX.out.2.2.1.keep H3.out.hb) HLN.out (fun r hr => ⟨(HX.out.2.1.rp r hr).1, HP.out r hr⟩) HX.out.2.2.2.2).mono ?_
      rintro e w6 ⟨m', v, E1, RL', rfl, hb6, hef, hmc, hq⟩
      have HB := Lib.hid (told_all hq HL.out.1 HLN.out HP.out)
      have HRL := Lib.hid (sr_len hq)
      have HS := Lib.hid (And.intro hef hmc)
      have H4 := Lib.hid (H3.out.keep hb6)
      obtain ⟨eo, ec, hv, hec, hec2, -⟩ := hef
      subst hv
      clear hb6 hmc hq H3
      go_wp2_with (with_reducible refine stop_op (o := ⟨_, .store 36 (.tmp 6) (.tmp 40), _, _, _, _⟩) ?_)
      refine Lib.hid ?_
      refine wpList_store_new (o := ⟨none, _, _, _, _, _⟩) rfl 36 (.tmp 6) (.tmp 40) rfl (flL a m').toArray rfl rfl (infoFR rfl) rfl (all_oneCell_toArray (flL_one _ _)) ?_
      have hb7 := (Below.refl w6.heap.size w6).alloc (Nat.le_refl _) (.cells (flL a m').toArray 36)
      have H7 : Hid (TlI w w6 (w6.alloc (.cells (flL a m').toArray 36)) a m m' im w6.heap.size) := Lib.hid ⟨H4.out.keep hb7, hb7, heap_new w6 (.cells (flL a m').toArray 36)⟩
      clear hb7 H4
      generalize w6.alloc (.cells (flL a m').toArray 36) = w7 at *
      generalize hp6 : w6.heap.size = p6 at H7
      have HP6 := Lib.hid hp6
      clear hp6
      have HEC := Lib.hid (And.intro hec hec2)
      clear hec hec2
      go_wp2_with fail
      go_loopw [8] (fun jv wr => ∃ j : Nat, j ≤ E1.length ∧ jv = .int .i64 j ∧ Hid (TlI w w6 wr a m m' im p6)) (fun jv _ => E1.length - (intOf jv).toNat)
      case atStart => exact ⟨0, by omega, rfl, H7⟩
      case round =>
        clear H7
        obtain ⟨j, hj, rfl, HI⟩ := hrel
        have hec := HEC.out.1
        have hec2 := HEC.out.2
        by_cases hlt : j < E1.length
        · obtain ⟨e, he⟩ : ∃ e, E1[j]? = some e := ⟨E1[j], List.getElem?_eq_getElem hlt⟩
          obtain ⟨b, ec', e1, -, hcl⟩ := (HS.out.1.keep HI.out.h6).at he
          injection e1 with e1 _ e2
          subst e1 e2
          have k0 : wr.cell? ⟨b, j * 61, none⟩ = some (.int .i8 e.kd) := hcl 0 _ (by omega) rfl
          have hbk := HB.out e (List.mem_of_getElem? he)
          by_cases hk : e.kd = 11
          · obtain ⟨y, er, D, r, rfl, hyo, hyt, hck, hE, hor, hD, hDp⟩ := hbk hk
            have k3 : wr.cell? ⟨b, j * 61 + 3, none⟩ = some (.int .i8 y.k) := hcl 3 _ (by omega) rfl
            have k4 : wr.cell? ⟨b, j * 61 + 3 + 1, none⟩ = some (.int .i64 y.n) := hcl 4 _ (by omega) rfl
            have k5 : wr.cell? ⟨b, j * 61 + 3 + 2, none⟩ = some (.string y.s) := hcl 5 _ (by omega) rfl
            have k6 : wr.cell? ⟨b, j * 61 + 3 + 3, none⟩ = some (.string y.u) := hcl 6 _ (by omega) rfl
            have k7 : wr.cell? ⟨b, j * 61 + 3 + 4, none⟩ = some (.slice y.ao y.l.length y.cap) := hcl 7 _ (by omega) rfl
            rw [hk] at k0
            have HRE := Lib.hid (result_any (M := M00) wr (keepCells HX.out.1 HI.out.s.hb) D hDp hD er r y (hyo.keep HI.out.h6) hyt hck)
            have HD := Lib.hid (And.intro hE (And.intro hor hD))
            clear hyo hyt hck hE hor hD hDp hbk hk hcl he
            go_wp2_with fail
            refine HRE.out.mono ?_
            clear HRE
            rintro e w8 ⟨hb8, pv, z, rfl, hpi⟩
            have HI8 := Lib.hid (And.intro (HI.out.keep hb8) hpi)
            clear hb8 hpi k0 k3 k4 k5 k6 k7 HI
            go_wp2_with (with_reducible refine stop_op (o := ⟨_, .store 27 (.tmp 10) (.tmp 62), _, _, _, _⟩) ?_)
            refine Lib.hid ?_
            refine wpList_store_new (o := ⟨none, _, _, _, _, _⟩) rfl 27 (.tmp 10) (.tmp 62) rfl #[.int .i8 z.k, .int .i64 z.n, .string z.s, .string z.u, .slice z.ao z.l.length z.cap] rfl rfl (infoTM' _ rfl) rfl (by simp [Value.oneCell']) ?_
            have hb9 := (Below.refl w8.heap.size w8).alloc (Nat.le_refl _) (.cells #[.int .i8 z.k, .int .i64 z.n, .string z.s, .string z.u, .slice z.ao z.l.length z.cap] 27)
            have HI9 := Lib.hid (And.intro (HI8.out.1.keep hb9) (own_keep HI8.out.2 hb9))
            clear hb9 HI8
            generalize w8.alloc (.cells #[.int .i8 z.k, .int .i64 z.n, .string z.s, .string z.u, .slice z.ao z.l.length z.cap] 27) = w9 at *
            go_wp2_with (with_reducible refine stop_op (o := ⟨_, .load 36 (.tmp 6), _, _, _, _⟩) ?_)
            refine Lib.hid ?_
            refine wpList_load_row (o := ⟨_, _, _, _, _, _⟩) rfl 36 (.tmp 6) rfl p6 rfl 36 (flL a m').toArray (0, 0) _ HI9.out.1.hG Tryd.underlying36 rfl (infoFR rfl) ?_
            go_wp2_with fail
            refine (done_any M00 w9 a m' RL' (HS.out.2.rs.keep HI9.out.1.h6) (by have h1 := HRL.out; have h2 := HLN.out; omega)).mono ?_
            rintro e w10 ⟨hb10, dv, rfl, hdn⟩
            have HIA := Lib.hid (And.intro (HI9.out.1.keep hb10) (And.intro (own_keep HI9.out.2 hb10) hdn))
            obtain ⟨po, pc, rfl⟩ := own_slice HI9.out.2
            obtain ⟨do_, dc, rfl⟩ := own_slice hdn
            clear hb10 hdn HI9
            have c28 : w10.cell? ⟨w.heap.size, 28, none⟩ = some (.slice m.rs.o m.rs.n m.rs.c) := (cells_at HIA.out.1.s.hF 28 _ rfl).1
            have c8 : w10.cell? ⟨w.heap.size, 8, none⟩ = some (.int .i8 m.ph) := (cells_at HIA.out.1.s.hF 8 _ rfl).1
            rw [HL.out.1] at c28
            obtain ⟨hE, ⟨h4, rfl, rfl⟩ | ⟨h4, rfl⟩, hD⟩ := HD.out
            · rw [h4] at c8
              clear hE h4 hD HD
              have H11 := Lib.hid HIA.out.1.s
              clear HIA
              go_wp2_with fail
              refine (wakes_x w10 (keepCells HX.out.1 H11.out.hb)).mono ?_
              rintro e WW ⟨rfl, hbW⟩
              have HBW := Lib.hid (H11.out.hb.trans (hbW.mono H11.out.hb.size))
              clear hbW H11
              go_wp2_with fail
              go_ret
              exact ⟨rfl, HBW.out⟩
            · have q4 : (m.ph == 4) = false := by simp [h4]
              generalize doneL a m' RL' = D at *
              have hD100 : D.length ≤ 100 := hD
              clear h4 HD hD
              cases er
              · have q5 : ((D.length : Int) != (RL.length : Int)) = false := by simp [hE rfl]
                clear hE
                go_wp2_with fail
                clear c28 c8 q4
                go_loopw [14] (fun kv wr => ∃ k : Nat, k ≤ D.length ∧ kv = .int .i64 k ∧ Hid (Below w10.heap.size w10 wr)) (fun kv _ => D.length - (intOf kv).toNat)
                case atStart => exact ⟨0, by omega, rfl, Lib.hid (Below.refl _ _)⟩
                case round =>
                  obtain ⟨k, hk, rfl, HK⟩ := hrel
                  by_cases hk2 : k < D.length
                  · obtain ⟨r2, hr2⟩ : ∃ r2, D[k]? = some r2 := ⟨D[k], List.getElem?_eq_getElem hk2⟩
                    obtain ⟨g, c, eg⟩ := own_some HIA.out.2.1 (by omega)
                    injection eg with eg _ eg2
                    subst eg eg2
                    obtain ⟨g2, c2, eg⟩ := own_some HIA.out.2.2 (by omega)
                    injection eg with eg _ eg2
                    subst eg eg2
                    have hS : CmS g k g2 r2.pid wr.drew := ⟨keep_cell (own_cells HIA.out.2.1 (j := k) (u := .int .i64 (max r2.pid 0)) (by simp only [pidI, List.getElem?_map, hr2, Option.map_some])) (HK.out.trans ((Below.refl _ _).drew.mono HK.out.size)), keep_cell (own_cells HIA.out.2.2 (j := k * 13 + 12) (u := .int .i64 r2.pid) (by rw [rcs_at D k 12 r2 hr2 (by omega)]; rfl)) (HK.out.trans ((Below.refl _ _).drew.mono HK.out.size))⟩
                    have HK2 := Lib.hid (HK.out.trans ((Below.refl wr.heap.size wr).drew.mono HK.out.size))
                    clear HK hr2
                    go_upto_region 24 with fail
                    refine region_plan (CmS g k g2 r2.pid) [(0, 0), (1, 0), (2, 0), (3, 0), (4, 0), (5, 0), (6, 0), (7, 0), (8, 0), (9, 0), (10, 0)] (by kernel_rfl) (by kernel_rfl) (by kernel_rfl) hS ?_
                    iterate 11 (first | (refine plan_skip rfl ?_ ?_; (focus (rfl)); (try simp only [Act.put, List.setIfInBounds_toArray, List.set_cons_zero, List.set_cons_succ])) | (refine plan_take (v := ?_) rfl ?_ (fun w hSw => ?_) ?_; rotate_left; (focus (rfl)); (focus (unfold CmS at hSw; (go_simp <;> with_reducible rfl))); (try simp only [Act.put, List.setIfInBounds_toArray, List.set_cons_zero, List.set_cons_succ])))
                    refine plan_done ?_
                    generalize wr.drew = WD at *
                    clear hS
                    go_wp2_with fail
                    go_roundw
                    case rel => exact ⟨k + 1, by omega, by go_num, HK2⟩
                    case measure => simp [intOf]; omega
                  · have HIB := Lib.hid (HIA.out.1.keep HK.out)
                    clear HK
                    go_wp2_with fail
                    go_roundw
                    case rel => exact ⟨j + 1, by omega, by go_num, HIB⟩
                    case measure => simp [intOf]; omega
              · clear hE
                go_wp2_with fail
                clear c28 c8 q4
                go_loopw [14] (fun kv wr => ∃ k : Nat, k ≤ D.length ∧ kv = .int .i64 k ∧ Hid (Below w10.heap.size w10 wr)) (fun kv _ => D.length - (intOf kv).toNat)
                case atStart => exact ⟨0, by omega, rfl, Lib.hid (Below.refl _ _)⟩
                case round =>
                  obtain ⟨k, hk, rfl, HK⟩ := hrel
                  by_cases hk2 : k < D.length
                  · obtain ⟨r2, hr2⟩ : ∃ r2, D[k]? = some r2 := ⟨D[k], List.getElem?_eq_getElem hk2⟩
                    obtain ⟨g, c, eg⟩ := own_some HIA.out.2.1 (by omega)
                    injection eg with eg _ eg2
                    subst eg eg2
                    obtain ⟨g2, c2, eg⟩ := own_some HIA.out.2.2 (by omega)
                    injection eg with eg _ eg2
                    subst eg eg2
                    have hS : CmS g k g2 r2.pid wr.drew := ⟨keep_cell (own_cells HIA.out.2.1 (j := k) (u := .int .i64 (max r2.pid 0)) (by simp only [pidI, List.getElem?_map, hr2, Option.map_some])) (HK.out.trans ((Below.refl _ _).drew.mono HK.out.size)), keep_cell (own_cells HIA.out.2.2 (j := k * 13 + 12) (u := .int .i64 r2.pid) (by rw [rcs_at D k 12 r2 hr2 (by omega)]; rfl)) (HK.out.trans ((Below.refl _ _).drew.mono HK.out.size))⟩
                    have HK2 := Lib.hid (HK.out.trans ((Below.refl wr.heap.size wr).drew.mono HK.out.size))
                    clear HK hr2
                    go_upto_region 24 with fail
                    refine region_plan (CmS g k g2 r2.pid) [(0, 0), (1, 0), (2, 0), (3, 0), (4, 0), (5, 0), (6, 0), (7, 0), (8, 0), (9, 0), (10, 0)] (by kernel_rfl) (by kernel_rfl) (by kernel_rfl) hS ?_
                    iterate 11 (first | (refine plan_skip rfl ?_ ?_; (focus (rfl)); (try simp only [Act.put, List.setIfInBounds_toArray, List.set_cons_zero, List.set_cons_succ])) | (refine plan_take (v := ?_) rfl ?_ (fun w hSw => ?_) ?_; rotate_left; (focus (rfl)); (focus (unfold CmS at hSw; (go_simp <;> with_reducible rfl))); (try simp only [Act.put, List.setIfInBounds_toArray, List.set_cons_zero, List.set_cons_succ])))
                    refine plan_done ?_
                    generalize wr.drew = WD at *
                    clear hS
                    go_wp2_with fail
                    go_roundw
                    case rel => exact ⟨k + 1, by omega, by go_num, HK2⟩
                    case measure => simp [intOf]; omega
                  · have HIB := Lib.hid (HIA.out.1.keep HK.out)
                    clear HK
                    go_wp2_with fail
                    go_roundw
                    case rel => exact ⟨j + 1, by omega, by go_num, HIB⟩
                    case measure => simp [intOf]; omega
          · have q0 : (e.kd != 11) = true := by simp [hk]
            clear hbk hk hcl he
            go_wp2_with fail
            go_roundw
            case rel => exact ⟨j + 1, by omega, by go_num, HI⟩
            case measure => simp [intOf]; omega
        · have H3 := Lib.hid HI.out.s
          clear HI
          go_wp2_with fail
          refine (wakes_x wr (keepCells HX.out.1 H3.out.hb)).mono ?_
          rintro e WW ⟨rfl, hbW⟩
          have HBW := Lib.hid (H3.out.hb.trans (hbW.mono H3.out.hb.size))
          clear hbW H3
          go_wp2_with fail
          go_ret
          exact ⟨rfl, HBW.out⟩
theorem told_row {H : Type} {enc : TypeId × Value → H} (W : World) {base : Nat} {v0 v1 : Value} {d0 d1 : DataW H} {p0 p1 : List MemPlace}
    (hv0 : Value.okWide Tryd.prog W .any base 36 v0) (h0 : DataW.Trod enc Tryd.prog W 0 (fun _ => true) true 36 v0 d0 p0)
    (hv1 : Value.okWide Tryd.prog W .any base 39 v1) (h1 : DataW.Trod enc Tryd.prog W 0 (fun _ => true) true 39 v1 d1 p1)
    (hL : laidMetH Tryd.prog [("pleach/atoms.letters", letD)] W) : Calls Tryd.prog 3 #[v0, v1] W (IsPost W true) := by
  obtain ⟨a, m, RL, rfl, hf⟩ := frame_of hv0 h0
  obtain ⟨i, ML, rfl, hml, hg⟩ := in_of hv1 h1
  exact told_any W (letters_of W hL) a m RL i ML (hf.chg (Chg.refl (fun _ => False) W) (fun _ h => h.elim) (fun _ h => h.elim)) (hml.chg (Chg.refl (fun _ => False) W) (fun _ h => h.elim) (fun _ h => h.elim)) (hg.more (fun _ h => h.elim)) (pid_of h0)
end Go.Proofs.YtepfmanbllegiaaDoor
