/- collect: Run. Conditions: the table of letters reads as laid; what comes reads. -/
import Derived.Test.YtfbohajojaaiaaaDoorHl
import Derived.Test.YtfbohajojaaiaaaDoorKu
namespace Go.Proofs.YtfbohajojaaiaaaDoor
open Go.ChangeShapes Go.WideShapes Go.ChangeAt Go.RowKit Go.Shelf
set_option linter.unusedVariables false
set_option maxRecDepth 100000
theorem wok_cell (f : Nat) (w : World) (n : Nat) (hn : n ≤ 1048576) : WOk f w (cellW n) :=
  ⟨⟨by simp only [cellW]; omega, by simp only [cellW]; omega⟩, ⟨by simp [cellW], by simp [cellW], Nat.zero_le _, Nat.zero_le _⟩, none, 0, rfl, by simp [cellW], by omega, fun i t h => by simp [cellW] at h⟩
theorem look_mem {g : List (Int × Nat)} {p : Int} {n : Nat} (h : look g p = some n) : (p, n) ∈ g := by
  induction g using snoc_ind with
  | h0 => cases h
  | h1 l a ih =>
    obtain ⟨k, m⟩ := a
    rw [look_snoc] at h
    split at h
    · rename_i e
      injection h with h
      subst e h
      simp
    · simp [ih h]
theorem wok_mv {f : Nat} {w : World} {s : List Int} {x : Wd} (h : WOk f w x) (hs : s.length ≤ 1048576) : WOk f w (mv (gOf s) x) := by
  unfold mv
  split
  · split
    · rename_i n hl
      have hm := look_mem hl
      obtain ⟨i, hi⟩ := List.getElem?_of_mem hm
      have hi2 := (List.getElem?_eq_some_iff.1 hi).1
      rw [gOf, List.getElem?_zipIdx] at hi
      have hn : i = n := by
        cases hx : s[i]? with
        | none => rw [hx] at hi; cases hi
        | some y =>
          rw [hx] at hi
          simp at hi
          exact hi.2
      simp [gOf] at hi2
      exact wok_cell f w n (by omega)
    · exact h
  · exact h
theorem Hp.chg {S : Nat → Prop} {w w' : World} {base p : Nat} {v : Value} {C : List HC} (h : Hp w base p v C) (hc : Chg S w w') (hS : ∀ k, S k → k < base) : Hp w' base p v C :=
  ⟨hc.heap h.1 (fun e => by have := hS p e; have := h.2.1; omega), h.2.1, h.2.2.1.chg2 hc (fun c hcm k hk hs => by have := own_base (h.2.2.1.2 c hcm) k hk; have := hS k hs; omega) (fun k hk hs => by have := own_base h.2.2.1.1 k hk; have := hS k hs; omega), h.2.2.2⟩
def RunP (w : World) (C : List HC) (L : List Wd) (e : Ending) (w' : World) : Prop :=
  Below w.heap.size w w' ∧ (((L.any fun x => !mayW C.length x) = true ∧ e = .returned (.tuple #[.pointer none, nS, .int .i64 2])) ∨
    ((L.any fun x => !mayW C.length x) = false ∧ ∃ s base v' C' ao cap, w.heap.size ≤ base ∧ (∀ x, x ∈ s ↔ Rch C L x) ∧ Ran C (outL C.length s) C' ∧ Made C' ∧ Hp w' base base v' C' ∧
      e = .returned (.tuple #[.pointer (some ⟨base, 0, none⟩), .slice ao L.length cap, .int .i64 0]) ∧ w'.ownsRow w.heap.size 58 7 (.slice ao L.length cap) L.length (wcs (L.map (mv (gOf (outL C.length s)))))))
theorem run_nil (w : World) (ao : Option Addr) (n cap : Nat) : Calls Tryd.prog 9 #[.pointer none, .slice ao n cap] w fun e w' => e = .returned (.tuple #[.pointer none, nS, .int .i64 1]) ∧ Below w.heap.size w w' := by
  have H := Lib.hid (reached_nil w ao n cap)
  go_enter Tryd.func9, Tryd.ntmps9
  go_wp2_with fail
  refine H.out.mono ?_
  rintro e w1 ⟨rfl, hb1⟩
  go_wp2_with fail
  go_ret3
  exact ⟨rfl, hb1⟩
/-- what stands while it goes over keys: s were made, t stand in the map -/
structure RunI (w1 : World) (pB : Nat) (C : List HC) (s t : List Int) (v' : Value) (C' : List HC) (wr : World) : Prop where
  hb : Below w1.heap.size w1 wr
  hp : Hp wr pB pB v' C'
  hran : Ran C s C'
  hmade : Made C'
  hm : wr.heap[w1.heap.size + 1]? = some (.cells #[.map (some w1.heap.size)] 74 (0, 0))
  hmap : wr.ownsMap Tryd.prog 3 RW w1.heap.size t.length (goM (gOf t))
/-- a word's block that no row of the heap owns is turned -/
theorem RunI.box {w1 : World} {pB bnd lim X : Nat} {C : List HC} {s t : List Int} {v' : Value} {C' : List HC} {wr : World} {zs : Array Value} (h : RunI w1 pB C s t v' C' wr) (hX : wr.heap[X]? = some (.cells zs 58 (0, 0))) (hpB : w1.heap.size + 1 < pB) (hb1 : pB < bnd) (hb2 : bnd ≤ X) (hb3 : X < lim)
    (hr : ∀ d ∈ C', ∀ j, (Value.slice d.lo d.l.length d.lc).ownBlock = some j → j < bnd ∨ lim ≤ j) (cs : Array Value) : RunI w1 pB C s t v' C' (wr.setRow X cs) := by
  have hc := chg_setRow wr X cs
  refine ⟨h.hb.trans (hc.below h.hb.size (fun j hj => by have hj : j = X := hj; omega)), ⟨hc.heap h.hp.1 (fun hj => by have hj : pB = X := hj; omega), h.hp.2.1, h.hp.2.2.1.chg2 hc (fun d hd j hj hs => ?_) (fun j hj hs => ?_), h.hp.2.2.2⟩, h.hran, h.hmade, hc.heap h.hm (fun hj => by have hj : w1.heap.size + 1 = X := hj; omega), map_chg h.hmap hc (fun hj => by have hj : w1.heap.size = X := hj; omega)⟩
  · have hs : j = X := hs
    have := hr d hd j hj
    omega
  · have hs : j = X := hs
    obtain ⟨cur, hcur⟩ := own_type h.hp.2.2.1.1 j hj
    rw [hs, hX] at hcur
    cases hcur
theorem RunI.keep {w1 : World} {pB : Nat} {C : List HC} {s t : List Int} {v' : Value} {C' : List HC} {wr wr' : World} (h : RunI w1 pB C s t v' C' wr) (hb : Below wr.heap.size wr wr') : RunI w1 pB C s t v' C' wr' :=
  ⟨h.hb.trans (hb.mono h.hb.size), h.hp.keep hb, h.hran, h.hmade, keep_heap h.hm hb, map_chg h.hmap (chg_of_below hb (fun _ => False)) (fun h => h)⟩
/-- one cell is made -/
theorem make_step (f : Nat) (w1 : World) (pB bnd B : Nat) (C C' : List HC) (s t : List Int) (k : Int) (c : HC) (v' : Value) (W : World) (ao : Option Addr) (cap : Nat) (hC : Good C) (hM : Made C) (hcl : Cl C (s ++ k :: t)) (hkc : C[k.toNat]? = some c)
    (h : RunI w1 pB C s s v' C' W) (hpB : w1.heap.size + 1 < pB) (hbnd : pB < bnd) (hob : ∀ j, v'.ownBlock = some j → j < bnd) (hrb : ∀ d ∈ C', ∀ j, (Value.slice d.lo d.l.length d.lc).ownBlock = some j → j < bnd) (hL : Cells W 0 letL) (hO : ∀ x ∈ c.l, WOk f W x) (hown : W.ownsRow B 58 7 (.slice ao c.l.length cap) c.l.length (wcs (c.l.map (mv (gOf s))))) :
    Calls Tryd.prog 25 #[.pointer (some ⟨pB, 0, none⟩), .int .i8 c.k, .slice ao c.l.length cap] W fun e W' => ∃ v'' C'', e = .returned (.tuple #[.agg (wcC s.length), .int .i64 0]) ∧ RunI w1 pB C (s ++ [k]) s v'' C'' W' ∧ W.heap.size ≤ W'.heap.size ∧ (∀ j o, bnd ≤ j → W.heap[j]? = some o → W'.heap[j]? = some o) ∧ (∀ d ∈ C'', ∀ j, (Value.slice d.lo d.l.length d.lc).ownBlock = some j → j < bnd ∨ W.heap.size ≤ j) := by
  obtain ⟨h0, hsz⟩ := ran_next hC hM hcl h.hran hkc
  have hsl : s.length ≤ 1048576 := by
    have := h.hp.2.2.2.1
    rw [h.hran.len] at this
    exact this
  have hlm : (c.l.map (mv (gOf s))).length = c.l.length := by simp
  have hown' := hown
  rw [← hlm] at hown'
  obtain ⟨ao2, cap2, e, -, -, hrw, hno⟩ := own_wrow hown'
  injection e with e1 e2 e3
  subst e1 e3
  have hll := (hC.2 _ _ hkc).2.2.2.1
  have hmk := make_any f W pB pB v' C' c.k (c.l.map (mv (gOf s))) ao cap h.hp hL hrw (fun x hx => by
    obtain ⟨y, hy, rfl⟩ := List.mem_map.1 hx
    exact wok_mv (hO y hy) hsl) (by rw [hlm]; omega) hno
  rw [hlm] at hmk
  refine hmk.mono ?_
  rintro e W' (⟨-, v'', lo, lc, rfl, hp', hc, hv, hlo⟩ | ⟨h1, -⟩)
  · rw [hsz] at hp'
    have hS : ∀ j, heapS pB v' j → pB ≤ j := fun j hj => by
      rcases hj with rfl | hj
      · exact Nat.le_refl _
      · exact own_base h.hp.2.2.1.1 j hj
    have hb : Below w1.heap.size w1 W' := h.hb.trans (hc.below h.hb.size (fun j hj => by have := hS j hj; omega))
    refine ⟨v'', _, by rw [h.hran.len], ⟨hb, hp', h.hran.snoc hkc, ?_, hc.heap h.hm (fun hj => by have := hS _ hj; omega), map_chg h.hmap hc (fun hj => by have := hS _ hj; omega)⟩, hc.size, fun j o hj ho => hc.heap ho (fun hs => ?_), fun d hd j hj => ?_⟩
    · rw [← hsz]
      exact h.hmade.snoc h0
    · rcases hs with rfl | hs
      · omega
      · have := hob j hs
        omega
    · rw [List.mem_append] at hd
      rcases hd with hd | hd
      · exact .inl (hrb d hd j hj)
      · obtain rfl := List.mem_singleton.1 hd
        exact .inr (hlo j hj)
  · exact absurd h0 h1
/-- what a round reads -/
def RunS (cb : Nat) (k : Int) (v : Value) (W : World) : Prop := W.cell? ⟨cb, 0, none⟩ = some (.int .i8 k) ∧ W.cell? ⟨cb, 2, none⟩ = some v
theorem RunS.keep {cb : Nat} {k : Int} {v : Value} {W W' : World} (h : RunS cb k v W) (hb : Below W.heap.size W W') : RunS cb k v W' := ⟨keep_cell h.1 hb, keep_cell h.2 hb⟩
set_option maxHeartbeats 8000000 in
theorem run_any (w : World) (f base p : Nat) (v : Value) (C : List HC) (ao : Option Addr) (cap : Nat) (L : List Wd) (hH : Hp w base p v C) (hM : Made C) (hO : ∀ c ∈ C, ∀ x ∈ c.l, WOk f w x) (hL : Cells w 0 letL) (hr : WRow w ao L) (ho : ∀ x ∈ L, WOk f w x) (hn : L.length ≤ 1099511627776) :
    Calls Tryd.prog 9 #[.pointer (some ⟨p, 0, none⟩), .slice ao L.length cap] w (RunP w C L) := by
  have hC20 : C.length ≤ 1048576 := hH.2.2.2.1
  have HRE := Lib.hid (reached_any w f base p v C ao cap L hH hL hr ho hn)
  have HH := Lib.hid hH
  have HM := Lib.hid hM
  have HO := Lib.hid hO
  have HL := Lib.hid hL
  have HR := Lib.hid hr
  have HW := Lib.hid ho
  have hmm := @run_makeMap Tryd.prog
  clear hH hM hO hL hr ho
  go_enter Tryd.func9, Tryd.ntmps9
  go_wp2_with fail
  refine HRE.out.mono ?_
  rintro e w1 ⟨hb1, (⟨hbad, rfl⟩ | ⟨hgood, s0, v, hs0, rfl, hown⟩)⟩
  · have HX := Lib.hid hb1
    have HB := Lib.hid hbad
    clear hb1 hbad hmm
    go_wp2_with fail
    go_ret3
    exact ⟨HX.out, .inl ⟨HB.out, rfl⟩⟩
  have hmay : ∀ x ∈ L, mayW C.length x = true := fun x hx => by
    rw [List.any_eq_false] at hgood
    have := hgood x hx
    simpa using this
  have HCL := Lib.hid (cl_outL HH.out.2.2.2 hmay hs0)
  have hlen := len_of_nodup HCL.out.nodup HCL.out.lt
  have HGD := Lib.hid hgood
  have HS0 := Lib.hid hs0
  generalize hse : outL C.length s0 = s at *
  have HSE := Lib.hid hse
  obtain ⟨so, sc, rfl⟩ := own_slice hown
  have HSO := Lib.hid hown
  have HB1 := Lib.hid hb1
  have hww := hb1.size
  clear hb1 hgood hs0 hown hmay hse
  go_wp2_with fail
  refine (new_any _).mono ?_
  rintro e w2 ⟨rfl, hp2, hb2⟩
  have hI0 : RunI w1 (w1.heap.size + 1 + 1) C [] [] (.slice none 0 0) [] w2 := by
    have z1 := heap_new (w1.alloc (.map #[] 0)) (.cells #[.map (some w1.heap.size)] 74)
    have hm := (World.ownsMap_made w1 Tryd.prog 3 RW).alloc (.cells #[.map (some w1.heap.size)] 74)
    simp only [World.size_alloc] at z1 hp2
    have hB : Below w1.heap.size w1 ((w1.alloc (.map #[] 0)).alloc (.cells #[.map (some w1.heap.size)] 74)) := ((Below.refl _ w1).alloc (Nat.le_refl _) _).alloc (by simp) _
    exact ⟨hB.trans (hb2.mono (by simp; omega)), hp2, Ran.nil C, Made.nil, keep_heap z1 hb2, map_chg hm (chg_of_below hb2 (fun _ => False)) (fun h => h)⟩
  simp only [World.size_alloc]
  have HI0 := Lib.hid hI0
  clear hp2 hb2 hI0 hmm
  go_wp2_with fail
  go_loopw [32] (fun iv wr => ∃ (i : Nat) (v' : Value) (C' : List HC), i ≤ s.length ∧ iv = .int .i64 i ∧ Hid (RunI w1 (w1.heap.size + 1 + 1) C (s.take i) (s.take i) v' C' wr))
    (fun iv _ => s.length - (intOf iv).toNat)
  case atStart => exact ⟨0, _, _, by omega, rfl, HI0⟩
  case round =>
    clear HI0
    obtain ⟨i, v', C', hi', rfl, HI⟩ := hrel
    by_cases hlt : i < s.length
    · obtain ⟨g, cap', e, hg1, hgs, hgc, hgm, hcell⟩ := own_facts HSO.out (by omega)
      injection e with e1 e2 e3
      subst e1 e3
      obtain ⟨k, hk⟩ : ∃ k, s[i]? = some k := ⟨s[i], by simp [hlt]⟩
      have hck := keep_cell (hcell i (.int .i64 k) (by simp [intsV, hk])) HI.out.hb
      have hkr := HCL.out.lt k (List.mem_of_getElem? hk)
      have hki : k.toNat < C.length := by omega
      obtain ⟨c, hkc⟩ : ∃ c, C[k.toNat]? = some c := ⟨C[k.toNat], List.getElem?_eq_getElem hki⟩
      have hgl : g < wr.heap.size := Nat.lt_of_lt_of_le hgs HI.out.hb.size
      have HCC := Lib.hid (cell_any wr base p v C k (HH.out.keep (HB1.out.trans (HI.out.hb.mono HB1.out.size))))
      have HKC := Lib.hid hkc
      have HK := Lib.hid hk
      clear hcell hkc hk hgs
      go_wp2_with fail
      refine HCC.out.mono ?_
      rintro e w2 ⟨hb3, (⟨i', c', lo, lc, hii, hc', rfl, hown⟩ | ⟨hbad, -⟩)⟩
      · have hki2 : k.toNat = i' := by omega
        rw [← hki2, HKC.out] at hc'
        obtain rfl := Option.some.inj hc'
        clear hii hc' hki2 HCC
        have hb4 := (Below.refl w2.heap.size w2).alloc (Nat.le_refl _) (.cells #[.int .i8 c.k, .int .i64 c.sz, .slice lo c.l.length lc] 65)
        have HI4 := Lib.hid ((HI.out.keep hb3).keep hb4)
        obtain ⟨ao', cap'', e', -, -, hrw, hno⟩ := own_wrow hown
        injection e' with e1 e2 e3
        subst e1 e3
        have HRW := Lib.hid (hrw.keep hb4)
        have HNO := Lib.hid hno
        have hnx := heap_new w2 (.cells #[.int .i8 c.k, .int .i64 c.sz, .slice lo c.l.length lc] 65)
        have hS4 : RunS w2.heap.size c.k (.slice lo c.l.length lc) (w2.alloc (.cells #[.int .i8 c.k, .int .i64 c.sz, .slice lo c.l.length lc] 65)) := ⟨(cells_at hnx 0 _ rfl).1, (cells_at hnx 2 _ rfl).1⟩
        have hsz4 : (w2.alloc (.cells #[.int .i8 c.k, .int .i64 c.sz, .slice lo c.l.length lc] 65)).heap.size = w2.heap.size + 1 := by simp
        have hI2 := HI.out.keep hb3
        have hpl := heap_lt hI2.hp.1
        have HOB := Lib.hid (own_lt hI2.hp.2.2.1.1 (Nat.le_refl _))
        have HRB := Lib.hid (fun d hd => own_lt (hI2.hp.2.2.1.2 d hd) (Nat.le_refl _))
        have HCB := Lib.hid (keep_heap hnx (Below.refl _ _).drew)
        have HCS : Hid (Cl C (s.take i ++ k :: s.drop (i + 1))) := Lib.hid (by
          rw [← drop_cons HK.out, List.take_append_drop]
          exact HCL.out)
        clear hb3 hb4 hown hrw hno hnx HI hI2
        go_wp2_with (with_reducible refine stop_op (o := ⟨_, .store 65 (.tmp 14) (.tmp 40), _, _, _, _⟩) ?_)
        refine Lib.hid ?_
        refine wpList_store_new (o := ⟨none, _, _, _, _, _⟩) rfl 65 (.tmp 14) (.tmp 40) rfl #[.int .i8 c.k, .int .i64 c.sz, .slice lo c.l.length lc] rfl rfl (infoCL _ rfl) rfl (by simp [Value.oneCell']) ?_
        generalize (w2.alloc (.cells #[.int .i8 c.k, .int .i64 c.sz, .slice lo c.l.length lc] 65)) = w4 at *
        have hll := (HH.out.2.2.2.2 _ _ HKC.out).2.2.2.1
        have hS5 := hS4.keep (Below.refl w4.heap.size w4).drew
        have HI5 := Lib.hid (HI4.out.keep (Below.refl w4.heap.size w4).drew)
        have HRW5 := Lib.hid (HRW.out.keep (Below.refl w4.heap.size w4).drew)
        clear HI4 HRW
        go_wp2_with fail
        have hq5 := (cells_at HI5.out.hm 0 _ rfl).1
        have HCM := Lib.hid (moved_any w4.drew _ _ _ _ c.l lo lc hq5 HI5.out.hmap HRW5.out (fun x hx => may_bd ((HH.out.2.2.2.2 _ _ HKC.out).2.2.2.2 x hx) (by omega)) (by omega))
        have HCMA := Lib.hid (moved_any (w4.drew.alloc (.cells wzC 58)) _ _ _ _ c.l lo lc (keep_cell hq5 ((Below.refl _ _).alloc (Nat.le_refl _) _)) (HI5.out.hmap.alloc _) (HRW5.out.keep ((Below.refl _ _).alloc (Nat.le_refl _) _)) (fun x hx => may_bd ((HH.out.2.2.2.2 _ _ HKC.out).2.2.2.2 x hx) (by omega)) (by omega))
        have HMK : Hid (∀ (W : World) (B : Nat) (ao : Option Addr) (cap : Nat), Below w4.drew.heap.size w4.drew W → W.ownsRow B 58 7 (.slice ao c.l.length cap) c.l.length (wcs (c.l.map (mv (gOf (s.take i))))) →
            Calls Tryd.prog 25 #[.pointer (some ⟨w1.heap.size + 1 + 1, 0, none⟩), .int .i8 c.k, .slice ao c.l.length cap] W fun e W' => ∃ v'' C'', e = .returned (.tuple #[.agg (wcC i), .int .i64 0]) ∧ RunI w1 (w1.heap.size + 1 + 1) C (s.take i ++ [k]) (s.take i) v'' C'' W' ∧ W.heap.size ≤ W'.heap.size ∧ (∀ j o, w2.heap.size ≤ j → W.heap[j]? = some o → W'.heap[j]? = some o) ∧ (∀ d ∈ C'', ∀ j, (Value.slice d.lo d.l.length d.lc).ownBlock = some j → j < w2.heap.size ∨ W.heap.size ≤ j)) := Lib.hid (fun W B ao cap hb hown => by
          have hI := HI5.out.keep hb
          have hbw := HB1.out.trans (hI.hb.mono HB1.out.size)
          have hti : (s.take i).length = i := by rw [List.length_take]; omega
          have hms := make_step f w1 _ w2.heap.size B C C' (s.take i) (s.drop (i + 1)) k c v' W ao cap HH.out.2.2.2 HM.out HCS.out HKC.out hI (by omega) hpl HOB.out HRB.out (keep_letters HL.out hbw) (fun x hx => (HO.out c (List.mem_of_getElem? HKC.out) x hx).keep hbw) hown
          rw [hti] at hms
          exact hms)
        clear hq5
        refine region_planT (RunS w2.heap.size c.k (.slice lo c.l.length lc)) (.take 0 (.take 1 (.take 2 (.take 3 (.take 4 (.take 5 (.fork 6 (.fork 7 (.take 8 (.take 9 (.take 10 (.run 11 (.run 12 (.take 13 .done)))))) 11 (.run 7 (.take 8 (.take 9 (.take 10 (.run 12 (.take 13 .done))))))) 11 (.run 6 (.run 7 (.take 8 (.take 9 (.take 10 (.run 12 (.take 13 .done)))))))))))))) (by kernel_rfl) (by kernel_rfl) (by kernel_rfl) hS5 ?_
        generalize w4.drew = WD at *
        iterate 6 (first | (refine planT_skip rfl ?_ ?_; (focus (rfl)); (try simp only [Act.put, List.setIfInBounds_toArray, List.set_cons_zero, List.set_cons_succ])) | (refine planT_take (v := ?_) rfl ?_ (fun w hSw => ?_) ?_; rotate_left; (focus (rfl)); (focus (unfold RunS at hSw; (go_simp <;> with_reducible rfl))); (try simp only [Act.put, List.setIfInBounds_toArray, List.set_cons_zero, List.set_cons_succ])))
        refine planT_fork ?_ ?_
        · skip
          refine planT_run rfl ?_ (fun K hK => ?_)
          focus (rfl)
          go_simp
          refine (HCM.out).mono ?_
          rintro e W6 ⟨hb6, ao6, cap6, rfl, hown6⟩
          have hS6 := hS5.keep hb6
          refine hK.out _ _ hS6 ?_
          clear hK K 
          (try simp only [Act.put, List.setIfInBounds_toArray, List.set_cons_zero, List.set_cons_succ])
          refine planT_fork ?_ ?_
          · skip
            refine planT_run rfl ?_ (fun K hK => ?_)
            focus (rfl)
            go_simp
            refine (HMK.out W6 _ ao6 cap6 hb6 hown6).mono ?_
            rintro e W7 ⟨v7, C7, rfl, hI7, hs7, hk7, hr7⟩
            have hcb7 := hk7 _ _ (Nat.le_refl _) (keep_heap HCB.out hb6)
            have hS7 : RunS w2.heap.size c.k (.slice lo c.l.length lc) W7 := ⟨(cells_at hcb7 0 _ rfl).1, (cells_at hcb7 2 _ rfl).1⟩
            refine hK.out _ _ hS7 ?_
            clear hK K 
            (try simp only [Act.put, List.setIfInBounds_toArray, List.set_cons_zero, List.set_cons_succ])
            iterate 3 (first | (refine planT_skip rfl ?_ ?_; (focus (rfl)); (try simp only [Act.put, List.setIfInBounds_toArray, List.set_cons_zero, List.set_cons_succ])) | (refine planT_take (v := ?_) rfl ?_ (fun w hSw => ?_) ?_; rotate_left; (focus (rfl)); (focus (unfold RunS at hSw; (go_simp <;> with_reducible rfl))); (try simp only [Act.put, List.setIfInBounds_toArray, List.set_cons_zero, List.set_cons_succ])))
            have hb8 := (Below.refl W7.heap.size W7).alloc (Nat.le_refl _) (.cells wzC 58)
            have hS8 := hS7.keep hb8
            refine planT_run rfl ?_ (fun K hK => ?_)
            focus (rfl)
            go_simp
            refine hK.out _ _ (hS8) ?_
            clear hK K
            (try simp only [Act.put, List.setIfInBounds_toArray, List.set_cons_zero, List.set_cons_succ])
            have HIZ := Lib.hid (hI7.keep ((Below.refl W7.heap.size W7).alloc (Nat.le_refl _) (.cells (wcC i) 58)))
            have HXZ := Lib.hid (heap_new W7 (.cells (wcC i) 58))
            have hS9 := hS7.keep ((Below.refl W7.heap.size W7).alloc (Nat.le_refl _) (.cells (wcC i) 58))
            refine planT_run rfl ?_ (fun K hK => ?_)
            focus (rfl)
            refine wp_store_row 58 (.tmp 16) (.tmp 51) rfl W7.heap.size (wcC i) rfl rfl 58 wzC (heap_new W7 _) (infoWD _ rfl) rfl (by simp [wcC, Value.oneCell']) ?_
            rw [setRow_alloc]
            refine hK.out _ _ (hS9) ?_
            clear hK K
            (try simp only [Act.put, List.setIfInBounds_toArray, List.set_cons_zero, List.set_cons_succ])
            iterate 1 (first | (refine planT_skip rfl ?_ ?_; (focus (rfl)); (try simp only [Act.put, List.setIfInBounds_toArray, List.set_cons_zero, List.set_cons_succ])) | (refine planT_take (v := ?_) rfl ?_ (fun w hSw => ?_) ?_; rotate_left; (focus (rfl)); (focus (unfold RunS at hSw; (go_simp <;> with_reducible rfl))); (try simp only [Act.put, List.setIfInBounds_toArray, List.set_cons_zero, List.set_cons_succ])))
            refine planT_done ?_
            generalize (W7.alloc (.cells (wcC i) 58)) = WZ at *
            clear hS5 hS6 hS7 hS8 hS9 hcb7 hI7 hk7 hb8
            have m0 := (cells_at HIZ.out.hm 0 _ rfl).1
            go_wp2_with (with_reducible refine stop_op (o := ⟨_, .load 58 (.tmp 16), _, _, _, _⟩) ?_)
            refine Lib.hid ?_
            refine wpList_load_row (o := ⟨_, _, _, _, _, _⟩) rfl 58 (.tmp 16) rfl W7.heap.size rfl 58 (wcC i) (0, 0) _ HXZ.out Tryd.underlying58 rfl (infoWD _ rfl) ?_
            go_wp2_with (at_mapUpdate; refine stop_here ?_)
            refine Lib.hid ?_
            refine wpList_mapUpdate_own _ rfl (.tmp 56) (.tmp 57) (.tmp 58) 74 rfl 3 58 kI Tryd.underlying74 RW w1.heap.size i _ rfl (by have h := HIZ.out.hmap; rw [List.length_take, Nat.min_eq_left (by omega)] at h; exact h) (by unfold maxLen; simp; omega) (.int .i64 k) (.agg (wcC i)) (ikey k) rfl rfl (Go.Maps.keyOf_int_mk Tryd.underlying3 (WalkArith.wf_i64 ⟨by omega, by omega⟩)) (.lit (.int .i64 (i : Nat))) [] (RW_cell _) ?_
            intro W9 hown9 hg9
            have hc9 := chg_grown hg9
            have HFIN : Hid (RunI w1 (w1.heap.size + 1 + 1) C (s.take (i + 1)) (s.take (i + 1)) v7 C7 W9) := Lib.hid (by
              obtain ⟨z1, z2, z3, z4, z5, z6⟩ := HIZ.out
              have e : s.take (i + 1) = s.take i ++ [k] := by rw [List.take_add_one, HK.out]; rfl
              rw [e]
              refine ⟨z1.trans (hc9.below z1.size (fun j hj => by have hj := Option.some.inj hj; omega)), z2.chg hc9 (fun j hj => by have hj := Option.some.inj hj; omega), z3, z4, hc9.heap z5 (fun hj => by have hj := Option.some.inj hj; omega), ?_⟩
              have hti : (s.take i).length = i := by rw [List.length_take]; omega
              rw [gOf_snoc, goM_snoc, List.length_append, hti]
              exact hown9)
            clear hown9 hg9 hc9 HIZ m0 HXZ
            go_wp2_with fail
            go_roundw
            case rel => exact ⟨i + 1, v7, C7, by omega, by go_num, HFIN⟩
            case measure => simp [intOf]; omega
          · skip
            have hb6a := hb6.alloc hb6.size (.cells wzC 58)
            have hS6a := hS6.keep ((Below.refl W6.heap.size W6).alloc (Nat.le_refl _) (.cells wzC 58))
            have hz6 := heap_new W6 (.cells wzC 58)
            have hX6 : w2.heap.size ≤ W6.heap.size := by
              have h1 := hb6.size
              have h2 := heap_lt HCB.out
              omega
            refine planT_run rfl ?_ (fun K hK => ?_)
            focus (rfl)
            go_simp
            refine hK.out _ _ (hS6a) ?_
            clear hK K
            (try simp only [Act.put, List.setIfInBounds_toArray, List.set_cons_zero, List.set_cons_succ])
            refine planT_run rfl ?_ (fun K hK => ?_)
            focus (rfl)
            go_simp
            refine (HMK.out _ _ ao6 cap6 hb6a (hown6.alloc _)).mono ?_
            rintro e W7 ⟨v7, C7, rfl, hI7, hs7, hk7, hr7⟩
            have hcb7 := hk7 _ _ (Nat.le_refl _) (keep_heap HCB.out hb6a)
            have hS7 : RunS w2.heap.size c.k (.slice lo c.l.length lc) W7 := ⟨(cells_at hcb7 0 _ rfl).1, (cells_at hcb7 2 _ rfl).1⟩
            refine hK.out _ _ hS7 ?_
            clear hK K 
            (try simp only [Act.put, List.setIfInBounds_toArray, List.set_cons_zero, List.set_cons_succ])
            have hz7 := hk7 _ _ hX6 hz6
            iterate 3 (first | (refine planT_skip rfl ?_ ?_; (focus (rfl)); (try simp only [Act.put, List.setIfInBounds_toArray, List.set_cons_zero, List.set_cons_succ])) | (refine planT_take (v := ?_) rfl ?_ (fun w hSw => ?_) ?_; rotate_left; (focus (rfl)); (focus (unfold RunS at hSw; (go_simp <;> with_reducible rfl))); (try simp only [Act.put, List.setIfInBounds_toArray, List.set_cons_zero, List.set_cons_succ])))
            have HIZ := Lib.hid (hI7.box hz7 (by omega) hpl hX6 (by simp) hr7 (wcC i))
            have HXZ := Lib.hid (setRow_heap W7 W6.heap.size _ (wcC i) _ _ hz7)
            have hcb9 := (chg_setRow W7 W6.heap.size (wcC i)).heap hcb7 (fun hj => by
              have hj : w2.heap.size = W6.heap.size := hj
              rw [hj, hz7] at hcb7
              cases hcb7)
            have hS9 : RunS w2.heap.size c.k (.slice lo c.l.length lc) (W7.setRow W6.heap.size (wcC i)) := ⟨(cells_at hcb9 0 _ rfl).1, (cells_at hcb9 2 _ rfl).1⟩
            refine planT_run rfl ?_ (fun K hK => ?_)
            focus (rfl)
            refine wp_store_row 58 (.tmp 16) (.tmp 51) rfl W6.heap.size (wcC i) rfl rfl 58 wzC hz7 (infoWD _ rfl) rfl (by simp [wcC, Value.oneCell']) ?_
            refine hK.out _ _ (hS9) ?_
            clear hK K
            (try simp only [Act.put, List.setIfInBounds_toArray, List.set_cons_zero, List.set_cons_succ])
            iterate 1 (first | (refine planT_skip rfl ?_ ?_; (focus (rfl)); (try simp only [Act.put, List.setIfInBounds_toArray, List.set_cons_zero, List.set_cons_succ])) | (refine planT_take (v := ?_) rfl ?_ (fun w hSw => ?_) ?_; rotate_left; (focus (rfl)); (focus (unfold RunS at hSw; (go_simp <;> with_reducible rfl))); (try simp only [Act.put, List.setIfInBounds_toArray, List.set_cons_zero, List.set_cons_succ])))
            refine planT_done ?_
            generalize W7.setRow W6.heap.size (wcC i) = WZ at *
            clear hS5 hS6 hS6a hS7 hS9 hcb7 hcb9 hI7 hk7 hr7 hz6 hz7
            have m0 := (cells_at HIZ.out.hm 0 _ rfl).1
            go_wp2_with (with_reducible refine stop_op (o := ⟨_, .load 58 (.tmp 16), _, _, _, _⟩) ?_)
            refine Lib.hid ?_
            refine wpList_load_row (o := ⟨_, _, _, _, _, _⟩) rfl 58 (.tmp 16) rfl W6.heap.size rfl 58 (wcC i) (0, 0) _ HXZ.out Tryd.underlying58 rfl (infoWD _ rfl) ?_
            go_wp2_with (at_mapUpdate; refine stop_here ?_)
            refine Lib.hid ?_
            refine wpList_mapUpdate_own _ rfl (.tmp 56) (.tmp 57) (.tmp 58) 74 rfl 3 58 kI Tryd.underlying74 RW w1.heap.size i _ rfl (by have h := HIZ.out.hmap; rw [List.length_take, Nat.min_eq_left (by omega)] at h; exact h) (by unfold maxLen; simp; omega) (.int .i64 k) (.agg (wcC i)) (ikey k) rfl rfl (Go.Maps.keyOf_int_mk Tryd.underlying3 (WalkArith.wf_i64 ⟨by omega, by omega⟩)) (.lit (.int .i64 (i : Nat))) [] (RW_cell _) ?_
            intro W9 hown9 hg9
            have hc9 := chg_grown hg9
            have HFIN : Hid (RunI w1 (w1.heap.size + 1 + 1) C (s.take (i + 1)) (s.take (i + 1)) v7 C7 W9) := Lib.hid (by
              obtain ⟨z1, z2, z3, z4, z5, z6⟩ := HIZ.out
              have e : s.take (i + 1) = s.take i ++ [k] := by rw [List.take_add_one, HK.out]; rfl
              rw [e]
              refine ⟨z1.trans (hc9.below z1.size (fun j hj => by have hj := Option.some.inj hj; omega)), z2.chg hc9 (fun j hj => by have hj := Option.some.inj hj; omega), z3, z4, hc9.heap z5 (fun hj => by have hj := Option.some.inj hj; omega), ?_⟩
              have hti : (s.take i).length = i := by rw [List.length_take]; omega
              rw [gOf_snoc, goM_snoc, List.length_append, hti]
              exact hown9)
            clear hown9 hg9 hc9 HIZ m0 HXZ
            go_wp2_with fail
            go_roundw
            case rel => exact ⟨i + 1, v7, C7, by omega, by go_num, HFIN⟩
            case measure => simp [intOf]; omega
        · skip
          have hb5a := (Below.refl WD.heap.size WD).alloc (Nat.le_refl _) (.cells wzC 58)
          have hS5a := hS5.keep hb5a
          have hz5 := heap_new WD (.cells wzC 58)
          have hX5 : w2.heap.size ≤ WD.heap.size := by
            have h2 := heap_lt HCB.out
            omega
          refine planT_run rfl ?_ (fun K hK => ?_)
          focus (rfl)
          go_simp
          refine hK.out _ _ (hS5a) ?_
          clear hK K
          (try simp only [Act.put, List.setIfInBounds_toArray, List.set_cons_zero, List.set_cons_succ])
          refine planT_run rfl ?_ (fun K hK => ?_)
          focus (rfl)
          go_simp
          refine (HCMA.out).mono ?_
          rintro e W6 ⟨hb6, ao6, cap6, rfl, hown6⟩
          have hS6 := hS5a.keep hb6
          refine hK.out _ _ hS6 ?_
          clear hK K 
          (try simp only [Act.put, List.setIfInBounds_toArray, List.set_cons_zero, List.set_cons_succ])
          have hb6a := hb5a.trans (hb6.mono hb5a.size)
          have hz6 := keep_heap hz5 hb6
          refine planT_run rfl ?_ (fun K hK => ?_)
          focus (rfl)
          go_simp
          refine (HMK.out _ _ ao6 cap6 hb6a hown6).mono ?_
          rintro e W7 ⟨v7, C7, rfl, hI7, hs7, hk7, hr7⟩
          have hcb7 := hk7 _ _ (Nat.le_refl _) (keep_heap HCB.out hb6a)
          have hS7 : RunS w2.heap.size c.k (.slice lo c.l.length lc) W7 := ⟨(cells_at hcb7 0 _ rfl).1, (cells_at hcb7 2 _ rfl).1⟩
          refine hK.out _ _ hS7 ?_
          clear hK K 
          (try simp only [Act.put, List.setIfInBounds_toArray, List.set_cons_zero, List.set_cons_succ])
          have hz7 := hk7 _ _ hX5 hz6
          iterate 3 (first | (refine planT_skip rfl ?_ ?_; (focus (rfl)); (try simp only [Act.put, List.setIfInBounds_toArray, List.set_cons_zero, List.set_cons_succ])) | (refine planT_take (v := ?_) rfl ?_ (fun w hSw => ?_) ?_; rotate_left; (focus (rfl)); (focus (unfold RunS at hSw; (go_simp <;> with_reducible rfl))); (try simp only [Act.put, List.setIfInBounds_toArray, List.set_cons_zero, List.set_cons_succ])))
          have hlt5 := heap_lt hz6
          have HIZ := Lib.hid (hI7.box hz7 (by omega) hpl hX5 hlt5 hr7 (wcC i))
          have HXZ := Lib.hid (setRow_heap W7 WD.heap.size _ (wcC i) _ _ hz7)
          have hcb9 := (chg_setRow W7 WD.heap.size (wcC i)).heap hcb7 (fun hj => by
            have hj : w2.heap.size = WD.heap.size := hj
            rw [hj, hz7] at hcb7
            cases hcb7)
          have hS9 : RunS w2.heap.size c.k (.slice lo c.l.length lc) (W7.setRow WD.heap.size (wcC i)) := ⟨(cells_at hcb9 0 _ rfl).1, (cells_at hcb9 2 _ rfl).1⟩
          refine planT_run rfl ?_ (fun K hK => ?_)
          focus (rfl)
          refine wp_store_row 58 (.tmp 16) (.tmp 51) rfl WD.heap.size (wcC i) rfl rfl 58 wzC hz7 (infoWD _ rfl) rfl (by simp [wcC, Value.oneCell']) ?_
          refine hK.out _ _ (hS9) ?_
          clear hK K
          (try simp only [Act.put, List.setIfInBounds_toArray, List.set_cons_zero, List.set_cons_succ])
          iterate 1 (first | (refine planT_skip rfl ?_ ?_; (focus (rfl)); (try simp only [Act.put, List.setIfInBounds_toArray, List.set_cons_zero, List.set_cons_succ])) | (refine planT_take (v := ?_) rfl ?_ (fun w hSw => ?_) ?_; rotate_left; (focus (rfl)); (focus (unfold RunS at hSw; (go_simp <;> with_reducible rfl))); (try simp only [Act.put, List.setIfInBounds_toArray, List.set_cons_zero, List.set_cons_succ])))
          refine planT_done ?_
          generalize W7.setRow WD.heap.size (wcC i) = WZ at *
          clear hS5 hS5a hS6 hS7 hS9 hcb7 hcb9 hI7 hk7 hr7 hz5 hz6 hz7
          have m0 := (cells_at HIZ.out.hm 0 _ rfl).1
          go_wp2_with (with_reducible refine stop_op (o := ⟨_, .load 58 (.tmp 16), _, _, _, _⟩) ?_)
          refine Lib.hid ?_
          refine wpList_load_row (o := ⟨_, _, _, _, _, _⟩) rfl 58 (.tmp 16) rfl WD.heap.size rfl 58 (wcC i) (0, 0) _ HXZ.out Tryd.underlying58 rfl (infoWD _ rfl) ?_
          go_wp2_with (at_mapUpdate; refine stop_here ?_)
          refine Lib.hid ?_
          refine wpList_mapUpdate_own _ rfl (.tmp 56) (.tmp 57) (.tmp 58) 74 rfl 3 58 kI Tryd.underlying74 RW w1.heap.size i _ rfl (by have h := HIZ.out.hmap; rw [List.length_take, Nat.min_eq_left (by omega)] at h; exact h) (by unfold maxLen; simp; omega) (.int .i64 k) (.agg (wcC i)) (ikey k) rfl rfl (Go.Maps.keyOf_int_mk Tryd.underlying3 (WalkArith.wf_i64 ⟨by omega, by omega⟩)) (.lit (.int .i64 (i : Nat))) [] (RW_cell _) ?_
          intro W9 hown9 hg9
          have hc9 := chg_grown hg9
          have HFIN : Hid (RunI w1 (w1.heap.size + 1 + 1) C (s.take (i + 1)) (s.take (i + 1)) v7 C7 W9) := Lib.hid (by
            obtain ⟨z1, z2, z3, z4, z5, z6⟩ := HIZ.out
            have e : s.take (i + 1) = s.take i ++ [k] := by rw [List.take_add_one, HK.out]; rfl
            rw [e]
            refine ⟨z1.trans (hc9.below z1.size (fun j hj => by have hj := Option.some.inj hj; omega)), z2.chg hc9 (fun j hj => by have hj := Option.some.inj hj; omega), z3, z4, hc9.heap z5 (fun hj => by have hj := Option.some.inj hj; omega), ?_⟩
            have hti : (s.take i).length = i := by rw [List.length_take]; omega
            rw [gOf_snoc, goM_snoc, List.length_append, hti]
            exact hown9)
          clear hown9 hg9 hc9 HIZ m0 HXZ
          go_wp2_with fail
          go_roundw
          case rel => exact ⟨i + 1, v7, C7, by omega, by go_num, HFIN⟩
          case measure => simp [intOf]; omega
      · exact absurd hkr hbad
    · have hil : i = s.length := by omega
      subst hil
      have hti : s.take s.length = s := List.take_length
      rw [hti] at HI
      have HMV := Lib.hid (moved_any wr _ _ _ _ L ao cap (cells_at HI.out.hm 0 _ rfl).1 HI.out.hmap (HR.out.keep (HB1.out.trans (HI.out.hb.mono HB1.out.size))) (fun x hx => (HW.out x hx).1) hn)
      go_wp2_with fail
      refine HMV.out.mono ?_
      rintro e w9 ⟨hb9, ao9, cap9, rfl, hown9⟩
      have HI9 := Lib.hid (HI.out.keep hb9)
      have HO9 := Lib.hid hown9
      have hw9 := HI.out.hb.size
      clear hb9 hown9 HMV
      go_wp2_with fail
      go_ret3
      refine ⟨HB1.out.trans (HI9.out.hb.mono HB1.out.size), .inr ⟨HGD.out, s0, w1.heap.size + 1 + 1, v', C', ao9, cap9, by omega, HS0.out, ?_, HI9.out.hmade, HI9.out.hp, rfl, ?_⟩⟩
      · rw [HSE.out]
        exact HI9.out.hran
      · rw [HSE.out]
        exact own_lower HO9.out (by omega)
end Go.Proofs.YtfbohajojaaiaaaDoor
