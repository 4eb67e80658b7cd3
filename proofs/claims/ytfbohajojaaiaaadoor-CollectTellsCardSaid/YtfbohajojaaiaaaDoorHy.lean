/- the reference's heap: Make. Conditions: what comes reads. -/
import Derived.Test.YtfbohajojaaiaaaDoorHx
namespace Go.Proofs.YtfbohajojaaiaaaDoor
open Go.ChangeShapes Go.WideShapes Go.ChangeAt Go.RowKit
set_option linter.unusedVariables false
def RMakeP (w : World) (base p : Nat) (v : Value) (C : List HC) (k : Int) (L : List Wd) (e : Ending) (w' : World) : Prop :=
  (makeN C k L = 0 ∧ ∃ v' lo lc, e = .returned (.tuple #[.agg (wcC C.length), .int .i64 0]) ∧ RHp w' base p v' (C ++ [⟨k, sizeW C L, lo, lc, L⟩]) ∧ Chg (heapS p v) w w' ∧ (v'.ownBlock = v.ownBlock ∨ ∃ g, v'.ownBlock = some g ∧ w.heap.size ≤ g) ∧ (∀ j, (Value.slice lo L.length lc).ownBlock = some j → w.heap.size ≤ j)) ∨
    (makeN C k L ≠ 0 ∧ e = .returned (.tuple #[.agg wzC, .int .i64 (makeN C k L)]) ∧ Below w.heap.size w w')
theorem fold_ge {C : List HC} : ∀ (L : List Wd) (n : Int), n ≤ 257 → (∀ x ∈ L, 0 ≤ nodesW C x) → n ≤ L.foldl (fun n x => min (n + nodesW C x) 257) n ∧ L.foldl (fun n x => min (n + nodesW C x) 257) n ≤ 257
  | [], n, h, _ => by simp; omega
  | x :: L, n, h, hx => by
    have h1 := hx x (by simp)
    have := fold_ge L (min (n + nodesW C x) 257) (by omega) fun y hy => hx y (by simp [hy])
    simp only [List.foldl_cons]
    omega
/-- the sum goes on so -/
def RSum (C : List HC) (L : List Wd) (i : Nat) (n : Int) : Prop := i ≤ L.length ∧ 1 ≤ n ∧ n ≤ 512 ∧ (n ≤ 256 → n = sizeW C (L.take i)) ∧ (256 < n → 256 < sizeW C L)
theorem rsum_next {C : List HC} {L : List Wd} {i : Nat} {n : Int} {x : Wd} (hC : Good C) (hm : ∀ x ∈ L, mayW C.length x = true) (h : RSum C L i n) (hx : L[i]? = some x) (hn : n ≤ 256) : RSum C L (i + 1) (n + nodesW C x) := by
  obtain ⟨h1, h2, h3, h4, h5⟩ := h
  have hlt := (List.getElem?_eq_some_iff.1 hx).1
  have hp := nodes_pos hC (hm x (List.mem_of_getElem? hx))
  have e := h4 hn
  have htk : L.take (i + 1) = L.take i ++ [x] := by rw [List.take_add_one, hx]; rfl
  have hsn := sizeW_snoc C (L.take i) x
  rw [← htk, ← e] at hsn
  refine ⟨by omega, by omega, by omega, fun hq => by rw [hsn]; omega, fun hq => ?_⟩
  have h6 : sizeW C (L.take (i + 1)) = 257 := by rw [hsn]; omega
  have h7 : sizeW C L = (L.drop (i + 1)).foldl (fun n x => min (n + nodesW C x) 257) (sizeW C (L.take (i + 1))) := by
    conv => lhs; rw [← List.take_append_drop (i + 1) L]
    rw [sizeW, List.foldl_append]
    rfl
  rw [h7, h6]
  have := (fold_ge (C := C) (L.drop (i + 1)) 257 (by omega) fun y hy => by
    have := nodes_pos hC (hm y (List.mem_of_mem_drop hy))
    omega).1
  omega
set_option maxRecDepth 100000 in
set_option maxHeartbeats 8000000 in
theorem rmake_any (f : Nat) (w : World) (base p : Nat) (v : Value) (C : List HC) (k : Int) (L : List Wd) (ao : Option Addr) (cap : Nat) (hH : RHp w base p v C) (hr : WRow w ao L) (ho : ∀ x ∈ L, WOk f w x) (hpu : ∀ x ∈ L, Pure x) (hn : L.length ≤ 1099511627776) (hno : ao = none → L = [] ∧ cap = 0) :
    Calls Tryd.prog 36 #[.pointer (some ⟨p, 0, none⟩), .int .i8 k, .slice ao L.length cap] w (RMakeP w base p v C k L) := by
  have hX0 := heap_new w (.cells wzC 58)
  have hb0 := (Below.refl w.heap.size w).alloc (Nat.le_refl _) (.cells wzC 58)
  have hS0 : (w.alloc (.cells wzC 58)).heap.size = w.heap.size + 1 := by simp
  have HX := Lib.hid hX0
  have HB := Lib.hid hb0
  have HH := Lib.hid (hH.keep hb0)
  have HR := Lib.hid (hr.keep hb0)
  have HO : Hid (∀ x ∈ L, WOk f (w.alloc (.cells wzC 58)) x) := Lib.hid (fun x hx => (ho x hx).keep hb0)
  have HP := Lib.hid (rparts_any (w.alloc (.cells wzC 58)) k)
  have HGD := Lib.hid hH.2.2.2
  have HH0 := Lib.hid hH
  have HNO := Lib.hid hno
  have HPU := Lib.hid hpu
  clear hX0 hb0 hH hr ho hno hpu
  have hcase : ((partsB k = false ∧ badK k L = true) ∨ (partsB k = true ∧ (k == 7) = true ∧ ((L.length : Int) != 2) = true ∧ badK k L = true)) ∨ ((partsB k = true ∧ (k == 7) = true ∧ ((L.length : Int) != 2) = false ∧ badK k L = false) ∨ (partsB k = true ∧ (k == 7) = false ∧ badK k L = false)) := by
    cases h1 : partsB k
    · exact .inl (.inl ⟨rfl, by simp [badK, h1]⟩)
    · by_cases h2 : k = 7
      · by_cases h3 : L.length = 2
        · exact .inr (.inl ⟨rfl, by simp [h2], by simp [h3], by simp [badK, h1, h3]⟩)
        · exact .inl (.inr ⟨rfl, by simp [h2], by simp; omega, by simp [badK, h2, h3]⟩)
      · exact .inr (.inr ⟨rfl, by simp [h2], by simp [badK, h1, h2]⟩)
  rcases hcase with h | h
  · rcases h with ⟨e1, e4⟩ | ⟨e1, e2, e3, e4⟩
    all_goals
      rw [e1] at HP
      have HN : Hid (makeN C k L = 2) := Lib.hid (makeN_bad (by rw [e4]; rfl))
      clear e1 e4
      go_enter Tryd.func36, Tryd.ntmps36
      go_wp2_with fail
      refine HP.out.mono ?_
      rintro e w' ⟨rfl, rfl⟩
      have HXT := HX
      have HBT := HB
      generalize hW0 : w.alloc (.cells wzC 58) = W0 at *
      clear hW0
      go_wp2_with (with_reducible refine stop_op (o := ⟨_, .store 58 (.tmp 6) (.tmp 23), _, _, _, _⟩) ?_)
      refine Lib.hid ?_
      refine wpList_store_row (o := ⟨none, _, _, _, _, _⟩) rfl 58 (.tmp 6) (.tmp 23) rfl w.heap.size wzC rfl rfl 58 wzC HXT.out (infoWD _ rfl) rfl (by simp [Value.oneCell']) ?_
      rw [setRow_self _ _ _ _ _ HXT.out]
      go_wp2_with fail
      exact ret_row HXT.out rfl Tryd.underlying58 rfl (infoWD _ rfl) rfl rfl (.inr ⟨by rw [HN.out]; decide, by rw [HN.out]; rfl, HBT.out⟩)
  · rcases h with ⟨e1, e2, e3, e4⟩ | ⟨e1, e2, e4⟩
    all_goals
      rw [e1] at HP
      have HBK := Lib.hid e4
      clear e1 e4
      go_enter Tryd.func36, Tryd.ntmps36
      go_wp2_with fail
      refine HP.out.mono ?_
      rintro e w' ⟨rfl, rfl⟩
      go_wp2_with fail
      generalize hW0 : w.alloc (.cells wzC 58) = W0 at *
      clear hW0
      go_loopw [9] (fun iv wr => ∃ (i : Nat), iv = .int .i64 i ∧ Hid (Below W0.heap.size W0 wr ∧ i ≤ L.length ∧ ∀ x ∈ L.take i, mayW C.length x = true))
        (fun iv _ => L.length - (intOf iv).toNat)
      case atStart => exact ⟨0, rfl, Lib.hid ⟨Below.refl _ _, by omega, by simp⟩⟩
      case round =>
        obtain ⟨i, rfl, HI⟩ := hrel
        have HBW := Lib.hid HI.out.1
        by_cases hlt : i < L.length
        · obtain ⟨x, hx⟩ : ∃ x, L[i]? = some x := ⟨L[i], by simp [hlt]⟩
          have hxm := List.mem_of_getElem? hx
          obtain ⟨b', off, rfl, hbs, hcx⟩ := HR.out.keep HBW.out i x hx
          have c0 := hcx 0 _ rfl
          have c1 := hcx 1 _ rfl
          have c2 := hcx 2 _ rfl
          have c3 := hcx 3 _ rfl
          have c4 := hcx 4 _ rfl
          have c5 := hcx 5 _ rfl
          have c6 := hcx 6 _ rfl
          simp only [Nat.add_zero] at c0
          clear hcx
          have HX1 := Lib.hid hx
          have HXM := Lib.hid hxm
          have HM := Lib.hid (rmay_any f wr base p v C x (HH.out.keep HBW.out) ((HO.out _ hxm).keep HBW.out) (HPU.out x hxm))
          clear hx hxm
          cases hm : mayW C.length x
          · rw [hm] at HM
            have HN : Hid (makeN C k L = 2) := Lib.hid (makeN_bad (by rw [any_true HXM.out hm]; simp))
            clear hm
            obtain ⟨xc, xa, xk, xn, xs, xu, xao, xcap, xl⟩ := x
            simp only [Wd.V] at HM
            dsimp only at c0 c1 c2 c3 c4 c5 c6
            go_wp2_with fail
            refine HM.out.mono ?_
            rintro e w2 ⟨rfl, hb2⟩
            have HB2 := Lib.hid (HBW.out.trans (hb2.mono HBW.out.size))
            have HXT := Lib.hid (keep_heap HX.out HB2.out)
            have HBT := Lib.hid (HB.out.trans (HB2.out.mono HB.out.size))
            clear hb2 c0 c1 c2 c3 c4 c5 c6
            go_wp2_with (with_reducible refine stop_op (o := ⟨_, .store 58 (.tmp 6) (.tmp 37), _, _, _, _⟩) ?_)
            refine Lib.hid ?_
            refine wpList_store_row (o := ⟨none, _, _, _, _, _⟩) rfl 58 (.tmp 6) (.tmp 37) rfl w.heap.size wzC rfl rfl 58 wzC HXT.out (infoWD _ rfl) rfl (by simp [Value.oneCell']) ?_
            rw [setRow_self _ _ _ _ _ HXT.out]
            go_wp2_with fail
            exact ret_row HXT.out rfl Tryd.underlying58 rfl (infoWD _ rfl) rfl rfl (.inr ⟨by rw [HN.out]; decide, by rw [HN.out]; rfl, HBT.out⟩)
          · rw [hm] at HM
            have HMM := Lib.hid hm
            clear hm
            obtain ⟨xc, xa, xk, xn, xs, xu, xao, xcap, xl⟩ := x
            simp only [Wd.V] at HM
            dsimp only at c0 c1 c2 c3 c4 c5 c6
            go_wp2_with fail
            refine HM.out.mono ?_
            rintro e w2 ⟨rfl, hb2⟩
            have HB2 := Lib.hid (HBW.out.trans (hb2.mono HBW.out.size))
            clear hb2 c0 c1 c2 c3 c4 c5 c6
            go_wp2_with fail
            go_roundw
            case rel => exact ⟨i + 1, by go_num, Lib.hid ⟨HB2.out, by omega, fun y hy => by
              rw [List.take_add_one, HX1.out, List.mem_append] at hy
              rcases hy with hy | hy
              · exact HI.out.2.2 y hy
              · obtain rfl := List.mem_singleton.1 hy
                exact HMM.out⟩⟩
            case measure => simp [intOf]; omega
        · have hil : i = L.length := by have := HI.out.2.1; omega
          subst hil
          have hall := HI.out.2.2
          rw [List.take_of_length_le (Nat.le_refl _)] at hall
          have HALL := Lib.hid hall
          have HBK2 : Hid ((badK k L || L.any fun x => !mayW C.length x) = false) := Lib.hid (by rw [HBK.out, any_false HI.out.2.2]; rfl)
          clear hall
          go_wp2_with fail
          generalize wr = wq at *
          go_loopw [8, 10] (fun nv iv wr => ∃ (i : Nat) (n : Int), iv = .int .i64 i ∧ nv = .int .i64 n ∧ i ≤ L.length ∧ (1 ≤ n ∧ n ≤ 512) ∧ Hid (Below W0.heap.size W0 wr ∧ RSum C L i n))
            (fun _ iv _ => L.length - (intOf iv).toNat)
          case atStart => exact ⟨0, 1, rfl, rfl, by omega, by omega, Lib.hid ⟨HBW.out, by omega, by omega, by omega, fun _ => by simp [sizeW], fun h => by omega⟩⟩
          case round =>
            obtain ⟨i, n, rfl, rfl, hil, hn12, HJ⟩ := hrel
            have HBX := Lib.hid HJ.out.1
            by_cases hgo : i < L.length ∧ n ≤ 256
            · obtain ⟨hlt2, hn256⟩ := hgo
              obtain ⟨x, hx⟩ : ∃ x, L[i]? = some x := ⟨L[i], by simp [hlt2]⟩
              have hxm := List.mem_of_getElem? hx
              obtain ⟨b', off, rfl, hbs, hcx⟩ := HR.out.keep HBX.out i x hx
              have c0 := hcx 0 _ rfl
              have c1 := hcx 1 _ rfl
              have c2 := hcx 2 _ rfl
              have c3 := hcx 3 _ rfl
              have c4 := hcx 4 _ rfl
              have c5 := hcx 5 _ rfl
              have c6 := hcx 6 _ rfl
              simp only [Nat.add_zero] at c0
              clear hcx
              have HM := Lib.hid (rsize_any wr base p v C x (HH.out.keep HBX.out) (HALL.out x hxm))
              have hnx := nodes_pos HGD.out (HALL.out x hxm)
              have HNX := Lib.hid (rsum_next HGD.out HALL.out HJ.out.2 hx hn256)
              have d256 : decide (n ≤ 256) = true := by simpa using hn256
              clear hx hxm
              generalize nodesW C x = nd at *
              obtain ⟨xc, xa, xk, xn, xs, xu, xao, xcap, xl⟩ := x
              simp only [Wd.V] at HM
              dsimp only at c0 c1 c2 c3 c4 c5 c6
              go_wp2_with fail
              refine HM.out.mono ?_
              rintro e w2 ⟨rfl, hb2⟩
              have HB2 := Lib.hid (HBX.out.trans (hb2.mono HBX.out.size))
              clear hb2 c0 c1 c2 c3 c4 c5 c6
              go_wp2_with fail
              go_roundw
              case rel => exact ⟨i + 1, n + nd, by go_num, by go_num, by omega, by omega, Lib.hid ⟨HB2.out, HNX.out⟩⟩
              case measure => simp [intOf]; omega
            · have HXT := Lib.hid (keep_heap HX.out HBX.out)
              have HBT := Lib.hid (HB.out.trans (HBX.out.mono HB.out.size))
              obtain ⟨vo, vc, hv, hvc1, hvc2, p0, p0f, hps, -⟩ := (HH.out.keep HBX.out).facts
              by_cases h256 : 256 < n
              · have d256 : decide (256 < n) = true := by simpa using h256
                have d256' : decide (n ≤ 256) = false := by simp; omega
                have HN : Hid (makeN C k L = 11) := Lib.hid (by rw [makeN, if_neg (by rw [HBK2.out]; simp), if_pos (HJ.out.2.2.2.2.2 h256)])
                clear p0 p0f
                by_cases hlt2 : i < L.length
                · clear hgo h256
                  go_wp2_with (with_reducible refine stop_op (o := ⟨_, .store 58 (.tmp 6) (.tmp 58), _, _, _, _⟩) ?_)
                  refine Lib.hid ?_
                  refine wpList_store_row (o := ⟨none, _, _, _, _, _⟩) rfl 58 (.tmp 6) (.tmp 58) rfl w.heap.size wzC rfl rfl 58 wzC HXT.out (infoWD _ rfl) rfl (by simp [Value.oneCell']) ?_
                  rw [setRow_self _ _ _ _ _ HXT.out]
                  go_wp2_with fail
                  exact ret_row HXT.out rfl Tryd.underlying58 rfl (infoWD _ rfl) rfl rfl (.inr ⟨by rw [HN.out]; decide, by rw [HN.out]; rfl, HBT.out⟩)
                · clear hgo h256
                  go_wp2_with (with_reducible refine stop_op (o := ⟨_, .store 58 (.tmp 6) (.tmp 58), _, _, _, _⟩) ?_)
                  refine Lib.hid ?_
                  refine wpList_store_row (o := ⟨none, _, _, _, _, _⟩) rfl 58 (.tmp 6) (.tmp 58) rfl w.heap.size wzC rfl rfl 58 wzC HXT.out (infoWD _ rfl) rfl (by simp [Value.oneCell']) ?_
                  rw [setRow_self _ _ _ _ _ HXT.out]
                  go_wp2_with fail
                  exact ret_row HXT.out rfl Tryd.underlying58 rfl (infoWD _ rfl) rfl rfl (.inr ⟨by rw [HN.out]; decide, by rw [HN.out]; rfl, HBT.out⟩)
              · have hiL : i = L.length := by omega
                subst hiL
                have d256 : decide (256 < n) = false := by simpa using h256
                have hsz : n = sizeW C L := by
                  have := HJ.out.2.2.2.2.1 (by omega)
                  rwa [List.take_of_length_le (Nat.le_refl _)] at this
                by_cases hfull : 1048576 ≤ C.length
                · have dfull : decide (1048576 ≤ (C.length : Int)) = true := by simp; omega
                  have HN : Hid (makeN C k L = 20) := Lib.hid (by rw [makeN, if_neg (by rw [HBK2.out]; simp), if_neg (by rw [← hsz]; exact h256), if_pos hfull])
                  subst hv
                  clear h256 hsz hfull hgo
                  go_wp2_with (with_reducible refine stop_op (o := ⟨_, .store 58 (.tmp 6) (.tmp 65), _, _, _, _⟩) ?_)
                  refine Lib.hid ?_
                  refine wpList_store_row (o := ⟨none, _, _, _, _, _⟩) rfl 58 (.tmp 6) (.tmp 65) rfl w.heap.size wzC rfl rfl 58 wzC HXT.out (infoWD _ rfl) rfl (by simp [Value.oneCell']) ?_
                  rw [setRow_self _ _ _ _ _ HXT.out]
                  go_wp2_with fail
                  exact ret_row HXT.out rfl Tryd.underlying58 rfl (infoWD _ rfl) rfl rfl (.inr ⟨by rw [HN.out]; decide, by rw [HN.out]; rfl, HBT.out⟩)
                · have dfull : decide (1048576 ≤ (C.length : Int)) = false := by simp; omega
                  have HN : Hid (makeN C k L = 0) := Lib.hid (by rw [makeN, if_neg (by rw [HBK2.out]; simp), if_neg (by rw [← hsz]; exact h256), if_neg hfull])
                  have HSZ := Lib.hid hsz
                  subst hv
                  clear hsz hgo
                  go_wp2_with fail
                  have hD : MakeS p (.slice vo C.length vc) wr.drew := p0
                  refine region_planZ 15 (MakeS p (.slice vo C.length vc)) [(0, 0), (1, 0), (2, 0), (3, 0), (4, 0), (5, 0), (6, 0), (8, 0), (7, 1), (9, 1), (10, 0), (11, 1), (12, 1), (13, 1), (14, 0), (15, 1)] (by kernel_rfl) (by kernel_rfl) (by kernel_rfl) hD ?_
                  iterate 8 (first | (refine planZ_skip rfl ?_ ?_; (focus (rfl)); (try simp only [Act.put, List.setIfInBounds_toArray, List.set_cons_zero, List.set_cons_succ])) | (refine planZ_take (v := ?_) rfl ?_ (fun w hSw => ?_) ?_; rotate_left; (focus (rfl)); (focus (unfold MakeS at hSw; (go_simp <;> with_reducible rfl))); (try simp only [Act.put, List.setIfInBounds_toArray, List.set_cons_zero, List.set_cons_succ])))
                  obtain ⟨i0, z0, q1, q2, q3, q4, q5⟩ := infoWD2
                  obtain ⟨i1, z1, r1, r2, r3, r4, r5⟩ := infoCL2
                  have HHW := Lib.hid ((HH.out.keep HBX.out).keep (Below.refl wr.heap.size wr).drew)
                  have HRW := Lib.hid ((HR.out.keep HBX.out).keep (Below.refl wr.heap.size wr).drew)
                  have HXW := Lib.hid (keep_heap HXT.out (Below.refl wr.heap.size wr).drew)
                  have HBD := Lib.hid (HBT.out.trans ((Below.refl wr.heap.size wr).drew.mono HBT.out.size))
                  have hbp := HHW.out.2.1
                  have hps2 := heap_lt HHW.out.1
                  clear p0 p0f hps HXT HBT
                  generalize wr.drew = WD at *
                  have hba := (Below.refl WD.heap.size WD).alloc (Nat.le_refl _) (.cells #[] 58)
                  have hDa : MakeS p (.slice vo C.length vc) (WD.alloc (.cells #[] 58)) := keep_cell hD hba
                  refine planZ_run rfl ?_ (fun K hK => ?_)
                  focus (rfl)
                  go_simp
                  refine hK.out _ _ (fun _ => hDa) ?_
                  clear hK K
                  (try simp only [Act.put, List.setIfInBounds_toArray, List.set_cons_zero, List.set_cons_succ])
                  have hown0 := World.ownsRow_made (e := 58) (size := 7) (base := base) WD #[] 0 (by omega) (by decide) rfl
                  refine planZ_run rfl ?_ (fun K hK => ?_)
                  focus (rfl)
                  refine op_append_any (.tmp 73) (.tmp 74) 26 rfl base 58 i0 z0 7 88 Tryd.underlying26 q1 q2 q3 q4 q5 (by decide) (.slice (some ⟨WD.heap.size, 0, none⟩) 0 0) 0 [] rfl hown0 ao L.length cap (wcs L) rfl (wcs_len L) (fun e => by obtain ⟨e1, e2⟩ := HNO.out e; exact ⟨by rw [e1]; rfl, e2⟩) (HRW.out.keep hba).news wcs_one (by unfold maxLen; omega) (by omega) (by simp; omega) ?_
                  intro v1 W1 hown1 hg1 hwh1
                  obtain ⟨lo, lc, rfl⟩ := own_slice hown1
                  rw [List.nil_append, Nat.zero_add] at hown1
                  have HLO : Hid (∀ j, (Value.slice lo L.length lc).ownBlock = some j → w.heap.size < j) := Lib.hid (fun j hj => by
                    have hx := heap_lt HXW.out
                    rcases hwh1 with h | h
                    · rw [show (Value.slice lo L.length lc).ownBlock = (Value.slice lo (0 + L.length) lc).ownBlock from by cases lo <;> rfl, h] at hj
                      injection hj with hj
                      have hj : WD.heap.size = j := hj
                      omega
                    · rw [show (Value.slice lo L.length lc).ownBlock = (Value.slice lo (0 + L.length) lc).ownBlock from by cases lo <;> rfl, h] at hj
                      injection hj with hj
                      simp at hj
                      omega)
                  simp only [Nat.zero_add]
                  have hb1 : Below WD.heap.size WD W1 := hba.trans ((chg_grown hg1).below hba.size (fun k h => by
                    have h : some k = some WD.heap.size := h
                    injection h with h
                    omega))
                  have hD1 : MakeS p (.slice vo C.length vc) W1 := keep_cell hD hb1
                  refine hK.out _ _ (fun _ => hD1) ?_
                  clear hK K
                  (try simp only [Act.put, List.setIfInBounds_toArray, List.set_cons_zero, List.set_cons_succ])
                  iterate 1 (first | (refine planZ_skip rfl ?_ ?_; (focus (rfl)); (try simp only [Act.put, List.setIfInBounds_toArray, List.set_cons_zero, List.set_cons_succ])) | (refine planZ_take (v := ?_) rfl ?_ (fun w hSw => ?_) ?_; rotate_left; (focus (rfl)); (focus (unfold MakeS at hSw; (go_simp <;> with_reducible rfl))); (try simp only [Act.put, List.setIfInBounds_toArray, List.set_cons_zero, List.set_cons_succ])))
                  have hb2 := (Below.refl W1.heap.size W1).alloc (Nat.le_refl _) (.cells #[.int .i8 k, .int .i64 n, .slice lo L.length lc] 65)
                  have hD2 : MakeS p (.slice vo C.length vc) (W1.alloc (.cells #[.int .i8 k, .int .i64 n, .slice lo L.length lc] 65)) := keep_cell hD1 hb2
                  refine planZ_run rfl ?_ (fun K hK => ?_)
                  focus (rfl)
                  go_simp
                  refine hK.out _ _ (fun _ => hD2) ?_
                  clear hK K
                  (try simp only [Act.put, List.setIfInBounds_toArray, List.set_cons_zero, List.set_cons_succ])
                  have hb12 := hb1.trans (hb2.mono hb1.size)
                  have hH2 := HHW.out.keep hb12
                  have hO2 := own_keep hown1 hb2
                  have hnw := heap_new W1 (.cells #[.int .i8 k, .int .i64 n, .slice lo L.length lc] 65)
                  have HN2 := Lib.hid hnw
                  have HH2 := Lib.hid hH2
                  have HO2 := Lib.hid hO2
                  have HB12 := Lib.hid hb12
                  have hs12 := hb12.size
                  have hC20 : C.length < 1048576 := by omega
                  clear hown1 hg1 hb1 hb2 hb12 hH2 hO2 hnw hD1 hown0
                  refine planZ_run rfl ?_ (fun K hK => ?_)
                  focus (rfl)
                  refine op_append_any (.tmp 70) (.tmp 77) 61 rfl base 65 i1 z1 3 40 Tryd.underlying61 r1 r2 r3 r4 r5 (by decide) (.slice vo C.length vc) C.length (ccs C) rfl HH2.out.2.2.1.1 (some ⟨W1.heap.size, 0, none⟩) 1 1 [.int .i8 k, .int .i64 n, .slice lo L.length lc] rfl rfl (fun e => by cases e) (fun ad e j u hj => by
                    injection e with e
                    subst e
                    rw [Addr.add_lit, Nat.zero_add]
                    exact (cells_at HN2.out j u (by simpa using hj)).1) (by simp [Value.oneCell']) (by unfold maxLen; omega) (by omega) (Nat.le_trans (by omega : base ≤ WD.heap.size) hs12) ?_
                  intro v2 W2 hown2 hg2 hwh
                  obtain ⟨uo, uc, rfl⟩ := own_slice hown2
                  have hc2 := chg_grown hg2
                  have hcell2 : CRow W2 base (.slice uo (C.length + 1) uc) (C ++ [⟨k, n, lo, lc, L⟩]) := by
                    refine ⟨by rw [ccs_snoc, List.length_append]; exact hown2, fun d hd => ?_⟩
                    rw [List.mem_append] at hd
                    have key : ∀ (xo : Option Addr) (m xc : Nat) (xs : List Value), (W1.alloc (.cells #[.int .i8 k, .int .i64 n, .slice lo L.length lc] 65)).ownsRow base 58 7 (.slice xo m xc) m xs → W2.ownsRow base 58 7 (.slice xo m xc) m xs := by
                      intro xo m xc xs hx
                      refine own_chg hx hc2 fun j hj hs => ?_
                      obtain ⟨cur, hcur⟩ := own_type hx j hj
                      obtain ⟨cur', hcur'⟩ := own_type HH2.out.2.2.1.1 j hs.symm
                      rw [hcur] at hcur'
                      cases hcur'
                    rcases hd with hd | hd
                    · exact key _ _ _ _ (HH2.out.2.2.1.2 d hd)
                    · obtain rfl := List.mem_singleton.1 hd
                      exact key _ _ _ _ HO2.out
                  have hpv : ¬ some p = (Value.slice vo C.length vc).ownBlock := fun e => by
                    obtain ⟨cur, hcur⟩ := own_type HH2.out.2.2.1.1 p e.symm
                    rw [HH2.out.1] at hcur
                    cases hcur
                  have hp2 := hc2.heap HH2.out.1 hpv
                  have hX2 := hc2.heap (keep_heap HXW.out HB12.out) (fun e => by
                    obtain ⟨cur, hcur⟩ := own_type HH2.out.2.2.1.1 w.heap.size e.symm
                    rw [keep_heap HXW.out HB12.out] at hcur
                    cases hcur)
                  have hD3 : MakeS p (.slice vo C.length vc) W2 := (cells_at hp2 0 _ rfl).1
                  refine hK.out _ _ (fun _ => hD3) ?_
                  clear hK K
                  (try simp only [Act.put, List.setIfInBounds_toArray, List.set_cons_zero, List.set_cons_succ])
                  refine planZ_run rfl ?_ (fun K hK => ?_)
                  focus (rfl)
                  go_simp
                  refine hK.out _ _ (fun _ => hD3) ?_
                  clear hK K
                  (try simp only [Act.put, List.setIfInBounds_toArray, List.set_cons_zero, List.set_cons_succ])
                  iterate 1 (first | (refine planZ_skip rfl ?_ ?_; (focus (rfl)); (try simp only [Act.put, List.setIfInBounds_toArray, List.set_cons_zero, List.set_cons_succ])) | (refine planZ_take (v := ?_) rfl ?_ (fun w hSw => ?_) ?_; rotate_left; (focus (rfl)); (focus (unfold MakeS at hSw; (go_simp <;> with_reducible rfl))); (try simp only [Act.put, List.setIfInBounds_toArray, List.set_cons_zero, List.set_cons_succ])))
                  obtain ⟨a0, a0f⟩ := cells_at hp2 0 _ rfl
                  have hps3 := heap_lt hp2
                  refine planZ_run rfl ?_ (fun K hK => ?_)
                  focus (rfl)
                  go_simp
                  refine hK.out _ _ (fun h => absurd rfl h) ?_
                  clear hK K
                  (try simp only [Act.put, List.setIfInBounds_toArray, List.set_cons_zero, List.set_cons_succ])
                  refine planZ_done ?_
                  have hc3 := chg_set (w := W2) (p := ⟨p, 0, none⟩) (.slice uo (C.length + 1) uc)
                  have hp3 := set_at (i := 0) hp2 (.slice uo (C.length + 1) uc)
                  have hX3 := hc3.heap hX2 (fun e => by
                    have e : w.heap.size = p := e
                    rw [e, hp2] at hX2
                    cases hX2)
                  have hcell3 : CRow (W2.setCell ⟨p, 0, none⟩ (.slice uo (C.length + 1) uc)) base (.slice uo (C.length + 1) uc) (C ++ [⟨k, n, lo, lc, L⟩]) := hcell2.chg hc3 (fun j hj cur hcur => by
                    have hj : j = p := hj
                    rw [hj, hp2] at hcur
                    cases hcur) (fun j hj hs => by
                    have hs : j = p := hs
                    obtain ⟨cur, hcur⟩ := own_type hcell2.1 j hj
                    rw [hs, hp2] at hcur
                    cases hcur)
                  have HC3 : Hid (Chg (heapS p (.slice vo C.length vc)) w (W2.setCell ⟨p, 0, none⟩ (.slice uo (C.length + 1) uc))) := Lib.hid ((((chg_of_below HBD.out _).grow (chg_of_below HB12.out (fun _ => False)) (fun j _ h => h.elim)).grow hc2 (fun j _ h => .inr h.symm)).grow hc3 (fun j _ h => .inl h))
                  have hwh2 : (Value.slice uo (C.length + 1) uc).ownBlock = (Value.slice vo C.length vc).ownBlock ∨ ∃ g, (Value.slice uo (C.length + 1) uc).ownBlock = some g ∧ w.heap.size ≤ g := hwh.imp id (fun h => ⟨_, h, Nat.le_trans HBD.out.size hs12⟩)
                  have HWH := Lib.hid hwh2
                  have HX3 := Lib.hid hX3
                  have HP3 := Lib.hid hp3
                  have HCL3 := Lib.hid hcell3
                  have g1 := (cells_at hp3 0 _ rfl).1
                  have g1f := (cells_at hp3 0 _ rfl).2
                  have g1' : (W2.setCell ⟨p, 0, none⟩ (.slice uo (C.length + 1) uc)).cell? ⟨p, 0, none⟩ = some (.slice uo (C.length + 1) uc) := g1
                  have hps4 := heap_lt hp3
                  clear hc3 hp3 hX3 hcell3 hwh2 g1 hc2 hcell2 hpv hp2 hX2 hD3 a0 a0f hown2 hg2 hwh hps3 HN2 HH2 HO2 HB12 hs12 HHW HRW HXW HBD
                  generalize W2.setCell ⟨p, 0, none⟩ (.slice uo (C.length + 1) uc) = W3 at *
                  have hw1 : IntKind.i64.wrap ((C.length : Int) + 1 - 1) = C.length := by rw [IntWalk.i64_in _ (by omega)]; omega
                  have hw2 : IntKind.i64.wrap (((C.length + 1 : Nat) : Int) - 1) = C.length := by rw [IntWalk.i64_in _ (by omega)]; omega
                  go_wp2_with (with_reducible refine stop_op (o := ⟨_, .store 58 (.tmp 6) (.tmp 87), _, _, _, _⟩) ?_)
                  refine Lib.hid ?_
                  have hc5 := chg_setRow W3 w.heap.size (wcC C.length)
                  have HX5 := Lib.hid (setRow_heap _ w.heap.size _ (wcC C.length) _ _ HX3.out)
                  have hwp : ¬ w.heap.size = p := fun e => by
                    have h1 := HX3.out
                    rw [e, HP3.out] at h1
                    cases h1
                  have hp5 := hc5.heap HP3.out (fun e => hwp e.symm)
                  have hcell5 := HCL3.out.chg2 hc5 (fun d hd j hj hs => by
                    have hs : j = w.heap.size := hs
                    rw [List.mem_append] at hd
                    rcases hd with hd | hd
                    · have := own_lt (HH0.out.2.2.1.2 d hd) (Nat.le_refl _) j hj
                      omega
                    · obtain rfl := List.mem_singleton.1 hd
                      have := HLO.out j hj
                      omega) (fun j hj hs => by
                    have hs : j = w.heap.size := hs
                    obtain ⟨cur, hcur⟩ := own_type HCL3.out.1 j hj
                    rw [hs, HX3.out] at hcur
                    cases hcur)
                  obtain ⟨hz1, hz2, hz3⟩ := sizeW_le C HGD.out L HALL.out
                  rw [← HSZ.out] at hz1 hz2 hz3
                  have HFIN : Hid (RMakeP w base p (.slice vo C.length vc) C k L (.returned (.tuple #[.agg (wcC C.length), .int .i64 0])) (W3.setRow w.heap.size (wcC C.length))) := Lib.hid (by
                    refine .inl ⟨HN.out, .slice uo (C.length + 1) uc, lo, lc, rfl, ?_, HC3.out.grow hc5 (fun j hj h => by omega), HWH.out, fun j hj => Nat.le_of_lt (HLO.out j hj)⟩
                    rw [← HSZ.out]
                    refine ⟨hp5, hbp, hcell5, HGD.out.snoc hC20 ⟨?_, hz1, by omega, by
                      show L.length ≤ 255
                      have := hz3 (by omega)
                      omega, HALL.out⟩⟩
                    cases h : partsB k
                    · have hbk := HBK.out
                      rw [badK, h] at hbk; cases hbk
                    · rfl)
                  have HX4 := HX3
                  clear hc5 hp5 hcell5
                  refine wpList_store_row (o := ⟨none, _, _, _, _, _⟩) rfl 58 (.tmp 6) (.tmp 87) rfl w.heap.size (wcC C.length) rfl rfl 58 wzC HX4.out (infoWD _ rfl) rfl (by simp [wcC, Value.oneCell']) ?_
                  generalize W3.setRow w.heap.size (wcC C.length) = W5 at *
                  go_wp2_with fail
                  exact ret_row HX5.out rfl Tryd.underlying58 rfl (infoWD _ rfl) rfl rfl HFIN.out
end Go.Proofs.YtfbohajojaaiaaaDoor
