/- the reference's Next. Conditions: the mailbox reads. -/
import Derived.Test.YthpmdeofdlcccaaGreatDoorMs14
namespace Go.Proofs.YthpmdeofdlcccaaGreatDoor
open Go.ChangeShapes Go.WideShapes Go.ChangeAt Go.RowKit
set_option linter.unusedVariables false
set_option linter.unusedSimpArgs false
set_option maxRecDepth 100000
def TrS (_ : World) : Prop := True
set_option maxHeartbeats 8000000 in
theorem rnext_any (M : Nat → Prop) (w : World) (hM : ∀ k, M k → k < w.heap.size) (v : Value) (L : List It) (pid : Int) (hv : MlOk M w v L) (hp : -9223372036854775808 ≤ pid ∧ pid ≤ 9223372036854775807) : Calls Tryz.prog 13 #[v, .int .i64 pid] w (NxPost M w L pid) := by
  obtain ⟨ao, cap, rfl, h1, h2, h3⟩ := hv
  have hb1 := (Below.refl w.heap.size w).alloc (Nat.le_refl _) (.cells zT 25)
  have hb2 := hb1.alloc (by simp) (.cells zT 25)
  have n5 := heap_old (heap_new w (.cells zT 25)) (.cells zT 25)
  have n6 := heap_new (w.alloc (.cells zT 25)) (.cells zT 25)
  rw [World.size_alloc] at n6
  have hsz : ((w.alloc (.cells zT 25)).alloc (.cells zT 25)).heap.size = w.heap.size + 2 := by simp
  have HB := Lib.hid (And.intro (NzW.mk hb2 n5 n6) hsz)
  have HX := Lib.hid hM
  clear hb1 hb2 n5 n6 hsz hM
  cases L with
  | nil =>
    clear h3
    go_enter Tryz.func13, Tryz.ntmps13
    go_wp2_with (with_reducible refine stop_op (o := ⟨_, .store 25 (.tmp 5) (.tmp 16), _, _, _, _⟩) ?_)
    refine Lib.hid ?_
    refine wpList_store_row (o := ⟨none, _, _, _, _, _⟩) rfl 25 (.tmp 5) (.tmp 16) rfl (w.heap.size) zT rfl rfl 25 zT (HB.out.1.h5) (infoTM' _ rfl) rfl (by simp [Value.oneCell']) ?_
    rw [setRow_self _ _ _ _ _ HB.out.1.h5]
    generalize (w.alloc (.cells zT 25)).alloc (.cells zT 25) = w2 at *
    go_wp2_with (with_reducible refine stop_op (o := ⟨_, .store 25 (.tmp 6) (.tmp 17), _, _, _, _⟩) ?_)
    refine Lib.hid ?_
    refine wpList_store_row (o := ⟨none, _, _, _, _, _⟩) rfl 25 (.tmp 6) (.tmp 17) rfl (w.heap.size + 1) zT rfl rfl 25 zT (HB.out.1.h6) (infoTM' _ rfl) rfl (by simp [Value.oneCell']) ?_
    rw [setRow_self _ _ _ _ _ HB.out.1.h6]
    go_wp2_with fail
    exact ret_next HB.out.1.h5 HB.out.1.h6 rfl Tryz.underlying25 rfl (infoTM' _ rfl) Tryz.underlying25 rfl (infoTM' _ rfl) rfl rfl rfl ⟨0, numT 0 0, numT 0 0, rfl, ⟨rfl, rfl, rfl⟩, numT_ok _ _ _ _ (by omega) (by omega), numT_ok _ _ _ _ (by omega) (by omega), HB.out.1.hb⟩
  | cons i L =>
    obtain ⟨hx, b, off, rfl, hit⟩ := h3 i rfl
    have hlen : 1 ≤ L.length + 1 := by omega
    have hcap1 : 1 ≤ cap := Nat.le_trans (by simp) h1
    have hcap2 : (1 : Int) ≤ (cap : Int) := by omega
    have HI := Lib.hid (And.intro hx (hit.keep HB.out.1.hb))
    obtain ⟨c0, c1, c2, c3, c4, c5⟩ := hit.keep HB.out.1.hb
    have q0 : (((i :: L).length : Int) == 0) = false := by simp; omega
    have hlt : (0 : Int) < ((i :: L).length : Int) := by simp
    clear h3 hx hit
    generalize hn : (i :: L).length = n at *
    have hn1 : 0 < n := by rw [← hn]; simp
    clear hn
    go_enter Tryz.func13, Tryz.ntmps13
    go_wp2_with (with_reducible refine stop_op (o := ⟨_, .store 25 (.tmp 7) (.tmp 21), _, _, _, _⟩) ?_)
    generalize (w.alloc (.cells zT 25)).alloc (.cells zT 25) = w2 at *
    refine Lib.hid ?_
    refine wpList_store_new (o := ⟨none, _, _, _, _, _⟩) rfl 25 (.tmp 7) (.tmp 21) rfl #[.int .i8 i.x.k, .int .i64 i.x.n, .string i.x.s, .string i.x.u, .slice i.x.ao i.x.l.length i.x.cap] (by rw [HB.out.2]; rfl) rfl (infoTM' _ rfl) rfl (by simp [Value.oneCell']) ?_
    have hb3 := (Below.refl w2.heap.size w2).alloc (Nat.le_refl _) (.cells #[.int .i8 i.x.k, .int .i64 i.x.n, .string i.x.s, .string i.x.u, .slice i.x.ao i.x.l.length i.x.cap] 25)
    have h7 := heap_new w2 (.cells #[.int .i8 i.x.k, .int .i64 i.x.n, .string i.x.s, .string i.x.u, .slice i.x.ao i.x.l.length i.x.cap] 25)
    rw [HB.out.2] at h7
    have HN := Lib.hid (NxW.mk (x := i.x) (HB.out.1.keep hb3) h7 (by simp [HB.out.2]))
    have HI3 := Lib.hid (And.intro HI.out.1 (HI.out.2.keep hb3))
    clear h7 hb3 HB HI c0 c1 c2 c3 c4 c5
    generalize w2.alloc (.cells #[.int .i8 i.x.k, .int .i64 i.x.n, .string i.x.s, .string i.x.u, .slice i.x.ao i.x.l.length i.x.cap] 25) = w3 at *
    go_wp2_with fail
    have hdr : Below w3.heap.size w3 w3.drew := (Below.refl _ _).drew
    have hS : TrS w3.drew := trivial
    have HN0 := Lib.hid (HN.out.keep hdr)
    have HI0 := Lib.hid (And.intro HI3.out.1 (HI3.out.2.keep hdr))
    clear hdr HN HI3
    refine region_plan (TrS) [(0, 0), (1, 0), (2, 0), (3, 1), (4, 1), (5, 0), (6, 0), (7, 0), (8, 0), (9, 0)] (by kernel_rfl) (by kernel_rfl) (by kernel_rfl) hS ?_
    generalize w3.drew = WD at *
    iterate 3 (first | (refine plan_skip rfl ?_ ?_; (focus (rfl)); (try simp only [Act.put, List.setIfInBounds_toArray, List.set_cons_zero, List.set_cons_succ])) | (refine plan_take (v := ?_) rfl ?_ (fun w hSw => ?_) ?_; rotate_left; (focus (rfl)); (focus (unfold TrS at hSw; (go_simp <;> with_reducible rfl))); (try simp only [Act.put, List.setIfInBounds_toArray, List.set_cons_zero, List.set_cons_succ])))
    refine plan_run rfl ?_ (fun K hK => ?_)
    focus (rfl)
    go_simp
    refine (rpid_x WD pid).mono ?_
    rintro e WA ⟨rfl, hba⟩
    have hS1 : TrS WA := trivial
    have HN := Lib.hid (HN0.out.keep hba)
    have HI3 := Lib.hid (And.intro HI0.out.1 (HI0.out.2.keep hba))
    refine hK.out _ _ hS1 ?_
    clear hK K 
    (try simp only [Act.put, List.setIfInBounds_toArray, List.set_cons_zero, List.set_cons_succ])
    clear hS hba HN0 HI0
    have HFI : Hid (Calls Tryz.prog 32 #[.slice (some ⟨b, off, none⟩) 1 cap, .string exiS, .agg #[.int .i8 4, .int .i64 pid, .string ⟨#[]⟩, .string ⟨#[]⟩, .slice none 0 0], .bool true] WA (RfP WA (fsB i true exiS (numT 4 pid)))) := Lib.hid (rfirst_one M M WA b off cap i exiS (numT 4 pid) hcap1 HI3.out.2 (HI3.out.1.keep HN.out.z.hb) (numT_ok _ _ _ _ (by omega) hp))
    refine plan_run rfl ?_ (fun K hK => ?_)
    focus (rfl)
    go_simp
    refine (HFI.out).mono ?_
    rintro e w4 ⟨rfl, hb4⟩
    have hS2 : TrS w4 := trivial
    refine hK.out _ _ hS2 ?_
    clear hK K 
    (try simp only [Act.put, List.setIfInBounds_toArray, List.set_cons_zero, List.set_cons_succ])
    iterate 5 (first | (refine plan_skip rfl ?_ ?_; (focus (rfl)); (try simp only [Act.put, List.setIfInBounds_toArray, List.set_cons_zero, List.set_cons_succ])) | (refine plan_take (v := ?_) rfl ?_ (fun w hSw => ?_) ?_; rotate_left; (focus (rfl)); (focus (unfold TrS at hSw; (go_simp <;> with_reducible rfl))); (try simp only [Act.put, List.setIfInBounds_toArray, List.set_cons_zero, List.set_cons_succ])))
    refine plan_done ?_
    clear hS1 hS2 HFI
    have HN4 := Lib.hid (HN.out.keep hb4)
    obtain ⟨x0, x1, x2, x3, x4⟩ := BxS.of HN4.out.h7
    have HXI := Lib.hid HI3.out.1
    clear hb4 HN HI3
    have hPB : parB i pid = (fsB i true exiS (numT 4 pid) && decide (i.x.l.length = 3)) := rfl
    by_cases hpb : parB i pid = true
    · have hf : fsB i true exiS (numT 4 pid) = true := by
        rw [hPB] at hpb
        exact (Bool.and_eq_true_iff.1 hpb).1
      have hl : i.x.l.length = 3 := by
        rw [hPB] at hpb
        exact of_decide_eq_true (Bool.and_eq_true_iff.1 hpb).2
      rw [hf]
      have HPB := Lib.hid hpb
      clear hpb hPB hf
      obtain ⟨b2, o2, y, e2, ey, hy, py, -⟩ := HXI.out.part (i := 2) (by omega)
      have HY := Lib.hid (And.intro hy (And.intro ey py))
      rw [hl, e2] at x4
      clear hy ey py
      go_wp2_with fail
      have hdr : Below w4.heap.size w4 w4.drew := (Below.refl _ _).drew
      have hN := HN4.out.keep hdr
      have hR := hN.z
      have hpy := HY.out.2.2.keep hR.hb
      have hz := ZxS.of hR.h5
      have HL := Lib.hid hN.hl
      have hS : NsP w.heap.size b2 (o2 + 2 * 5) (.slice (some ⟨b2, o2, none⟩) 3 i.x.cap) y.k y.n y.s y.u (.slice y.ao y.l.length y.cap) w4.drew :=
        ⟨hz.1, hz.2.1, hz.2.2.1, hz.2.2.2.1, hz.2.2.2.2, keep_cell x4 hdr, hpy.c0, hpy.c1, hpy.c2, hpy.c3, hpy.c4⟩
      have hlb := World.block_lt_of_cell? w _ HY.out.2.2.c0
      have HLB := Lib.hid (show b2 < w.heap.size from hlb)
      rw [show o2 + 2 * 5 = o2 + 10 by omega] at hS
      refine region_plan (NsP w.heap.size b2 (o2 + 10) (.slice (some ⟨b2, o2, none⟩) 3 i.x.cap) y.k y.n y.s y.u (.slice y.ao y.l.length y.cap)) [(0, 0), (1, 0), (2, 0), (3, 0), (4, 0), (5, 0), (6, 1), (7, 1)] (by kernel_rfl) (by kernel_rfl) (by kernel_rfl) hS ?_
      generalize w4.drew = WD at *
      clear hdr HN4 hN hpy hz x0 x1 x2 x3 x4 hlb
      iterate 6 (first | (refine plan_skip rfl ?_ ?_; (focus (rfl)); (try simp only [Act.put, List.setIfInBounds_toArray, List.set_cons_zero, List.set_cons_succ])) | (refine plan_take (v := ?_) rfl ?_ (fun w hSw => ?_) ?_; rotate_left; (focus (rfl)); (focus (unfold NsP at hSw; (go_simp <;> with_reducible rfl))); (try simp only [Act.put, List.setIfInBounds_toArray, List.set_cons_zero, List.set_cons_succ])))
      have hc4 := chg_setRow WD w.heap.size #[.int .i8 0, .int .i64 0, .string ⟨#[]⟩, .string ⟨#[]⟩, .slice none 0 0]
      have hA := setRow_heap WD w.heap.size zT #[.int .i8 0, .int .i64 0, .string ⟨#[]⟩, .string ⟨#[]⟩, .slice none 0 0] 25 (0, 0) hR.h5
      have hb4 := bel_setRow hR.hb hR.hb.size (Nat.le_refl _) #[.int .i8 0, .int .i64 0, .string ⟨#[]⟩, .string ⟨#[]⟩, .slice none 0 0]
      have h6a := hc4.heap hR.h6 (show w.heap.size + 1 ≠ w.heap.size by omega)
      have hs4 := hR.hb.size
      have hc5 := chg_setRow (WD.setRow w.heap.size #[.int .i8 0, .int .i64 0, .string ⟨#[]⟩, .string ⟨#[]⟩, .slice none 0 0]) (w.heap.size + 1) #[.int .i8 y.k, .int .i64 y.n, .string y.s, .string y.u, .slice y.ao y.l.length y.cap]
      have hB := setRow_heap (WD.setRow w.heap.size #[.int .i8 0, .int .i64 0, .string ⟨#[]⟩, .string ⟨#[]⟩, .slice none 0 0]) (w.heap.size + 1) zT #[.int .i8 y.k, .int .i64 y.n, .string y.s, .string y.u, .slice y.ao y.l.length y.cap] 25 (0, 0) h6a
      have hA5 := hc5.heap hA (show w.heap.size ≠ w.heap.size + 1 by omega)
      have hb5 := bel_setRow hb4 hb4.size (Nat.le_succ _) #[.int .i8 y.k, .int .i64 y.n, .string y.s, .string y.u, .slice y.ao y.l.length y.cap]
      have hS4 := hS.chg hc4 (ZxS.of hA) (by omega) (by have := HLB.out; omega)
      have hS5 := hS4.chg hc5 (ZxS.of hA5) (by omega) (by have := HLB.out; omega)
      refine plan_run rfl ?_ (fun K hK => ?_)
      focus (rfl)
      refine wp_store_row 25 (.tmp 5) (.tmp 37) rfl w.heap.size #[.int .i8 0, .int .i64 0, .string ⟨#[]⟩, .string ⟨#[]⟩, .slice none 0 0] rfl rfl 25 zT hR.h5 (infoTM' _ rfl) rfl (by simp [Value.oneCell']) ?_
      refine hK.out _ _ (hS4) ?_
      clear hK K
      (try simp only [Act.put, List.setIfInBounds_toArray, List.set_cons_zero, List.set_cons_succ])
      refine plan_run rfl ?_ (fun K hK => ?_)
      focus (rfl)
      refine wp_store_row 25 (.tmp 6) (.tmp 41) rfl (w.heap.size + 1) #[.int .i8 y.k, .int .i64 y.n, .string y.s, .string y.u, .slice y.ao y.l.length y.cap] rfl rfl 25 zT h6a (infoTM' _ rfl) rfl (by simp [Value.oneCell']) ?_
      refine hK.out _ _ (hS5) ?_
      clear hK K
      (try simp only [Act.put, List.setIfInBounds_toArray, List.set_cons_zero, List.set_cons_succ])
      refine plan_done ?_
      have HZ := Lib.hid (And.intro hA5 (And.intro hB hb5))
      generalize (WD.setRow w.heap.size #[.int .i8 0, .int .i64 0, .string ⟨#[]⟩, .string ⟨#[]⟩, .slice none 0 0]).setRow (w.heap.size + 1) #[.int .i8 y.k, .int .i64 y.n, .string y.s, .string y.u, .slice y.ao y.l.length y.cap] = W3 at *
      clear hS4 hS5 hc4 hc5 hR hS hA hb4 h6a hs4 hB hA5 hb5
      go_wp2_with fail
      exact ret_next HZ.out.1 HZ.out.2.1 rfl Tryz.underlying25 rfl (infoTM' _ rfl) Tryz.underlying25 rfl (infoTM' _ rfl) rfl rfl rfl ⟨1, numT 0 0, y, rfl, .inl ⟨HPB.out, rfl, rfl, HY.out.2.1⟩, numT_ok _ _ _ _ (by omega) (by omega), HY.out.1.keep HZ.out.2.2, HZ.out.2.2⟩
    · have HPB := Lib.hid (show parB i pid = false by simpa using hpb)
      have hq : (fsB i true exiS (numT 4 pid) = true ∧ ((i.x.l.length : Int) == 3) = false) ∨ fsB i true exiS (numT 4 pid) = false := by
        rw [hPB] at hpb
        cases hf : fsB i true exiS (numT 4 pid)
        · exact .inr rfl
        · refine .inl ⟨rfl, ?_⟩
          rw [hf] at hpb
          simp at hpb
          simp
          omega
      clear hpb hPB
      have hMs : ∀ k, (M k ∨ k = w.heap.size ∨ k = w.heap.size + 1) → k < w4.heap.size := fun k hk => by
        have := HN4.out.hl
        rcases hk with hk | hk | hk
        · have := HX.out k hk
          omega
        · omega
        · omega
      have HM4 := Lib.hid hMs
      have HC := Lib.hid (riscall_any (fun k => M k ∨ k = w.heap.size ∨ k = w.heap.size + 1) w4 hMs i.x (HXI.out.chg (chg_of_below HN4.out.z.hb (fun _ => False)) (fun _ h => h.elim) (fun k hk hl => hk.elim id (fun e => by omega))))
      have hxc : (.agg i.x.cells.toArray : Value) = .agg #[.int .i8 i.x.k, .int .i64 i.x.n, .string i.x.s, .string i.x.u, .slice i.x.ao i.x.l.length i.x.cap] := rfl
      rw [hxc] at HC
      clear hxc hMs
      rcases hq with ⟨hf, hq⟩ | hf
      · rw [hf]
        clear hf
        go_wp2_with fail
        refine HC.out.mono ?_
        clear HC x0 x1 x2 x3 x4
        rintro e w5 ⟨y, p, r, bb, rfl, hy, hb5, hcp, hz⟩
        have HN5 := Lib.hid (HN4.out.keep hb5)
        have HM5 := Lib.hid (fun k hk => Nat.lt_of_lt_of_le (HM4.out k hk) hb5.size)
        have HY := Lib.hid (And.intro hy (And.intro hcp hz))
        clear hb5 HN4 HM4 hy hcp hz
        simp only [TE.cells]
        go_wp2_with (with_reducible refine stop_op (o := ⟨_, .store 25 (.tmp 12) (.tmp 47), _, _, _, _⟩) ?_)
        refine Lib.hid ?_
        refine wpList_store_new (o := ⟨none, _, _, _, _, _⟩) rfl 25 (.tmp 12) (.tmp 47) rfl #[.int .i8 y.k, .int .i64 y.n, .string y.s, .string y.u, .slice y.ao y.l.length y.cap] rfl rfl (infoTM' _ rfl) rfl (by simp [Value.oneCell']) ?_
        have hb6 := (Below.refl w5.heap.size w5).alloc (Nat.le_refl _) (.cells #[.int .i8 y.k, .int .i64 y.n, .string y.s, .string y.u, .slice y.ao y.l.length y.cap] 25)
        have HN6 := Lib.hid (HN5.out.keep hb6)
        have HM6 := Lib.hid (fun k hk => Nat.lt_of_lt_of_le (HM5.out k hk) hb6.size)
        have HY6 := Lib.hid (And.intro (HY.out.1.keep hb6) HY.out.2)
        have HB6 := Lib.hid (And.intro (BxS.of (x := y) (heap_new w5 (.cells #[.int .i8 y.k, .int .i64 y.n, .string y.s, .string y.u, .slice y.ao y.l.length y.cap] 25))) HN5.out.hl)
        clear hb6 HN5 HM5 HY
        generalize w5.alloc (.cells #[.int .i8 y.k, .int .i64 y.n, .string y.s, .string y.u, .slice y.ao y.l.length y.cap] 25) = w6 at *
        generalize w5.heap.size = q12 at *
        cases bb
        · have HNC := Lib.hid (show callP i.x.t = none from HY6.out.2.1)
          clear HB6 HM6 HY6
          have hIB : isB i.x.t gcaS 2 = (decide (i.x.k = 5) && (decide (i.x.l.length = 2) && match i.x.l with
            | a :: _ => decide (a.k = 1) && decide (a.s = gcaS)
            | [] => false)) := rfl
          obtain ⟨x0, x1, x2, x3, x4⟩ := BxS.of HN6.out.h7
          by_cases hk : i.x.k = 5
          · by_cases hl : i.x.l.length = 2
            · obtain ⟨b3, o3, y3, e3, ey3, hy3, py3, -⟩ := HXI.out.part (i := 0) (by omega)
              have HIB0 := Lib.hid (show isB i.x.t gcaS 2 = isAtomB y3.t gcaS by
                rw [hIB]
                cases hxl : i.x.l with
                | nil => rw [hxl] at hl; simp at hl
                | cons a l =>
                  rw [hxl] at ey3 hl
                  simp at ey3
                  subst ey3
                  simp only [hk, hl, decide_true, Bool.true_and]
                  rfl)
              obtain ⟨F, htv⟩ := (hy3.keep HN6.out.z.hb).tv
              have HA : Hid (Calls Tryz.prog 37 #[.agg #[.int .i8 y3.k, .int .i64 y3.n, .string y3.s, .string y3.u, .slice y3.ao y3.l.length y3.cap], .string gcaS] w6 (IsPost w6 (isAtomB y3.t gcaS))) := Lib.hid (isatom_any F y3.t _ gcaS w6 htv)
              obtain ⟨p0, p1, p2, p3, p4⟩ := py3.keep HN6.out.z.hb
              rw [show o3 + 0 * 5 = o3 by omega] at p0 p1 p2 p3 p4
              rw [hl, e3] at x4
              rw [hk] at x0
              have HL2 := Lib.hid hl
              clear htv hy3 py3 ey3 hIB
              generalize hba : isAtomB y3.t gcaS = ba at *
              clear hba
              go_wp2_with fail
              refine HA.out.mono ?_
              clear HA
              rintro e w7 ⟨rfl, hb7⟩
              have HN7 := Lib.hid (HN6.out.keep hb7)
              clear hb7 HN6 x0 x1 x2 x3 x4 p0 p1 p2 p3 p4 hk hl e3
              obtain ⟨x0, x1, x2, x3, x4⟩ := BxS.of HN7.out.h7
              cases ba
              · have HIB := Lib.hid (show isB i.x.t gcaS 2 = false from HIB0.out)
                go_wp2_with fail
                have hdr : Below w7.heap.size w7 w7.drew := (Below.refl _ _).drew
                have hN := HN7.out.keep hdr
                have hR := hN.z
                have hz := ZxS.of hR.h5
                have hx := BxS.of hN.h7
                have HL := Lib.hid hN.hl
                have hS : NsX w.heap.size i.x w7.drew := ⟨hz.1, hz.2.1, hz.2.2.1, hz.2.2.2.1, hz.2.2.2.2, hx.1, hx.2.1, hx.2.2.1, hx.2.2.2.1, hx.2.2.2.2⟩
                refine region_plan (NsX w.heap.size i.x) [(0, 0), (1, 0), (2, 0), (3, 1), (4, 1)] (by kernel_rfl) (by kernel_rfl) (by kernel_rfl) hS ?_
                generalize w7.drew = WD at *
                clear hdr HN7 hN hz x0 x1 x2 x3 x4 hx
                iterate 3 (first | (refine plan_skip rfl ?_ ?_; (focus (rfl)); (try simp only [Act.put, List.setIfInBounds_toArray, List.set_cons_zero, List.set_cons_succ])) | (refine plan_take (v := ?_) rfl ?_ (fun w hSw => ?_) ?_; rotate_left; (focus (rfl)); (focus (unfold NsX at hSw; (go_simp <;> with_reducible rfl))); (try simp only [Act.put, List.setIfInBounds_toArray, List.set_cons_zero, List.set_cons_succ])))
                have hc4 := chg_setRow WD w.heap.size #[.int .i8 0, .int .i64 0, .string ⟨#[]⟩, .string ⟨#[]⟩, .slice none 0 0]
                have hA := setRow_heap WD w.heap.size zT #[.int .i8 0, .int .i64 0, .string ⟨#[]⟩, .string ⟨#[]⟩, .slice none 0 0] 25 (0, 0) hR.h5
                have hb4 := bel_setRow hR.hb hR.hb.size (Nat.le_refl _) #[.int .i8 0, .int .i64 0, .string ⟨#[]⟩, .string ⟨#[]⟩, .slice none 0 0]
                have h6a := hc4.heap hR.h6 (show w.heap.size + 1 ≠ w.heap.size by omega)
                have hs4 := hR.hb.size
                have hc5 := chg_setRow (WD.setRow w.heap.size #[.int .i8 0, .int .i64 0, .string ⟨#[]⟩, .string ⟨#[]⟩, .slice none 0 0]) (w.heap.size + 1) #[.int .i8 i.x.k, .int .i64 i.x.n, .string i.x.s, .string i.x.u, .slice i.x.ao i.x.l.length i.x.cap]
                have hB := setRow_heap (WD.setRow w.heap.size #[.int .i8 0, .int .i64 0, .string ⟨#[]⟩, .string ⟨#[]⟩, .slice none 0 0]) (w.heap.size + 1) zT #[.int .i8 i.x.k, .int .i64 i.x.n, .string i.x.s, .string i.x.u, .slice i.x.ao i.x.l.length i.x.cap] 25 (0, 0) h6a
                have hA5 := hc5.heap hA (show w.heap.size ≠ w.heap.size + 1 by omega)
                have hb5 := bel_setRow hb4 hb4.size (Nat.le_succ _) #[.int .i8 i.x.k, .int .i64 i.x.n, .string i.x.s, .string i.x.u, .slice i.x.ao i.x.l.length i.x.cap]
                have hS4 := hS.chg hc4 (ZxS.of hA) (by omega)
                have hS5 := hS4.chg hc5 (ZxS.of hA5) (by omega)
                refine plan_run rfl ?_ (fun K hK => ?_)
                focus (rfl)
                refine wp_store_row 25 (.tmp 5) (.tmp 78) rfl w.heap.size #[.int .i8 0, .int .i64 0, .string ⟨#[]⟩, .string ⟨#[]⟩, .slice none 0 0] rfl rfl 25 zT hR.h5 (infoTM' _ rfl) rfl (by simp [Value.oneCell']) ?_
                refine hK.out _ _ (hS4) ?_
                clear hK K
                (try simp only [Act.put, List.setIfInBounds_toArray, List.set_cons_zero, List.set_cons_succ])
                refine plan_run rfl ?_ (fun K hK => ?_)
                focus (rfl)
                refine wp_store_row 25 (.tmp 6) (.tmp 79) rfl (w.heap.size + 1) #[.int .i8 i.x.k, .int .i64 i.x.n, .string i.x.s, .string i.x.u, .slice i.x.ao i.x.l.length i.x.cap] rfl rfl 25 zT h6a (infoTM' _ rfl) rfl (by simp [Value.oneCell']) ?_
                refine hK.out _ _ (hS5) ?_
                clear hK K
                (try simp only [Act.put, List.setIfInBounds_toArray, List.set_cons_zero, List.set_cons_succ])
                refine plan_done ?_
                have HZ := Lib.hid (And.intro hA5 (And.intro hB hb5))
                generalize (WD.setRow w.heap.size #[.int .i8 0, .int .i64 0, .string ⟨#[]⟩, .string ⟨#[]⟩, .slice none 0 0]).setRow (w.heap.size + 1) #[.int .i8 i.x.k, .int .i64 i.x.n, .string i.x.s, .string i.x.u, .slice i.x.ao i.x.l.length i.x.cap] = W3 at *
                clear hS4 hS5 hc4 hc5 hR hS hA hb4 h6a hs4 hB hA5 hb5
                go_wp2_with fail
                exact ret_next HZ.out.1 HZ.out.2.1 rfl Tryz.underlying25 rfl (infoTM' _ rfl) Tryz.underlying25 rfl (infoTM' _ rfl) rfl rfl rfl ⟨4, numT 0 0, i.x, rfl, .inr (.inr (.inr ⟨HPB.out, HNC.out, HIB.out, rfl, rfl, rfl⟩)), numT_ok _ _ _ _ (by omega) (by omega), HXI.out.keep HZ.out.2.2, HZ.out.2.2⟩
              · have HIB := Lib.hid (show isB i.x.t gcaS 2 = true from HIB0.out)
                have hl := HL2.out
                obtain ⟨b2, o2, y2, e2, ey, hy, py, -⟩ := HXI.out.part (i := 1) (by omega)
                have HY := Lib.hid (And.intro hy (And.intro ey py))
                rw [hl, e2] at x4
                clear hy ey py
                go_wp2_with fail
                have hdr : Below w7.heap.size w7 w7.drew := (Below.refl _ _).drew
                have hN := HN7.out.keep hdr
                have hR := hN.z
                have hpy := HY.out.2.2.keep hR.hb
                have hz := ZxS.of hR.h5
                have HL := Lib.hid hN.hl
                have hS : NsP w.heap.size b2 (o2 + 1 * 5) (.slice (some ⟨b2, o2, none⟩) 2 i.x.cap) y2.k y2.n y2.s y2.u (.slice y2.ao y2.l.length y2.cap) w7.drew :=
                  ⟨hz.1, hz.2.1, hz.2.2.1, hz.2.2.2.1, hz.2.2.2.2, keep_cell x4 hdr, hpy.c0, hpy.c1, hpy.c2, hpy.c3, hpy.c4⟩
                have hlb := World.block_lt_of_cell? w _ HY.out.2.2.c0
                have HLB := Lib.hid (show b2 < w.heap.size from hlb)
                rw [show o2 + 1 * 5 = o2 + 5 by omega] at hS
                refine region_plan (NsP w.heap.size b2 (o2 + 5) (.slice (some ⟨b2, o2, none⟩) 2 i.x.cap) y2.k y2.n y2.s y2.u (.slice y2.ao y2.l.length y2.cap)) [(0, 0), (1, 0), (2, 0), (3, 0), (4, 0), (5, 0), (6, 1), (7, 1)] (by kernel_rfl) (by kernel_rfl) (by kernel_rfl) hS ?_
                generalize w7.drew = WD at *
                clear hdr HN7 hN hpy hz x0 x1 x2 x3 x4 hlb
                iterate 6 (first | (refine plan_skip rfl ?_ ?_; (focus (rfl)); (try simp only [Act.put, List.setIfInBounds_toArray, List.set_cons_zero, List.set_cons_succ])) | (refine plan_take (v := ?_) rfl ?_ (fun w hSw => ?_) ?_; rotate_left; (focus (rfl)); (focus (unfold NsP at hSw; (go_simp <;> with_reducible rfl))); (try simp only [Act.put, List.setIfInBounds_toArray, List.set_cons_zero, List.set_cons_succ])))
                have hc4 := chg_setRow WD w.heap.size #[.int .i8 0, .int .i64 0, .string ⟨#[]⟩, .string ⟨#[]⟩, .slice none 0 0]
                have hA := setRow_heap WD w.heap.size zT #[.int .i8 0, .int .i64 0, .string ⟨#[]⟩, .string ⟨#[]⟩, .slice none 0 0] 25 (0, 0) hR.h5
                have hb4 := bel_setRow hR.hb hR.hb.size (Nat.le_refl _) #[.int .i8 0, .int .i64 0, .string ⟨#[]⟩, .string ⟨#[]⟩, .slice none 0 0]
                have h6a := hc4.heap hR.h6 (show w.heap.size + 1 ≠ w.heap.size by omega)
                have hs4 := hR.hb.size
                have hc5 := chg_setRow (WD.setRow w.heap.size #[.int .i8 0, .int .i64 0, .string ⟨#[]⟩, .string ⟨#[]⟩, .slice none 0 0]) (w.heap.size + 1) #[.int .i8 y2.k, .int .i64 y2.n, .string y2.s, .string y2.u, .slice y2.ao y2.l.length y2.cap]
                have hB := setRow_heap (WD.setRow w.heap.size #[.int .i8 0, .int .i64 0, .string ⟨#[]⟩, .string ⟨#[]⟩, .slice none 0 0]) (w.heap.size + 1) zT #[.int .i8 y2.k, .int .i64 y2.n, .string y2.s, .string y2.u, .slice y2.ao y2.l.length y2.cap] 25 (0, 0) h6a
                have hA5 := hc5.heap hA (show w.heap.size ≠ w.heap.size + 1 by omega)
                have hb5 := bel_setRow hb4 hb4.size (Nat.le_succ _) #[.int .i8 y2.k, .int .i64 y2.n, .string y2.s, .string y2.u, .slice y2.ao y2.l.length y2.cap]
                have hS4 := hS.chg hc4 (ZxS.of hA) (by omega) (by have := HLB.out; omega)
                have hS5 := hS4.chg hc5 (ZxS.of hA5) (by omega) (by have := HLB.out; omega)
                refine plan_run rfl ?_ (fun K hK => ?_)
                focus (rfl)
                refine wp_store_row 25 (.tmp 5) (.tmp 73) rfl w.heap.size #[.int .i8 0, .int .i64 0, .string ⟨#[]⟩, .string ⟨#[]⟩, .slice none 0 0] rfl rfl 25 zT hR.h5 (infoTM' _ rfl) rfl (by simp [Value.oneCell']) ?_
                refine hK.out _ _ (hS4) ?_
                clear hK K
                (try simp only [Act.put, List.setIfInBounds_toArray, List.set_cons_zero, List.set_cons_succ])
                refine plan_run rfl ?_ (fun K hK => ?_)
                focus (rfl)
                refine wp_store_row 25 (.tmp 6) (.tmp 77) rfl (w.heap.size + 1) #[.int .i8 y2.k, .int .i64 y2.n, .string y2.s, .string y2.u, .slice y2.ao y2.l.length y2.cap] rfl rfl 25 zT h6a (infoTM' _ rfl) rfl (by simp [Value.oneCell']) ?_
                refine hK.out _ _ (hS5) ?_
                clear hK K
                (try simp only [Act.put, List.setIfInBounds_toArray, List.set_cons_zero, List.set_cons_succ])
                refine plan_done ?_
                have HZ := Lib.hid (And.intro hA5 (And.intro hB hb5))
                generalize (WD.setRow w.heap.size #[.int .i8 0, .int .i64 0, .string ⟨#[]⟩, .string ⟨#[]⟩, .slice none 0 0]).setRow (w.heap.size + 1) #[.int .i8 y2.k, .int .i64 y2.n, .string y2.s, .string y2.u, .slice y2.ao y2.l.length y2.cap] = W3 at *
                clear hS4 hS5 hc4 hc5 hR hS hA hb4 h6a hs4 hB hA5 hb5
                go_wp2_with fail
                exact ret_next HZ.out.1 HZ.out.2.1 rfl Tryz.underlying25 rfl (infoTM' _ rfl) Tryz.underlying25 rfl (infoTM' _ rfl) rfl rfl rfl ⟨3, numT 0 0, y2, rfl, .inr (.inr (.inl ⟨HPB.out, HNC.out, HIB.out, rfl, rfl, HY.out.2.1⟩)), numT_ok _ _ _ _ (by omega) (by omega), HY.out.1.keep HZ.out.2.2, HZ.out.2.2⟩
            · have HIB := Lib.hid (show isB i.x.t gcaS 2 = false by rw [hIB]; simp [hl])
              have q1 : ((i.x.l.length : Int) == 2) = false := by simp; omega
              rw [hk] at x0
              have HN7 := HN6
              clear hIB hk hl HN6
              generalize w6 = w7 at *
              go_wp2_with fail
              have hdr : Below w7.heap.size w7 w7.drew := (Below.refl _ _).drew
              have hN := HN7.out.keep hdr
              have hR := hN.z
              have hz := ZxS.of hR.h5
              have hx := BxS.of hN.h7
              have HL := Lib.hid hN.hl
              have hS : NsX w.heap.size i.x w7.drew := ⟨hz.1, hz.2.1, hz.2.2.1, hz.2.2.2.1, hz.2.2.2.2, hx.1, hx.2.1, hx.2.2.1, hx.2.2.2.1, hx.2.2.2.2⟩
              refine region_plan (NsX w.heap.size i.x) [(0, 0), (1, 0), (2, 0), (3, 1), (4, 1)] (by kernel_rfl) (by kernel_rfl) (by kernel_rfl) hS ?_
              generalize w7.drew = WD at *
              clear hdr HN7 hN hz x0 x1 x2 x3 x4 hx
              iterate 3 (first | (refine plan_skip rfl ?_ ?_; (focus (rfl)); (try simp only [Act.put, List.setIfInBounds_toArray, List.set_cons_zero, List.set_cons_succ])) | (refine plan_take (v := ?_) rfl ?_ (fun w hSw => ?_) ?_; rotate_left; (focus (rfl)); (focus (unfold NsX at hSw; (go_simp <;> with_reducible rfl))); (try simp only [Act.put, List.setIfInBounds_toArray, List.set_cons_zero, List.set_cons_succ])))
              have hc4 := chg_setRow WD w.heap.size #[.int .i8 0, .int .i64 0, .string ⟨#[]⟩, .string ⟨#[]⟩, .slice none 0 0]
              have hA := setRow_heap WD w.heap.size zT #[.int .i8 0, .int .i64 0, .string ⟨#[]⟩, .string ⟨#[]⟩, .slice none 0 0] 25 (0, 0) hR.h5
              have hb4 := bel_setRow hR.hb hR.hb.size (Nat.le_refl _) #[.int .i8 0, .int .i64 0, .string ⟨#[]⟩, .string ⟨#[]⟩, .slice none 0 0]
              have h6a := hc4.heap hR.h6 (show w.heap.size + 1 ≠ w.heap.size by omega)
              have hs4 := hR.hb.size
              have hc5 := chg_setRow (WD.setRow w.heap.size #[.int .i8 0, .int .i64 0, .string ⟨#[]⟩, .string ⟨#[]⟩, .slice none 0 0]) (w.heap.size + 1) #[.int .i8 i.x.k, .int .i64 i.x.n, .string i.x.s, .string i.x.u, .slice i.x.ao i.x.l.length i.x.cap]
              have hB := setRow_heap (WD.setRow w.heap.size #[.int .i8 0, .int .i64 0, .string ⟨#[]⟩, .string ⟨#[]⟩, .slice none 0 0]) (w.heap.size + 1) zT #[.int .i8 i.x.k, .int .i64 i.x.n, .string i.x.s, .string i.x.u, .slice i.x.ao i.x.l.length i.x.cap] 25 (0, 0) h6a
              have hA5 := hc5.heap hA (show w.heap.size ≠ w.heap.size + 1 by omega)
              have hb5 := bel_setRow hb4 hb4.size (Nat.le_succ _) #[.int .i8 i.x.k, .int .i64 i.x.n, .string i.x.s, .string i.x.u, .slice i.x.ao i.x.l.length i.x.cap]
              have hS4 := hS.chg hc4 (ZxS.of hA) (by omega)
              have hS5 := hS4.chg hc5 (ZxS.of hA5) (by omega)
              refine plan_run rfl ?_ (fun K hK => ?_)
              focus (rfl)
              refine wp_store_row 25 (.tmp 5) (.tmp 78) rfl w.heap.size #[.int .i8 0, .int .i64 0, .string ⟨#[]⟩, .string ⟨#[]⟩, .slice none 0 0] rfl rfl 25 zT hR.h5 (infoTM' _ rfl) rfl (by simp [Value.oneCell']) ?_
              refine hK.out _ _ (hS4) ?_
              clear hK K
              (try simp only [Act.put, List.setIfInBounds_toArray, List.set_cons_zero, List.set_cons_succ])
              refine plan_run rfl ?_ (fun K hK => ?_)
              focus (rfl)
              refine wp_store_row 25 (.tmp 6) (.tmp 79) rfl (w.heap.size + 1) #[.int .i8 i.x.k, .int .i64 i.x.n, .string i.x.s, .string i.x.u, .slice i.x.ao i.x.l.length i.x.cap] rfl rfl 25 zT h6a (infoTM' _ rfl) rfl (by simp [Value.oneCell']) ?_
              refine hK.out _ _ (hS5) ?_
              clear hK K
              (try simp only [Act.put, List.setIfInBounds_toArray, List.set_cons_zero, List.set_cons_succ])
              refine plan_done ?_
              have HZ := Lib.hid (And.intro hA5 (And.intro hB hb5))
              generalize (WD.setRow w.heap.size #[.int .i8 0, .int .i64 0, .string ⟨#[]⟩, .string ⟨#[]⟩, .slice none 0 0]).setRow (w.heap.size + 1) #[.int .i8 i.x.k, .int .i64 i.x.n, .string i.x.s, .string i.x.u, .slice i.x.ao i.x.l.length i.x.cap] = W3 at *
              clear hS4 hS5 hc4 hc5 hR hS hA hb4 h6a hs4 hB hA5 hb5
              go_wp2_with fail
              exact ret_next HZ.out.1 HZ.out.2.1 rfl Tryz.underlying25 rfl (infoTM' _ rfl) Tryz.underlying25 rfl (infoTM' _ rfl) rfl rfl rfl ⟨4, numT 0 0, i.x, rfl, .inr (.inr (.inr ⟨HPB.out, HNC.out, HIB.out, rfl, rfl, rfl⟩)), numT_ok _ _ _ _ (by omega) (by omega), HXI.out.keep HZ.out.2.2, HZ.out.2.2⟩
          · have HIB := Lib.hid (show isB i.x.t gcaS 2 = false by rw [hIB]; simp [hk])
            have q1 : (i.x.k == 5) = false := by simp [hk]
            have HN7 := HN6
            clear hIB hk HN6
            generalize w6 = w7 at *
            go_wp2_with fail
            have hdr : Below w7.heap.size w7 w7.drew := (Below.refl _ _).drew
            have hN := HN7.out.keep hdr
            have hR := hN.z
            have hz := ZxS.of hR.h5
            have hx := BxS.of hN.h7
            have HL := Lib.hid hN.hl
            have hS : NsX w.heap.size i.x w7.drew := ⟨hz.1, hz.2.1, hz.2.2.1, hz.2.2.2.1, hz.2.2.2.2, hx.1, hx.2.1, hx.2.2.1, hx.2.2.2.1, hx.2.2.2.2⟩
            refine region_plan (NsX w.heap.size i.x) [(0, 0), (1, 0), (2, 0), (3, 1), (4, 1)] (by kernel_rfl) (by kernel_rfl) (by kernel_rfl) hS ?_
            generalize w7.drew = WD at *
            clear hdr HN7 hN hz x0 x1 x2 x3 x4 hx
            iterate 3 (first | (refine plan_skip rfl ?_ ?_; (focus (rfl)); (try simp only [Act.put, List.setIfInBounds_toArray, List.set_cons_zero, List.set_cons_succ])) | (refine plan_take (v := ?_) rfl ?_ (fun w hSw => ?_) ?_; rotate_left; (focus (rfl)); (focus (unfold NsX at hSw; (go_simp <;> with_reducible rfl))); (try simp only [Act.put, List.setIfInBounds_toArray, List.set_cons_zero, List.set_cons_succ])))
            have hc4 := chg_setRow WD w.heap.size #[.int .i8 0, .int .i64 0, .string ⟨#[]⟩, .string ⟨#[]⟩, .slice none 0 0]
            have hA := setRow_heap WD w.heap.size zT #[.int .i8 0, .int .i64 0, .string ⟨#[]⟩, .string ⟨#[]⟩, .slice none 0 0] 25 (0, 0) hR.h5
            have hb4 := bel_setRow hR.hb hR.hb.size (Nat.le_refl _) #[.int .i8 0, .int .i64 0, .string ⟨#[]⟩, .string ⟨#[]⟩, .slice none 0 0]
            have h6a := hc4.heap hR.h6 (show w.heap.size + 1 ≠ w.heap.size by omega)
            have hs4 := hR.hb.size
            have hc5 := chg_setRow (WD.setRow w.heap.size #[.int .i8 0, .int .i64 0, .string ⟨#[]⟩, .string ⟨#[]⟩, .slice none 0 0]) (w.heap.size + 1) #[.int .i8 i.x.k, .int .i64 i.x.n, .string i.x.s, .string i.x.u, .slice i.x.ao i.x.l.length i.x.cap]
            have hB := setRow_heap (WD.setRow w.heap.size #[.int .i8 0, .int .i64 0, .string ⟨#[]⟩, .string ⟨#[]⟩, .slice none 0 0]) (w.heap.size + 1) zT #[.int .i8 i.x.k, .int .i64 i.x.n, .string i.x.s, .string i.x.u, .slice i.x.ao i.x.l.length i.x.cap] 25 (0, 0) h6a
            have hA5 := hc5.heap hA (show w.heap.size ≠ w.heap.size + 1 by omega)
            have hb5 := bel_setRow hb4 hb4.size (Nat.le_succ _) #[.int .i8 i.x.k, .int .i64 i.x.n, .string i.x.s, .string i.x.u, .slice i.x.ao i.x.l.length i.x.cap]
            have hS4 := hS.chg hc4 (ZxS.of hA) (by omega)
            have hS5 := hS4.chg hc5 (ZxS.of hA5) (by omega)
            refine plan_run rfl ?_ (fun K hK => ?_)
            focus (rfl)
            refine wp_store_row 25 (.tmp 5) (.tmp 78) rfl w.heap.size #[.int .i8 0, .int .i64 0, .string ⟨#[]⟩, .string ⟨#[]⟩, .slice none 0 0] rfl rfl 25 zT hR.h5 (infoTM' _ rfl) rfl (by simp [Value.oneCell']) ?_
            refine hK.out _ _ (hS4) ?_
            clear hK K
            (try simp only [Act.put, List.setIfInBounds_toArray, List.set_cons_zero, List.set_cons_succ])
            refine plan_run rfl ?_ (fun K hK => ?_)
            focus (rfl)
            refine wp_store_row 25 (.tmp 6) (.tmp 79) rfl (w.heap.size + 1) #[.int .i8 i.x.k, .int .i64 i.x.n, .string i.x.s, .string i.x.u, .slice i.x.ao i.x.l.length i.x.cap] rfl rfl 25 zT h6a (infoTM' _ rfl) rfl (by simp [Value.oneCell']) ?_
            refine hK.out _ _ (hS5) ?_
            clear hK K
            (try simp only [Act.put, List.setIfInBounds_toArray, List.set_cons_zero, List.set_cons_succ])
            refine plan_done ?_
            have HZ := Lib.hid (And.intro hA5 (And.intro hB hb5))
            generalize (WD.setRow w.heap.size #[.int .i8 0, .int .i64 0, .string ⟨#[]⟩, .string ⟨#[]⟩, .slice none 0 0]).setRow (w.heap.size + 1) #[.int .i8 i.x.k, .int .i64 i.x.n, .string i.x.s, .string i.x.u, .slice i.x.ao i.x.l.length i.x.cap] = W3 at *
            clear hS4 hS5 hc4 hc5 hR hS hA hb4 h6a hs4 hB hA5 hb5
            go_wp2_with fail
            exact ret_next HZ.out.1 HZ.out.2.1 rfl Tryz.underlying25 rfl (infoTM' _ rfl) Tryz.underlying25 rfl (infoTM' _ rfl) rfl rfl rfl ⟨4, numT 0 0, i.x, rfl, .inr (.inr (.inr ⟨HPB.out, HNC.out, HIB.out, rfl, rfl, rfl⟩)), numT_ok _ _ _ _ (by omega) (by omega), HXI.out.keep HZ.out.2.2, HZ.out.2.2⟩
        · have HCP := Lib.hid (show callP i.x.t = some (p, r, y.t) from HY6.out.2.1)
          have HPR := Lib.hid (call_fields HXI.out HCP.out)
          go_wp2_with fail
          have hdr : Below w6.heap.size w6 w6.drew := (Below.refl _ _).drew
          have hN := HN6.out.keep hdr
          have hS : BxS q12 y w6.drew := HB6.out.1.keep hdr
          have hM := fun k hk => Nat.lt_of_lt_of_le (HM6.out k hk) hdr.size
          have hy := HY6.out.1.keep hdr
          have HQ := Lib.hid HB6.out.2
          refine region_plan (BxS q12 y) [(0, 0), (2, 0), (6, 0), (1, 1), (3, 1), (4, 1), (5, 1), (7, 0), (8, 1), (9, 1)] (by kernel_rfl) (by kernel_rfl) (by kernel_rfl) hS ?_
          generalize w6.drew = WD at *
          clear hdr HN6 HM6 HY6 HB6
          iterate 3 (first | (refine plan_skip rfl ?_ ?_; (focus (rfl)); (try simp only [Act.put, List.setIfInBounds_toArray, List.set_cons_zero, List.set_cons_succ])) | (refine plan_take (v := ?_) rfl ?_ (fun w hSw => ?_) ?_; rotate_left; (focus (rfl)); (focus (unfold BxS at hSw; (go_simp <;> with_reducible rfl))); (try simp only [Act.put, List.setIfInBounds_toArray, List.set_cons_zero, List.set_cons_succ])))
          refine plan_run rfl ?_ (fun K hK => ?_)
          focus (rfl)
          go_simp
          refine (rpid_x WD p).mono ?_
          rintro e WP ⟨rfl, hbp⟩
          have hS7 := hS.keep hbp
          have hNp := hN.keep hbp
          have hMp := fun k hk => Nat.lt_of_lt_of_le (hM k hk) hbp.size
          have hyp := hy.keep hbp
          refine hK.out _ _ hS7 ?_
          clear hK K 
          (try simp only [Act.put, List.setIfInBounds_toArray, List.set_cons_zero, List.set_cons_succ])
          clear hS hN hM hy hbp
          refine plan_run rfl ?_ (fun K hK => ?_)
          focus (rfl)
          go_simp
          refine (rref_x WP r).mono ?_
          rintro e WR ⟨rfl, hbp⟩
          have hS8 := hS7.keep hbp
          have hN := hNp.keep hbp
          have hM := fun k hk => Nat.lt_of_lt_of_le (hMp k hk) hbp.size
          have hy := hyp.keep hbp
          refine hK.out _ _ hS8 ?_
          clear hK K 
          (try simp only [Act.put, List.setIfInBounds_toArray, List.set_cons_zero, List.set_cons_succ])
          clear hS7 hNp hMp hyp hbp
          have hS := hS8
          clear hS8
          generalize WR = WD at *
          have hba := (Below.refl WD.heap.size WD).alloc (Nat.le_refl _) (.cells #[.int .i8 4, .int .i64 p, .string ⟨#[]⟩, .string ⟨#[]⟩, .slice none 0 0, .int .i8 2, .int .i64 r, .string ⟨#[]⟩, .string ⟨#[]⟩, .slice none 0 0] 25)
          have hSa := hS.keep hba
          have hta := two_tes _ WD hM (numT 4 p) (numT 2 r) (numT_ok _ _ _ _ (by omega) HPR.out.1) (numT_ok _ _ _ _ (by omega) HPR.out.2)
          have hNa := hN.keep hba
          have hMa := fun k hk => Nat.lt_of_lt_of_le (hM k hk) hba.size
          have hya := hy.keep hba
          have HT := Lib.hid (rlimit_any _ (WD.alloc (.cells #[.int .i8 4, .int .i64 p, .string ⟨#[]⟩, .string ⟨#[]⟩, .slice none 0 0, .int .i8 2, .int .i64 r, .string ⟨#[]⟩, .string ⟨#[]⟩, .slice none 0 0] 25)) hMa WD.heap.size 0 2 [numT 4 p, numT 2 r] hta (by simp))
          refine plan_run rfl ?_ (fun K hK => ?_)
          focus (rfl)
          go_simp
          refine hK.out _ _ (hSa) ?_
          clear hK K
          (try simp only [Act.put, List.setIfInBounds_toArray, List.set_cons_zero, List.set_cons_succ])
          clear hba hta hS hN hM hy
          generalize WD.alloc (.cells #[.int .i8 4, .int .i64 p, .string ⟨#[]⟩, .string ⟨#[]⟩, .slice none 0 0, .int .i8 2, .int .i64 r, .string ⟨#[]⟩, .string ⟨#[]⟩, .slice none 0 0] 25) = Wa at *
          refine plan_run rfl ?_ (fun K hK => ?_)
          focus (rfl)
          go_simp
          refine (HT.out).mono ?_
          rintro e W2 ⟨v, rfl, hvt, hv, hb2⟩
          have hS2 := hSa.keep hb2
          have hN2 := hNa.keep hb2
          have hy2 := hya.keep hb2
          refine hK.out _ _ hS2 ?_
          clear hK K 
          (try simp only [Act.put, List.setIfInBounds_toArray, List.set_cons_zero, List.set_cons_succ])
          clear hSa hNa hMa hya HT hb2
          have hL : ([numT 4 p, numT 2 r] : List TE).map TE.t = [.mk 4 p ⟨#[]⟩ ⟨#[]⟩ [], .mk 2 r ⟨#[]⟩ ⟨#[]⟩ []] := rfl
          rw [hL] at hvt
          iterate 1 (first | (refine plan_skip rfl ?_ ?_; (focus (rfl)); (try simp only [Act.put, List.setIfInBounds_toArray, List.set_cons_zero, List.set_cons_succ])) | (refine plan_take (v := ?_) rfl ?_ (fun w hSw => ?_) ?_; rotate_left; (focus (rfl)); (focus (unfold BxS at hSw; (go_simp <;> with_reducible rfl))); (try simp only [Act.put, List.setIfInBounds_toArray, List.set_cons_zero, List.set_cons_succ])))
          have hR := hN2.z
          have HL := Lib.hid hN2.hl
          generalize W2 = WD at *
          have hc4 := chg_setRow WD w.heap.size #[.int .i8 v.k, .int .i64 v.n, .string v.s, .string v.u, .slice v.ao v.l.length v.cap]
          have hA := setRow_heap WD w.heap.size zT #[.int .i8 v.k, .int .i64 v.n, .string v.s, .string v.u, .slice v.ao v.l.length v.cap] 25 (0, 0) hR.h5
          have hb4 := bel_setRow hR.hb hR.hb.size (Nat.le_refl _) #[.int .i8 v.k, .int .i64 v.n, .string v.s, .string v.u, .slice v.ao v.l.length v.cap]
          have h6a := hc4.heap hR.h6 (show w.heap.size + 1 ≠ w.heap.size by omega)
          have hs4 := hR.hb.size
          have hc5 := chg_setRow (WD.setRow w.heap.size #[.int .i8 v.k, .int .i64 v.n, .string v.s, .string v.u, .slice v.ao v.l.length v.cap]) (w.heap.size + 1) #[.int .i8 y.k, .int .i64 y.n, .string y.s, .string y.u, .slice y.ao y.l.length y.cap]
          have hB := setRow_heap (WD.setRow w.heap.size #[.int .i8 v.k, .int .i64 v.n, .string v.s, .string v.u, .slice v.ao v.l.length v.cap]) (w.heap.size + 1) zT #[.int .i8 y.k, .int .i64 y.n, .string y.s, .string y.u, .slice y.ao y.l.length y.cap] 25 (0, 0) h6a
          have hA5 := hc5.heap hA (show w.heap.size ≠ w.heap.size + 1 by omega)
          have hb5 := bel_setRow hb4 hb4.size (Nat.le_succ _) #[.int .i8 y.k, .int .i64 y.n, .string y.s, .string y.u, .slice y.ao y.l.length y.cap]
          have hq1 : ¬ (q12 = w.heap.size) := by have := HQ.out; omega
          have hq2 : ¬ (q12 = w.heap.size + 1) := by have := HQ.out; omega
          have hS4 : BxS q12 y (WD.setRow w.heap.size #[.int .i8 v.k, .int .i64 v.n, .string v.s, .string v.u, .slice v.ao v.l.length v.cap]) := ⟨hc4.cell hS2.1 hq1, hc4.cell hS2.2.1 hq1, hc4.cell hS2.2.2.1 hq1, hc4.cell hS2.2.2.2.1 hq1, hc4.cell hS2.2.2.2.2 hq1⟩
          have hS5 : BxS q12 y ((WD.setRow w.heap.size #[.int .i8 v.k, .int .i64 v.n, .string v.s, .string v.u, .slice v.ao v.l.length v.cap]).setRow (w.heap.size + 1) #[.int .i8 y.k, .int .i64 y.n, .string y.s, .string y.u, .slice y.ao y.l.length y.cap]) := ⟨hc5.cell hS4.1 hq2, hc5.cell hS4.2.1 hq2, hc5.cell hS4.2.2.1 hq2, hc5.cell hS4.2.2.2.1 hq2, hc5.cell hS4.2.2.2.2 hq2⟩
          have hv5 := (hv.chg (M' := fun k => M k ∨ k = w.heap.size + 1) hc4 (fun k e _ => .inr (.inl e)) (fun k hk _ => hk.elim .inl fun e => .inr (.inr e))).chg (M' := M) hc5 (fun k e _ => .inr e) (fun k hk _ => .inl hk)
          have hy5 := (hy2.chg (M' := fun k => M k ∨ k = w.heap.size + 1) hc4 (fun k e _ => .inr (.inl e)) (fun k hk _ => hk.elim .inl fun e => .inr (.inr e))).chg (M' := M) hc5 (fun k e _ => .inr e) (fun k hk _ => .inl hk)
          refine plan_run rfl ?_ (fun K hK => ?_)
          focus (rfl)
          refine wp_store_row 25 (.tmp 5) (.tmp 55) rfl w.heap.size #[.int .i8 v.k, .int .i64 v.n, .string v.s, .string v.u, .slice v.ao v.l.length v.cap] rfl rfl 25 zT hR.h5 (infoTM' _ rfl) rfl (by simp [Value.oneCell']) ?_
          refine hK.out _ _ (hS4) ?_
          clear hK K
          (try simp only [Act.put, List.setIfInBounds_toArray, List.set_cons_zero, List.set_cons_succ])
          refine plan_run rfl ?_ (fun K hK => ?_)
          focus (rfl)
          refine wp_store_row 25 (.tmp 6) (.tmp 56) rfl (w.heap.size + 1) #[.int .i8 y.k, .int .i64 y.n, .string y.s, .string y.u, .slice y.ao y.l.length y.cap] rfl rfl 25 zT h6a (infoTM' _ rfl) rfl (by simp [Value.oneCell']) ?_
          refine hK.out _ _ (hS5) ?_
          clear hK K
          (try simp only [Act.put, List.setIfInBounds_toArray, List.set_cons_zero, List.set_cons_succ])
          refine plan_done ?_
          have HZ := Lib.hid (And.intro hA5 (And.intro hB hb5))
          have HV := Lib.hid (And.intro hvt (And.intro hv5 hy5))
          generalize (WD.setRow w.heap.size #[.int .i8 v.k, .int .i64 v.n, .string v.s, .string v.u, .slice v.ao v.l.length v.cap]).setRow (w.heap.size + 1) #[.int .i8 y.k, .int .i64 y.n, .string y.s, .string y.u, .slice y.ao y.l.length y.cap] = W3 at *
          clear hS4 hS5 hc4 hc5 hR hA hb4 h6a hs4 hB hA5 hb5 hv5 hy5 hq1 hq2 hvt hv hy2 hS2 hN2
          go_wp2_with fail
          exact ret_next HZ.out.1 HZ.out.2.1 rfl Tryz.underlying25 rfl (infoTM' _ rfl) Tryz.underlying25 rfl (infoTM' _ rfl) rfl rfl rfl ⟨2, v, y, rfl, .inr (.inl ⟨HPB.out, p, r, y.t, HCP.out, rfl, HV.out.1, rfl⟩), HV.out.2.1, HV.out.2.2, HZ.out.2.2⟩
      · rw [hf]
        clear hf
        go_wp2_with fail
        refine HC.out.mono ?_
        clear HC x0 x1 x2 x3 x4
        rintro e w5 ⟨y, p, r, bb, rfl, hy, hb5, hcp, hz⟩
        have HN5 := Lib.hid (HN4.out.keep hb5)
        have HM5 := Lib.hid (fun k hk => Nat.lt_of_lt_of_le (HM4.out k hk) hb5.size)
        have HY := Lib.hid (And.intro hy (And.intro hcp hz))
        clear hb5 HN4 HM4 hy hcp hz
        simp only [TE.cells]
        go_wp2_with (with_reducible refine stop_op (o := ⟨_, .store 25 (.tmp 12) (.tmp 47), _, _, _, _⟩) ?_)
        refine Lib.hid ?_
        refine wpList_store_new (o := ⟨none, _, _, _, _, _⟩) rfl 25 (.tmp 12) (.tmp 47) rfl #[.int .i8 y.k, .int .i64 y.n, .string y.s, .string y.u, .slice y.ao y.l.length y.cap] rfl rfl (infoTM' _ rfl) rfl (by simp [Value.oneCell']) ?_
        have hb6 := (Below.refl w5.heap.size w5).alloc (Nat.le_refl _) (.cells #[.int .i8 y.k, .int .i64 y.n, .string y.s, .string y.u, .slice y.ao y.l.length y.cap] 25)
        have HN6 := Lib.hid (HN5.out.keep hb6)
        have HM6 := Lib.hid (fun k hk => Nat.lt_of_lt_of_le (HM5.out k hk) hb6.size)
        have HY6 := Lib.hid (And.intro (HY.out.1.keep hb6) HY.out.2)
        have HB6 := Lib.hid (And.intro (BxS.of (x := y) (heap_new w5 (.cells #[.int .i8 y.k, .int .i64 y.n, .string y.s, .string y.u, .slice y.ao y.l.length y.cap] 25))) HN5.out.hl)
        clear hb6 HN5 HM5 HY
        generalize w5.alloc (.cells #[.int .i8 y.k, .int .i64 y.n, .string y.s, .string y.u, .slice y.ao y.l.length y.cap] 25) = w6 at *
        generalize w5.heap.size = q12 at *
        cases bb
        · have HNC := Lib.hid (show callP i.x.t = none from HY6.out.2.1)
          clear HB6 HM6 HY6
          have hIB : isB i.x.t gcaS 2 = (decide (i.x.k = 5) && (decide (i.x.l.length = 2) && match i.x.l with
            | a :: _ => decide (a.k = 1) && decide (a.s = gcaS)
            | [] => false)) := rfl
          obtain ⟨x0, x1, x2, x3, x4⟩ := BxS.of HN6.out.h7
          by_cases hk : i.x.k = 5
          · by_cases hl : i.x.l.length = 2
            · obtain ⟨b3, o3, y3, e3, ey3, hy3, py3, -⟩ := HXI.out.part (i := 0) (by omega)
              have HIB0 := Lib.hid (show isB i.x.t gcaS 2 = isAtomB y3.t gcaS by
                rw [hIB]
                cases hxl : i.x.l with
                | nil => rw [hxl] at hl; simp at hl
                | cons a l =>
                  rw [hxl] at ey3 hl
                  simp at ey3
                  subst ey3
                  simp only [hk, hl, decide_true, Bool.true_and]
                  rfl)
              obtain ⟨F, htv⟩ := (hy3.keep HN6.out.z.hb).tv
              have HA : Hid (Calls Tryz.prog 37 #[.agg #[.int .i8 y3.k, .int .i64 y3.n, .string y3.s, .string y3.u, .slice y3.ao y3.l.length y3.cap], .string gcaS] w6 (IsPost w6 (isAtomB y3.t gcaS))) := Lib.hid (isatom_any F y3.t _ gcaS w6 htv)
              obtain ⟨p0, p1, p2, p3, p4⟩ := py3.keep HN6.out.z.hb
              rw [show o3 + 0 * 5 = o3 by omega] at p0 p1 p2 p3 p4
              rw [hl, e3] at x4
              rw [hk] at x0
              have HL2 := Lib.hid hl
              clear htv hy3 py3 ey3 hIB
              generalize hba : isAtomB y3.t gcaS = ba at *
              clear hba
              go_wp2_with fail
              refine HA.out.mono ?_
              clear HA
              rintro e w7 ⟨rfl, hb7⟩
              have HN7 := Lib.hid (HN6.out.keep hb7)
              clear hb7 HN6 x0 x1 x2 x3 x4 p0 p1 p2 p3 p4 hk hl e3
              obtain ⟨x0, x1, x2, x3, x4⟩ := BxS.of HN7.out.h7
              cases ba
              · have HIB := Lib.hid (show isB i.x.t gcaS 2 = false from HIB0.out)
                go_wp2_with fail
                have hdr : Below w7.heap.size w7 w7.drew := (Below.refl _ _).drew
                have hN := HN7.out.keep hdr
                have hR := hN.z
                have hz := ZxS.of hR.h5
                have hx := BxS.of hN.h7
                have HL := Lib.hid hN.hl
                have hS : NsX w.heap.size i.x w7.drew := ⟨hz.1, hz.2.1, hz.2.2.1, hz.2.2.2.1, hz.2.2.2.2, hx.1, hx.2.1, hx.2.2.1, hx.2.2.2.1, hx.2.2.2.2⟩
                refine region_plan (NsX w.heap.size i.x) [(0, 0), (1, 0), (2, 0), (3, 1), (4, 1)] (by kernel_rfl) (by kernel_rfl) (by kernel_rfl) hS ?_
                generalize w7.drew = WD at *
                clear hdr HN7 hN hz x0 x1 x2 x3 x4 hx
                iterate 3 (first | (refine plan_skip rfl ?_ ?_; (focus (rfl)); (try simp only [Act.put, List.setIfInBounds_toArray, List.set_cons_zero, List.set_cons_succ])) | (refine plan_take (v := ?_) rfl ?_ (fun w hSw => ?_) ?_; rotate_left; (focus (rfl)); (focus (unfold NsX at hSw; (go_simp <;> with_reducible rfl))); (try simp only [Act.put, List.setIfInBounds_toArray, List.set_cons_zero, List.set_cons_succ])))
                have hc4 := chg_setRow WD w.heap.size #[.int .i8 0, .int .i64 0, .string ⟨#[]⟩, .string ⟨#[]⟩, .slice none 0 0]
                have hA := setRow_heap WD w.heap.size zT #[.int .i8 0, .int .i64 0, .string ⟨#[]⟩, .string ⟨#[]⟩, .slice none 0 0] 25 (0, 0) hR.h5
                have hb4 := bel_setRow hR.hb hR.hb.size (Nat.le_refl _) #[.int .i8 0, .int .i64 0, .string ⟨#[]⟩, .string ⟨#[]⟩, .slice none 0 0]
                have h6a := hc4.heap hR.h6 (show w.heap.size + 1 ≠ w.heap.size by omega)
                have hs4 := hR.hb.size
                have hc5 := chg_setRow (WD.setRow w.heap.size #[.int .i8 0, .int .i64 0, .string ⟨#[]⟩, .string ⟨#[]⟩, .slice none 0 0]) (w.heap.size + 1) #[.int .i8 i.x.k, .int .i64 i.x.n, .string i.x.s, .string i.x.u, .slice i.x.ao i.x.l.length i.x.cap]
                have hB := setRow_heap (WD.setRow w.heap.size #[.int .i8 0, .int .i64 0, .string ⟨#[]⟩, .string ⟨#[]⟩, .slice none 0 0]) (w.heap.size + 1) zT #[.int .i8 i.x.k, .int .i64 i.x.n, .string i.x.s, .string i.x.u, .slice i.x.ao i.x.l.length i.x.cap] 25 (0, 0) h6a
                have hA5 := hc5.heap hA (show w.heap.size ≠ w.heap.size + 1 by omega)
                have hb5 := bel_setRow hb4 hb4.size (Nat.le_succ _) #[.int .i8 i.x.k, .int .i64 i.x.n, .string i.x.s, .string i.x.u, .slice i.x.ao i.x.l.length i.x.cap]
                have hS4 := hS.chg hc4 (ZxS.of hA) (by omega)
                have hS5 := hS4.chg hc5 (ZxS.of hA5) (by omega)
                refine plan_run rfl ?_ (fun K hK => ?_)
                focus (rfl)
                refine wp_store_row 25 (.tmp 5) (.tmp 78) rfl w.heap.size #[.int .i8 0, .int .i64 0, .string ⟨#[]⟩, .string ⟨#[]⟩, .slice none 0 0] rfl rfl 25 zT hR.h5 (infoTM' _ rfl) rfl (by simp [Value.oneCell']) ?_
                refine hK.out _ _ (hS4) ?_
                clear hK K
                (try simp only [Act.put, List.setIfInBounds_toArray, List.set_cons_zero, List.set_cons_succ])
                refine plan_run rfl ?_ (fun K hK => ?_)
                focus (rfl)
                refine wp_store_row 25 (.tmp 6) (.tmp 79) rfl (w.heap.size + 1) #[.int .i8 i.x.k, .int .i64 i.x.n, .string i.x.s, .string i.x.u, .slice i.x.ao i.x.l.length i.x.cap] rfl rfl 25 zT h6a (infoTM' _ rfl) rfl (by simp [Value.oneCell']) ?_
                refine hK.out _ _ (hS5) ?_
                clear hK K
                (try simp only [Act.put, List.setIfInBounds_toArray, List.set_cons_zero, List.set_cons_succ])
                refine plan_done ?_
                have HZ := Lib.hid (And.intro hA5 (And.intro hB hb5))
                generalize (WD.setRow w.heap.size #[.int .i8 0, .int .i64 0, .string ⟨#[]⟩, .string ⟨#[]⟩, .slice none 0 0]).setRow (w.heap.size + 1) #[.int .i8 i.x.k, .int .i64 i.x.n, .string i.x.s, .string i.x.u, .slice i.x.ao i.x.l.length i.x.cap] = W3 at *
                clear hS4 hS5 hc4 hc5 hR hS hA hb4 h6a hs4 hB hA5 hb5
                go_wp2_with fail
                exact ret_next HZ.out.1 HZ.out.2.1 rfl Tryz.underlying25 rfl (infoTM' _ rfl) Tryz.underlying25 rfl (infoTM' _ rfl) rfl rfl rfl ⟨4, numT 0 0, i.x, rfl, .inr (.inr (.inr ⟨HPB.out, HNC.out, HIB.out, rfl, rfl, rfl⟩)), numT_ok _ _ _ _ (by omega) (by omega), HXI.out.keep HZ.out.2.2, HZ.out.2.2⟩
              · have HIB := Lib.hid (show isB i.x.t gcaS 2 = true from HIB0.out)
                have hl := HL2.out
                obtain ⟨b2, o2, y2, e2, ey, hy, py, -⟩ := HXI.out.part (i := 1) (by omega)
                have HY := Lib.hid (And.intro hy (And.intro ey py))
                rw [hl, e2] at x4
                clear hy ey py
                go_wp2_with fail
                have hdr : Below w7.heap.size w7 w7.drew := (Below.refl _ _).drew
                have hN := HN7.out.keep hdr
                have hR := hN.z
                have hpy := HY.out.2.2.keep hR.hb
                have hz := ZxS.of hR.h5
                have HL := Lib.hid hN.hl
                have hS : NsP w.heap.size b2 (o2 + 1 * 5) (.slice (some ⟨b2, o2, none⟩) 2 i.x.cap) y2.k y2.n y2.s y2.u (.slice y2.ao y2.l.length y2.cap) w7.drew :=
                  ⟨hz.1, hz.2.1, hz.2.2.1, hz.2.2.2.1, hz.2.2.2.2, keep_cell x4 hdr, hpy.c0, hpy.c1, hpy.c2, hpy.c3, hpy.c4⟩
                have hlb := World.block_lt_of_cell? w _ HY.out.2.2.c0
                have HLB := Lib.hid (show b2 < w.heap.size from hlb)
                rw [show o2 + 1 * 5 = o2 + 5 by omega] at hS
                refine region_plan (NsP w.heap.size b2 (o2 + 5) (.slice (some ⟨b2, o2, none⟩) 2 i.x.cap) y2.k y2.n y2.s y2.u (.slice y2.ao y2.l.length y2.cap)) [(0, 0), (1, 0), (2, 0), (3, 0), (4, 0), (5, 0), (6, 1), (7, 1)] (by kernel_rfl) (by kernel_rfl) (by kernel_rfl) hS ?_
                generalize w7.drew = WD at *
                clear hdr HN7 hN hpy hz x0 x1 x2 x3 x4 hlb
                iterate 6 (first | (refine plan_skip rfl ?_ ?_; (focus (rfl)); (try simp only [Act.put, List.setIfInBounds_toArray, List.set_cons_zero, List.set_cons_succ])) | (refine plan_take (v := ?_) rfl ?_ (fun w hSw => ?_) ?_; rotate_left; (focus (rfl)); (focus (unfold NsP at hSw; (go_simp <;> with_reducible rfl))); (try simp only [Act.put, List.setIfInBounds_toArray, List.set_cons_zero, List.set_cons_succ])))
                have hc4 := chg_setRow WD w.heap.size #[.int .i8 0, .int .i64 0, .string ⟨#[]⟩, .string ⟨#[]⟩, .slice none 0 0]
                have hA := setRow_heap WD w.heap.size zT #[.int .i8 0, .int .i64 0, .string ⟨#[]⟩, .string ⟨#[]⟩, .slice none 0 0] 25 (0, 0) hR.h5
                have hb4 := bel_setRow hR.hb hR.hb.size (Nat.le_refl _) #[.int .i8 0, .int .i64 0, .string ⟨#[]⟩, .string ⟨#[]⟩, .slice none 0 0]
                have h6a := hc4.heap hR.h6 (show w.heap.size + 1 ≠ w.heap.size by omega)
                have hs4 := hR.hb.size
                have hc5 := chg_setRow (WD.setRow w.heap.size #[.int .i8 0, .int .i64 0, .string ⟨#[]⟩, .string ⟨#[]⟩, .slice none 0 0]) (w.heap.size + 1) #[.int .i8 y2.k, .int .i64 y2.n, .string y2.s, .string y2.u, .slice y2.ao y2.l.length y2.cap]
                have hB := setRow_heap (WD.setRow w.heap.size #[.int .i8 0, .int .i64 0, .string ⟨#[]⟩, .string ⟨#[]⟩, .slice none 0 0]) (w.heap.size + 1) zT #[.int .i8 y2.k, .int .i64 y2.n, .string y2.s, .string y2.u, .slice y2.ao y2.l.length y2.cap] 25 (0, 0) h6a
                have hA5 := hc5.heap hA (show w.heap.size ≠ w.heap.size + 1 by omega)
                have hb5 := bel_setRow hb4 hb4.size (Nat.le_succ _) #[.int .i8 y2.k, .int .i64 y2.n, .string y2.s, .string y2.u, .slice y2.ao y2.l.length y2.cap]
                have hS4 := hS.chg hc4 (ZxS.of hA) (by omega) (by have := HLB.out; omega)
                have hS5 := hS4.chg hc5 (ZxS.of hA5) (by omega) (by have := HLB.out; omega)
                refine plan_run rfl ?_ (fun K hK => ?_)
                focus (rfl)
                refine wp_store_row 25 (.tmp 5) (.tmp 73) rfl w.heap.size #[.int .i8 0, .int .i64 0, .string ⟨#[]⟩, .string ⟨#[]⟩, .slice none 0 0] rfl rfl 25 zT hR.h5 (infoTM' _ rfl) rfl (by simp [Value.oneCell']) ?_
                refine hK.out _ _ (hS4) ?_
                clear hK K
                (try simp only [Act.put, List.setIfInBounds_toArray, List.set_cons_zero, List.set_cons_succ])
                refine plan_run rfl ?_ (fun K hK => ?_)
                focus (rfl)
                refine wp_store_row 25 (.tmp 6) (.tmp 77) rfl (w.heap.size + 1) #[.int .i8 y2.k, .int .i64 y2.n, .string y2.s, .string y2.u, .slice y2.ao y2.l.length y2.cap] rfl rfl 25 zT h6a (infoTM' _ rfl) rfl (by simp [Value.oneCell']) ?_
                refine hK.out _ _ (hS5) ?_
                clear hK K
                (try simp only [Act.put, List.setIfInBounds_toArray, List.set_cons_zero, List.set_cons_succ])
                refine plan_done ?_
                have HZ := Lib.hid (And.intro hA5 (And.intro hB hb5))
                generalize (WD.setRow w.heap.size #[.int .i8 0, .int .i64 0, .string ⟨#[]⟩, .string ⟨#[]⟩, .slice none 0 0]).setRow (w.heap.size + 1) #[.int .i8 y2.k, .int .i64 y2.n, .string y2.s, .string y2.u, .slice y2.ao y2.l.length y2.cap] = W3 at *
                clear hS4 hS5 hc4 hc5 hR hS hA hb4 h6a hs4 hB hA5 hb5
                go_wp2_with fail
                exact ret_next HZ.out.1 HZ.out.2.1 rfl Tryz.underlying25 rfl (infoTM' _ rfl) Tryz.underlying25 rfl (infoTM' _ rfl) rfl rfl rfl ⟨3, numT 0 0, y2, rfl, .inr (.inr (.inl ⟨HPB.out, HNC.out, HIB.out, rfl, rfl, HY.out.2.1⟩)), numT_ok _ _ _ _ (by omega) (by omega), HY.out.1.keep HZ.out.2.2, HZ.out.2.2⟩
            · have HIB := Lib.hid (show isB i.x.t gcaS 2 = false by rw [hIB]; simp [hl])
              have q1 : ((i.x.l.length : Int) == 2) = false := by simp; omega
              rw [hk] at x0
              have HN7 := HN6
              clear hIB hk hl HN6
              generalize w6 = w7 at *
              go_wp2_with fail
              have hdr : Below w7.heap.size w7 w7.drew := (Below.refl _ _).drew
              have hN := HN7.out.keep hdr
              have hR := hN.z
              have hz := ZxS.of hR.h5
              have hx := BxS.of hN.h7
              have HL := Lib.hid hN.hl
              have hS : NsX w.heap.size i.x w7.drew := ⟨hz.1, hz.2.1, hz.2.2.1, hz.2.2.2.1, hz.2.2.2.2, hx.1, hx.2.1, hx.2.2.1, hx.2.2.2.1, hx.2.2.2.2⟩
              refine region_plan (NsX w.heap.size i.x) [(0, 0), (1, 0), (2, 0), (3, 1), (4, 1)] (by kernel_rfl) (by kernel_rfl) (by kernel_rfl) hS ?_
              generalize w7.drew = WD at *
              clear hdr HN7 hN hz x0 x1 x2 x3 x4 hx
              iterate 3 (first | (refine plan_skip rfl ?_ ?_; (focus (rfl)); (try simp only [Act.put, List.setIfInBounds_toArray, List.set_cons_zero, List.set_cons_succ])) | (refine plan_take (v := ?_) rfl ?_ (fun w hSw => ?_) ?_; rotate_left; (focus (rfl)); (focus (unfold NsX at hSw; (go_simp <;> with_reducible rfl))); (try simp only [Act.put, List.setIfInBounds_toArray, List.set_cons_zero, List.set_cons_succ])))
              have hc4 := chg_setRow WD w.heap.size #[.int .i8 0, .int .i64 0, .string ⟨#[]⟩, .string ⟨#[]⟩, .slice none 0 0]
              have hA := setRow_heap WD w.heap.size zT #[.int .i8 0, .int .i64 0, .string ⟨#[]⟩, .string ⟨#[]⟩, .slice none 0 0] 25 (0, 0) hR.h5
              have hb4 := bel_setRow hR.hb hR.hb.size (Nat.le_refl _) #[.int .i8 0, .int .i64 0, .string ⟨#[]⟩, .string ⟨#[]⟩, .slice none 0 0]
              have h6a := hc4.heap hR.h6 (show w.heap.size + 1 ≠ w.heap.size by omega)
              have hs4 := hR.hb.size
              have hc5 := chg_setRow (WD.setRow w.heap.size #[.int .i8 0, .int .i64 0, .string ⟨#[]⟩, .string ⟨#[]⟩, .slice none 0 0]) (w.heap.size + 1) #[.int .i8 i.x.k, .int .i64 i.x.n, .string i.x.s, .string i.x.u, .slice i.x.ao i.x.l.length i.x.cap]
              have hB := setRow_heap (WD.setRow w.heap.size #[.int .i8 0, .int .i64 0, .string ⟨#[]⟩, .string ⟨#[]⟩, .slice none 0 0]) (w.heap.size + 1) zT #[.int .i8 i.x.k, .int .i64 i.x.n, .string i.x.s, .string i.x.u, .slice i.x.ao i.x.l.length i.x.cap] 25 (0, 0) h6a
              have hA5 := hc5.heap hA (show w.heap.size ≠ w.heap.size + 1 by omega)
              have hb5 := bel_setRow hb4 hb4.size (Nat.le_succ _) #[.int .i8 i.x.k, .int .i64 i.x.n, .string i.x.s, .string i.x.u, .slice i.x.ao i.x.l.length i.x.cap]
              have hS4 := hS.chg hc4 (ZxS.of hA) (by omega)
              have hS5 := hS4.chg hc5 (ZxS.of hA5) (by omega)
              refine plan_run rfl ?_ (fun K hK => ?_)
              focus (rfl)
              refine wp_store_row 25 (.tmp 5) (.tmp 78) rfl w.heap.size #[.int .i8 0, .int .i64 0, .string ⟨#[]⟩, .string ⟨#[]⟩, .slice none 0 0] rfl rfl 25 zT hR.h5 (infoTM' _ rfl) rfl (by simp [Value.oneCell']) ?_
              refine hK.out _ _ (hS4) ?_
              clear hK K
              (try simp only [Act.put, List.setIfInBounds_toArray, List.set_cons_zero, List.set_cons_succ])
              refine plan_run rfl ?_ (fun K hK => ?_)
              focus (rfl)
              refine wp_store_row 25 (.tmp 6) (.tmp 79) rfl (w.heap.size + 1) #[.int .i8 i.x.k, .int .i64 i.x.n, .string i.x.s, .string i.x.u, .slice i.x.ao i.x.l.length i.x.cap] rfl rfl 25 zT h6a (infoTM' _ rfl) rfl (by simp [Value.oneCell']) ?_
              refine hK.out _ _ (hS5) ?_
              clear hK K
              (try simp only [Act.put, List.setIfInBounds_toArray, List.set_cons_zero, List.set_cons_succ])
              refine plan_done ?_
              have HZ := Lib.hid (And.intro hA5 (And.intro hB hb5))
              generalize (WD.setRow w.heap.size #[.int .i8 0, .int .i64 0, .string ⟨#[]⟩, .string ⟨#[]⟩, .slice none 0 0]).setRow (w.heap.size + 1) #[.int .i8 i.x.k, .int .i64 i.x.n, .string i.x.s, .string i.x.u, .slice i.x.ao i.x.l.length i.x.cap] = W3 at *
              clear hS4 hS5 hc4 hc5 hR hS hA hb4 h6a hs4 hB hA5 hb5
              go_wp2_with fail
              exact ret_next HZ.out.1 HZ.out.2.1 rfl Tryz.underlying25 rfl (infoTM' _ rfl) Tryz.underlying25 rfl (infoTM' _ rfl) rfl rfl rfl ⟨4, numT 0 0, i.x, rfl, .inr (.inr (.inr ⟨HPB.out, HNC.out, HIB.out, rfl, rfl, rfl⟩)), numT_ok _ _ _ _ (by omega) (by omega), HXI.out.keep HZ.out.2.2, HZ.out.2.2⟩
          · have HIB := Lib.hid (show isB i.x.t gcaS 2 = false by rw [hIB]; simp [hk])
            have q1 : (i.x.k == 5) = false := by simp [hk]
            have HN7 := HN6
            clear hIB hk HN6
            generalize w6 = w7 at *
            go_wp2_with fail
            have hdr : Below w7.heap.size w7 w7.drew := (Below.refl _ _).drew
            have hN := HN7.out.keep hdr
            have hR := hN.z
            have hz := ZxS.of hR.h5
            have hx := BxS.of hN.h7
            have HL := Lib.hid hN.hl
            have hS : NsX w.heap.size i.x w7.drew := ⟨hz.1, hz.2.1, hz.2.2.1, hz.2.2.2.1, hz.2.2.2.2, hx.1, hx.2.1, hx.2.2.1, hx.2.2.2.1, hx.2.2.2.2⟩
            refine region_plan (NsX w.heap.size i.x) [(0, 0), (1, 0), (2, 0), (3, 1), (4, 1)] (by kernel_rfl) (by kernel_rfl) (by kernel_rfl) hS ?_
            generalize w7.drew = WD at *
            clear hdr HN7 hN hz x0 x1 x2 x3 x4 hx
            iterate 3 (first | (refine plan_skip rfl ?_ ?_; (focus (rfl)); (try simp only [Act.put, List.setIfInBounds_toArray, List.set_cons_zero, List.set_cons_succ])) | (refine plan_take (v := ?_) rfl ?_ (fun w hSw => ?_) ?_; rotate_left; (focus (rfl)); (focus (unfold NsX at hSw; (go_simp <;> with_reducible rfl))); (try simp only [Act.put, List.setIfInBounds_toArray, List.set_cons_zero, List.set_cons_succ])))
            have hc4 := chg_setRow WD w.heap.size #[.int .i8 0, .int .i64 0, .string ⟨#[]⟩, .string ⟨#[]⟩, .slice none 0 0]
            have hA := setRow_heap WD w.heap.size zT #[.int .i8 0, .int .i64 0, .string ⟨#[]⟩, .string ⟨#[]⟩, .slice none 0 0] 25 (0, 0) hR.h5
            have hb4 := bel_setRow hR.hb hR.hb.size (Nat.le_refl _) #[.int .i8 0, .int .i64 0, .string ⟨#[]⟩, .string ⟨#[]⟩, .slice none 0 0]
            have h6a := hc4.heap hR.h6 (show w.heap.size + 1 ≠ w.heap.size by omega)
            have hs4 := hR.hb.size
            have hc5 := chg_setRow (WD.setRow w.heap.size #[.int .i8 0, .int .i64 0, .string ⟨#[]⟩, .string ⟨#[]⟩, .slice none 0 0]) (w.heap.size + 1) #[.int .i8 i.x.k, .int .i64 i.x.n, .string i.x.s, .string i.x.u, .slice i.x.ao i.x.l.length i.x.cap]
            have hB := setRow_heap (WD.setRow w.heap.size #[.int .i8 0, .int .i64 0, .string ⟨#[]⟩, .string ⟨#[]⟩, .slice none 0 0]) (w.heap.size + 1) zT #[.int .i8 i.x.k, .int .i64 i.x.n, .string i.x.s, .string i.x.u, .slice i.x.ao i.x.l.length i.x.cap] 25 (0, 0) h6a
            have hA5 := hc5.heap hA (show w.heap.size ≠ w.heap.size + 1 by omega)
            have hb5 := bel_setRow hb4 hb4.size (Nat.le_succ _) #[.int .i8 i.x.k, .int .i64 i.x.n, .string i.x.s, .string i.x.u, .slice i.x.ao i.x.l.length i.x.cap]
            have hS4 := hS.chg hc4 (ZxS.of hA) (by omega)
            have hS5 := hS4.chg hc5 (ZxS.of hA5) (by omega)
            refine plan_run rfl ?_ (fun K hK => ?_)
            focus (rfl)
            refine wp_store_row 25 (.tmp 5) (.tmp 78) rfl w.heap.size #[.int .i8 0, .int .i64 0, .string ⟨#[]⟩, .string ⟨#[]⟩, .slice none 0 0] rfl rfl 25 zT hR.h5 (infoTM' _ rfl) rfl (by simp [Value.oneCell']) ?_
            refine hK.out _ _ (hS4) ?_
            clear hK K
            (try simp only [Act.put, List.setIfInBounds_toArray, List.set_cons_zero, List.set_cons_succ])
            refine plan_run rfl ?_ (fun K hK => ?_)
            focus (rfl)
            refine wp_store_row 25 (.tmp 6) (.tmp 79) rfl (w.heap.size + 1) #[.int .i8 i.x.k, .int .i64 i.x.n, .string i.x.s, .string i.x.u, .slice i.x.ao i.x.l.length i.x.cap] rfl rfl 25 zT h6a (infoTM' _ rfl) rfl (by simp [Value.oneCell']) ?_
            refine hK.out _ _ (hS5) ?_
            clear hK K
            (try simp only [Act.put, List.setIfInBounds_toArray, List.set_cons_zero, List.set_cons_succ])
            refine plan_done ?_
            have HZ := Lib.hid (And.intro hA5 (And.intro hB hb5))
            generalize (WD.setRow w.heap.size #[.int .i8 0, .int .i64 0, .string ⟨#[]⟩, .string ⟨#[]⟩, .slice none 0 0]).setRow (w.heap.size + 1) #[.int .i8 i.x.k, .int .i64 i.x.n, .string i.x.s, .string i.x.u, .slice i.x.ao i.x.l.length i.x.cap] = W3 at *
            clear hS4 hS5 hc4 hc5 hR hS hA hb4 h6a hs4 hB hA5 hb5
            go_wp2_with fail
            exact ret_next HZ.out.1 HZ.out.2.1 rfl Tryz.underlying25 rfl (infoTM' _ rfl) Tryz.underlying25 rfl (infoTM' _ rfl) rfl rfl rfl ⟨4, numT 0 0, i.x, rfl, .inr (.inr (.inr ⟨HPB.out, HNC.out, HIB.out, rfl, rfl, rfl⟩)), numT_ok _ _ _ _ (by omega) (by omega), HXI.out.keep HZ.out.2.2, HZ.out.2.2⟩
        · have HCP := Lib.hid (show callP i.x.t = some (p, r, y.t) from HY6.out.2.1)
          have HPR := Lib.hid (call_fields HXI.out HCP.out)
          go_wp2_with fail
          have hdr : Below w6.heap.size w6 w6.drew := (Below.refl _ _).drew
          have hN := HN6.out.keep hdr
          have hS : BxS q12 y w6.drew := HB6.out.1.keep hdr
          have hM := fun k hk => Nat.lt_of_lt_of_le (HM6.out k hk) hdr.size
          have hy := HY6.out.1.keep hdr
          have HQ := Lib.hid HB6.out.2
          refine region_plan (BxS q12 y) [(0, 0), (2, 0), (6, 0), (1, 1), (3, 1), (4, 1), (5, 1), (7, 0), (8, 1), (9, 1)] (by kernel_rfl) (by kernel_rfl) (by kernel_rfl) hS ?_
          generalize w6.drew = WD at *
          clear hdr HN6 HM6 HY6 HB6
          iterate 3 (first | (refine plan_skip rfl ?_ ?_; (focus (rfl)); (try simp only [Act.put, List.setIfInBounds_toArray, List.set_cons_zero, List.set_cons_succ])) | (refine plan_take (v := ?_) rfl ?_ (fun w hSw => ?_) ?_; rotate_left; (focus (rfl)); (focus (unfold BxS at hSw; (go_simp <;> with_reducible rfl))); (try simp only [Act.put, List.setIfInBounds_toArray, List.set_cons_zero, List.set_cons_succ])))
          refine plan_run rfl ?_ (fun K hK => ?_)
          focus (rfl)
          go_simp
          refine (rpid_x WD p).mono ?_
          rintro e WP ⟨rfl, hbp⟩
          have hS7 := hS.keep hbp
          have hNp := hN.keep hbp
          have hMp := fun k hk => Nat.lt_of_lt_of_le (hM k hk) hbp.size
          have hyp := hy.keep hbp
          refine hK.out _ _ hS7 ?_
          clear hK K 
          (try simp only [Act.put, List.setIfInBounds_toArray, List.set_cons_zero, List.set_cons_succ])
          clear hS hN hM hy hbp
          refine plan_run rfl ?_ (fun K hK => ?_)
          focus (rfl)
          go_simp
          refine (rref_x WP r).mono ?_
          rintro e WR ⟨rfl, hbp⟩
          have hS8 := hS7.keep hbp
          have hN := hNp.keep hbp
          have hM := fun k hk => Nat.lt_of_lt_of_le (hMp k hk) hbp.size
          have hy := hyp.keep hbp
          refine hK.out _ _ hS8 ?_
          clear hK K 
          (try simp only [Act.put, List.setIfInBounds_toArray, List.set_cons_zero, List.set_cons_succ])
          clear hS7 hNp hMp hyp hbp
          have hS := hS8
          clear hS8
          generalize WR = WD at *
          have hba := (Below.refl WD.heap.size WD).alloc (Nat.le_refl _) (.cells #[.int .i8 4, .int .i64 p, .string ⟨#[]⟩, .string ⟨#[]⟩, .slice none 0 0, .int .i8 2, .int .i64 r, .string ⟨#[]⟩, .string ⟨#[]⟩, .slice none 0 0] 25)
          have hSa := hS.keep hba
          have hta := two_tes _ WD hM (numT 4 p) (numT 2 r) (numT_ok _ _ _ _ (by omega) HPR.out.1) (numT_ok _ _ _ _ (by omega) HPR.out.2)
          have hNa := hN.keep hba
          have hMa := fun k hk => Nat.lt_of_lt_of_le (hM k hk) hba.size
          have hya := hy.keep hba
          have HT := Lib.hid (rlimit_any _ (WD.alloc (.cells #[.int .i8 4, .int .i64 p, .string ⟨#[]⟩, .string ⟨#[]⟩, .slice none 0 0, .int .i8 2, .int .i64 r, .string ⟨#[]⟩, .string ⟨#[]⟩, .slice none 0 0] 25)) hMa WD.heap.size 0 2 [numT 4 p, numT 2 r] hta (by simp))
          refine plan_run rfl ?_ (fun K hK => ?_)
          focus (rfl)
          go_simp
          refine hK.out _ _ (hSa) ?_
          clear hK K
          (try simp only [Act.put, List.setIfInBounds_toArray, List.set_cons_zero, List.set_cons_succ])
          clear hba hta hS hN hM hy
          generalize WD.alloc (.cells #[.int .i8 4, .int .i64 p, .string ⟨#[]⟩, .string ⟨#[]⟩, .slice none 0 0, .int .i8 2, .int .i64 r, .string ⟨#[]⟩, .string ⟨#[]⟩, .slice none 0 0] 25) = Wa at *
          refine plan_run rfl ?_ (fun K hK => ?_)
          focus (rfl)
          go_simp
          refine (HT.out).mono ?_
          rintro e W2 ⟨v, rfl, hvt, hv, hb2⟩
          have hS2 := hSa.keep hb2
          have hN2 := hNa.keep hb2
          have hy2 := hya.keep hb2
          refine hK.out _ _ hS2 ?_
          clear hK K 
          (try simp only [Act.put, List.setIfInBounds_toArray, List.set_cons_zero, List.set_cons_succ])
          clear hSa hNa hMa hya HT hb2
          have hL : ([numT 4 p, numT 2 r] : List TE).map TE.t = [.mk 4 p ⟨#[]⟩ ⟨#[]⟩ [], .mk 2 r ⟨#[]⟩ ⟨#[]⟩ []] := rfl
          rw [hL] at hvt
          iterate 1 (first | (refine plan_skip rfl ?_ ?_; (focus (rfl)); (try simp only [Act.put, List.setIfInBounds_toArray, List.set_cons_zero, List.set_cons_succ])) | (refine plan_take (v := ?_) rfl ?_ (fun w hSw => ?_) ?_; rotate_left; (focus (rfl)); (focus (unfold BxS at hSw; (go_simp <;> with_reducible rfl))); (try simp only [Act.put, List.setIfInBounds_toArray, List.set_cons_zero, List.set_cons_succ])))
          have hR := hN2.z
          have HL := Lib.hid hN2.hl
          generalize W2 = WD at *
          have hc4 := chg_setRow WD w.heap.size #[.int .i8 v.k, .int .i64 v.n, .string v.s, .string v.u, .slice v.ao v.l.length v.cap]
          have hA := setRow_heap WD w.heap.size zT #[.int .i8 v.k, .int .i64 v.n, .string v.s, .string v.u, .slice v.ao v.l.length v.cap] 25 (0, 0) hR.h5
          have hb4 := bel_setRow hR.hb hR.hb.size (Nat.le_refl _) #[.int .i8 v.k, .int .i64 v.n, .string v.s, .string v.u, .slice v.ao v.l.length v.cap]
          have h6a := hc4.heap hR.h6 (show w.heap.size + 1 ≠ w.heap.size by omega)
          have hs4 := hR.hb.size
          have hc5 := chg_setRow (WD.setRow w.heap.size #[.int .i8 v.k, .int .i64 v.n, .string v.s, .string v.u, .slice v.ao v.l.length v.cap]) (w.heap.size + 1) #[.int .i8 y.k, .int .i64 y.n, .string y.s, .string y.u, .slice y.ao y.l.length y.cap]
          have hB := setRow_heap (WD.setRow w.heap.size #[.int .i8 v.k, .int .i64 v.n, .string v.s, .string v.u, .slice v.ao v.l.length v.cap]) (w.heap.size + 1) zT #[.int .i8 y.k, .int .i64 y.n, .string y.s, .string y.u, .slice y.ao y.l.length y.cap] 25 (0, 0) h6a
          have hA5 := hc5.heap hA (show w.heap.size ≠ w.heap.size + 1 by omega)
          have hb5 := bel_setRow hb4 hb4.size (Nat.le_succ _) #[.int .i8 y.k, .int .i64 y.n, .string y.s, .string y.u, .slice y.ao y.l.length y.cap]
          have hq1 : ¬ (q12 = w.heap.size) := by have := HQ.out; omega
          have hq2 : ¬ (q12 = w.heap.size + 1) := by have := HQ.out; omega
          have hS4 : BxS q12 y (WD.setRow w.heap.size #[.int .i8 v.k, .int .i64 v.n, .string v.s, .string v.u, .slice v.ao v.l.length v.cap]) := ⟨hc4.cell hS2.1 hq1, hc4.cell hS2.2.1 hq1, hc4.cell hS2.2.2.1 hq1, hc4.cell hS2.2.2.2.1 hq1, hc4.cell hS2.2.2.2.2 hq1⟩
          have hS5 : BxS q12 y ((WD.setRow w.heap.size #[.int .i8 v.k, .int .i64 v.n, .string v.s, .string v.u, .slice v.ao v.l.length v.cap]).setRow (w.heap.size + 1) #[.int .i8 y.k, .int .i64 y.n, .string y.s, .string y.u, .slice y.ao y.l.length y.cap]) := ⟨hc5.cell hS4.1 hq2, hc5.cell hS4.2.1 hq2, hc5.cell hS4.2.2.1 hq2, hc5.cell hS4.2.2.2.1 hq2, hc5.cell hS4.2.2.2.2 hq2⟩
          have hv5 := (hv.chg (M' := fun k => M k ∨ k = w.heap.size + 1) hc4 (fun k e _ => .inr (.inl e)) (fun k hk _ => hk.elim .inl fun e => .inr (.inr e))).chg (M' := M) hc5 (fun k e _ => .inr e) (fun k hk _ => .inl hk)
          have hy5 := (hy2.chg (M' := fun k => M k ∨ k = w.heap.size + 1) hc4 (fun k e _ => .inr (.inl e)) (fun k hk _ => hk.elim .inl fun e => .inr (.inr e))).chg (M' := M) hc5 (fun k e _ => .inr e) (fun k hk _ => .inl hk)
          refine plan_run rfl ?_ (fun K hK => ?_)
          focus (rfl)
          refine wp_store_row 25 (.tmp 5) (.tmp 55) rfl w.heap.size #[.int .i8 v.k, .int .i64 v.n, .string v.s, .string v.u, .slice v.ao v.l.length v.cap] rfl rfl 25 zT hR.h5 (infoTM' _ rfl) rfl (by simp [Value.oneCell']) ?_
          refine hK.out _ _ (hS4) ?_
          clear hK K
          (try simp only [Act.put, List.setIfInBounds_toArray, List.set_cons_zero, List.set_cons_succ])
          refine plan_run rfl ?_ (fun K hK => ?_)
          focus (rfl)
          refine wp_store_row 25 (.tmp 6) (.tmp 56) rfl (w.heap.size + 1) #[.int .i8 y.k, .int .i64 y.n, .string y.s, .string y.u, .slice y.ao y.l.length y.cap] rfl rfl 25 zT h6a (infoTM' _ rfl) rfl (by simp [Value.oneCell']) ?_
          refine hK.out _ _ (hS5) ?_
          clear hK K
          (try simp only [Act.put, List.setIfInBounds_toArray, List.set_cons_zero, List.set_cons_succ])
          refine plan_done ?_
          have HZ := Lib.hid (And.intro hA5 (And.intro hB hb5))
          have HV := Lib.hid (And.intro hvt (And.intro hv5 hy5))
          generalize (WD.setRow w.heap.size #[.int .i8 v.k, .int .i64 v.n, .string v.s, .string v.u, .slice v.ao v.l.length v.cap]).setRow (w.heap.size + 1) #[.int .i8 y.k, .int .i64 y.n, .string y.s, .string y.u, .slice y.ao y.l.length y.cap] = W3 at *
          clear hS4 hS5 hc4 hc5 hR hA hb4 h6a hs4 hB hA5 hb5 hv5 hy5 hq1 hq2 hvt hv hy2 hS2 hN2
          go_wp2_with fail
          exact ret_next HZ.out.1 HZ.out.2.1 rfl Tryz.underlying25 rfl (infoTM' _ rfl) Tryz.underlying25 rfl (infoTM' _ rfl) rfl rfl rfl ⟨2, v, y, rfl, .inr (.inl ⟨HPB.out, p, r, y.t, HCP.out, rfl, HV.out.1, rfl⟩), HV.out.2.1, HV.out.2.2, HZ.out.2.2⟩
end Go.Proofs.YthpmdeofdlcccaaGreatDoor
