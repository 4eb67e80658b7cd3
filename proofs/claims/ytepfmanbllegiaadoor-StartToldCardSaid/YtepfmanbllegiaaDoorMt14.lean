/- the unit's undo; start.fine. Conditions: what is handed over reads; the letters stand. -/
/- start.fine. Conditions: what is handed over reads; the letters stand. -/
import Derived.Test.YtepfmanbllegiaaDoorMt13
namespace Go.Proofs.YtepfmanbllegiaaDoor
open Go.ChangeShapes Go.WideShapes Go.ChangeAt Go.RowKit
set_option linter.unusedVariables false
set_option linter.unusedSimpArgs false
set_option maxRecDepth 100000
theorem infoFR {cs : Array Value} (h : cs.size = 35) : (Tryd.prog.info? 36).map (·.size) = some cs.size := by
  have : (Tryd.prog.info? 36).map (·.size) = some 35 := by kernel_rfl
  rw [this, h]
theorem infoMA {cs : Array Value} (h : cs.size = 27) : (Tryd.prog.info? 34).map (·.size) = some cs.size := by
  have : (Tryd.prog.info? 34).map (·.size) = some 27 := by kernel_rfl
  rw [this, h]
def callE (a : Fa) (mm : Mm) : Ef := ⟨10, 0, numT 0 0, chZ, a, mm⟩
def UoQ (m : Mm) (_ : Nat → Prop) (_ : World) (m' : Mm) (E1 : List Ef) : Prop := m' = { m with ph := 4 } ∧ ∃ a mm, E1 = [callE a mm]
set_option maxHeartbeats 16000000 in
theorem undo_any (M : Nat → Prop) (w : World) (hM : ∀ k, M k → k < w.heap.size) (ub : Nat) (m : Mm) (i : Im) (ev : Value) (bi : Bool) (E : List Ef) (h : UnOk w ub (unL m i) ev bi E) (hn : E.length ≤ 50)
    (RL : List Rc) (hr : RcOwn w ub m.rs RL) (hrM : ∀ k, (Value.slice m.rs.o m.rs.n m.rs.c).ownBlock = some k → ¬ MU M ub ev k) (N : Nat) (hN : m.n = (N : Int)) (hl : N ≤ RL.length) (hm : RL.length ≤ 100) (hp : ∀ r ∈ RL, -9223372036854775808 ≤ r.pid ∧ r.pid ≤ 9223372036854775807) :
    Calls Tryd.prog 20 #[.pointer (some ⟨ub, 0, none⟩)] w (UnQ M w ub i ev bi E (UoQ m)) := by
  have hsn := hr.len
  have HMU := Lib.hid (mu_lt h hM)
  have hdr : Below w.heap.size w w.drew := (Below.refl _ _).drew
  have hS : StS ub (.slice m.rs.o RL.length m.rs.c) (N : Int) w.drew := by rw [← hsn]; exact StS.of (h.keep hdr) hN
  have HK0 : Hid (NxW w w.drew ub m i ev bi E RL) := Lib.hid ⟨hdr, h.keep hdr, own_keep hr hdr⟩
  have hra : RcAt (MU M ub ev) w m.rs RL := hr.at hrM
  have hsc : (N : Int) ≤ (m.rs.c : Int) := by have := hra.2.1; omega
  have hs0 : (0 : Int) ≤ (N : Int) := by omega
  have hno : m.rs.o = none → RL.take N = [] := fun e => by
    rcases hra.2.2.2 with h0 | ⟨b, off, e1, -⟩
    · rw [h0]; simp
    · rw [e] at e1; cases e1
  have HP := Lib.hid (And.intro hrM (And.intro hp (And.intro hN (And.intro hsn (And.intro hno hra)))))
  clear h hr hrM hp hM hN hsn hdr hra hno
  go_enter Tryd.func20, Tryd.ntmps20
  go_wp2_with fail
  have hlen : (RL.take N).length = N := by rw [List.length_take]; omega
  have HNW := Lib.hid (show ∀ W, Below w.heap.size w W → Calls Tryd.prog 38 #[.slice m.rs.o N m.rs.c] W (NwfP W) from fun W hb => by
    have h0 := (HP.out.2.2.2.2.2.keep hb).take (n := N) hl
    have := stopnew_any W m.rs.o m.rs.c (RL.take N) (by rw [hlen]; exact h0) HP.out.2.2.2.2.1 (by rw [hlen]; omega) fun r hr => HP.out.2.1 r (List.mem_of_mem_take hr)
    rw [hlen] at this
    exact this)
  clear hlen
  go_cut [2, 3] from 4 to 18 (fun fv nv wx => ∃ (q : Nat) (a : Fa) (mm : Mm) (n : Int), fv = .pointer (some ⟨q, 0, none⟩) ∧ nv = .int .i64 n ∧ Hid (NxW w wx ub m i ev bi E RL ∧ wx.heap[q]? = some (.cells (flL a mm).toArray 36 (0, 0)) ∧ w.heap.size ≤ q))
  case first =>
    refine region_planT (StS ub (.slice m.rs.o RL.length m.rs.c) (N : Int)) (.take 0 (.take 1 (.take 2 (.take 3 (.take 4 (.take 5 (.take 6 (.take 7 (.take 8 (.take 9 (.take 10 (.fork 11 (.take 12 (.take 13 (.take 14 (.run 15 (.run 16 (.take 17 .done)))))) 15 (.run 11 (.take 12 (.take 13 (.take 14 (.run 16 (.take 17 .done)))))))))))))))))) (by kernel_rfl) (by kernel_rfl) (by kernel_rfl) hS ?_
    generalize w.drew = WD at *
    iterate 11 (first | (refine planT_skip rfl ?_ ?_; (focus (rfl)); (try simp only [Act.put, List.setIfInBounds_toArray, List.set_cons_zero, List.set_cons_succ])) | (refine planT_take (v := ?_) rfl ?_ (fun w hSw => ?_) ?_; rotate_left; (focus (rfl)); (focus (unfold StS at hSw; (go_simp <;> with_reducible rfl))); (try simp only [Act.put, List.setIfInBounds_toArray, List.set_cons_zero, List.set_cons_succ])))
    refine planT_fork ?_ ?_
    · skip
      refine planT_run rfl ?_ (fun K hK => ?_)
      focus (rfl)
      go_simp
      refine (HNW.out WD HK0.out.hb).mono ?_
      rintro e WA ⟨hba, a, mm, n, rfl⟩
      have hS1 := hS.keep hba
      have HKA := Lib.hid (HK0.out.keep hba)
      refine hK.out _ _ (hS1) ?_
      clear hK K
      (try simp only [Act.put, List.setIfInBounds_toArray, List.set_cons_zero, List.set_cons_succ])
      clear hS hba HK0
      iterate 3 (first | (refine planT_skip rfl ?_ ?_; (focus (rfl)); (try simp only [Act.put, List.setIfInBounds_toArray, List.set_cons_zero, List.set_cons_succ])) | (refine planT_take (v := ?_) rfl ?_ (fun w hSw => ?_) ?_; rotate_left; (focus (rfl)); (focus (unfold StS at hSw; (go_simp <;> with_reducible rfl))); (try simp only [Act.put, List.setIfInBounds_toArray, List.set_cons_zero, List.set_cons_succ])))
      have hb2 := (Below.refl WA.heap.size WA).alloc (Nat.le_refl _) (.cells (flL faZ mmZ).toArray 36)
      have hS2 := hS1.keep hb2
      refine planT_run rfl ?_ (fun K hK => ?_)
      focus (rfl)
      go_simp
      refine hK.out _ _ (hS2) ?_
      clear hK K
      (try simp only [Act.put, List.setIfInBounds_toArray, List.set_cons_zero, List.set_cons_succ])
      have hb3 := (Below.refl WA.heap.size WA).alloc (Nat.le_refl _) (.cells (flL a mm).toArray 36)
      have hS3 := hS1.keep hb3
      refine planT_run rfl ?_ (fun K hK => ?_)
      focus (rfl)
      refine wp_store_row 36 (.tmp 2) (.tmp 17) rfl WA.heap.size (flL a mm).toArray rfl rfl 36 (flL faZ mmZ).toArray (heap_new WA _) (infoFR rfl) rfl (all_oneCell_toArray (flL_one _ _)) ?_
      rw [setRow_alloc]
      refine hK.out _ _ (hS3) ?_
      clear hK K
      (try simp only [Act.put, List.setIfInBounds_toArray, List.set_cons_zero, List.set_cons_succ])
      iterate 1 (first | (refine planT_skip rfl ?_ ?_; (focus (rfl)); (try simp only [Act.put, List.setIfInBounds_toArray, List.set_cons_zero, List.set_cons_succ])) | (refine planT_take (v := ?_) rfl ?_ (fun w hSw => ?_) ?_; rotate_left; (focus (rfl)); (focus (unfold StS at hSw; (go_simp <;> with_reducible rfl))); (try simp only [Act.put, List.setIfInBounds_toArray, List.set_cons_zero, List.set_cons_succ])))
      refine planT_done ?_
      have HF := Lib.hid (And.intro (HKA.out.keep hb3) (And.intro (heap_new WA (.cells (flL a mm).toArray 36)) HKA.out.hb.size))
      clear hS1 hS2 hS3 hb2 hb3 HKA
      go_wp2_with fail
      go_meet
      exact ⟨_, a, mm, n, rfl, rfl, HF⟩
    · skip
      have hb2 := (Below.refl WD.heap.size WD).alloc (Nat.le_refl _) (.cells #[.int .i8 0, .int .i64 0, .int .i64 0, .slice none 0 0, .slice none 0 0, .slice none 0 0, .slice none 0 0, .int .i64 0, .int .i8 0, .int .i64 0, .int .i64 0, .int .i64 0, .int .i64 0, .int .i8 0, .int .i64 0, .string ⟨#[]⟩, .string ⟨#[]⟩, .slice none 0 0, .int .i8 0, .int .i64 0, .string ⟨#[]⟩, .string ⟨#[]⟩, .slice none 0 0, .int .i8 0, .int .i64 0, .string ⟨#[]⟩, .string ⟨#[]⟩, .slice none 0 0, .slice none 0 0, .int .i8 0, .int .i64 0, .int .i64 0, .slice none 0 0, .slice none 0 0, .slice none 0 0] 36)
      have hS2 := hS.keep hb2
      refine planT_run rfl ?_ (fun K hK => ?_)
      focus (rfl)
      go_simp
      refine hK.out _ _ (hS2) ?_
      clear hK K
      (try simp only [Act.put, List.setIfInBounds_toArray, List.set_cons_zero, List.set_cons_succ])
      have HKB := Lib.hid (And.intro (HK0.out.keep hb2) (And.intro (heap_new WD (.cells #[.int .i8 0, .int .i64 0, .int .i64 0, .slice none 0 0, .slice none 0 0, .slice none 0 0, .slice none 0 0, .int .i64 0, .int .i8 0, .int .i64 0, .int .i64 0, .int .i64 0, .int .i64 0, .int .i8 0, .int .i64 0, .string ⟨#[]⟩, .string ⟨#[]⟩, .slice none 0 0, .int .i8 0, .int .i64 0, .string ⟨#[]⟩, .string ⟨#[]⟩, .slice none 0 0, .int .i8 0, .int .i64 0, .string ⟨#[]⟩, .string ⟨#[]⟩, .slice none 0 0, .slice none 0 0, .int .i8 0, .int .i64 0, .int .i64 0, .slice none 0 0, .slice none 0 0, .slice none 0 0] 36)) HK0.out.hb.size))
      have HOL := Lib.hid (And.intro (own_lt HK0.out.rs (Nat.le_refl _)) (And.intro (heap_lt HK0.out.un.hU) (own_lt HK0.out.un.hown (Nat.le_refl _))))
      clear hS hb2 HK0
      generalize WD.alloc (.cells #[.int .i8 0, .int .i64 0, .int .i64 0, .slice none 0 0, .slice none 0 0, .slice none 0 0, .slice none 0 0, .int .i64 0, .int .i8 0, .int .i64 0, .int .i64 0, .int .i64 0, .int .i64 0, .int .i8 0, .int .i64 0, .string ⟨#[]⟩, .string ⟨#[]⟩, .slice none 0 0, .int .i8 0, .int .i64 0, .string ⟨#[]⟩, .string ⟨#[]⟩, .slice none 0 0, .int .i8 0, .int .i64 0, .string ⟨#[]⟩, .string ⟨#[]⟩, .slice none 0 0, .slice none 0 0, .int .i8 0, .int .i64 0, .int .i64 0, .slice none 0 0, .slice none 0 0, .slice none 0 0] 36) = WB at *
      generalize WD.heap.size = q at *
      refine planT_run rfl ?_ (fun K hK => ?_)
      focus (rfl)
      go_simp
      refine (HNW.out WB HKB.out.1.hb).mono ?_
      rintro e WA ⟨hba, a, mm, n, rfl⟩
      have hS1 := hS2.keep hba
      have HKC := Lib.hid (And.intro (HKB.out.1.keep hba) (And.intro (keep_heap HKB.out.2.1 hba) HKB.out.2.2))
      refine hK.out _ _ (hS1) ?_
      clear hK K
      (try simp only [Act.put, List.setIfInBounds_toArray, List.set_cons_zero, List.set_cons_succ])
      clear hS2 hba HKB
      iterate 3 (first | (refine planT_skip rfl ?_ ?_; (focus (rfl)); (try simp only [Act.put, List.setIfInBounds_toArray, List.set_cons_zero, List.set_cons_succ])) | (refine planT_take (v := ?_) rfl ?_ (fun w hSw => ?_) ?_; rotate_left; (focus (rfl)); (focus (unfold StS at hSw; (go_simp <;> with_reducible rfl))); (try simp only [Act.put, List.setIfInBounds_toArray, List.set_cons_zero, List.set_cons_succ])))
      have hc4 := chg_setRow WA q (flL a mm).toArray
      have hu4 : ¬ ub = q := fun e => by have := HOL.out.2.1; omega
      have hS3 : StS ub (.slice m.rs.o RL.length m.rs.c) (N : Int) (WA.setRow q (flL a mm).toArray) := ⟨hc4.cell hS1.1 hu4, hc4.cell hS1.2 hu4⟩
      refine planT_run rfl ?_ (fun K hK => ?_)
      focus (rfl)
      refine wp_store_row 36 (.tmp 2) (.tmp 17) rfl q (flL a mm).toArray rfl rfl 36 #[.int .i8 0, .int .i64 0, .int .i64 0, .slice none 0 0, .slice none 0 0, .slice none 0 0, .slice none 0 0, .int .i64 0, .int .i8 0, .int .i64 0, .int .i64 0, .int .i64 0, .int .i64 0, .int .i8 0, .int .i64 0, .string ⟨#[]⟩, .string ⟨#[]⟩, .slice none 0 0, .int .i8 0, .int .i64 0, .string ⟨#[]⟩, .string ⟨#[]⟩, .slice none 0 0, .int .i8 0, .int .i64 0, .string ⟨#[]⟩, .string ⟨#[]⟩, .slice none 0 0, .slice none 0 0, .int .i8 0, .int .i64 0, .int .i64 0, .slice none 0 0, .slice none 0 0, .slice none 0 0] HKC.out.2.1 (infoFR rfl) rfl (all_oneCell_toArray (flL_one _ _)) ?_
      refine hK.out _ _ (hS3) ?_
      clear hK K
      (try simp only [Act.put, List.setIfInBounds_toArray, List.set_cons_zero, List.set_cons_succ])
      iterate 1 (first | (refine planT_skip rfl ?_ ?_; (focus (rfl)); (try simp only [Act.put, List.setIfInBounds_toArray, List.set_cons_zero, List.set_cons_succ])) | (refine planT_take (v := ?_) rfl ?_ (fun w hSw => ?_) ?_; rotate_left; (focus (rfl)); (focus (unfold StS at hSw; (go_simp <;> with_reducible rfl))); (try simp only [Act.put, List.setIfInBounds_toArray, List.set_cons_zero, List.set_cons_succ])))
      refine planT_done ?_
      have HF := Lib.hid (And.intro (show NxW w (WA.setRow q (flL a mm).toArray) ub m i ev bi E RL from ⟨HKC.out.1.hb.trans (hc4.below HKC.out.1.hb.size fun k hk => by have hk : k = q := hk; have := HKC.out.2.2; omega), HKC.out.1.un.chg hc4 hu4 (fun k hk e => by have e : k = q := e; have := HOL.out.2.2 k hk; omega), own_chg HKC.out.1.rs hc4 fun k hk e => by have e : k = q := e; have := HOL.out.1 k hk; omega⟩) (And.intro (setRow_heap WA q _ (flL a mm).toArray 36 (0, 0) HKC.out.2.1) HKC.out.2.2))
      clear hS1 hS3 hc4 hu4 HKC
      go_wp2_with fail
      go_meet
      exact ⟨q, a, mm, n, rfl, rfl, HF⟩
  case rest =>
    obtain ⟨q, a, mm, n, rfl, rfl, HC⟩ := hcut
    have x0 : wc.cell? ⟨ub, 0, none⟩ = some (.int .i8 m.ph) := HC.out.1.un.cell (i := 0) rfl
    have f0 : wc.frozen? ⟨ub, 0, none⟩ = false := HC.out.1.un.frozen (i := 0) (v := .int .i8 m.ph) rfl
    have hc1 : Chg (fun k => k = ub) wc (wc.setCell ⟨ub, 0, none⟩ (.int .i8 4)) := chg_set (p := ⟨ub, 0, none⟩) _
    have hu1 : UnOk (wc.setCell ⟨ub, 0, none⟩ (.int .i8 4)) ub (unL { m with ph := 4 } i) ev bi E := HC.out.1.un.set 0 (.int .i8 4) (by decide)
    have hqu : ¬ q = ub := fun e => by have := HMU.out ub (.inr (.inl rfl)); have := HC.out.2.2; omega
    have H1 := Lib.hid (And.intro hu1 (And.intro ((chg_of_below HC.out.1.hb (UnB ub ev)).trans (hc1.mono fun k _ h => .inl h)) (hc1.heap HC.out.2.1 hqu)))
    clear hc1 hu1 hqu HC
    go_wp2_with (with_reducible refine stop_op (o := ⟨_, .load 36 (.tmp 2), _, _, _, _⟩) ?_)
    refine Lib.hid ?_
    generalize wc.setCell ⟨ub, 0, none⟩ (.int .i8 4) = w2 at *
    have hq : w2.heap[q]? = some (.cells #[.int .i8 a.k, .int .i64 a.fn, .int .i64 a.pc, .slice a.s3.o a.s3.n a.s3.c, .slice a.s4.o a.s4.n a.s4.c, .slice a.s5.o a.s5.n a.s5.c, .slice a.s6.o a.s6.n a.s6.c, .int .i64 a.wt, .int .i8 mm.ph, .int .i64 mm.pid, .int .i64 mm.ref, .int .i64 mm.dl, .int .i64 mm.n, .int .i8 mm.T.k, .int .i64 mm.T.n, .string mm.T.s, .string mm.T.u, .slice mm.T.ao mm.T.l.length mm.T.cap, .int .i8 mm.U.k, .int .i64 mm.U.n, .string mm.U.s, .string mm.U.u, .slice mm.U.ao mm.U.l.length mm.U.cap, .int .i8 mm.V.k, .int .i64 mm.V.n, .string mm.V.s, .string mm.V.u, .slice mm.V.ao mm.V.l.length mm.V.cap, .slice mm.rs.o mm.rs.n mm.rs.c, .int .i8 mm.st, .int .i64 mm.mr, .int .i64 mm.mt, .slice mm.sp.o mm.sp.n mm.sp.c, .slice mm.lg.o mm.lg.n mm.lg.c, .slice mm.td.o mm.td.n mm.td.c] 36 (0, 0)) := H1.out.2.2
    refine wpList_load_row (o := ⟨_, _, _, _, _, _⟩) rfl 36 (.tmp 2) rfl q rfl 36 _ (0, 0) _ hq Tryd.underlying36 rfl (infoFR rfl) ?_
    have HE := Lib.hid (effect_any w2 ub _ _ bi _ (callE a mm) H1.out.1 (by omega))
    clear x0 f0 hq
    go_wp2_with fail
    refine HE.out.mono ?_
    clear HE
    rintro e w3 ⟨⟨vr, rfl⟩, ev3, hu, hcc, hbb⟩
    have HZ := Lib.hid (And.intro hu (And.intro (un_trans H1.out.2.1 (fun _ _ h => h) hcc) (fun k hk e => hbb k (Nat.lt_of_lt_of_le hk H1.out.2.1.size) e)))
    clear hu hcc hbb
    go_wp2_with fail
    go_end0
    refine ⟨⟨_, rfl⟩, { m with ph := 4 }, [callE a mm], ev3, ?_, ?_, ?_, rfl, a, mm, rfl⟩
    · exact HZ.out.1
    · exact HZ.out.2.1
    · exact HZ.out.2.2
end Go.Proofs.YtepfmanbllegiaaDoor
namespace Go.Proofs.YtepfmanbllegiaaDoor
open Go.ChangeShapes Go.WideShapes Go.ChangeAt Go.RowKit
set_option linter.unusedVariables false
set_option linter.unusedSimpArgs false
set_option maxRecDepth 100000
/-- may a machine be run? -/
def finB (a : Fa) (m : Mm) : Bool := decide (a.k = 4) && (decide (0 ≤ m.ph) && (decide (m.ph ≤ 4) && (decide (0 ≤ m.n) && (decide (m.n ≤ (m.rs.n : Int)) &&
  (if m.ph = 1 ∨ m.ph = 2 then decide (m.n < (m.rs.n : Int)) else if m.ph = 4 then decide (checkN m.U.t = 0) else true)))))
theorem finB_iff {a : Fa} {m : Mm} : finB a m = true ↔ a.k = 4 ∧ 0 ≤ m.ph ∧ m.ph ≤ 4 ∧ 0 ≤ m.n ∧ m.n ≤ (m.rs.n : Int) ∧ (m.ph = 1 ∨ m.ph = 2 → m.n < (m.rs.n : Int)) ∧ (m.ph = 4 → checkN m.U.t = 0) := by
  unfold finB
  simp only [Bool.and_eq_true, decide_eq_true_eq]
  by_cases h1 : m.ph = 1 ∨ m.ph = 2
  · rw [if_pos h1]
    simp only [decide_eq_true_eq]
    constructor
    · rintro ⟨a1, a2, a3, a4, a5, a6⟩
      exact ⟨a1, a2, a3, a4, a5, fun _ => a6, fun h => by omega⟩
    · rintro ⟨a1, a2, a3, a4, a5, a6, -⟩
      exact ⟨a1, a2, a3, a4, a5, a6 h1⟩
  · rw [if_neg h1]
    by_cases h4 : m.ph = 4
    · rw [if_pos h4]
      simp only [decide_eq_true_eq]
      constructor
      · rintro ⟨a1, a2, a3, a4, a5, a6⟩
        exact ⟨a1, a2, a3, a4, a5, fun h => absurd h h1, fun _ => a6⟩
      · rintro ⟨a1, a2, a3, a4, a5, -, a6⟩
        exact ⟨a1, a2, a3, a4, a5, a6 h4⟩
    · rw [if_neg h4]
      constructor
      · rintro ⟨a1, a2, a3, a4, a5, -⟩
        exact ⟨a1, a2, a3, a4, a5, fun h => absurd h h1, fun h => absurd h h4⟩
      · rintro ⟨a1, a2, a3, a4, a5, -⟩
        exact ⟨a1, a2, a3, a4, a5, rfl⟩
theorem fr_range {w : World} {q : Nat} {a : Fa} {m : Mm} (h : w.heap[q]? = some (.cells (flL a m).toArray 36 (0, 0))) : w.rangeAt q 8 (mmL m) :=
  mid_range (pre := [.int .i8 a.k, .int .i64 a.fn, .int .i64 a.pc, .slice a.s3.o a.s3.n a.s3.c, .slice a.s4.o a.s4.n a.s4.c, .slice a.s5.o a.s5.n a.s5.c, .slice a.s6.o a.s6.n a.s6.c, .int .i64 a.wt]) (post := []) (by rw [List.append_nil]; exact h) rfl
set_option maxHeartbeats 16000000 in
theorem fine_any (M : Nat → Prop) (w : World) (hc : Cells w 0 letL) (a : Fa) (m : Mm) (hU : TeOk M w m.U) : Calls Tryd.prog 16 #[.agg (flL a m).toArray] w (IsPost w (finB a m)) := by
  have hb1 := (Below.refl w.heap.size w).alloc (Nat.le_refl _) (.cells (flL a m).toArray 36)
  have n1 := heap_new w (.cells (flL a m).toArray 36)
  have HB1 := Lib.hid (And.intro hb1 (And.intro n1 (And.intro hU hc)))
  have HE := Lib.hid (show finB a m = (decide (a.k = 4) && (decide (0 ≤ m.ph) && (decide (m.ph ≤ 4) && (decide (0 ≤ m.n) && (decide (m.n ≤ (m.rs.n : Int)) && (if m.ph = 1 ∨ m.ph = 2 then decide (m.n < (m.rs.n : Int)) else if m.ph = 4 then decide (checkN m.U.t = 0) else true)))))) from rfl)
  clear hb1 n1 hU hc
  go_enter Tryd.func16, Tryd.ntmps16
  go_wp2_with (with_reducible refine stop_op (o := ⟨_, .load 34 (.tmp 4), _, _, _, _⟩) ?_)
  refine Lib.hid ?_
  generalize w.alloc (.cells (flL a m).toArray 36) = w1 at *
  refine wpList_load_mid (op := ⟨_, _, _, _, _, _⟩) rfl 34 (.tmp 4) rfl w.heap.size 8 rfl [.int .i8 m.ph, .int .i64 m.pid, .int .i64 m.ref, .int .i64 m.dl, .int .i64 m.n, .int .i8 m.T.k, .int .i64 m.T.n, .string m.T.s, .string m.T.u, .slice m.T.ao m.T.l.length m.T.cap, .int .i8 m.U.k, .int .i64 m.U.n, .string m.U.s, .string m.U.u, .slice m.U.ao m.U.l.length m.U.cap, .int .i8 m.V.k, .int .i64 m.V.n, .string m.V.s, .string m.V.u, .slice m.V.ao m.V.l.length m.V.cap, .slice m.rs.o m.rs.n m.rs.c, .int .i8 m.st, .int .i64 m.mr, .int .i64 m.mt, .slice m.sp.o m.sp.n m.sp.c, .slice m.lg.o m.lg.n m.lg.c, .slice m.td.o m.td.n m.td.c] _ (fr_range HB1.out.2.1) Tryd.underlying34 rfl (by rw [infoMA (cs := [.int .i8 m.ph, .int .i64 m.pid, .int .i64 m.ref, .int .i64 m.dl, .int .i64 m.n, .int .i8 m.T.k, .int .i64 m.T.n, .string m.T.s, .string m.T.u, .slice m.T.ao m.T.l.length m.T.cap, .int .i8 m.U.k, .int .i64 m.U.n, .string m.U.s, .string m.U.u, .slice m.U.ao m.U.l.length m.U.cap, .int .i8 m.V.k, .int .i64 m.V.n, .string m.V.s, .string m.V.u, .slice m.V.ao m.V.l.length m.V.cap, .slice m.rs.o m.rs.n m.rs.c, .int .i8 m.st, .int .i64 m.mr, .int .i64 m.mt, .slice m.sp.o m.sp.n m.sp.c, .slice m.lg.o m.lg.n m.lg.c, .slice m.td.o m.td.n m.td.c].toArray) rfl]; rfl) ?_
  go_wp2_with (with_reducible refine stop_op (o := ⟨_, .store 34 (.tmp 3) (.tmp 5), _, _, _, _⟩) ?_)
  refine Lib.hid ?_
  refine wpList_store_new (o := ⟨none, _, _, _, _, _⟩) rfl 34 (.tmp 3) (.tmp 5) rfl (mmL m).toArray rfl rfl (infoMA rfl) rfl (all_oneCell_toArray (mmL_one m)) ?_
  have hb2 := (Below.refl w1.heap.size w1).alloc (Nat.le_refl _) (.cells (mmL m).toArray 34)
  have n2 := heap_new w1 (.cells (mmL m).toArray 34)
  have a0 : (w1.alloc (.cells (mmL m).toArray 34)).cell? ⟨w.heap.size, 0, none⟩ = some (.int .i8 a.k) := (cells_at (keep_heap HB1.out.2.1 hb2) 0 _ rfl).1
  have m0 : (w1.alloc (.cells (mmL m).toArray 34)).cell? ⟨w1.heap.size, 0, none⟩ = some (.int .i8 m.ph) := (cells_at n2 0 _ rfl).1
  have m4 : (w1.alloc (.cells (mmL m).toArray 34)).cell? ⟨w1.heap.size, 4, none⟩ = some (.int .i64 m.n) := (cells_at n2 4 _ rfl).1
  have m20 : (w1.alloc (.cells (mmL m).toArray 34)).cell? ⟨w1.heap.size, 20, none⟩ = some (.slice m.rs.o m.rs.n m.rs.c) := (cells_at n2 20 _ rfl).1
  have u0 : (w1.alloc (.cells (mmL m).toArray 34)).cell? ⟨w1.heap.size, 10, none⟩ = some (.int .i8 m.U.k) := (cells_at n2 10 _ rfl).1
  have u1 : (w1.alloc (.cells (mmL m).toArray 34)).cell? ⟨w1.heap.size, 10 + 1, none⟩ = some (.int .i64 m.U.n) := (cells_at n2 11 _ rfl).1
  have u2 : (w1.alloc (.cells (mmL m).toArray 34)).cell? ⟨w1.heap.size, 10 + 2, none⟩ = some (.string m.U.s) := (cells_at n2 12 _ rfl).1
  have u3 : (w1.alloc (.cells (mmL m).toArray 34)).cell? ⟨w1.heap.size, 10 + 3, none⟩ = some (.string m.U.u) := (cells_at n2 13 _ rfl).1
  have u4 : (w1.alloc (.cells (mmL m).toArray 34)).cell? ⟨w1.heap.size, 10 + 4, none⟩ = some (.slice m.U.ao m.U.l.length m.U.cap) := (cells_at n2 14 _ rfl).1
  have hbb := HB1.out.1.trans (hb2.mono HB1.out.1.size)
  have HB := Lib.hid (And.intro hbb (And.intro (HB1.out.2.2.1.keep hbb) (keepCells HB1.out.2.2.2 hbb)))
  clear hb2 n2 hbb HB1
  generalize w1.alloc (.cells (mmL m).toArray 34) = w2 at *
  generalize w1.heap.size = q at *
  by_cases h1 : a.k = 4
  · have q1 : (a.k != 4) = false := by simp [h1]
    by_cases h2 : m.ph < 0
    · skip
      have HF := Lib.hid (show finB a m = false by rw [HE.out]; simp [h2]; omega)
      clear HE
      go_wp2_with fail
      go_ret
      exact ⟨by rw [HF.out]; rfl, HB.out.1⟩
    · by_cases h3 : 4 < m.ph
      · skip
        have HF := Lib.hid (show finB a m = false by rw [HE.out]; simp [h3]; omega)
        clear HE
        go_wp2_with fail
        go_ret
        exact ⟨by rw [HF.out]; rfl, HB.out.1⟩
      · by_cases h4 : m.n < 0
        · skip
          have HF := Lib.hid (show finB a m = false by rw [HE.out]; simp [h4]; omega)
          clear HE
          go_wp2_with fail
          go_ret
          exact ⟨by rw [HF.out]; rfl, HB.out.1⟩
        · by_cases h5 : (m.rs.n : Int) < m.n
          · skip
            have HF := Lib.hid (show finB a m = false by rw [HE.out]; simp [h5]; omega)
            clear HE
            go_wp2_with fail
            go_ret
            exact ⟨by rw [HF.out]; rfl, HB.out.1⟩
          · have hd2 : decide (m.ph < 0) = false := by simp; omega
            have hd3 : decide (4 < m.ph) = false := by simp; omega
            have hd4 : decide (m.n < 0) = false := by simp; omega
            have hd5 : decide ((m.rs.n : Int) < m.n) = false := by simp; omega
            have HP := Lib.hid (And.intro h1 (And.intro h2 (And.intro h3 (And.intro h4 h5))))
            have hE : finB a m = (if m.ph = 1 ∨ m.ph = 2 then decide (m.n < (m.rs.n : Int)) else if m.ph = 4 then decide (checkN m.U.t = 0) else true) := by
              rw [HE.out, decide_eq_true h1, decide_eq_true (show 0 ≤ m.ph by omega), decide_eq_true (show m.ph ≤ 4 by omega), decide_eq_true (show 0 ≤ m.n by omega), decide_eq_true (show m.n ≤ (m.rs.n : Int) by omega)]
              simp only [Bool.true_and]
            clear HE
            have HE := Lib.hid hE
            clear hE
            have hph : m.ph = 0 ∨ m.ph = 1 ∨ m.ph = 2 ∨ m.ph = 3 ∨ m.ph = 4 := by omega
            clear h1 h2 h3 h4 h5
            rw [HP.out.1] at a0
            clear q1
            rcases hph with hk | hk | hk | hk | hk
            · have HF := Lib.hid (show finB a m = true by rw [HE.out, if_neg (by omega), if_neg (by omega)])
              rw [hk] at m0 hd2 hd3
              clear hk HE
              go_wp2_with fail
              go_ret
              exact ⟨by rw [HF.out]; rfl, HB.out.1⟩
            · have HF := Lib.hid (show finB a m = decide (m.n < (m.rs.n : Int)) by rw [HE.out, if_pos (by omega)])
              rw [hk] at m0 hd2 hd3
              clear hk HE
              go_wp2_with fail
              go_ret
              exact ⟨by rw [HF.out]; rfl, HB.out.1⟩
            · have HF := Lib.hid (show finB a m = decide (m.n < (m.rs.n : Int)) by rw [HE.out, if_pos (by omega)])
              rw [hk] at m0 hd2 hd3
              clear hk HE
              go_wp2_with fail
              go_ret
              exact ⟨by rw [HF.out]; rfl, HB.out.1⟩
            · have HF := Lib.hid (show finB a m = true by rw [HE.out, if_neg (by omega), if_neg (by omega)])
              rw [hk] at m0 hd2 hd3
              clear hk HE
              go_wp2_with fail
              go_ret
              exact ⟨by rw [HF.out]; rfl, HB.out.1⟩
            · have HF := Lib.hid (show finB a m = (checkN m.U.t == 0) by rw [HE.out, if_neg (by omega), if_pos hk]; by_cases h : checkN m.U.t = 0 <;> simp [h])
              rw [hk] at m0 hd2 hd3
              clear hk HE
              have HC := Lib.hid (check_x w2 HB.out.2.2 m.U HB.out.2.1)
              generalize checkN m.U.t = cn at *
              go_wp2_with fail
              refine HC.out.mono ?_
              clear HC
              rintro e w3 ⟨rfl, hb3⟩
              have HB3 := Lib.hid (HB.out.1.trans (hb3.mono HB.out.1.size))
              clear hb3
              go_wp2_with fail
              go_ret
              exact ⟨by rw [HF.out]; rfl, HB3.out⟩
  · have q1 : (a.k != 4) = true := by simp [h1]
    have HF := Lib.hid (show finB a m = false by rw [HE.out]; simp [h1])
    clear HE
    go_wp2_with fail
    go_ret
    exact ⟨by rw [HF.out]; rfl, HB.out.1⟩
end Go.Proofs.YtepfmanbllegiaaDoor
