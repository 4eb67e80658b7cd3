/- the reference's limit, Ack. Conditions: what is handed over reads. -/
/- the reference's IsAck, may. Conditions: what is handed over reads. -/
import Derived.Test.YthpmdeofdlcccaaGreatDoorMs13
import Derived.Test.YthpmdeofdlcccaaGreatDoorMs4
import Derived.Test.YthpmdeofdlcccaaGreatDoorMs6
namespace Go.Proofs.YthpmdeofdlcccaaGreatDoor
open Go.ChangeShapes Go.WideShapes Go.ChangeAt Go.RowKit
set_option linter.unusedVariables false
set_option linter.unusedSimpArgs false
set_option maxRecDepth 100000
theorem setRow_cellsx {t : TypeId} {g : Nat} : ∀ (vs : List Value) (o : Nat) {w : World} {cs : List Value}, w.heap[g]? = some (.cells cs.toArray t (0, 0)) → (w.setCells g o vs).heap[g]? = some (.cells (setL cs o vs).toArray t (0, 0))
  | [], _, _, _, h => h
  | v :: r, o, w, cs, h => by
    refine setRow_cellsx r (o + 1) ?_
    rw [set_at h]
    congr 2
    apply Array.ext'
    rw [Array.toList_setIfInBounds]
theorem there_ofx {w : World} {q o n : Nat} {cs : List Value} {t : TypeId} (h : w.heap[q]? = some (.cells cs.toArray t (0, 0))) (hn : o + n ≤ cs.length) : w.there q o n := fun j hj => by
  have hi : o + j < cs.length := by omega
  have := cells_at h (o + j) _ (by rw [List.getElem?_toArray]; exact List.getElem?_eq_getElem hi)
  exact ⟨by rw [this.1]; rfl, this.2⟩
theorem row_tesx (M : Nat → Prop) (w : World) (g : Nat) (E : List TE) (h : w.heap[g]? = some (.cells (tcs E).toArray 25 (0, 0))) (hg : ¬ M g) (hE : ∀ x ∈ E, TeOk M w x) (hl : E.length ≤ 1000) : TesOk M w (.slice (some ⟨g, 0, none⟩) E.length E.length) E :=
  ⟨⟨some ⟨g, 0, none⟩, E.length, rfl, Nat.le_refl _, by omega, .inr ⟨g, 0, rfl, hg, fun j u hj => by
    rw [Nat.zero_add]
    exact (cells_at h j u (by rw [List.getElem?_toArray]; exact hj)).1⟩⟩, hE⟩
theorem rlimit_any (M : Nat → Prop) (w : World) (hM : ∀ k, M k → k < w.heap.size) (b o cap : Nat) (E : List TE) (h : TesOk M w (.slice (some ⟨b, o, none⟩) E.length cap) E) (hl : E.length ≤ 255) :
    Calls Tryz.prog 35 #[.slice (some ⟨b, o, none⟩) E.length cap] w (TePost M w (tupA (E.map TE.t))) := by
  have hb0 := (Below.refl w.heap.size w).alloc (Nat.le_refl _) (.cells zT 25)
  have hs0 : (w.alloc (.cells zT 25)).heap.size = w.heap.size + 1 := by simp
  have HM := Lib.hid (rtup_any (fun k => M k ∨ k = w.heap.size) (w.alloc (.cells zT 25)) (fun k hk => by
    rcases hk with hk | hk
    · have := hM k hk
      omega
    · omega) b o cap E (h.chg (chg_of_below hb0 (fun _ => False)) (fun _ h => h.elim) (fun k hk hkl => hk.elim id fun e => by omega)) hl)
  have HB := Lib.hid (And.intro hb0 (And.intro (heap_new w (.cells zT 25)) (show w.heap.size < (w.alloc (.cells zT 25)).heap.size by omega)))
  have HMM := Lib.hid hM
  clear hb0 hs0 h hM
  generalize E.map TE.t = L at *
  go_enter Tryz.func35, Tryz.ntmps35
  go_wp2_with fail
  generalize w.alloc (.cells zT 25) = W0 at *
  refine HM.out.mono ?_
  clear HM
  rintro e W2 ⟨hb2, ⟨h1, x, rfl, hxt, hxo⟩ | ⟨h1, en, hen, rfl⟩⟩
  · have H2 := Lib.hid (And.intro (HB.out.1.trans (hb2.mono HB.out.1.size)) (And.intro (keep_heap HB.out.2.1 hb2) (And.intro (show x.t = tupA L by unfold tupA; rw [if_pos h1, hxt]) hxo)))
    clear hb2 h1 hxt hxo HB
    go_wp2_with (with_reducible refine stop_op (o := ⟨_, .store 25 (.tmp 3) (.tmp 8), _, _, _, _⟩) ?_)
    refine Lib.hid ?_
    refine wpList_store_new (o := ⟨none, _, _, _, _, _⟩) rfl 25 (.tmp 3) (.tmp 8) rfl #[.int .i8 x.k, .int .i64 x.n, .string x.s, .string x.u, .slice x.ao x.l.length x.cap] rfl rfl (infoTM' _ rfl) rfl (by simp [Value.oneCell']) ?_
    have hb3 := (Below.refl W2.heap.size W2).alloc (Nat.le_refl _) (.cells #[.int .i8 x.k, .int .i64 x.n, .string x.s, .string x.u, .slice x.ao x.l.length x.cap] 25)
    have H3 := Lib.hid (And.intro (H2.out.1.trans (hb3.mono H2.out.1.size)) (And.intro (keep_heap H2.out.2.1 hb3) (And.intro H2.out.2.2.1 (H2.out.2.2.2.keep hb3))))
    obtain ⟨y0, y1, y2, y3, y4⟩ := BxS.of (x := x) (heap_new W2 (.cells #[.int .i8 x.k, .int .i64 x.n, .string x.s, .string x.u, .slice x.ao x.l.length x.cap] 25))
    clear hb3 H2
    generalize W2.alloc (.cells #[.int .i8 x.k, .int .i64 x.n, .string x.s, .string x.u, .slice x.ao x.l.length x.cap] 25) = W3 at *
    go_wp2_with (with_reducible refine stop_op (o := ⟨_, .store 25 (.tmp 2) (.tmp 13), _, _, _, _⟩) ?_)
    refine Lib.hid ?_
    refine wpList_store_row (o := ⟨none, _, _, _, _, _⟩) rfl 25 (.tmp 2) (.tmp 13) rfl (w.heap.size) #[.int .i8 x.k, .int .i64 x.n, .string x.s, .string x.u, .slice x.ao x.l.length x.cap] rfl rfl 25 zT (H3.out.2.1) (infoTM' _ rfl) rfl (by simp [Value.oneCell']) ?_
    have hcs := chg_setRow W3 w.heap.size #[.int .i8 x.k, .int .i64 x.n, .string x.s, .string x.u, .slice x.ao x.l.length x.cap]
    have HZ := Lib.hid (And.intro (setRow_heap W3 w.heap.size zT #[.int .i8 x.k, .int .i64 x.n, .string x.s, .string x.u, .slice x.ao x.l.length x.cap] 25 (0, 0) H3.out.2.1) (And.intro (bel_setRow H3.out.1 H3.out.1.size (Nat.le_refl _) #[.int .i8 x.k, .int .i64 x.n, .string x.s, .string x.u, .slice x.ao x.l.length x.cap]) (H3.out.2.2.2.chg (M' := M) hcs (fun k e _ => .inr e) (fun k hk _ => .inl hk))))
    clear hcs y0 y1 y2 y3 y4
    generalize W3.setRow w.heap.size #[.int .i8 x.k, .int .i64 x.n, .string x.s, .string x.u, .slice x.ao x.l.length x.cap] = W5 at *
    go_wp2_with fail
    exact ret_cell HZ.out.1 rfl Tryz.underlying25 rfl (infoTM' _ rfl) rfl ⟨x, rfl, H3.out.2.2.1, HZ.out.2.2, HZ.out.2.1⟩
  · have H2 := Lib.hid (And.intro (HB.out.1.trans (hb2.mono HB.out.1.size)) (And.intro (keep_heap HB.out.2.1 hb2) (show tupA L = .mk 1 0 limS ⟨#[]⟩ [] by unfold tupA; rw [if_neg h1])))
    have q1 : (en != 0) = true := by simp [hen]
    clear hb2 h1 hen HB
    go_wp2_with (with_reducible refine stop_op (o := ⟨_, .store 25 (.tmp 3) (.tmp 8), _, _, _, _⟩) ?_)
    refine Lib.hid ?_
    refine wpList_store_new (o := ⟨none, _, _, _, _, _⟩) rfl 25 (.tmp 3) (.tmp 8) rfl zT rfl rfl (infoTM' _ rfl) rfl (by simp [Value.oneCell']) ?_
    have hb3 := (Below.refl W2.heap.size W2).alloc (Nat.le_refl _) (.cells zT 25)
    have H3 := Lib.hid (And.intro (H2.out.1.trans (hb3.mono H2.out.1.size)) (And.intro (keep_heap H2.out.2.1 hb3) H2.out.2.2))
    clear hb3 H2
    generalize W2.alloc (.cells zT 25) = W3 at *
    go_wp2_with fail
    refine (ratom_x W3 _).mono ?_
    rintro e W4 ⟨rfl, hb4⟩
    have H4 := Lib.hid (And.intro (H3.out.1.trans (hb4.mono H3.out.1.size)) (And.intro (keep_heap H3.out.2.1 hb4) H3.out.2.2))
    clear hb4 H3
    go_wp2_with (with_reducible refine stop_op (o := ⟨_, .store 25 (.tmp 2) (.tmp 12), _, _, _, _⟩) ?_)
    refine Lib.hid ?_
    refine wpList_store_row (o := ⟨none, _, _, _, _, _⟩) rfl 25 (.tmp 2) (.tmp 12) rfl (w.heap.size) #[.int .i8 1, .int .i64 0, .string ⟨#[115, 121, 115, 116, 101, 109, 95, 108, 105, 109, 105, 116]⟩, .string ⟨#[]⟩, .slice none 0 0] rfl rfl 25 zT (H4.out.2.1) (infoTM' _ rfl) rfl (by simp [Value.oneCell']) ?_
    have HZ := Lib.hid (And.intro (setRow_heap W4 w.heap.size zT #[.int .i8 1, .int .i64 0, .string ⟨#[115, 121, 115, 116, 101, 109, 95, 108, 105, 109, 105, 116]⟩, .string ⟨#[]⟩, .slice none 0 0] 25 (0, 0) H4.out.2.1) (bel_setRow H4.out.1 H4.out.1.size (Nat.le_refl _) #[.int .i8 1, .int .i64 0, .string ⟨#[115, 121, 115, 116, 101, 109, 95, 108, 105, 109, 105, 116]⟩, .string ⟨#[]⟩, .slice none 0 0]))
    generalize W4.setRow w.heap.size #[.int .i8 1, .int .i64 0, .string ⟨#[115, 121, 115, 116, 101, 109, 95, 108, 105, 109, 105, 116]⟩, .string ⟨#[]⟩, .slice none 0 0] = W5 at *
    go_wp2_with fail
    exact ret_cell HZ.out.1 rfl Tryz.underlying25 rfl (infoTM' _ rfl) rfl ⟨atomT limS, rfl, H4.out.2.2.symm, atomT_ok _ _ _ (by decide), HZ.out.2⟩
theorem pid_ok {p : Int} (h0 : 0 ≤ p) (hp : p ≤ 576460752303423487) : okT (.mk 4 p ⟨#[]⟩ ⟨#[]⟩ []) ∧ nT (.mk 4 p ⟨#[]⟩ ⟨#[]⟩ []) = 1 := by
  refine ⟨?_, rfl⟩
  show oneB 4 p ⟨#[]⟩ ⟨#[]⟩ 0 = true ∧ True
  refine ⟨?_, trivial⟩
  have h1 : bareB true false false false p ⟨#[]⟩ ⟨#[]⟩ 0 = true := by simp [bareB, show empty ⟨#[]⟩ = true by kernel_rfl]
  simp only [oneB]
  rw [h1]
  simp
  omega
theorem at_nT (s : ByteArray) : nT (.mk 1 0 s ⟨#[]⟩ []) = 1 := by simp [nT, nL]
theorem elT_eq : tupA [.mk 1 0 errS ⟨#[]⟩ [], .mk 1 0 limS ⟨#[]⟩ []] = .mk 5 0 ⟨#[]⟩ ⟨#[]⟩ [.mk 1 0 errS ⟨#[]⟩ [], .mk 1 0 limS ⟨#[]⟩ []] := by
  unfold tupA
  rw [if_pos]
  refine md_of _ _ ?_ ?_ (by omega)
  · rw [okL, okL, okL, okT, okT]
    exact ⟨⟨by kernel_rfl, trivial⟩, ⟨by kernel_rfl, trivial⟩, trivial⟩
  · rw [nL, nL, nL, at_nT, at_nT]
    omega
theorem ackv_bad {p : Int} (h0 : 0 ≤ p) (hp : p ≤ 576460752303423487) : mdN (ackL p (tupA [.mk 1 0 errS ⟨#[]⟩ [], .mk 1 0 limS ⟨#[]⟩ []])) 1 = 0 := by
  rw [elT_eq]
  unfold ackL
  refine md_of _ _ ?_ ?_ (by omega)
  · rw [okL, okL, okL, okL]
    refine ⟨by rw [okT]; exact ⟨by kernel_rfl, trivial⟩, (pid_ok h0 hp).1, ?_, trivial⟩
    rw [okT, okL, okL, okL, okT, okT]
    exact ⟨by kernel_rfl, ⟨by kernel_rfl, trivial⟩, ⟨by kernel_rfl, trivial⟩, trivial⟩
  · rw [nL, nL, nL, nL, at_nT, (pid_ok h0 hp).2, nT, nL, nL, nL, at_nT, at_nT]
    omega
/-- while the acknowledgement is made -/
structure RaW (w W : World) (M : Nat → Prop) (x : TE) : Prop where
  hb : Below w.heap.size w W
  h3 : W.heap[w.heap.size]? = some (.cells #[.int .i8 x.k, .int .i64 x.n, .string x.s, .string x.u, .slice x.ao x.l.length x.cap] 25 (0, 0))
  h4 : W.heap[w.heap.size + 1]? = some (.cells zT 25 (0, 0))
theorem RaW.keep {w W W' : World} {M : Nat → Prop} {x : TE} (h : RaW w W M x) (hb : Below W.heap.size W W') : RaW w W' M x := ⟨h.hb.trans (hb.mono h.hb.size), keep_heap h.h3 hb, keep_heap h.h4 hb⟩
set_option maxHeartbeats 8000000 in
theorem rack_any (M : Nat → Prop) (w : World) (hM : ∀ k, M k → k < w.heap.size) (n : Int) (x : TE) (hx : TeOk M w x) : Calls Tryz.prog 17 #[.int .i64 n, .agg x.cells.toArray] w (TePost M w (ackV (sureN n) x.t)) := by
  have hb2 := ((Below.refl w.heap.size w).alloc (Nat.le_refl _) (.cells #[.int .i8 x.k, .int .i64 x.n, .string x.s, .string x.u, .slice x.ao x.l.length x.cap] 25)).alloc (by simp) (.cells zT 25)
  have n1 := heap_old (heap_new w (.cells #[.int .i8 x.k, .int .i64 x.n, .string x.s, .string x.u, .slice x.ao x.l.length x.cap] 25)) (.cells zT 25)
  have n2 := heap_new (w.alloc (.cells #[.int .i8 x.k, .int .i64 x.n, .string x.s, .string x.u, .slice x.ao x.l.length x.cap] 25)) (.cells zT 25)
  rw [World.size_alloc] at n2
  have H1 : Hid (RaW w ((w.alloc (.cells #[.int .i8 x.k, .int .i64 x.n, .string x.s, .string x.u, .slice x.ao x.l.length x.cap] 25)).alloc (.cells zT 25)) M x) := Lib.hid ⟨hb2, n1, n2⟩
  have HX := Lib.hid (And.intro hx hM)
  have HP := Lib.hid (sure_b n)
  clear hb2 n1 n2 hx hM
  show Calls Tryz.prog 17 #[.int .i64 n, .agg #[.int .i8 x.k, .int .i64 x.n, .string x.s, .string x.u, .slice x.ao x.l.length x.cap]] w _
  go_enter Tryz.func17, Tryz.ntmps17
  go_wp2_with fail
  generalize (w.alloc (.cells #[.int .i8 x.k, .int .i64 x.n, .string x.s, .string x.u, .slice x.ao x.l.length x.cap] 25)).alloc (.cells zT 25) = W1 at *
  have hdr : Below W1.heap.size W1 W1.drew := (Below.refl _ _).drew
  have H2 := Lib.hid (H1.out.keep hdr)
  have hS : BxS w.heap.size x W1.drew := BxS.of H2.out.h3
  clear hdr H1
  refine region_plan (BxS w.heap.size x) [(1, 0), (4, 0), (0, 1), (2, 1), (3, 1), (5, 1), (6, 0)] (by kernel_rfl) (by kernel_rfl) (by kernel_rfl) hS ?_
  generalize W1.drew = WD at *
  iterate 2 (first | (refine plan_skip rfl ?_ ?_; (focus (rfl)); (try simp only [Act.put, List.setIfInBounds_toArray, List.set_cons_zero, List.set_cons_succ])) | (refine plan_take (v := ?_) rfl ?_ (fun w hSw => ?_) ?_; rotate_left; (focus (rfl)); (focus (unfold BxS at hSw; (go_simp <;> with_reducible rfl))); (try simp only [Act.put, List.setIfInBounds_toArray, List.set_cons_zero, List.set_cons_succ])))
  refine plan_run rfl ?_ (fun K hK => ?_)
  focus (rfl)
  go_simp
  refine (ratom_x WD _).mono ?_
  rintro e WA ⟨rfl, hba⟩
  have hS1 := hS.keep hba
  have HA := Lib.hid (H2.out.keep hba)
  refine hK.out _ _ hS1 ?_
  clear hK K 
  (try simp only [Act.put, List.setIfInBounds_toArray, List.set_cons_zero, List.set_cons_succ])
  clear hS hba H2
  refine plan_run rfl ?_ (fun K hK => ?_)
  focus (rfl)
  go_simp
  refine (rsure_x WA n).mono ?_
  rintro e WB ⟨rfl, hbb⟩
  have hS2 := hS1.keep hbb
  have HB := Lib.hid (HA.out.keep hbb)
  refine hK.out _ _ hS2 ?_
  clear hK K 
  (try simp only [Act.put, List.setIfInBounds_toArray, List.set_cons_zero, List.set_cons_succ])
  clear hS1 hbb HA
  generalize sureN n = p at *
  refine plan_run rfl ?_ (fun K hK => ?_)
  focus (rfl)
  go_simp
  refine (rpid_x WB p).mono ?_
  rintro e WC ⟨rfl, hbc⟩
  have hS3 := hS2.keep hbc
  have HC := Lib.hid (HB.out.keep hbc)
  refine hK.out _ _ hS3 ?_
  clear hK K 
  (try simp only [Act.put, List.setIfInBounds_toArray, List.set_cons_zero, List.set_cons_succ])
  clear hS2 hbc HB
  have hbr := (Below.refl WC.heap.size WC).alloc (Nat.le_refl _) (.cells #[.int .i8 1, .int .i64 0, .string ⟨#[97, 99, 107]⟩, .string ⟨#[]⟩, .slice none 0 0, .int .i8 4, .int .i64 p, .string ⟨#[]⟩, .string ⟨#[]⟩, .slice none 0 0, .int .i8 x.k, .int .i64 x.n, .string x.s, .string x.u, .slice x.ao x.l.length x.cap] 25)
  have hS4 := hS3.keep hbr
  refine plan_run rfl ?_ (fun K hK => ?_)
  focus (rfl)
  go_simp
  refine hK.out _ _ (hS4) ?_
  clear hK K
  (try simp only [Act.put, List.setIfInBounds_toArray, List.set_cons_zero, List.set_cons_succ])
  iterate 1 (first | (refine plan_skip rfl ?_ ?_; (focus (rfl)); (try simp only [Act.put, List.setIfInBounds_toArray, List.set_cons_zero, List.set_cons_succ])) | (refine plan_take (v := ?_) rfl ?_ (fun w hSw => ?_) ?_; rotate_left; (focus (rfl)); (focus (unfold BxS at hSw; (go_simp <;> with_reducible rfl))); (try simp only [Act.put, List.setIfInBounds_toArray, List.set_cons_zero, List.set_cons_succ])))
  refine plan_done ?_
  have H5 := Lib.hid (And.intro (HC.out.keep hbr) (And.intro (heap_new WC (.cells #[.int .i8 1, .int .i64 0, .string ⟨#[97, 99, 107]⟩, .string ⟨#[]⟩, .slice none 0 0, .int .i8 4, .int .i64 p, .string ⟨#[]⟩, .string ⟨#[]⟩, .slice none 0 0, .int .i8 x.k, .int .i64 x.n, .string x.s, .string x.u, .slice x.ao x.l.length x.cap] 25)) (show w.heap.size + 1 < WC.heap.size from heap_lt HC.out.h4)))
  clear hS3 hS4 hbr HC
  go_wp2_with fail
  generalize WC.alloc (.cells #[.int .i8 1, .int .i64 0, .string ⟨#[97, 99, 107]⟩, .string ⟨#[]⟩, .slice none 0 0, .int .i8 4, .int .i64 p, .string ⟨#[]⟩, .string ⟨#[]⟩, .slice none 0 0, .int .i8 x.k, .int .i64 x.n, .string x.s, .string x.u, .slice x.ao x.l.length x.cap] 25) = W5 at *
  generalize WC.heap.size = g at *
  have hlt := H5.out.2.2
  have hM5 : ∀ k, (M k ∨ k = w.heap.size + 1) → k < W5.heap.size := fun k hk => by
    have := heap_lt H5.out.2.1
    rcases hk with hk | hk
    · have := HX.out.2 k hk
      omega
    · omega
  have hgM : ¬ (M g ∨ g = w.heap.size + 1) := fun hk => by
    rcases hk with hk | hk
    · have := HX.out.2 g hk
      omega
    · omega
  have hE : ∀ u ∈ [atomT ackS, numT 4 p, x], TeOk (fun k => M k ∨ k = w.heap.size + 1) W5 u := fun u hu => by
    simp only [List.mem_cons, List.not_mem_nil, or_false] at hu
    rcases hu with rfl | rfl | rfl
    · exact atomT_ok _ _ _ (by decide)
    · exact numT_ok _ _ _ _ (by omega) (by have := HP.out; omega)
    · exact HX.out.1.chg (chg_of_below H5.out.1.hb (fun _ => False)) (fun _ h => h.elim) (fun k hk hl => hk.elim id fun e => by omega)
  have HT : Hid (Calls Tryz.prog 42 #[.slice (some ⟨g, 0, none⟩) 3 3] W5 (RmP (fun k => M k ∨ k = w.heap.size + 1) W5 (ackL p x.t))) := Lib.hid (rtup_any _ W5 hM5 g 0 3 [atomT ackS, numT 4 p, x] (row_tesx _ W5 g _ H5.out.2.1 hgM hE (by simp)) (by simp))
  have HE := Lib.hid (show ackV p x.t = if mdN (ackL p x.t) 1 = 0 then .mk 5 0 ⟨#[]⟩ ⟨#[]⟩ (ackL p x.t) else tupA (ackL p (tupA [.mk 1 0 errS ⟨#[]⟩ [], .mk 1 0 limS ⟨#[]⟩ []])) from rfl)
  clear hM5 hgM hE
  refine HT.out.mono ?_
  clear HT
  rintro e W6 ⟨hb6, ⟨h1, y, rfl, hyt, hyo⟩ | ⟨h1, en, hen, rfl⟩⟩
  · have H6 := Lib.hid (And.intro (H5.out.1.keep hb6) hyo)
    have HF := Lib.hid (show y.t = ackV p x.t by rw [HE.out, if_pos h1, hyt])
    clear hb6 h1 hyt hyo H5 HE hlt
    go_wp2_with (with_reducible refine stop_op (o := ⟨_, .store 25 (.tmp 6) (.tmp 17), _, _, _, _⟩) ?_)
    refine Lib.hid ?_
    refine wpList_store_new (o := ⟨none, _, _, _, _, _⟩) rfl 25 (.tmp 6) (.tmp 17) rfl #[.int .i8 y.k, .int .i64 y.n, .string y.s, .string y.u, .slice y.ao y.l.length y.cap] rfl rfl (infoTM' _ rfl) rfl (by simp [Value.oneCell']) ?_
    have hb7 := (Below.refl W6.heap.size W6).alloc (Nat.le_refl _) (.cells #[.int .i8 y.k, .int .i64 y.n, .string y.s, .string y.u, .slice y.ao y.l.length y.cap] 25)
    have H7 := Lib.hid (And.intro (H6.out.1.keep hb7) (H6.out.2.keep hb7))
    obtain ⟨y0, y1, y2, y3, y4⟩ := BxS.of (x := y) (heap_new W6 (.cells #[.int .i8 y.k, .int .i64 y.n, .string y.s, .string y.u, .slice y.ao y.l.length y.cap] 25))
    clear hb7 H6
    generalize W6.alloc (.cells #[.int .i8 y.k, .int .i64 y.n, .string y.s, .string y.u, .slice y.ao y.l.length y.cap] 25) = W7 at *
    go_wp2_with (with_reducible refine stop_op (o := ⟨_, .store 25 (.tmp 4) (.tmp 32), _, _, _, _⟩) ?_)
    refine Lib.hid ?_
    refine wpList_store_row (o := ⟨none, _, _, _, _, _⟩) rfl 25 (.tmp 4) (.tmp 32) rfl (w.heap.size + 1) #[.int .i8 y.k, .int .i64 y.n, .string y.s, .string y.u, .slice y.ao y.l.length y.cap] rfl rfl 25 zT (H7.out.1.h4) (infoTM' _ rfl) rfl (by simp [Value.oneCell']) ?_
    have hcs := chg_setRow W7 (w.heap.size + 1) #[.int .i8 y.k, .int .i64 y.n, .string y.s, .string y.u, .slice y.ao y.l.length y.cap]
    have HZ := Lib.hid (And.intro (setRow_heap W7 (w.heap.size + 1) zT #[.int .i8 y.k, .int .i64 y.n, .string y.s, .string y.u, .slice y.ao y.l.length y.cap] 25 (0, 0) H7.out.1.h4) (And.intro (bel_setRow H7.out.1.hb H7.out.1.hb.size (Nat.le_succ _) #[.int .i8 y.k, .int .i64 y.n, .string y.s, .string y.u, .slice y.ao y.l.length y.cap]) (H7.out.2.chg (M' := M) hcs (fun k e _ => .inr e) (fun k hk _ => .inl hk))))
    clear hcs y0 y1 y2 y3 y4
    generalize W7.setRow (w.heap.size + 1) #[.int .i8 y.k, .int .i64 y.n, .string y.s, .string y.u, .slice y.ao y.l.length y.cap] = W9 at *
    go_wp2_with fail
    exact ret_cell HZ.out.1 rfl Tryz.underlying25 rfl (infoTM' _ rfl) rfl ⟨y, rfl, HF.out, HZ.out.2.2, HZ.out.2.1⟩
  · have H6 := Lib.hid (And.intro (H5.out.1.keep hb6) (And.intro (keep_heap H5.out.2.1 hb6) hlt))
    have HF := Lib.hid (show ackV p x.t = tupA (ackL p (tupA [.mk 1 0 errS ⟨#[]⟩ [], .mk 1 0 limS ⟨#[]⟩ []])) by rw [HE.out, if_neg h1])
    have q1 : (en != 0) = true := by simp [hen]
    clear hb6 h1 hen H5 HE hlt
    go_wp2_with (with_reducible refine stop_op (o := ⟨_, .store 25 (.tmp 6) (.tmp 17), _, _, _, _⟩) ?_)
    refine Lib.hid ?_
    refine wpList_store_new (o := ⟨none, _, _, _, _, _⟩) rfl 25 (.tmp 6) (.tmp 17) rfl zT rfl rfl (infoTM' _ rfl) rfl (by simp [Value.oneCell']) ?_
    have hb7 := (Below.refl W6.heap.size W6).alloc (Nat.le_refl _) (.cells zT 25)
    have H7 := Lib.hid (And.intro (And.intro (H6.out.1.keep hb7) (And.intro (keep_heap H6.out.2.1 hb7) H6.out.2.2)) (And.intro (heap_new W6 (.cells zT 25)) (heap_lt H6.out.2.1)))
    clear hb7 H6
    generalize W6.alloc (.cells zT 25) = W7 at *
    generalize W6.heap.size = q6 at *
    go_wp2_with fail
    refine (ratom_x W7 _).mono ?_
    rintro e W8 ⟨rfl, hb8⟩
    have H8 := Lib.hid (And.intro (And.intro (H7.out.1.1.keep hb8) (And.intro (keep_heap H7.out.1.2.1 hb8) H7.out.1.2.2)) (And.intro (keep_heap H7.out.2.1 hb8) H7.out.2.2))
    clear hb8 H7
    go_wp2_with fail
    refine (ratom_x W8 _).mono ?_
    rintro e W9 ⟨rfl, hb9⟩
    have H9 := Lib.hid (And.intro (And.intro (H8.out.1.1.keep hb9) (And.intro (keep_heap H8.out.1.2.1 hb9) H8.out.1.2.2)) (And.intro (keep_heap H8.out.2.1 hb9) H8.out.2.2))
    clear hb9 H8
    have hb10 := (Below.refl W9.heap.size W9).alloc (Nat.le_refl _) (.cells #[.int .i8 1, .int .i64 0, .string ⟨#[101, 114, 114, 111, 114]⟩, .string ⟨#[]⟩, .slice none 0 0, .int .i8 1, .int .i64 0, .string ⟨#[115, 121, 115, 116, 101, 109, 95, 108, 105, 109, 105, 116]⟩, .string ⟨#[]⟩, .slice none 0 0] 25)
    have H10 := Lib.hid (And.intro (And.intro (H9.out.1.1.keep hb10) (And.intro (keep_heap H9.out.1.2.1 hb10) H9.out.1.2.2)) (And.intro (keep_heap H9.out.2.1 hb10) (And.intro H9.out.2.2 (And.intro (heap_new W9 (.cells #[.int .i8 1, .int .i64 0, .string ⟨#[101, 114, 114, 111, 114]⟩, .string ⟨#[]⟩, .slice none 0 0, .int .i8 1, .int .i64 0, .string ⟨#[115, 121, 115, 116, 101, 109, 95, 108, 105, 109, 105, 116]⟩, .string ⟨#[]⟩, .slice none 0 0] 25)) (heap_lt H9.out.2.1)))))
    clear hb10 H9
    go_wp2_with fail
    generalize W9.alloc (.cells #[.int .i8 1, .int .i64 0, .string ⟨#[101, 114, 114, 111, 114]⟩, .string ⟨#[]⟩, .slice none 0 0, .int .i8 1, .int .i64 0, .string ⟨#[115, 121, 115, 116, 101, 109, 95, 108, 105, 109, 105, 116]⟩, .string ⟨#[]⟩, .slice none 0 0] 25) = W10 at *
    generalize W9.heap.size = g2 at *
    have hq2 := H10.out.2.2.1
    have hq3 := H10.out.2.2.2.2
    have hwg := H10.out.1.2.2
    have hM6 : ∀ k, (M k ∨ k = w.heap.size + 1 ∨ k = g ∨ k = q6) → k < W10.heap.size := fun k hk => by
      have := heap_lt H10.out.2.2.2.1
      rcases hk with hk | hk | hk | hk
      · have := HX.out.2 k hk
        omega
      · omega
      · omega
      · omega
    have hg2 : ¬ (M g2 ∨ g2 = w.heap.size + 1 ∨ g2 = g ∨ g2 = q6) := fun hk => by
      rcases hk with hk | hk | hk | hk
      · have := HX.out.2 g2 hk
        omega
      · omega
      · omega
      · omega
    have HT := Lib.hid (rlimit_any _ W10 hM6 g2 0 2 [atomT errS, atomT limS] (row_tesx _ W10 g2 _ H10.out.2.2.2.1 hg2 (fun u hu => by
      simp only [List.mem_cons, List.not_mem_nil, or_false] at hu
      rcases hu with rfl | rfl
      · exact atomT_ok _ _ _ (by decide)
      · exact atomT_ok _ _ _ (by decide)) (by simp)) (by simp))
    clear hM6 hg2 hq2 hq3 hwg
    refine HT.out.mono ?_
    clear HT
    rintro e W11 ⟨v, rfl, hvt, hvo, hb11⟩
    have H11 := Lib.hid (And.intro (And.intro (H10.out.1.1.keep hb11) (And.intro (keep_heap H10.out.1.2.1 hb11) H10.out.1.2.2)) (And.intro (keep_heap H10.out.2.1 hb11) (And.intro H10.out.2.2.1 hvo)))
    have HVT := Lib.hid (show ([atomT ackS, numT 4 p, v] : List TE).map TE.t = ackL p (tupA [.mk 1 0 errS ⟨#[]⟩ [], .mk 1 0 limS ⟨#[]⟩ []]) by rw [show tupA [.mk 1 0 errS ⟨#[]⟩ [], .mk 1 0 limS ⟨#[]⟩ []] = v.t from hvt.symm]; rfl)
    clear hb11 hvt hvo H10
    simp only [TE.cells, TE.lv]
    go_wp2_with (with_reducible refine stop_op (o := ⟨_, .store 25 (.tmp 26) (.tmp 25), _, _, _, _⟩) ?_)
    refine Lib.hid ?_
    refine wpList_store_mid (op := ⟨none, _, _, _, _, _⟩) rfl 25 (.tmp 26) (.tmp 25) rfl g 10 #[.int .i8 v.k, .int .i64 v.n, .string v.s, .string v.u, .slice v.ao v.l.length v.cap] rfl rfl (there_ofx (cs := [.int .i8 1, .int .i64 0, .string ⟨#[97, 99, 107]⟩, .string ⟨#[]⟩, .slice none 0 0, .int .i8 4, .int .i64 p, .string ⟨#[]⟩, .string ⟨#[]⟩, .slice none 0 0, .int .i8 x.k, .int .i64 x.n, .string x.s, .string x.u, .slice x.ao x.l.length x.cap]) H11.out.1.2.1 (by show 10 + 5 ≤ 15; decide)) (infoTM' _ rfl) (by simp [Value.oneCell']) ?_
    have hcc := chg_cells (#[.int .i8 v.k, .int .i64 v.n, .string v.s, .string v.u, .slice v.ao v.l.length v.cap] : Array Value).toList g 10 W11
    have hgr : (W11.setCells g 10 (#[.int .i8 v.k, .int .i64 v.n, .string v.s, .string v.u, .slice v.ao v.l.length v.cap] : Array Value).toList).heap[g]? = some (.cells #[.int .i8 1, .int .i64 0, .string ⟨#[97, 99, 107]⟩, .string ⟨#[]⟩, .slice none 0 0, .int .i8 4, .int .i64 p, .string ⟨#[]⟩, .string ⟨#[]⟩, .slice none 0 0, .int .i8 v.k, .int .i64 v.n, .string v.s, .string v.u, .slice v.ao v.l.length v.cap] 25 (0, 0)) := by
      have h := setRow_cellsx (#[.int .i8 v.k, .int .i64 v.n, .string v.s, .string v.u, .slice v.ao v.l.length v.cap] : Array Value).toList 10 (cs := [.int .i8 1, .int .i64 0, .string ⟨#[97, 99, 107]⟩, .string ⟨#[]⟩, .slice none 0 0, .int .i8 4, .int .i64 p, .string ⟨#[]⟩, .string ⟨#[]⟩, .slice none 0 0, .int .i8 x.k, .int .i64 x.n, .string x.s, .string x.u, .slice x.ao x.l.length x.cap]) H11.out.1.2.1
      exact h
    have hne1 : ¬ w.heap.size = g := by have := H11.out.1.2.2; omega
    have hne2 : ¬ w.heap.size + 1 = g := by have := H11.out.1.2.2; omega
    have hne3 : ¬ q6 = g := by have := H11.out.2.2.1; omega
    have H12 := Lib.hid (And.intro (show RaW w (W11.setCells g 10 (#[.int .i8 v.k, .int .i64 v.n, .string v.s, .string v.u, .slice v.ao v.l.length v.cap] : Array Value).toList) M x from ⟨H11.out.1.1.hb.trans (hcc.below H11.out.1.1.hb.size fun k e => by have e : k = g := e; have := H11.out.1.2.2; omega), hcc.heap H11.out.1.1.h3 hne1, hcc.heap H11.out.1.1.h4 hne2⟩) (And.intro hgr (And.intro (hcc.heap H11.out.2.1 hne3) (And.intro (H11.out.2.2.2.chg (M' := fun k => M k ∨ k = w.heap.size + 1 ∨ k = q6) hcc (fun k e _ => .inr (.inr (.inl e))) (fun k hk _ => by
      rcases hk with hk | hk | hk
      · exact .inl hk
      · exact .inr (.inl hk)
      · exact .inr (.inr (.inr hk)))) (And.intro H11.out.1.2.2 H11.out.2.2.1)))))
    clear hcc hgr hne1 hne2 hne3 H11
    generalize W11.setCells g 10 (#[.int .i8 v.k, .int .i64 v.n, .string v.s, .string v.u, .slice v.ao v.l.length v.cap] : Array Value).toList = W12 at *
    have hlt := H12.out.2.2.2.2.1
    have hgq := H12.out.2.2.2.2.2
    have hM7 : ∀ k, (M k ∨ k = w.heap.size + 1 ∨ k = q6) → k < W12.heap.size := fun k hk => by
      have := heap_lt H12.out.2.2.1
      rcases hk with hk | hk | hk
      · have := HX.out.2 k hk
        omega
      · omega
      · omega
    have hg7 : ¬ (M g ∨ g = w.heap.size + 1 ∨ g = q6) := fun hk => by
      rcases hk with hk | hk | hk
      · have := HX.out.2 g hk
        omega
      · omega
      · omega
    have HT := Lib.hid (rtup_any _ W12 hM7 g 0 3 [atomT ackS, numT 4 p, v] (row_tesx _ W12 g [atomT ackS, numT 4 p, v] H12.out.2.1 hg7 (fun u hu => by
      simp only [List.mem_cons, List.not_mem_nil, or_false] at hu
      rcases hu with rfl | rfl | rfl
      · exact atomT_ok _ _ _ (by decide)
      · exact numT_ok _ _ _ _ (by omega) (by have := HP.out; omega)
      · exact H12.out.2.2.2.1) (by simp)) (by simp))
    rw [HVT.out] at HT
    clear hM7 hg7 hlt hgq
    go_wp2_with fail
    refine HT.out.mono ?_
    clear HT
    rintro e W13 ⟨hb13, ⟨h1, y, rfl, hyt, hyo⟩ | ⟨h1, -⟩⟩
    · have H13 := Lib.hid (And.intro (H12.out.1.keep hb13) (And.intro (keep_heap H12.out.2.2.1 hb13) (And.intro hyo (And.intro H12.out.2.2.2.2.1 H12.out.2.2.2.2.2))))
      have HYT := Lib.hid (show y.t = ackV p x.t by rw [HF.out, hyt]; exact (if_pos h1).symm)
      clear hb13 h1 hyt hyo H12 q1
      go_wp2_with (with_reducible refine stop_op (o := ⟨_, .store 25 (.tmp 6) (.tmp 30), _, _, _, _⟩) ?_)
      refine Lib.hid ?_
      refine wpList_store_row (o := ⟨none, _, _, _, _, _⟩) rfl 25 (.tmp 6) (.tmp 30) rfl q6 #[.int .i8 y.k, .int .i64 y.n, .string y.s, .string y.u, .slice y.ao y.l.length y.cap] rfl rfl 25 zT H13.out.2.1 (infoTM' _ rfl) rfl (by simp [Value.oneCell']) ?_
      have hcq := chg_setRow W13 q6 #[.int .i8 y.k, .int .i64 y.n, .string y.s, .string y.u, .slice y.ao y.l.length y.cap]
      have hne : ¬ w.heap.size + 1 = q6 := by have := H13.out.2.2.2.1; have := H13.out.2.2.2.2; omega
      have H14 := Lib.hid (And.intro (hcq.heap H13.out.1.h4 hne) (And.intro (setRow_heap W13 q6 zT #[.int .i8 y.k, .int .i64 y.n, .string y.s, .string y.u, .slice y.ao y.l.length y.cap] 25 (0, 0) H13.out.2.1) (And.intro (H13.out.1.hb.trans (hcq.below H13.out.1.hb.size fun k e => by have e : k = q6 := e; have := H13.out.2.2.2.1; have := H13.out.2.2.2.2; omega)) (H13.out.2.2.1.chg (M' := fun k => M k ∨ k = w.heap.size + 1) hcq (fun k e _ => .inr (.inr e)) (fun k hk _ => hk.elim .inl fun e => .inr (.inl e))))))
      clear hcq hne H13
      generalize W13.setRow q6 #[.int .i8 y.k, .int .i64 y.n, .string y.s, .string y.u, .slice y.ao y.l.length y.cap] = W14 at *
      obtain ⟨y0, y1, y2, y3, y4⟩ := BxS.of (x := y) H14.out.2.1
      go_wp2_with (with_reducible refine stop_op (o := ⟨_, .store 25 (.tmp 4) (.tmp 32), _, _, _, _⟩) ?_)
      refine Lib.hid ?_
      refine wpList_store_row (o := ⟨none, _, _, _, _, _⟩) rfl 25 (.tmp 4) (.tmp 32) rfl (w.heap.size + 1) #[.int .i8 y.k, .int .i64 y.n, .string y.s, .string y.u, .slice y.ao y.l.length y.cap] rfl rfl 25 zT (H14.out.1) (infoTM' _ rfl) rfl (by simp [Value.oneCell']) ?_
      have hcs := chg_setRow W14 (w.heap.size + 1) #[.int .i8 y.k, .int .i64 y.n, .string y.s, .string y.u, .slice y.ao y.l.length y.cap]
      have HZ := Lib.hid (And.intro (setRow_heap W14 (w.heap.size + 1) zT #[.int .i8 y.k, .int .i64 y.n, .string y.s, .string y.u, .slice y.ao y.l.length y.cap] 25 (0, 0) H14.out.1) (And.intro (bel_setRow H14.out.2.2.1 H14.out.2.2.1.size (Nat.le_succ _) #[.int .i8 y.k, .int .i64 y.n, .string y.s, .string y.u, .slice y.ao y.l.length y.cap]) (H14.out.2.2.2.chg (M' := M) hcs (fun k e _ => .inr e) (fun k hk _ => .inl hk))))
      clear hcs y0 y1 y2 y3 y4
      generalize W14.setRow (w.heap.size + 1) #[.int .i8 y.k, .int .i64 y.n, .string y.s, .string y.u, .slice y.ao y.l.length y.cap] = W9 at *
      go_wp2_with fail
      exact ret_cell HZ.out.1 rfl Tryz.underlying25 rfl (infoTM' _ rfl) rfl ⟨y, rfl, HYT.out, HZ.out.2.2, HZ.out.2.1⟩
    · exact absurd (ackv_bad HP.out.1 HP.out.2) h1
end Go.Proofs.YthpmdeofdlcccaaGreatDoor
namespace Go.Proofs.YthpmdeofdlcccaaGreatDoor
open Go.ChangeShapes Go.WideShapes Go.ChangeAt Go.RowKit
set_option linter.unusedVariables false
set_option linter.unusedSimpArgs false
set_option maxRecDepth 100000
def ItS (q : Nat) (i : It) (W : World) : Prop := W.cell? ⟨q, 0, none⟩ = some (.int .i8 i.x.k) ∧ W.cell? ⟨q, 1, none⟩ = some (.int .i64 i.x.n) ∧ W.cell? ⟨q, 2, none⟩ = some (.string i.x.s) ∧ W.cell? ⟨q, 3, none⟩ = some (.string i.x.u) ∧ W.cell? ⟨q, 4, none⟩ = some (.slice i.x.ao i.x.l.length i.x.cap) ∧ W.cell? ⟨q, 5, none⟩ = some (.bool i.o)
theorem ItS.keep {q : Nat} {i : It} {W W' : World} (h : ItS q i W) (hb : Below W.heap.size W W') : ItS q i W' := ⟨keep_cell h.1 hb, keep_cell h.2.1 hb, keep_cell h.2.2.1 hb, keep_cell h.2.2.2.1 hb, keep_cell h.2.2.2.2.1 hb, keep_cell h.2.2.2.2.2 hb⟩
structure RkW (w W : World) (i : It) : Prop where
  hb : Below w.heap.size w W
  h2 : W.heap[w.heap.size]? = some (.cells #[.int .i8 i.x.k, .int .i64 i.x.n, .string i.x.s, .string i.x.u, .slice i.x.ao i.x.l.length i.x.cap, .bool i.o] 59 (0, 0))
  h4 : W.heap[w.heap.size + 1]? = some (.cells zT 25 (0, 0))
theorem RkW.keep {w W W' : World} {i : It} (h : RkW w W i) (hb : Below W.heap.size W W') : RkW w W' i := ⟨h.hb.trans (hb.mono h.hb.size), keep_heap h.h2 hb, keep_heap h.h4 hb⟩
set_option maxHeartbeats 8000000 in
theorem risack_any (M : Nat → Prop) (w : World) (i : It) (pid : Int) (hi : TeOk M w i.x) (hp : -9223372036854775808 ≤ pid ∧ pid ≤ 9223372036854775807) :
    Calls Tryz.prog 19 #[.agg #[.int .i8 i.x.k, .int .i64 i.x.n, .string i.x.s, .string i.x.u, .slice i.x.ao i.x.l.length i.x.cap, .bool i.o], .int .i64 pid] w (AkPost M w i.x.t (ackB i.x.t i.o pid)) := by
  have hb2 := ((Below.refl w.heap.size w).alloc (Nat.le_refl _) (.cells #[.int .i8 i.x.k, .int .i64 i.x.n, .string i.x.s, .string i.x.u, .slice i.x.ao i.x.l.length i.x.cap, .bool i.o] 59)).alloc (by simp) (.cells zT 25)
  have n1 := heap_old (heap_new w (.cells #[.int .i8 i.x.k, .int .i64 i.x.n, .string i.x.s, .string i.x.u, .slice i.x.ao i.x.l.length i.x.cap, .bool i.o] 59)) (.cells zT 25)
  have n2 := heap_new (w.alloc (.cells #[.int .i8 i.x.k, .int .i64 i.x.n, .string i.x.s, .string i.x.u, .slice i.x.ao i.x.l.length i.x.cap, .bool i.o] 59)) (.cells zT 25)
  rw [World.size_alloc] at n2
  have H1 : Hid (RkW w ((w.alloc (.cells #[.int .i8 i.x.k, .int .i64 i.x.n, .string i.x.s, .string i.x.u, .slice i.x.ao i.x.l.length i.x.cap, .bool i.o] 59)).alloc (.cells zT 25)) i) := Lib.hid ⟨hb2, n1, n2⟩
  have HI := Lib.hid (And.intro hi hp)
  have HE := Lib.hid (show ackB i.x.t i.o pid = (fsB i true ackS (numT 4 pid) && decide (i.x.l.length = 3)) from rfl)
  generalize ackB i.x.t i.o pid = res at *
  clear hb2 n1 n2 hi hp
  go_enter Tryz.func19, Tryz.ntmps19
  go_wp2_with fail
  generalize (w.alloc (.cells #[.int .i8 i.x.k, .int .i64 i.x.n, .string i.x.s, .string i.x.u, .slice i.x.ao i.x.l.length i.x.cap, .bool i.o] 59)).alloc (.cells zT 25) = W1 at *
  have hdr : Below W1.heap.size W1 W1.drew := (Below.refl _ _).drew
  have H2 := Lib.hid (H1.out.keep hdr)
  have hS : ItS w.heap.size i W1.drew := ⟨(cells_at H2.out.h2 0 _ rfl).1, (cells_at H2.out.h2 1 _ rfl).1, (cells_at H2.out.h2 2 _ rfl).1, (cells_at H2.out.h2 3 _ rfl).1, (cells_at H2.out.h2 4 _ rfl).1, (cells_at H2.out.h2 5 _ rfl).1⟩
  clear hdr H1
  refine region_planT (ItS w.heap.size i) (.take 0 (.take 2 (.fork 1 (.run 3 (.run 4 (.take 5 (.take 6 (.take 7 (.take 8 (.take 9 .done))))))) 3 (.run 1 (.run 4 (.take 5 (.take 6 (.take 7 (.take 8 (.take 9 .done)))))))))) (by kernel_rfl) (by kernel_rfl) (by kernel_rfl) hS ?_
  generalize W1.drew = WD at *
  iterate 2 (first | (refine planT_skip rfl ?_ ?_; (focus (rfl)); (try simp only [Act.put, List.setIfInBounds_toArray, List.set_cons_zero, List.set_cons_succ])) | (refine planT_take (v := ?_) rfl ?_ (fun w hSw => ?_) ?_; rotate_left; (focus (rfl)); (focus (unfold ItS at hSw; (go_simp <;> with_reducible rfl))); (try simp only [Act.put, List.setIfInBounds_toArray, List.set_cons_zero, List.set_cons_succ])))
  refine planT_fork ?_ ?_
  · skip
    have hb3 := (Below.refl WD.heap.size WD).alloc (Nat.le_refl _) (.cells #[.int .i8 i.x.k, .int .i64 i.x.n, .string i.x.s, .string i.x.u, .slice i.x.ao i.x.l.length i.x.cap, .bool i.o] 59)
    have hS1 := hS.keep hb3
    refine planT_run rfl ?_ (fun K hK => ?_)
    focus (rfl)
    go_simp
    refine hK.out _ _ (hS1) ?_
    clear hK K
    (try simp only [Act.put, List.setIfInBounds_toArray, List.set_cons_zero, List.set_cons_succ])
    have H3 := Lib.hid (And.intro (H2.out.keep hb3) (heap_new WD (.cells #[.int .i8 i.x.k, .int .i64 i.x.n, .string i.x.s, .string i.x.u, .slice i.x.ao i.x.l.length i.x.cap, .bool i.o] 59)))
    clear hS hb3 H2
    generalize WD.alloc (.cells #[.int .i8 i.x.k, .int .i64 i.x.n, .string i.x.s, .string i.x.u, .slice i.x.ao i.x.l.length i.x.cap, .bool i.o] 59) = WE at *
    generalize WD.heap.size = g at *
    refine planT_run rfl ?_ (fun K hK => ?_)
    focus (rfl)
    go_simp
    refine (rpid_x WE pid).mono ?_
    rintro e WF ⟨rfl, hb4⟩
    have hS2 := hS1.keep hb4
    have HK := Lib.hid (H3.out.1.keep hb4)
    have HG := Lib.hid (keep_heap H3.out.2 hb4)
    refine hK.out _ _ hS2 ?_
    clear hK K 
    (try simp only [Act.put, List.setIfInBounds_toArray, List.set_cons_zero, List.set_cons_succ])
    clear hS1 hb4 H3
    have HFI : Hid (Calls Tryz.prog 32 #[.slice (some ⟨g, 0, none⟩) 1 1, .string ⟨#[97, 99, 107]⟩, .agg #[.int .i8 4, .int .i64 pid, .string ⟨#[]⟩, .string ⟨#[]⟩, .slice none 0 0], .bool true] WF (RfP WF (fsB i true ackS (numT 4 pid)))) := Lib.hid (rfirst_one M M WF g 0 1 i ackS (numT 4 pid) (by omega) ⟨(cells_at HG.out 0 _ rfl).1, (cells_at HG.out 1 _ rfl).1, (cells_at HG.out 2 _ rfl).1, (cells_at HG.out 3 _ rfl).1, (cells_at HG.out 4 _ rfl).1, (cells_at HG.out 5 _ rfl).1⟩ (HI.out.1.keep HK.out.hb) (numT_ok _ _ _ _ (by omega) HI.out.2))
    generalize fsB i true ackS (numT 4 pid) = r at *
    refine planT_run rfl ?_ (fun K hK => ?_)
    focus (rfl)
    go_simp
    refine (HFI.out).mono ?_
    rintro e w4 ⟨rfl, hb9⟩
    have hS9 := hS2.keep hb9
    have HB2 := Lib.hid (HK.out.keep hb9)
    refine hK.out _ _ hS9 ?_
    clear hK K 
    (try simp only [Act.put, List.setIfInBounds_toArray, List.set_cons_zero, List.set_cons_succ])
    iterate 5 (first | (refine planT_skip rfl ?_ ?_; (focus (rfl)); (try simp only [Act.put, List.setIfInBounds_toArray, List.set_cons_zero, List.set_cons_succ])) | (refine planT_take (v := ?_) rfl ?_ (fun w hSw => ?_) ?_; rotate_left; (focus (rfl)); (focus (unfold ItS at hSw; (go_simp <;> with_reducible rfl))); (try simp only [Act.put, List.setIfInBounds_toArray, List.set_cons_zero, List.set_cons_succ])))
    refine planT_done ?_
    clear hS2 hS9 hb9 HK HFI HG
    have x4 : w4.cell? ⟨w.heap.size, 4, none⟩ = some (.slice i.x.ao i.x.l.length i.x.cap) := (cells_at HB2.out.h2 4 _ rfl).1
    cases r
    · have HF := Lib.hid (show res = false by rw [HE.out]; rfl)
      clear HE
      go_wp2_with (with_reducible refine stop_op (o := ⟨_, .store 25 (.tmp 4) (.tmp 25), _, _, _, _⟩) ?_)
      refine Lib.hid ?_
      refine wpList_store_row (o := ⟨none, _, _, _, _, _⟩) rfl 25 (.tmp 4) (.tmp 25) rfl (w.heap.size + 1) #[.int .i8 0, .int .i64 0, .string ⟨#[]⟩, .string ⟨#[]⟩, .slice none 0 0] rfl rfl 25 zT (HB2.out.h4) (infoTM' _ rfl) rfl (by simp [Value.oneCell']) ?_
      have HZ := Lib.hid (And.intro (setRow_heap w4 (w.heap.size + 1) zT #[.int .i8 0, .int .i64 0, .string ⟨#[]⟩, .string ⟨#[]⟩, .slice none 0 0] 25 (0, 0) HB2.out.h4) (bel_setRow HB2.out.hb HB2.out.hb.size (Nat.le_succ _) #[.int .i8 0, .int .i64 0, .string ⟨#[]⟩, .string ⟨#[]⟩, .slice none 0 0]))
      generalize w4.setRow (w.heap.size + 1) #[.int .i8 0, .int .i64 0, .string ⟨#[]⟩, .string ⟨#[]⟩, .slice none 0 0] = w5 at *
      clear HB2
      go_wp2_with fail
      exact ret_row HZ.out.1 rfl Tryz.underlying25 rfl (infoTM' _ rfl) rfl rfl ⟨HZ.out.2, numT 0 0, by rw [HF.out]; rfl, numT_ok _ _ _ _ (by omega) (by omega), by rw [HF.out]; rfl⟩
    · by_cases hl : i.x.l.length = 3
      · have HF := Lib.hid (show res = true by rw [HE.out, hl]; rfl)
        obtain ⟨b, off, y, e1, e2, hy, hpp, -⟩ := HI.out.1.part (i := 2) (by omega)
        obtain ⟨c0, c1, c2, c3, c4⟩ := hpp.keep HB2.out.hb
        have HY := Lib.hid (And.intro hy (show ackT i.x.t true = y.t by unfold ackT; rw [if_pos rfl, show i.x.t.l = i.x.l from rfl, e2]; rfl))
        rw [hl, e1] at x4
        rw [show off + 2 * 5 = off + 10 by omega] at c0 c1 c2 c3 c4
        clear HE hl hpp hy e2 e1
        go_wp2_with (with_reducible refine stop_op (o := ⟨_, .store 25 (.tmp 4) (.tmp 30), _, _, _, _⟩) ?_)
        refine Lib.hid ?_
        refine wpList_store_row (o := ⟨none, _, _, _, _, _⟩) rfl 25 (.tmp 4) (.tmp 30) rfl (w.heap.size + 1) #[.int .i8 y.k, .int .i64 y.n, .string y.s, .string y.u, .slice y.ao y.l.length y.cap] rfl rfl 25 zT (HB2.out.h4) (infoTM' _ rfl) rfl (by simp [Value.oneCell']) ?_
        have HZ := Lib.hid (And.intro (setRow_heap w4 (w.heap.size + 1) zT #[.int .i8 y.k, .int .i64 y.n, .string y.s, .string y.u, .slice y.ao y.l.length y.cap] 25 (0, 0) HB2.out.h4) (bel_setRow HB2.out.hb HB2.out.hb.size (Nat.le_succ _) #[.int .i8 y.k, .int .i64 y.n, .string y.s, .string y.u, .slice y.ao y.l.length y.cap]))
        generalize w4.setRow (w.heap.size + 1) #[.int .i8 y.k, .int .i64 y.n, .string y.s, .string y.u, .slice y.ao y.l.length y.cap] = w5 at *
        clear HB2 c0 c1 c2 c3 c4 x4
        go_wp2_with fail
        exact ret_row HZ.out.1 rfl Tryz.underlying25 rfl (infoTM' _ rfl) rfl rfl ⟨HZ.out.2, y, by rw [HF.out]; rfl, HY.out.1.keep HZ.out.2, by rw [HF.out]; exact HY.out.2.symm⟩
      · have q1 : ((i.x.l.length : Int) != 3) = true := by simp; omega
        have HF := Lib.hid (show res = false by rw [HE.out]; simp [hl])
        clear HE hl
        go_wp2_with (with_reducible refine stop_op (o := ⟨_, .store 25 (.tmp 4) (.tmp 25), _, _, _, _⟩) ?_)
        refine Lib.hid ?_
        refine wpList_store_row (o := ⟨none, _, _, _, _, _⟩) rfl 25 (.tmp 4) (.tmp 25) rfl (w.heap.size + 1) #[.int .i8 0, .int .i64 0, .string ⟨#[]⟩, .string ⟨#[]⟩, .slice none 0 0] rfl rfl 25 zT (HB2.out.h4) (infoTM' _ rfl) rfl (by simp [Value.oneCell']) ?_
        have HZ := Lib.hid (And.intro (setRow_heap w4 (w.heap.size + 1) zT #[.int .i8 0, .int .i64 0, .string ⟨#[]⟩, .string ⟨#[]⟩, .slice none 0 0] 25 (0, 0) HB2.out.h4) (bel_setRow HB2.out.hb HB2.out.hb.size (Nat.le_succ _) #[.int .i8 0, .int .i64 0, .string ⟨#[]⟩, .string ⟨#[]⟩, .slice none 0 0]))
        generalize w4.setRow (w.heap.size + 1) #[.int .i8 0, .int .i64 0, .string ⟨#[]⟩, .string ⟨#[]⟩, .slice none 0 0] = w5 at *
        clear HB2
        go_wp2_with fail
        exact ret_row HZ.out.1 rfl Tryz.underlying25 rfl (infoTM' _ rfl) rfl rfl ⟨HZ.out.2, numT 0 0, by rw [HF.out]; rfl, numT_ok _ _ _ _ (by omega) (by omega), by rw [HF.out]; rfl⟩
  · skip
    refine planT_run rfl ?_ (fun K hK => ?_)
    focus (rfl)
    go_simp
    refine (rpid_x WD pid).mono ?_
    rintro e WE ⟨rfl, hb3⟩
    have hS1 := hS.keep hb3
    have H3 := Lib.hid (H2.out.keep hb3)
    refine hK.out _ _ hS1 ?_
    clear hK K 
    (try simp only [Act.put, List.setIfInBounds_toArray, List.set_cons_zero, List.set_cons_succ])
    clear hS hb3 H2
    have hb4 := (Below.refl WE.heap.size WE).alloc (Nat.le_refl _) (.cells #[.int .i8 i.x.k, .int .i64 i.x.n, .string i.x.s, .string i.x.u, .slice i.x.ao i.x.l.length i.x.cap, .bool i.o] 59)
    have hS2 := hS1.keep hb4
    refine planT_run rfl ?_ (fun K hK => ?_)
    focus (rfl)
    go_simp
    refine hK.out _ _ (hS2) ?_
    clear hK K
    (try simp only [Act.put, List.setIfInBounds_toArray, List.set_cons_zero, List.set_cons_succ])
    have HK := Lib.hid (H3.out.keep hb4)
    have HG := Lib.hid (heap_new WE (.cells #[.int .i8 i.x.k, .int .i64 i.x.n, .string i.x.s, .string i.x.u, .slice i.x.ao i.x.l.length i.x.cap, .bool i.o] 59))
    clear hS1 hb4 H3
    generalize WE.alloc (.cells #[.int .i8 i.x.k, .int .i64 i.x.n, .string i.x.s, .string i.x.u, .slice i.x.ao i.x.l.length i.x.cap, .bool i.o] 59) = WF at *
    generalize WE.heap.size = g at *
    have HFI : Hid (Calls Tryz.prog 32 #[.slice (some ⟨g, 0, none⟩) 1 1, .string ⟨#[97, 99, 107]⟩, .agg #[.int .i8 4, .int .i64 pid, .string ⟨#[]⟩, .string ⟨#[]⟩, .slice none 0 0], .bool true] WF (RfP WF (fsB i true ackS (numT 4 pid)))) := Lib.hid (rfirst_one M M WF g 0 1 i ackS (numT 4 pid) (by omega) ⟨(cells_at HG.out 0 _ rfl).1, (cells_at HG.out 1 _ rfl).1, (cells_at HG.out 2 _ rfl).1, (cells_at HG.out 3 _ rfl).1, (cells_at HG.out 4 _ rfl).1, (cells_at HG.out 5 _ rfl).1⟩ (HI.out.1.keep HK.out.hb) (numT_ok _ _ _ _ (by omega) HI.out.2))
    generalize fsB i true ackS (numT 4 pid) = r at *
    refine planT_run rfl ?_ (fun K hK => ?_)
    focus (rfl)
    go_simp
    refine (HFI.out).mono ?_
    rintro e w4 ⟨rfl, hb9⟩
    have hS9 := hS2.keep hb9
    have HB2 := Lib.hid (HK.out.keep hb9)
    refine hK.out _ _ hS9 ?_
    clear hK K 
    (try simp only [Act.put, List.setIfInBounds_toArray, List.set_cons_zero, List.set_cons_succ])
    iterate 5 (first | (refine planT_skip rfl ?_ ?_; (focus (rfl)); (try simp only [Act.put, List.setIfInBounds_toArray, List.set_cons_zero, List.set_cons_succ])) | (refine planT_take (v := ?_) rfl ?_ (fun w hSw => ?_) ?_; rotate_left; (focus (rfl)); (focus (unfold ItS at hSw; (go_simp <;> with_reducible rfl))); (try simp only [Act.put, List.setIfInBounds_toArray, List.set_cons_zero, List.set_cons_succ])))
    refine planT_done ?_
    clear hS2 hS9 hb9 HK HFI HG
    have x4 : w4.cell? ⟨w.heap.size, 4, none⟩ = some (.slice i.x.ao i.x.l.length i.x.cap) := (cells_at HB2.out.h2 4 _ rfl).1
    cases r
    · have HF := Lib.hid (show res = false by rw [HE.out]; rfl)
      clear HE
      go_wp2_with (with_reducible refine stop_op (o := ⟨_, .store 25 (.tmp 4) (.tmp 25), _, _, _, _⟩) ?_)
      refine Lib.hid ?_
      refine wpList_store_row (o := ⟨none, _, _, _, _, _⟩) rfl 25 (.tmp 4) (.tmp 25) rfl (w.heap.size + 1) #[.int .i8 0, .int .i64 0, .string ⟨#[]⟩, .string ⟨#[]⟩, .slice none 0 0] rfl rfl 25 zT (HB2.out.h4) (infoTM' _ rfl) rfl (by simp [Value.oneCell']) ?_
      have HZ := Lib.hid (And.intro (setRow_heap w4 (w.heap.size + 1) zT #[.int .i8 0, .int .i64 0, .string ⟨#[]⟩, .string ⟨#[]⟩, .slice none 0 0] 25 (0, 0) HB2.out.h4) (bel_setRow HB2.out.hb HB2.out.hb.size (Nat.le_succ _) #[.int .i8 0, .int .i64 0, .string ⟨#[]⟩, .string ⟨#[]⟩, .slice none 0 0]))
      generalize w4.setRow (w.heap.size + 1) #[.int .i8 0, .int .i64 0, .string ⟨#[]⟩, .string ⟨#[]⟩, .slice none 0 0] = w5 at *
      clear HB2
      go_wp2_with fail
      exact ret_row HZ.out.1 rfl Tryz.underlying25 rfl (infoTM' _ rfl) rfl rfl ⟨HZ.out.2, numT 0 0, by rw [HF.out]; rfl, numT_ok _ _ _ _ (by omega) (by omega), by rw [HF.out]; rfl⟩
    · by_cases hl : i.x.l.length = 3
      · have HF := Lib.hid (show res = true by rw [HE.out, hl]; rfl)
        obtain ⟨b, off, y, e1, e2, hy, hpp, -⟩ := HI.out.1.part (i := 2) (by omega)
        obtain ⟨c0, c1, c2, c3, c4⟩ := hpp.keep HB2.out.hb
        have HY := Lib.hid (And.intro hy (show ackT i.x.t true = y.t by unfold ackT; rw [if_pos rfl, show i.x.t.l = i.x.l from rfl, e2]; rfl))
        rw [hl, e1] at x4
        rw [show off + 2 * 5 = off + 10 by omega] at c0 c1 c2 c3 c4
        clear HE hl hpp hy e2 e1
        go_wp2_with (with_reducible refine stop_op (o := ⟨_, .store 25 (.tmp 4) (.tmp 30), _, _, _, _⟩) ?_)
        refine Lib.hid ?_
        refine wpList_store_row (o := ⟨none, _, _, _, _, _⟩) rfl 25 (.tmp 4) (.tmp 30) rfl (w.heap.size + 1) #[.int .i8 y.k, .int .i64 y.n, .string y.s, .string y.u, .slice y.ao y.l.length y.cap] rfl rfl 25 zT (HB2.out.h4) (infoTM' _ rfl) rfl (by simp [Value.oneCell']) ?_
        have HZ := Lib.hid (And.intro (setRow_heap w4 (w.heap.size + 1) zT #[.int .i8 y.k, .int .i64 y.n, .string y.s, .string y.u, .slice y.ao y.l.length y.cap] 25 (0, 0) HB2.out.h4) (bel_setRow HB2.out.hb HB2.out.hb.size (Nat.le_succ _) #[.int .i8 y.k, .int .i64 y.n, .string y.s, .string y.u, .slice y.ao y.l.length y.cap]))
        generalize w4.setRow (w.heap.size + 1) #[.int .i8 y.k, .int .i64 y.n, .string y.s, .string y.u, .slice y.ao y.l.length y.cap] = w5 at *
        clear HB2 c0 c1 c2 c3 c4 x4
        go_wp2_with fail
        exact ret_row HZ.out.1 rfl Tryz.underlying25 rfl (infoTM' _ rfl) rfl rfl ⟨HZ.out.2, y, by rw [HF.out]; rfl, HY.out.1.keep HZ.out.2, by rw [HF.out]; exact HY.out.2.symm⟩
      · have q1 : ((i.x.l.length : Int) != 3) = true := by simp; omega
        have HF := Lib.hid (show res = false by rw [HE.out]; simp [hl])
        clear HE hl
        go_wp2_with (with_reducible refine stop_op (o := ⟨_, .store 25 (.tmp 4) (.tmp 25), _, _, _, _⟩) ?_)
        refine Lib.hid ?_
        refine wpList_store_row (o := ⟨none, _, _, _, _, _⟩) rfl 25 (.tmp 4) (.tmp 25) rfl (w.heap.size + 1) #[.int .i8 0, .int .i64 0, .string ⟨#[]⟩, .string ⟨#[]⟩, .slice none 0 0] rfl rfl 25 zT (HB2.out.h4) (infoTM' _ rfl) rfl (by simp [Value.oneCell']) ?_
        have HZ := Lib.hid (And.intro (setRow_heap w4 (w.heap.size + 1) zT #[.int .i8 0, .int .i64 0, .string ⟨#[]⟩, .string ⟨#[]⟩, .slice none 0 0] 25 (0, 0) HB2.out.h4) (bel_setRow HB2.out.hb HB2.out.hb.size (Nat.le_succ _) #[.int .i8 0, .int .i64 0, .string ⟨#[]⟩, .string ⟨#[]⟩, .slice none 0 0]))
        generalize w4.setRow (w.heap.size + 1) #[.int .i8 0, .int .i64 0, .string ⟨#[]⟩, .string ⟨#[]⟩, .slice none 0 0] = w5 at *
        clear HB2
        go_wp2_with fail
        exact ret_row HZ.out.1 rfl Tryz.underlying25 rfl (infoTM' _ rfl) rfl rfl ⟨HZ.out.2, numT 0 0, by rw [HF.out]; rfl, numT_ok _ _ _ _ (by omega) (by omega), by rw [HF.out]; rfl⟩
end Go.Proofs.YthpmdeofdlcccaaGreatDoor
