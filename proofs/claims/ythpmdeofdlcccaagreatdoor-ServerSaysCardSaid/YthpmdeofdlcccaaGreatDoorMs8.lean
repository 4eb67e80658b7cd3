/- the unit's told. Conditions: what is handed over reads; the letters stand. -/
import Derived.Test.YthpmdeofdlcccaaGreatDoorMs7
namespace Go.Proofs.YthpmdeofdlcccaaGreatDoor
open Go.ChangeShapes Go.WideShapes Go.ChangeAt Go.RowKit
set_option linter.unusedVariables false
set_option linter.unusedSimpArgs false
set_option maxRecDepth 100000
def repS : ByteArray := ⟨#[114, 101, 112, 108, 121]⟩
def norS2 : ByteArray := ⟨#[110, 111, 114, 101, 112, 108, 121]⟩
/-- what told comes to -/
def ToR (N : Nat → Prop) (w' : World) (m m' : Mc) (E1 : List Ef) : Prop :=
  (E1 = [] ∨ (m.ph = 3 ∧ ∃ rc a, E1 = [sendE rc a])) ∧ ∃ (U V : TE) (dl ph : Int), m' = { m with U := U, V := V, dl := dl, ph := ph } ∧ (ph = 2 ∨ ph = 5) ∧ TeOk N w' U ∧ TeOk N w' V
def ToP (M : Nat → Prop) (w : World) (ub : Nat) (m : Mc) (i : Inn) (ev : Value) (E : List Ef) (e : Ending) (w' : World) : Prop :=
  (∃ v, e = .returned v) ∧ ∃ ev' m' E1, UnOk w' ub (unL m' i) ev' (E ++ E1) ∧ Chg (UnB ub ev) w w' ∧ (∀ k, k < w.heap.size → ev'.ownBlock = some k → ev.ownBlock = some k) ∧ ToR (MU M ub ev') w' m m' E1
theorem TeOk.parts {M : Nat → Prop} {w : World} {x : TE} (h : TeOk M w x) (h0 : 0 < x.l.length) : ∃ b off, x.ao = some ⟨b, off, none⟩ ∧ ¬ M b ∧ ∀ j, j < x.l.length → ∃ y : TE, TeOk M w y ∧ PtAt w b (off + j * 5) y := by
  obtain ⟨b, off, y, e, -, -, -, hb⟩ := h.part h0
  refine ⟨b, off, e, hb, fun j hj => ?_⟩
  obtain ⟨b', off', y', e', -, h1, h2, -⟩ := h.part hj
  rw [e] at e'
  injection e' with e'
  injection e' with e1 e2
  subst e1 e2
  exact ⟨y', h1, h2⟩
theorem PtAt.chg {w w' : World} {b o : Nat} {x : TE} {S : Nat → Prop} (h : PtAt w b o x) (hc : Chg S w w') (hb : ¬ S b) : PtAt w' b o x := ⟨hc.cell h.c0 hb, hc.cell h.c1 hb, hc.cell h.c2 hb, hc.cell h.c3 hb, hc.cell h.c4 hb⟩
theorem ureply_x (M : Nat → Prop) (w : World) (hM : ∀ k, M k → k < w.heap.size) (hc : Cells w 0 letL) (ub : Nat) (m : Mc) (i : Inn) (ev : Value) (E : List Ef) (h : UnOk w ub (unL m i) ev E) (hn : E.length ≤ 100) (y : TE) (hx : TeOk (MU M ub ev) w y)
    (hT : TeOk (MU M ub ev) w m.T) (hl : m.T.l.length = 2) :
    Calls Tryz.prog 76 #[.pointer (some ⟨ub, 0, none⟩), .agg #[.int .i8 y.k, .int .i64 y.n, .string y.s, .string y.u, .slice y.ao y.l.length y.cap]] w (fun e w' => ∃ (rc : Int) (a : TE), UnT M w ub ev (unL m i) (E ++ [sendE rc a]) a e w') := ureply_any M w hM hc ub m i ev E h hn y hx hT hl
theorem ustop_x (w : World) (ub : Nat) (m : Mc) (i : Inn) (ev : Value) (E : List Ef) (h : UnOk w ub (unL m i) ev E) (x : TE) :
    Calls Tryz.prog 77 #[.pointer (some ⟨ub, 0, none⟩), .agg #[.int .i8 x.k, .int .i64 x.n, .string x.s, .string x.u, .slice x.ao x.l.length x.cap]] w (UnP w ub ev (unL { m with U := x, ph := 5 } i) E) := ustop_any w ub m i ev E h x
theorem utime_3 (M : Nat → Prop) (w : World) (hc : Cells w 0 letL) (ub : Nat) (m : Mc) (i : Inn) (ev : Value) (E : List Ef) (h : UnOk w ub (unL m i) ev E) (hx : TeOk M w i.got) : Calls Tryz.prog 72 #[.pointer (some ⟨ub, 0, none⟩), .agg #[.int .i8 i.got.k, .int .i64 i.got.n, .string i.got.s, .string i.got.u, .slice i.got.ao i.got.l.length i.got.cap], .int .i64 3] w (TiPost w) := utime_any M w hc ub m i ev E h i.got hx 3 (.inr rfl)
/-- what stands while told goes on -/
structure TdG (w W : World) (M : Nat → Prop) (ub : Nat) (m : Mc) (i : Inn) (ev0 ev : Value) (E : List Ef) (q2 : Nat) : Prop where
  hc : Chg (UnB ub ev0) w W
  hn : ∀ k, k < w.heap.size → ev.ownBlock = some k → ev0.ownBlock = some k
  hu : UnOk W ub (unL m i) ev E
  hq : ¬ UnB ub ev q2
  h2 : W.heap[q2]? = some (.cells i.got.cells.toArray 25 (0, 0))
  tT : TeOk (MU M ub ev) W m.T
  tU : TeOk (MU M ub ev) W m.U
  tV : TeOk (MU M ub ev) W m.V
section
variable {w W W' : World} {M : Nat → Prop} {ub : Nat} {m m' : Mc} {i : Inn} {ev0 ev ev' : Value} {E E' : List Ef} {q2 : Nat}
theorem TdG.keep (h : TdG w W M ub m i ev0 ev E q2) (hb : Below W.heap.size W W') : TdG w W' M ub m i ev0 ev E q2 :=
  ⟨h.hc.trans ((chg_of_below hb (fun _ => False)).mono fun _ _ h => h.elim), h.hn, h.hu.keep hb, h.hq, keep_heap h.h2 hb, h.tT.keep hb, h.tU.keep hb, h.tV.keep hb⟩
theorem TdG.step (h : TdG w W M ub m i ev0 ev E q2) (hu : UnOk W' ub (unL m' i) ev' E') (hc : Chg (UnB ub ev) W W') (hb : ∀ k, k < W.heap.size → ev'.ownBlock = some k → ev.ownBlock = some k) (hU : TeOk (MU M ub ev) W m'.U) (hV : TeOk (MU M ub ev) W m'.V) (hT : m'.T = m.T := by rfl) : TdG w W' M ub m' i ev0 ev' E' q2 :=
  ⟨un_trans h.hc h.hn hc, fun k hl e => h.hn k hl (hb k (Nat.lt_of_lt_of_le hl h.hc.size) e), hu, fun e => h.hq (e.imp id (hb q2 (heap_lt h.h2))), hc.heap h.h2 h.hq, hT ▸ un_te hc hb h.tT, un_te hc hb hU, un_te hc hb hV⟩
theorem TdG.set (h : TdG w W M ub m i ev0 ev E q2) {o : Nat} {vs : List Value} (hl : o + vs.length ≤ 38) (he : setL (unL m i) o vs = unL m' i) (hU : TeOk (MU M ub ev) W m'.U) (hV : TeOk (MU M ub ev) W m'.V) (hT : m'.T = m.T := by rfl) : TdG w (W.setCells ub o vs) M ub m' i ev0 ev E q2 :=
  h.step (he ▸ h.hu.setL vs o hl) ((chg_cells vs ub o W).mono fun k _ e => .inl e) (fun _ _ h => h) hU hV hT
end
def TdS (ub : Nat) (x : TE) (tl : Value) (W : World) : Prop := W.cell? ⟨ub, 32, none⟩ = some (.int .i8 x.k) ∧ W.cell? ⟨ub, 33, none⟩ = some (.int .i64 x.n) ∧ W.cell? ⟨ub, 34, none⟩ = some (.string x.s) ∧ W.cell? ⟨ub, 35, none⟩ = some (.string x.u) ∧ W.cell? ⟨ub, 36, none⟩ = some (.slice x.ao x.l.length x.cap) ∧ W.cell? ⟨ub, 9, none⟩ = some tl
theorem TdS.of {w : World} {ub : Nat} {m : Mc} {i : Inn} {ev : Value} {E : List Ef} (h : UnOk w ub (unL m i) ev E) : TdS ub i.got (.slice m.T.ao m.T.l.length m.T.cap) w := ⟨h.cell (i := 32) rfl, h.cell (i := 33) rfl, h.cell (i := 34) rfl, h.cell (i := 35) rfl, h.cell (i := 36) rfl, h.cell (i := 9) rfl⟩
set_option maxHeartbeats 16000000 in
theorem told_any (M : Nat → Prop) (w : World) (hM : ∀ k, M k → k < w.heap.size) (hc : Cells w 0 letL) (ub : Nat) (m : Mc) (i : Inn) (ev : Value) (E : List Ef) (h : UnOk w ub (unL m i) ev E) (hn : E.length ≤ 50) (hlv : ¬ UnB ub ev 0)
    (hg : TeOk (MU M ub ev) w i.got) (hT : TeOk (MU M ub ev) w m.T) (hU : TeOk (MU M ub ev) w m.U) (hV : TeOk (MU M ub ev) w m.V) :
    Calls Tryz.prog 49 #[.pointer (some ⟨ub, 0, none⟩)] w (ToP M w ub m i ev E) := by
  have HMU := Lib.hid (mu_lt h hM)
  have HX := Lib.hid (And.intro hg (And.intro hM (And.intro hc hlv)))
  have hdr : Below w.heap.size w w.drew := (Below.refl _ _).drew
  have HR := Lib.hid (And.intro (h.keep hdr) hdr)
  have HV := Lib.hid (And.intro hT (And.intro hU hV))
  have hS := TdS.of HR.out.1
  clear h hM hc hg hT hU hV hlv hdr
  go_enter Tryz.func49, Tryz.ntmps49
  go_upto_region 0 with fail
  refine region_plan (TdS ub i.got (.slice m.T.ao m.T.l.length m.T.cap)) [(0, 0), (1, 0), (2, 0), (3, 0), (4, 0), (5, 0), (6, 0), (7, 0), (8, 0), (9, 0), (10, 0), (11, 1), (12, 1), (13, 0)] (by kernel_rfl) (by kernel_rfl) (by kernel_rfl) hS ?_
  generalize hWD : w.drew = WD at *
  have hsz : WD.heap.size = w.heap.size := by rw [← hWD]; rfl
  clear hWD
  iterate 11 (first | (refine plan_skip rfl ?_ ?_; (focus (rfl)); (try simp only [Act.put, List.setIfInBounds_toArray, List.set_cons_zero, List.set_cons_succ])) | (refine plan_take (v := ?_) rfl ?_ (fun w hSw => ?_) ?_; rotate_left; (focus (rfl)); (focus (unfold TdS at hSw; (go_simp <;> with_reducible rfl))); (try simp only [Act.put, List.setIfInBounds_toArray, List.set_cons_zero, List.set_cons_succ])))
  have hba := (Below.refl WD.heap.size WD).alloc (Nat.le_refl _) (.cells zT 25)
  have hz := heap_new WD (.cells zT 25)
  have HRa := Lib.hid (And.intro (HR.out.1.keep hba) (HR.out.2.trans (hba.mono HR.out.2.size)))
  have hSa := TdS.of HRa.out.1
  refine plan_run rfl ?_ (fun K hK => ?_)
  focus (rfl)
  go_simp
  refine hK.out _ _ (hSa) ?_
  clear hK K
  (try simp only [Act.put, List.setIfInBounds_toArray, List.set_cons_zero, List.set_cons_succ])
  clear hS HR hba
  generalize WD.alloc (.cells zT 25) = Wa at *
  rw [hsz] at hz
  try simp only [hsz]
  clear hsz
  have hc4 := chg_setRow Wa w.heap.size #[.int .i8 i.got.k, .int .i64 i.got.n, .string i.got.s, .string i.got.u, .slice i.got.ao i.got.l.length i.got.cap]
  have hnq : ¬ UnB ub ev w.heap.size := fun e => Nat.lt_irrefl _ (HMU.out _ (.inr e))
  have hcc : Chg (UnB ub ev) w (Wa.setRow w.heap.size #[.int .i8 i.got.k, .int .i64 i.got.n, .string i.got.s, .string i.got.u, .slice i.got.ao i.got.l.length i.got.cap]) := (chg_of_below HRa.out.2 (UnB ub ev)).grow hc4 (fun k hk e => by
    have e : k = w.heap.size := e
    omega)
  have huW : UnOk (Wa.setRow w.heap.size #[.int .i8 i.got.k, .int .i64 i.got.n, .string i.got.s, .string i.got.u, .slice i.got.ao i.got.l.length i.got.cap]) ub (unL m i) ev E := ⟨hc4.heap HRa.out.1.hU (fun e => hnq (.inl e.symm)), HRa.out.1.hcs, own_chg HRa.out.1.hown hc4 fun k hk e => hnq (.inr ((show k = w.heap.size from e) ▸ hk))⟩
  have hte : ∀ x : TE, TeOk (MU M ub ev) w x → TeOk (MU M ub ev) (Wa.setRow w.heap.size #[.int .i8 i.got.k, .int .i64 i.got.n, .string i.got.s, .string i.got.u, .slice i.got.ao i.got.l.length i.got.cap]) x := fun x hx => hx.chg (hcc.mono fun _ _ h => h) (fun k hk _ => .inr hk) (fun k hk _ => hk)
  have H1 : Hid (TdG w (Wa.setRow w.heap.size #[.int .i8 i.got.k, .int .i64 i.got.n, .string i.got.s, .string i.got.u, .slice i.got.ao i.got.l.length i.got.cap]) M ub m i ev ev E w.heap.size) := Lib.hid ⟨hcc, fun _ _ h => h, huW, hnq, setRow_heap Wa w.heap.size _ _ 25 (0, 0) hz, hte _ HV.out.1, hte _ HV.out.2.1, hte _ HV.out.2.2⟩
  have hSb := TdS.of huW
  refine plan_run rfl ?_ (fun K hK => ?_)
  focus (rfl)
  refine wp_store_row 25 (.tmp 2) (.tmp 12) rfl w.heap.size #[.int .i8 i.got.k, .int .i64 i.got.n, .string i.got.s, .string i.got.u, .slice i.got.ao i.got.l.length i.got.cap] rfl rfl 25 zT hz (infoTM' _ rfl) rfl (by simp [Value.oneCell']) ?_
  refine hK.out _ _ (hSb) ?_
  clear hK K
  (try simp only [Act.put, List.setIfInBounds_toArray, List.set_cons_zero, List.set_cons_succ])
  iterate 1 (first | (refine plan_skip rfl ?_ ?_; (focus (rfl)); (try simp only [Act.put, List.setIfInBounds_toArray, List.set_cons_zero, List.set_cons_succ])) | (refine plan_take (v := ?_) rfl ?_ (fun w hSw => ?_) ?_; rotate_left; (focus (rfl)); (focus (unfold TdS at hSw; (go_simp <;> with_reducible rfl))); (try simp only [Act.put, List.setIfInBounds_toArray, List.set_cons_zero, List.set_cons_succ])))
  refine plan_done ?_
  clear hSa hSb hc4 hnq hcc huW hte HRa HV hz
  generalize Wa.setRow w.heap.size #[.int .i8 i.got.k, .int .i64 i.got.n, .string i.got.s, .string i.got.u, .slice i.got.ao i.got.l.length i.got.cap] = W1 at *
  have c0 := H1.out.hu.cell (i := 0) (v := .int .i8 m.ph) rfl
  have c30 := H1.out.hu.cell (i := 30) (v := .int .i8 i.cls) rfl
  have t0 := H1.out.hu.cell (i := 5) (v := .int .i8 m.T.k) rfl
  generalize hq2 : w.heap.size = q2 at H1 ⊢
  clear hq2
  go_upto_region 2 with fail
  go_cut [3, 4, 5] from 25 to 59 (fun lv vv bv wx => ∃ (v b : Bool), vv = .bool v ∧ bv = .bool b ∧ wx = W1 ∧ Hid (b = true → m.ph = 3 ∧ m.T.l.length = 2))
  case first =>
    by_cases h3 : m.ph = 3
    · rw [h3] at c0
      by_cases h5 : m.T.k = 5
      · rw [h5] at t0
        by_cases hl : m.T.l.length = 2
        · have HE := Lib.hid (And.intro h3 hl)
          obtain ⟨b2, off, e1, -, hpa⟩ := H1.out.tT.parts (by omega)
          obtain ⟨y, -, py⟩ := hpa 0 (by omega)
          obtain ⟨z, -, pz⟩ := hpa 1 (by omega)
          have p0 := py.c0
          have p1 := pz.c0
          simp only [Nat.reduceMul, Nat.add_zero] at p0 p1
          have hl2 : (m.T.l.length : Int) = 2 := by omega
          clear hpa py pz h3 h5
          by_cases hy : y.k = 4
          · rw [hy] at p0
            by_cases hz : z.k = 2
            · rw [hz] at p1
              clear hy hz
              go_wp2_with fail
              go_meet
              exact ⟨_, _, rfl, rfl, rfl, Lib.hid fun _ => HE.out⟩
            · have q1 : (z.k == 2) = false := by simp [hz]
              clear hy hz
              go_wp2_with fail
              go_meet
              exact ⟨_, _, rfl, rfl, rfl, Lib.hid fun _ => HE.out⟩
          · have q1 : (y.k == 4) = false := by simp [hy]
            clear hy
            go_wp2_with fail
            go_meet
            exact ⟨_, _, rfl, rfl, rfl, Lib.hid fun _ => HE.out⟩
        · have q1 : ((m.T.l.length : Int) == 2) = false := by simp; omega
          clear h3 h5 hl
          go_wp2_with fail
          go_meet
          exact ⟨_, _, rfl, rfl, rfl, Lib.hid fun h => by cases h⟩
      · have q1 : (m.T.k == 5) = false := by simp [h5]
        clear h3 h5
        go_wp2_with fail
        go_meet
        exact ⟨_, _, rfl, rfl, rfl, Lib.hid fun h => by cases h⟩
    · have q1 : (m.ph == 3) = false := by simp [h3]
      clear h3
      go_wp2_with fail
      go_meet
      exact ⟨_, _, rfl, rfl, rfl, Lib.hid fun h => by cases h⟩
  case rest =>
    obtain ⟨v, b, rfl, rfl, rfl, HA⟩ := hcut
    clear c0 c30 t0
    cases v
    · have hk := trivial
      clear hk
      go_wp2_with fail
      refine (ureason_x (MU M ub ev) wc (fun k hk => Nat.lt_of_lt_of_le (HMU.out k hk) H1.out.hc.size) (let_chg HX.out.2.2.1 H1.out.hc HX.out.2.2.2) ub m i ev E H1.out.hu (un_te H1.out.hc H1.out.hn HX.out.1)).mono ?_
      rintro e W8 ⟨x, rfl, hx, hb8⟩
      have H8 := Lib.hid (And.intro (H1.out.keep hb8) hx)
      clear hx hb8 H1
      have HC := Lib.hid (ustop_any W8 ub m i ev E H8.out.1.hu x)
      go_wp2_with fail
      refine HC.out.mono ?_
      clear HC
      rintro e W9 ⟨⟨v, rfl⟩, ev9, hu9, hc9, hb9⟩
      have HF := Lib.hid (H8.out.1.step (m' := { m with U := x, ph := 5 }) hu9 hc9 hb9 H8.out.2 H8.out.1.tV)
      clear hu9 hc9 hb9 H8
      go_wp2_with fail
      go_end0
      refine ⟨⟨_, rfl⟩, ev9, { m with U := x, ph := 5 }, [], ?_, ?_, ?_, ?_⟩
      · have := HF.out.hu
        rw [← List.append_nil E] at this
        exact this
      · exact HF.out.hc
      · exact HF.out.hn
      · exact ⟨.inl rfl, x, m.V, m.dl, 5, rfl, .inr rfl, HF.out.tU, HF.out.tV⟩
    · cases b
      · skip
        obtain ⟨g0, g1, g2, g3, g4⟩ := BxS.of H1.out.h2
        have HS := Lib.hid (sis_g (MU M ub ev) wc i stoS 3 (un_te H1.out.hc H1.out.hn HX.out.1) (by omega) (by omega))
        go_wp2_with fail
        refine HS.out.mono ?_
        clear HS
        rintro e V2 ⟨rfl, hbV⟩
        have H2 := Lib.hid (H1.out.keep hbV)
        clear hbV H1 g0 g1 g2 g3 g4
        cases hk : isB i.got.t stoS 3
        · clear hk
          obtain ⟨g0, g1, g2, g3, g4⟩ := BxS.of H2.out.h2
          have HS := Lib.hid (sis_g (MU M ub ev) V2 i norS2 2 (un_te H2.out.hc H2.out.hn HX.out.1) (by omega) (by omega))
          go_wp2_with fail
          refine HS.out.mono ?_
          clear HS
          rintro e V5 ⟨rfl, hbV⟩
          have H5 := Lib.hid (H2.out.keep hbV)
          clear hbV H2 g0 g1 g2 g3 g4
          cases hk : isB i.got.t norS2 2
          · clear hk
            obtain ⟨g0, g1, g2, g3, g4⟩ := BxS.of H5.out.h2
            have HS := Lib.hid (sis_g (MU M ub ev) V5 i norS2 3 (un_te H5.out.hc H5.out.hn HX.out.1) (by omega) (by omega))
            go_wp2_with fail
            refine HS.out.mono ?_
            clear HS
            rintro e V6 ⟨rfl, hbV⟩
            have H6 := Lib.hid (H5.out.keep hbV)
            clear hbV H5 g0 g1 g2 g3 g4
            cases hk : isB i.got.t norS2 3
            · skip
              clear hk
              go_wp2_with fail
              refine (ureason_x (MU M ub ev) V6 (fun k hk => Nat.lt_of_lt_of_le (HMU.out k hk) H6.out.hc.size) (let_chg HX.out.2.2.1 H6.out.hc HX.out.2.2.2) ub m i ev E H6.out.hu (un_te H6.out.hc H6.out.hn HX.out.1)).mono ?_
              rintro e W8 ⟨x, rfl, hx, hb8⟩
              have H8 := Lib.hid (And.intro (H6.out.keep hb8) hx)
              clear hx hb8 H6
              have HC := Lib.hid (ustop_any W8 ub m i ev E H8.out.1.hu x)
              go_wp2_with fail
              refine HC.out.mono ?_
              clear HC
              rintro e W9 ⟨⟨v, rfl⟩, ev9, hu9, hc9, hb9⟩
              have HF := Lib.hid (H8.out.1.step (m' := { m with U := x, ph := 5 }) hu9 hc9 hb9 H8.out.2 H8.out.1.tV)
              clear hu9 hc9 hb9 H8
              go_wp2_with fail
              go_end0
              refine ⟨⟨_, rfl⟩, ev9, { m with U := x, ph := 5 }, [], ?_, ?_, ?_, ?_⟩
              · have := HF.out.hu
                rw [← List.append_nil E] at this
                exact this
              · exact HF.out.hc
              · exact HF.out.hn
              · exact ⟨.inl rfl, x, m.V, m.dl, 5, rfl, .inr rfl, HF.out.tU, HF.out.tV⟩
            · skip
              have hl0 : 3 ≤ i.got.l.length := Nat.le_of_eq (isB_len hk).symm
              obtain ⟨b2, off, e1, hpb, hpa⟩ := HX.out.1.parts (by omega)
              have HPA := Lib.hid (And.intro (show ¬ UnB ub ev b2 from fun h => hpb (.inr h)) hpa)
              have HE1 := Lib.hid e1
              have hl1 : (1 : Int) < (i.got.l.length : Int) := by omega
              clear e1 hpb hpa hk
              obtain ⟨g0, g1, g2, g3, g4⟩ := BxS.of H6.out.h2
              go_wp2_with fail
              refine (utime_x (MU M ub ev) V6 (let_chg HX.out.2.2.1 H6.out.hc HX.out.2.2.2) ub m i ev E H6.out.hu (un_te H6.out.hc H6.out.hn HX.out.1)).mono ?_
              rintro e V9 ⟨dl, okd, rfl, hbV⟩
              have H9 := Lib.hid (H6.out.keep hbV)
              clear hbV H6 g0 g1 g2 g3 g4
              cases okd
              · clear hl0 hl1 HPA HE1
                have hk := trivial
                clear hk
                go_wp2_with fail
                refine (ureason_x (MU M ub ev) V9 (fun k hk => Nat.lt_of_lt_of_le (HMU.out k hk) H9.out.hc.size) (let_chg HX.out.2.2.1 H9.out.hc HX.out.2.2.2) ub m i ev E H9.out.hu (un_te H9.out.hc H9.out.hn HX.out.1)).mono ?_
                rintro e W8 ⟨x, rfl, hx, hb8⟩
                have H8 := Lib.hid (And.intro (H9.out.keep hb8) hx)
                clear hx hb8 H9
                have HC := Lib.hid (ustop_any W8 ub m i ev E H8.out.1.hu x)
                go_wp2_with fail
                refine HC.out.mono ?_
                clear HC
                rintro e W9 ⟨⟨v, rfl⟩, ev9, hu9, hc9, hb9⟩
                have HF := Lib.hid (H8.out.1.step (m' := { m with U := x, ph := 5 }) hu9 hc9 hb9 H8.out.2 H8.out.1.tV)
                clear hu9 hc9 hb9 H8
                go_wp2_with fail
                go_end0
                refine ⟨⟨_, rfl⟩, ev9, { m with U := x, ph := 5 }, [], ?_, ?_, ?_, ?_⟩
                · have := HF.out.hu
                  rw [← List.append_nil E] at this
                  exact this
                · exact HF.out.hc
                · exact HF.out.hn
                · exact ⟨.inl rfl, x, m.V, m.dl, 5, rfl, .inr rfl, HF.out.tU, HF.out.tV⟩
              · skip
                obtain ⟨y, hy, py⟩ := HPA.out.2 1 (by omega)
                have HY := Lib.hid (un_te H9.out.hc H9.out.hn hy)
                have HYC := Lib.hid (py.chg H9.out.hc HPA.out.1)
                obtain ⟨c0, c1, c2, c3, c4⟩ := HYC.out
                simp only [Nat.reduceMul] at c0 c1 c2 c3 c4
                have g4 := (BxS.of H9.out.h2).2.2.2.2
                rw [HE1.out] at g4
                clear hy py
                go_wp2_with (with_reducible refine stop_op (o := ⟨_, .store 25 (.tmp 166) (.tmp 163), _, _, _, _⟩) ?_)
                refine Lib.hid ?_
                refine wpList_store_mid (op := ⟨none, _, _, _, _, _⟩) rfl 25 (.tmp 166) (.tmp 163) rfl ub 15 #[.int .i8 y.k, .int .i64 y.n, .string y.s, .string y.u, .slice y.ao y.l.length y.cap] rfl rfl (H9.out.hu.there (by simp)) (infoTM' _ rfl) (by simp [Value.oneCell']) ?_
                have H10 := Lib.hid (H9.out.set (m' := { m with V := y }) (o := 15) (vs := #[.int .i8 y.k, .int .i64 y.n, .string y.s, .string y.u, .slice y.ao y.l.length y.cap].toList) (by simp) (setV m i y) H9.out.tU HY.out)
                clear c0 c1 c2 c3 c4 g4 HYC HY H9
                generalize V9.setCells ub 15 #[.int .i8 y.k, .int .i64 y.n, .string y.s, .string y.u, .slice y.ao y.l.length y.cap].toList = V10 at *
                have d3 := H10.out.hu.cell (i := 3) (v := .int .i64 m.dl) rfl
                have f3 := H10.out.hu.frozen (i := 3) (v := .int .i64 m.dl) rfl
                have d0 := H10.out.hu.cell (i := 0) (v := .int .i8 m.ph) rfl
                have f0 := H10.out.hu.frozen (i := 0) (v := .int .i8 m.ph) rfl
                have HF1 := Lib.hid (H10.out.set (m' := { m with V := y, dl := dl }) (o := 3) (vs := [.int .i64 dl]) (by simp) rfl H10.out.tU H10.out.tV)
                change Hid (TdG w (V10.setCell ⟨ub, 3, none⟩ (.int .i64 dl)) M ub { m with V := y, dl := dl } i ev ev E q2) at HF1
                have HF := Lib.hid (HF1.out.set (m' := { m with V := y, dl := dl, ph := 2 }) (o := 0) (vs := [.int .i8 2]) (by simp) rfl HF1.out.tU HF1.out.tV)
                change Hid (TdG w ((V10.setCell ⟨ub, 3, none⟩ (.int .i64 dl)).setCell ⟨ub, 0, none⟩ (.int .i8 2)) M ub { m with V := y, dl := dl, ph := 2 } i ev ev E q2) at HF
                clear HF1 H10
                go_wp2_with fail
                go_end0
                refine ⟨⟨_, rfl⟩, ev, { m with V := y, dl := dl, ph := 2 }, [], ?_, ?_, ?_, ?_⟩
                · have := HF.out.hu
                  first | exact this | (rw [← List.append_nil E] at this; exact this)
                · exact HF.out.hc
                · exact HF.out.hn
                · exact ⟨.inl rfl, m.U, y, dl, 2, rfl, .inl rfl, HF.out.tU, HF.out.tV⟩
          · skip
            have hl0 : 2 ≤ i.got.l.length := Nat.le_of_eq (isB_len hk).symm
            obtain ⟨b2, off, e1, hpb, hpa⟩ := HX.out.1.parts (by omega)
            have HPA := Lib.hid (And.intro (show ¬ UnB ub ev b2 from fun h => hpb (.inr h)) hpa)
            have HE1 := Lib.hid e1
            have hl1 : (1 : Int) < (i.got.l.length : Int) := by omega
            clear e1 hpb hpa hk
            obtain ⟨g0, g1, g2, g3, g4⟩ := BxS.of H5.out.h2
            go_wp2_with fail
            refine (utime_x (MU M ub ev) V5 (let_chg HX.out.2.2.1 H5.out.hc HX.out.2.2.2) ub m i ev E H5.out.hu (un_te H5.out.hc H5.out.hn HX.out.1)).mono ?_
            rintro e V9 ⟨dl, okd, rfl, hbV⟩
            have H9 := Lib.hid (H5.out.keep hbV)
            clear hbV H5 g0 g1 g2 g3 g4
            cases okd
            · clear hl0 hl1 HPA HE1
              have hk := trivial
              clear hk
              go_wp2_with fail
              refine (ureason_x (MU M ub ev) V9 (fun k hk => Nat.lt_of_lt_of_le (HMU.out k hk) H9.out.hc.size) (let_chg HX.out.2.2.1 H9.out.hc HX.out.2.2.2) ub m i ev E H9.out.hu (un_te H9.out.hc H9.out.hn HX.out.1)).mono ?_
              rintro e W8 ⟨x, rfl, hx, hb8⟩
              have H8 := Lib.hid (And.intro (H9.out.keep hb8) hx)
              clear hx hb8 H9
              have HC := Lib.hid (ustop_any W8 ub m i ev E H8.out.1.hu x)
              go_wp2_with fail
              refine HC.out.mono ?_
              clear HC
              rintro e W9 ⟨⟨v, rfl⟩, ev9, hu9, hc9, hb9⟩
              have HF := Lib.hid (H8.out.1.step (m' := { m with U := x, ph := 5 }) hu9 hc9 hb9 H8.out.2 H8.out.1.tV)
              clear hu9 hc9 hb9 H8
              go_wp2_with fail
              go_end0
              refine ⟨⟨_, rfl⟩, ev9, { m with U := x, ph := 5 }, [], ?_, ?_, ?_, ?_⟩
              · have := HF.out.hu
                rw [← List.append_nil E] at this
                exact this
              · exact HF.out.hc
              · exact HF.out.hn
              · exact ⟨.inl rfl, x, m.V, m.dl, 5, rfl, .inr rfl, HF.out.tU, HF.out.tV⟩
            · skip
              obtain ⟨y, hy, py⟩ := HPA.out.2 1 (by omega)
              have HY := Lib.hid (un_te H9.out.hc H9.out.hn hy)
              have HYC := Lib.hid (py.chg H9.out.hc HPA.out.1)
              obtain ⟨c0, c1, c2, c3, c4⟩ := HYC.out
              simp only [Nat.reduceMul] at c0 c1 c2 c3 c4
              have g4 := (BxS.of H9.out.h2).2.2.2.2
              rw [HE1.out] at g4
              clear hy py
              go_wp2_with (with_reducible refine stop_op (o := ⟨_, .store 25 (.tmp 166) (.tmp 163), _, _, _, _⟩) ?_)
              refine Lib.hid ?_
              refine wpList_store_mid (op := ⟨none, _, _, _, _, _⟩) rfl 25 (.tmp 166) (.tmp 163) rfl ub 15 #[.int .i8 y.k, .int .i64 y.n, .string y.s, .string y.u, .slice y.ao y.l.length y.cap] rfl rfl (H9.out.hu.there (by simp)) (infoTM' _ rfl) (by simp [Value.oneCell']) ?_
              have H10 := Lib.hid (H9.out.set (m' := { m with V := y }) (o := 15) (vs := #[.int .i8 y.k, .int .i64 y.n, .string y.s, .string y.u, .slice y.ao y.l.length y.cap].toList) (by simp) (setV m i y) H9.out.tU HY.out)
              clear c0 c1 c2 c3 c4 g4 HYC HY H9
              generalize V9.setCells ub 15 #[.int .i8 y.k, .int .i64 y.n, .string y.s, .string y.u, .slice y.ao y.l.length y.cap].toList = V10 at *
              have d3 := H10.out.hu.cell (i := 3) (v := .int .i64 m.dl) rfl
              have f3 := H10.out.hu.frozen (i := 3) (v := .int .i64 m.dl) rfl
              have d0 := H10.out.hu.cell (i := 0) (v := .int .i8 m.ph) rfl
              have f0 := H10.out.hu.frozen (i := 0) (v := .int .i8 m.ph) rfl
              have HF1 := Lib.hid (H10.out.set (m' := { m with V := y, dl := dl }) (o := 3) (vs := [.int .i64 dl]) (by simp) rfl H10.out.tU H10.out.tV)
              change Hid (TdG w (V10.setCell ⟨ub, 3, none⟩ (.int .i64 dl)) M ub { m with V := y, dl := dl } i ev ev E q2) at HF1
              have HF := Lib.hid (HF1.out.set (m' := { m with V := y, dl := dl, ph := 2 }) (o := 0) (vs := [.int .i8 2]) (by simp) rfl HF1.out.tU HF1.out.tV)
              change Hid (TdG w ((V10.setCell ⟨ub, 3, none⟩ (.int .i64 dl)).setCell ⟨ub, 0, none⟩ (.int .i8 2)) M ub { m with V := y, dl := dl, ph := 2 } i ev ev E q2) at HF
              clear HF1 H10
              go_wp2_with fail
              go_end0
              refine ⟨⟨_, rfl⟩, ev, { m with V := y, dl := dl, ph := 2 }, [], ?_, ?_, ?_, ?_⟩
              · have := HF.out.hu
                first | exact this | (rw [← List.append_nil E] at this; exact this)
              · exact HF.out.hc
              · exact HF.out.hn
              · exact ⟨.inl rfl, m.U, y, dl, 2, rfl, .inl rfl, HF.out.tU, HF.out.tV⟩
        · skip
          have hl0 : 3 ≤ i.got.l.length := Nat.le_of_eq (isB_len hk).symm
          obtain ⟨b2, off, e1, hpb, hpa⟩ := HX.out.1.parts (by omega)
          have HPA := Lib.hid (And.intro (show ¬ UnB ub ev b2 from fun h => hpb (.inr h)) hpa)
          have HE1 := Lib.hid e1
          have hl1 : (1 : Int) < (i.got.l.length : Int) := by omega
          clear e1 hpb hpa hk
          have hl2 : (2 : Int) < (i.got.l.length : Int) := by omega
          obtain ⟨y, hy, py⟩ := HPA.out.2 2 (by omega)
          have HY := Lib.hid (un_te H2.out.hc H2.out.hn hy)
          have HYC := Lib.hid (py.chg H2.out.hc HPA.out.1)
          obtain ⟨c0, c1, c2, c3, c4⟩ := HYC.out
          simp only [Nat.reduceMul] at c0 c1 c2 c3 c4
          have g4 := (BxS.of H2.out.h2).2.2.2.2
          rw [HE1.out] at g4
          clear hy py
          go_wp2_with (with_reducible refine stop_op (o := ⟨_, .store 25 (.tmp 101) (.tmp 98), _, _, _, _⟩) ?_)
          refine Lib.hid ?_
          refine wpList_store_mid (op := ⟨none, _, _, _, _, _⟩) rfl 25 (.tmp 101) (.tmp 98) rfl ub 15 #[.int .i8 y.k, .int .i64 y.n, .string y.s, .string y.u, .slice y.ao y.l.length y.cap] rfl rfl (H2.out.hu.there (by simp)) (infoTM' _ rfl) (by simp [Value.oneCell']) ?_
          have H3 := Lib.hid (H2.out.set (m' := { m with V := y }) (o := 15) (vs := #[.int .i8 y.k, .int .i64 y.n, .string y.s, .string y.u, .slice y.ao y.l.length y.cap].toList) (by simp) (setV m i y) H2.out.tU HY.out)
          clear c0 c1 c2 c3 c4 g4 HYC HY H2
          generalize V2.setCells ub 15 #[.int .i8 y.k, .int .i64 y.n, .string y.s, .string y.u, .slice y.ao y.l.length y.cap].toList = V3 at *
          obtain ⟨x, hx, py⟩ := HPA.out.2 1 (by omega)
          have HX1 := Lib.hid (un_te H3.out.hc H3.out.hn hx)
          have HYC := Lib.hid (py.chg H3.out.hc HPA.out.1)
          obtain ⟨c0, c1, c2, c3, c4⟩ := HYC.out
          simp only [Nat.reduceMul] at c0 c1 c2 c3 c4
          have g4 := (BxS.of H3.out.h2).2.2.2.2
          rw [HE1.out] at g4
          clear hx py
          have HC := Lib.hid (ustop_x V3 ub { m with V := y } i ev E H3.out.hu x)
          go_wp2_with fail
          refine HC.out.mono ?_
          clear HC c0 c1 c2 c3 c4 g4 HYC
          rintro e W9 ⟨⟨v, rfl⟩, ev9, hu9, hc9, hb9⟩
          have HF := Lib.hid (H3.out.step (m' := { m with V := y, U := x, ph := 5 }) hu9 hc9 hb9 HX1.out H3.out.tV)
          clear hu9 hc9 hb9 H3
          go_wp2_with fail
          go_end0
          refine ⟨⟨_, rfl⟩, ev9, { m with V := y, U := x, ph := 5 }, [], ?_, ?_, ?_, ?_⟩
          · have := HF.out.hu
            first | exact this | (rw [← List.append_nil E] at this; exact this)
          · exact HF.out.hc
          · exact HF.out.hn
          · exact ⟨.inl rfl, x, y, m.dl, 5, rfl, .inr rfl, HF.out.tU, HF.out.tV⟩
      · skip
        obtain ⟨g0, g1, g2, g3, g4⟩ := BxS.of H1.out.h2
        have HS := Lib.hid (sis_g (MU M ub ev) wc i stoS 4 (un_te H1.out.hc H1.out.hn HX.out.1) (by omega) (by omega))
        go_wp2_with fail
        refine HS.out.mono ?_
        clear HS
        rintro e V1 ⟨rfl, hbV⟩
        have H1b := Lib.hid (H1.out.keep hbV)
        clear hbV H1 g0 g1 g2 g3 g4
        cases hk : isB i.got.t stoS 4
        · clear hk
          obtain ⟨g0, g1, g2, g3, g4⟩ := BxS.of H1b.out.h2
          have HS := Lib.hid (sis_g (MU M ub ev) V1 i stoS 3 (un_te H1b.out.hc H1b.out.hn HX.out.1) (by omega) (by omega))
          go_wp2_with fail
          refine HS.out.mono ?_
          clear HS
          rintro e V2 ⟨rfl, hbV⟩
          have H2 := Lib.hid (H1b.out.keep hbV)
          clear hbV H1b g0 g1 g2 g3 g4
          cases hk : isB i.got.t stoS 3
          · clear hk
            obtain ⟨g0, g1, g2, g3, g4⟩ := BxS.of H2.out.h2
            have HS := Lib.hid (sis_g (MU M ub ev) V2 i repS 3 (un_te H2.out.hc H2.out.hn HX.out.1) (by omega) (by omega))
            go_wp2_with fail
            refine HS.out.mono ?_
            clear HS
            rintro e V3 ⟨rfl, hbV⟩
            have H3 := Lib.hid (H2.out.keep hbV)
            clear hbV H2 g0 g1 g2 g3 g4
            cases hk : isB i.got.t repS 3
            · clear hk
              obtain ⟨g0, g1, g2, g3, g4⟩ := BxS.of H3.out.h2
              have HS := Lib.hid (sis_g (MU M ub ev) V3 i repS 4 (un_te H3.out.hc H3.out.hn HX.out.1) (by omega) (by omega))
              go_wp2_with fail
              refine HS.out.mono ?_
              clear HS
              rintro e V4 ⟨rfl, hbV⟩
              have H4 := Lib.hid (H3.out.keep hbV)
              clear hbV H3 g0 g1 g2 g3 g4
              cases hk : isB i.got.t repS 4
              · clear hk
                obtain ⟨g0, g1, g2, g3, g4⟩ := BxS.of H4.out.h2
                have HS := Lib.hid (sis_g (MU M ub ev) V4 i norS2 2 (un_te H4.out.hc H4.out.hn HX.out.1) (by omega) (by omega))
                go_wp2_with fail
                refine HS.out.mono ?_
                clear HS
                rintro e V5 ⟨rfl, hbV⟩
                have H5 := Lib.hid (H4.out.keep hbV)
                clear hbV H4 g0 g1 g2 g3 g4
                cases hk : isB i.got.t norS2 2
                · clear hk
                  obtain ⟨g0, g1, g2, g3, g4⟩ := BxS.of H5.out.h2
                  have HS := Lib.hid (sis_g (MU M ub ev) V5 i norS2 3 (un_te H5.out.hc H5.out.hn HX.out.1) (by omega) (by omega))
                  go_wp2_with fail
                  refine HS.out.mono ?_
                  clear HS
                  rintro e V6 ⟨rfl, hbV⟩
                  have H6 := Lib.hid (H5.out.keep hbV)
                  clear hbV H5 g0 g1 g2 g3 g4
                  cases hk : isB i.got.t norS2 3
                  · skip
                    clear hk
                    go_wp2_with fail
                    refine (ureason_x (MU M ub ev) V6 (fun k hk => Nat.lt_of_lt_of_le (HMU.out k hk) H6.out.hc.size) (let_chg HX.out.2.2.1 H6.out.hc HX.out.2.2.2) ub m i ev E H6.out.hu (un_te H6.out.hc H6.out.hn HX.out.1)).mono ?_
                    rintro e W8 ⟨x, rfl, hx, hb8⟩
                    have H8 := Lib.hid (And.intro (H6.out.keep hb8) hx)
                    clear hx hb8 H6
                    have HC := Lib.hid (ustop_any W8 ub m i ev E H8.out.1.hu x)
                    go_wp2_with fail
                    refine HC.out.mono ?_
                    clear HC
                    rintro e W9 ⟨⟨v, rfl⟩, ev9, hu9, hc9, hb9⟩
                    have HF := Lib.hid (H8.out.1.step (m' := { m with U := x, ph := 5 }) hu9 hc9 hb9 H8.out.2 H8.out.1.tV)
                    clear hu9 hc9 hb9 H8
                    go_wp2_with fail
                    go_end0
                    refine ⟨⟨_, rfl⟩, ev9, { m with U := x, ph := 5 }, [], ?_, ?_, ?_, ?_⟩
                    · have := HF.out.hu
                      rw [← List.append_nil E] at this
                      exact this
                    · exact HF.out.hc
                    · exact HF.out.hn
                    · exact ⟨.inl rfl, x, m.V, m.dl, 5, rfl, .inr rfl, HF.out.tU, HF.out.tV⟩
                  · skip
                    have hl0 : 3 ≤ i.got.l.length := Nat.le_of_eq (isB_len hk).symm
                    obtain ⟨b2, off, e1, hpb, hpa⟩ := HX.out.1.parts (by omega)
                    have HPA := Lib.hid (And.intro (show ¬ UnB ub ev b2 from fun h => hpb (.inr h)) hpa)
                    have HE1 := Lib.hid e1
                    have hl1 : (1 : Int) < (i.got.l.length : Int) := by omega
                    clear e1 hpb hpa hk
                    obtain ⟨g0, g1, g2, g3, g4⟩ := BxS.of H6.out.h2
                    go_wp2_with fail
                    refine (utime_x (MU M ub ev) V6 (let_chg HX.out.2.2.1 H6.out.hc HX.out.2.2.2) ub m i ev E H6.out.hu (un_te H6.out.hc H6.out.hn HX.out.1)).mono ?_
                    rintro e V9 ⟨dl, okd, rfl, hbV⟩
                    have H9 := Lib.hid (H6.out.keep hbV)
                    clear hbV H6 g0 g1 g2 g3 g4
                    cases okd
                    · clear hl0 hl1 HPA HE1
                      have hk := trivial
                      clear hk
                      go_wp2_with fail
                      refine (ureason_x (MU M ub ev) V9 (fun k hk => Nat.lt_of_lt_of_le (HMU.out k hk) H9.out.hc.size) (let_chg HX.out.2.2.1 H9.out.hc HX.out.2.2.2) ub m i ev E H9.out.hu (un_te H9.out.hc H9.out.hn HX.out.1)).mono ?_
                      rintro e W8 ⟨x, rfl, hx, hb8⟩
                      have H8 := Lib.hid (And.intro (H9.out.keep hb8) hx)
                      clear hx hb8 H9
                      have HC := Lib.hid (ustop_any W8 ub m i ev E H8.out.1.hu x)
                      go_wp2_with fail
                      refine HC.out.mono ?_
                      clear HC
                      rintro e W9 ⟨⟨v, rfl⟩, ev9, hu9, hc9, hb9⟩
                      have HF := Lib.hid (H8.out.1.step (m' := { m with U := x, ph := 5 }) hu9 hc9 hb9 H8.out.2 H8.out.1.tV)
                      clear hu9 hc9 hb9 H8
                      go_wp2_with fail
                      go_end0
                      refine ⟨⟨_, rfl⟩, ev9, { m with U := x, ph := 5 }, [], ?_, ?_, ?_, ?_⟩
                      · have := HF.out.hu
                        rw [← List.append_nil E] at this
                        exact this
                      · exact HF.out.hc
                      · exact HF.out.hn
                      · exact ⟨.inl rfl, x, m.V, m.dl, 5, rfl, .inr rfl, HF.out.tU, HF.out.tV⟩
                    · skip
                      obtain ⟨y, hy, py⟩ := HPA.out.2 1 (by omega)
                      have HY := Lib.hid (un_te H9.out.hc H9.out.hn hy)
                      have HYC := Lib.hid (py.chg H9.out.hc HPA.out.1)
                      obtain ⟨c0, c1, c2, c3, c4⟩ := HYC.out
                      simp only [Nat.reduceMul] at c0 c1 c2 c3 c4
                      have g4 := (BxS.of H9.out.h2).2.2.2.2
                      rw [HE1.out] at g4
                      clear hy py
                      go_wp2_with (with_reducible refine stop_op (o := ⟨_, .store 25 (.tmp 166) (.tmp 163), _, _, _, _⟩) ?_)
                      refine Lib.hid ?_
                      refine wpList_store_mid (op := ⟨none, _, _, _, _, _⟩) rfl 25 (.tmp 166) (.tmp 163) rfl ub 15 #[.int .i8 y.k, .int .i64 y.n, .string y.s, .string y.u, .slice y.ao y.l.length y.cap] rfl rfl (H9.out.hu.there (by simp)) (infoTM' _ rfl) (by simp [Value.oneCell']) ?_
                      have H10 := Lib.hid (H9.out.set (m' := { m with V := y }) (o := 15) (vs := #[.int .i8 y.k, .int .i64 y.n, .string y.s, .string y.u, .slice y.ao y.l.length y.cap].toList) (by simp) (setV m i y) H9.out.tU HY.out)
                      clear c0 c1 c2 c3 c4 g4 HYC HY H9
                      generalize V9.setCells ub 15 #[.int .i8 y.k, .int .i64 y.n, .string y.s, .string y.u, .slice y.ao y.l.length y.cap].toList = V10 at *
                      have d3 := H10.out.hu.cell (i := 3) (v := .int .i64 m.dl) rfl
                      have f3 := H10.out.hu.frozen (i := 3) (v := .int .i64 m.dl) rfl
                      have d0 := H10.out.hu.cell (i := 0) (v := .int .i8 m.ph) rfl
                      have f0 := H10.out.hu.frozen (i := 0) (v := .int .i8 m.ph) rfl
                      have HF1 := Lib.hid (H10.out.set (m' := { m with V := y, dl := dl }) (o := 3) (vs := [.int .i64 dl]) (by simp) rfl H10.out.tU H10.out.tV)
                      change Hid (TdG w (V10.setCell ⟨ub, 3, none⟩ (.int .i64 dl)) M ub { m with V := y, dl := dl } i ev ev E q2) at HF1
                      have HF := Lib.hid (HF1.out.set (m' := { m with V := y, dl := dl, ph := 2 }) (o := 0) (vs := [.int .i8 2]) (by simp) rfl HF1.out.tU HF1.out.tV)
                      change Hid (TdG w ((V10.setCell ⟨ub, 3, none⟩ (.int .i64 dl)).setCell ⟨ub, 0, none⟩ (.int .i8 2)) M ub { m with V := y, dl := dl, ph := 2 } i ev ev E q2) at HF
                      clear HF1 H10
                      go_wp2_with fail
                      go_end0
                      refine ⟨⟨_, rfl⟩, ev, { m with V := y, dl := dl, ph := 2 }, [], ?_, ?_, ?_, ?_⟩
                      · have := HF.out.hu
                        first | exact this | (rw [← List.append_nil E] at this; exact this)
                      · exact HF.out.hc
                      · exact HF.out.hn
                      · exact ⟨.inl rfl, m.U, y, dl, 2, rfl, .inl rfl, HF.out.tU, HF.out.tV⟩
                · skip
                  have hl0 : 2 ≤ i.got.l.length := Nat.le_of_eq (isB_len hk).symm
                  obtain ⟨b2, off, e1, hpb, hpa⟩ := HX.out.1.parts (by omega)
                  have HPA := Lib.hid (And.intro (show ¬ UnB ub ev b2 from fun h => hpb (.inr h)) hpa)
                  have HE1 := Lib.hid e1
                  have hl1 : (1 : Int) < (i.got.l.length : Int) := by omega
                  clear e1 hpb hpa hk
                  obtain ⟨g0, g1, g2, g3, g4⟩ := BxS.of H5.out.h2
                  go_wp2_with fail
                  refine (utime_x (MU M ub ev) V5 (let_chg HX.out.2.2.1 H5.out.hc HX.out.2.2.2) ub m i ev E H5.out.hu (un_te H5.out.hc H5.out.hn HX.out.1)).mono ?_
                  rintro e V9 ⟨dl, okd, rfl, hbV⟩
                  have H9 := Lib.hid (H5.out.keep hbV)
                  clear hbV H5 g0 g1 g2 g3 g4
                  cases okd
                  · clear hl0 hl1 HPA HE1
                    have hk := trivial
                    clear hk
                    go_wp2_with fail
                    refine (ureason_x (MU M ub ev) V9 (fun k hk => Nat.lt_of_lt_of_le (HMU.out k hk) H9.out.hc.size) (let_chg HX.out.2.2.1 H9.out.hc HX.out.2.2.2) ub m i ev E H9.out.hu (un_te H9.out.hc H9.out.hn HX.out.1)).mono ?_
                    rintro e W8 ⟨x, rfl, hx, hb8⟩
                    have H8 := Lib.hid (And.intro (H9.out.keep hb8) hx)
                    clear hx hb8 H9
                    have HC := Lib.hid (ustop_any W8 ub m i ev E H8.out.1.hu x)
                    go_wp2_with fail
                    refine HC.out.mono ?_
                    clear HC
                    rintro e W9 ⟨⟨v, rfl⟩, ev9, hu9, hc9, hb9⟩
                    have HF := Lib.hid (H8.out.1.step (m' := { m with U := x, ph := 5 }) hu9 hc9 hb9 H8.out.2 H8.out.1.tV)
                    clear hu9 hc9 hb9 H8
                    go_wp2_with fail
                    go_end0
                    refine ⟨⟨_, rfl⟩, ev9, { m with U := x, ph := 5 }, [], ?_, ?_, ?_, ?_⟩
                    · have := HF.out.hu
                      rw [← List.append_nil E] at this
                      exact this
                    · exact HF.out.hc
                    · exact HF.out.hn
                    · exact ⟨.inl rfl, x, m.V, m.dl, 5, rfl, .inr rfl, HF.out.tU, HF.out.tV⟩
                  · skip
                    obtain ⟨y, hy, py⟩ := HPA.out.2 1 (by omega)
                    have HY := Lib.hid (un_te H9.out.hc H9.out.hn hy)
                    have HYC := Lib.hid (py.chg H9.out.hc HPA.out.1)
                    obtain ⟨c0, c1, c2, c3, c4⟩ := HYC.out
                    simp only [Nat.reduceMul] at c0 c1 c2 c3 c4
                    have g4 := (BxS.of H9.out.h2).2.2.2.2
                    rw [HE1.out] at g4
                    clear hy py
                    go_wp2_with (with_reducible refine stop_op (o := ⟨_, .store 25 (.tmp 166) (.tmp 163), _, _, _, _⟩) ?_)
                    refine Lib.hid ?_
                    refine wpList_store_mid (op := ⟨none, _, _, _, _, _⟩) rfl 25 (.tmp 166) (.tmp 163) rfl ub 15 #[.int .i8 y.k, .int .i64 y.n, .string y.s, .string y.u, .slice y.ao y.l.length y.cap] rfl rfl (H9.out.hu.there (by simp)) (infoTM' _ rfl) (by simp [Value.oneCell']) ?_
                    have H10 := Lib.hid (H9.out.set (m' := { m with V := y }) (o := 15) (vs := #[.int .i8 y.k, .int .i64 y.n, .string y.s, .string y.u, .slice y.ao y.l.length y.cap].toList) (by simp) (setV m i y) H9.out.tU HY.out)
                    clear c0 c1 c2 c3 c4 g4 HYC HY H9
                    generalize V9.setCells ub 15 #[.int .i8 y.k, .int .i64 y.n, .string y.s, .string y.u, .slice y.ao y.l.length y.cap].toList = V10 at *
                    have d3 := H10.out.hu.cell (i := 3) (v := .int .i64 m.dl) rfl
                    have f3 := H10.out.hu.frozen (i := 3) (v := .int .i64 m.dl) rfl
                    have d0 := H10.out.hu.cell (i := 0) (v := .int .i8 m.ph) rfl
                    have f0 := H10.out.hu.frozen (i := 0) (v := .int .i8 m.ph) rfl
                    have HF1 := Lib.hid (H10.out.set (m' := { m with V := y, dl := dl }) (o := 3) (vs := [.int .i64 dl]) (by simp) rfl H10.out.tU H10.out.tV)
                    change Hid (TdG w (V10.setCell ⟨ub, 3, none⟩ (.int .i64 dl)) M ub { m with V := y, dl := dl } i ev ev E q2) at HF1
                    have HF := Lib.hid (HF1.out.set (m' := { m with V := y, dl := dl, ph := 2 }) (o := 0) (vs := [.int .i8 2]) (by simp) rfl HF1.out.tU HF1.out.tV)
                    change Hid (TdG w ((V10.setCell ⟨ub, 3, none⟩ (.int .i64 dl)).setCell ⟨ub, 0, none⟩ (.int .i8 2)) M ub { m with V := y, dl := dl, ph := 2 } i ev ev E q2) at HF
                    clear HF1 H10
                    go_wp2_with fail
                    go_end0
                    refine ⟨⟨_, rfl⟩, ev, { m with V := y, dl := dl, ph := 2 }, [], ?_, ?_, ?_, ?_⟩
                    · have := HF.out.hu
                      first | exact this | (rw [← List.append_nil E] at this; exact this)
                    · exact HF.out.hc
                    · exact HF.out.hn
                    · exact ⟨.inl rfl, m.U, y, dl, 2, rfl, .inl rfl, HF.out.tU, HF.out.tV⟩
              · skip
                have hl0 : 4 ≤ i.got.l.length := Nat.le_of_eq (isB_len hk).symm
                obtain ⟨b2, off, e1, hpb, hpa⟩ := HX.out.1.parts (by omega)
                have HPA := Lib.hid (And.intro (show ¬ UnB ub ev b2 from fun h => hpb (.inr h)) hpa)
                have HE1 := Lib.hid e1
                have hl1 : (1 : Int) < (i.got.l.length : Int) := by omega
                clear e1 hpb hpa hk
                have hl2 : (2 : Int) < (i.got.l.length : Int) := by omega
                obtain ⟨g0, g1, g2, g3, g4⟩ := BxS.of H4.out.h2
                go_wp2_with fail
                refine (utime_3 (MU M ub ev) V4 (let_chg HX.out.2.2.1 H4.out.hc HX.out.2.2.2) ub m i ev E H4.out.hu (un_te H4.out.hc H4.out.hn HX.out.1)).mono ?_
                rintro e V9 ⟨dl, okd, rfl, hbV⟩
                have H9 := Lib.hid (H4.out.keep hbV)
                clear hbV H4 g0 g1 g2 g3 g4
                cases okd
                · clear hl0 hl1 hl2 HPA HE1
                  have hk := trivial
                  clear hk
                  go_wp2_with fail
                  refine (ureason_x (MU M ub ev) V9 (fun k hk => Nat.lt_of_lt_of_le (HMU.out k hk) H9.out.hc.size) (let_chg HX.out.2.2.1 H9.out.hc HX.out.2.2.2) ub m i ev E H9.out.hu (un_te H9.out.hc H9.out.hn HX.out.1)).mono ?_
                  rintro e W8 ⟨x, rfl, hx, hb8⟩
                  have H8 := Lib.hid (And.intro (H9.out.keep hb8) hx)
                  clear hx hb8 H9
                  have HC := Lib.hid (ustop_any W8 ub m i ev E H8.out.1.hu x)
                  go_wp2_with fail
                  refine HC.out.mono ?_
                  clear HC
                  rintro e W9 ⟨⟨v, rfl⟩, ev9, hu9, hc9, hb9⟩
                  have HF := Lib.hid (H8.out.1.step (m' := { m with U := x, ph := 5 }) hu9 hc9 hb9 H8.out.2 H8.out.1.tV)
                  clear hu9 hc9 hb9 H8
                  go_wp2_with fail
                  go_end0
                  refine ⟨⟨_, rfl⟩, ev9, { m with U := x, ph := 5 }, [], ?_, ?_, ?_, ?_⟩
                  · have := HF.out.hu
                    rw [← List.append_nil E] at this
                    exact this
                  · exact HF.out.hc
                  · exact HF.out.hn
                  · exact ⟨.inl rfl, x, m.V, m.dl, 5, rfl, .inr rfl, HF.out.tU, HF.out.tV⟩
                · skip
                  obtain ⟨z, hy, py⟩ := HPA.out.2 1 (by omega)
                  have HY := Lib.hid (un_te H9.out.hc H9.out.hn hy)
                  have HYC := Lib.hid (py.chg H9.out.hc HPA.out.1)
                  obtain ⟨c0, c1, c2, c3, c4⟩ := HYC.out
                  simp only [Nat.reduceMul] at c0 c1 c2 c3 c4
                  have g4 := (BxS.of H9.out.h2).2.2.2.2
                  rw [HE1.out] at g4
                  clear hy py
                  have HC := Lib.hid (ureply_x M V9 (fun k hk => Nat.lt_of_lt_of_le (HX.out.2.1 k hk) H9.out.hc.size) (let_chg HX.out.2.2.1 H9.out.hc HX.out.2.2.2) ub m i ev E H9.out.hu (by omega) z HY.out H9.out.tT (HA.out (by trivial)).2)
                  go_wp2_with fail
                  refine HC.out.mono ?_
                  clear HC c0 c1 c2 c3 c4 g4 HYC
                  rintro e V10 ⟨rc, a, ⟨v, rfl⟩, ev1, hu1, hc1, hb1, -⟩
                  have H10 := Lib.hid (H9.out.step (m' := m) hu1 hc1 hb1 H9.out.tU H9.out.tV)
                  clear hu1 hc1 hb1 H9 HY
                  obtain ⟨y, hy, py⟩ := HPA.out.2 2 (by omega)
                  have HY := Lib.hid (un_te H10.out.hc H10.out.hn hy)
                  have HYC := Lib.hid (py.chg H10.out.hc HPA.out.1)
                  obtain ⟨c0, c1, c2, c3, c4⟩ := HYC.out
                  simp only [Nat.reduceMul] at c0 c1 c2 c3 c4
                  have g4 := (BxS.of H10.out.h2).2.2.2.2
                  rw [HE1.out] at g4
                  clear hy py
                  go_wp2_with (with_reducible refine stop_op (o := ⟨_, .store 25 (.tmp 141) (.tmp 138), _, _, _, _⟩) ?_)
                  refine Lib.hid ?_
                  refine wpList_store_mid (op := ⟨none, _, _, _, _, _⟩) rfl 25 (.tmp 141) (.tmp 138) rfl ub 15 #[.int .i8 y.k, .int .i64 y.n, .string y.s, .string y.u, .slice y.ao y.l.length y.cap] rfl rfl (H10.out.hu.there (by simp)) (infoTM' _ rfl) (by simp [Value.oneCell']) ?_
                  have H11 := Lib.hid (H10.out.set (m' := { m with V := y }) (o := 15) (vs := #[.int .i8 y.k, .int .i64 y.n, .string y.s, .string y.u, .slice y.ao y.l.length y.cap].toList) (by simp) (setV m i y) H10.out.tU HY.out)
                  clear c0 c1 c2 c3 c4 g4 HYC HY H10
                  generalize V10.setCells ub 15 #[.int .i8 y.k, .int .i64 y.n, .string y.s, .string y.u, .slice y.ao y.l.length y.cap].toList = V11 at *
                  have d3 := H11.out.hu.cell (i := 3) (v := .int .i64 m.dl) rfl
                  have f3 := H11.out.hu.frozen (i := 3) (v := .int .i64 m.dl) rfl
                  have d0 := H11.out.hu.cell (i := 0) (v := .int .i8 m.ph) rfl
                  have f0 := H11.out.hu.frozen (i := 0) (v := .int .i8 m.ph) rfl
                  have HF1 := Lib.hid (H11.out.set (m' := { m with V := y, dl := dl }) (o := 3) (vs := [.int .i64 dl]) (by simp) rfl H11.out.tU H11.out.tV)
                  change Hid (TdG w (V11.setCell ⟨ub, 3, none⟩ (.int .i64 dl)) M ub { m with V := y, dl := dl } i ev ev1 (E ++ [sendE rc a]) q2) at HF1
                  have HF := Lib.hid (HF1.out.set (m' := { m with V := y, dl := dl, ph := 2 }) (o := 0) (vs := [.int .i8 2]) (by simp) rfl HF1.out.tU HF1.out.tV)
                  change Hid (TdG w ((V11.setCell ⟨ub, 3, none⟩ (.int .i64 dl)).setCell ⟨ub, 0, none⟩ (.int .i8 2)) M ub { m with V := y, dl := dl, ph := 2 } i ev ev1 (E ++ [sendE rc a]) q2) at HF
                  clear HF1 H11
                  go_wp2_with fail
                  go_end0
                  refine ⟨⟨_, rfl⟩, ev1, { m with V := y, dl := dl, ph := 2 }, [sendE rc a], ?_, ?_, ?_, ?_⟩
                  · have := HF.out.hu
                    first | exact this | (rw [← List.append_nil E] at this; exact this)
                  · exact HF.out.hc
                  · exact HF.out.hn
                  · exact ⟨.inr ⟨(HA.out (by trivial)).1, rc, a, rfl⟩, m.U, y, dl, 2, rfl, .inl rfl, HF.out.tU, HF.out.tV⟩
            · skip
              have hl0 : 3 ≤ i.got.l.length := Nat.le_of_eq (isB_len hk).symm
              obtain ⟨b2, off, e1, hpb, hpa⟩ := HX.out.1.parts (by omega)
              have HPA := Lib.hid (And.intro (show ¬ UnB ub ev b2 from fun h => hpb (.inr h)) hpa)
              have HE1 := Lib.hid e1
              have hl1 : (1 : Int) < (i.got.l.length : Int) := by omega
              clear e1 hpb hpa hk
              have hl2 : (2 : Int) < (i.got.l.length : Int) := by omega
              obtain ⟨g0, g1, g2, g3, g4⟩ := BxS.of H3.out.h2
              go_wp2_with fail
              refine (utime_3 (MU M ub ev) V3 (let_chg HX.out.2.2.1 H3.out.hc HX.out.2.2.2) ub m i ev E H3.out.hu (un_te H3.out.hc H3.out.hn HX.out.1)).mono ?_
              rintro e V9 ⟨dl, okd, rfl, hbV⟩
              have H9 := Lib.hid (H3.out.keep hbV)
              clear hbV H3 g0 g1 g2 g3 g4
              cases okd
              · clear hl0 hl1 hl2 HPA HE1
                have hk := trivial
                clear hk
                go_wp2_with fail
                refine (ureason_x (MU M ub ev) V9 (fun k hk => Nat.lt_of_lt_of_le (HMU.out k hk) H9.out.hc.size) (let_chg HX.out.2.2.1 H9.out.hc HX.out.2.2.2) ub m i ev E H9.out.hu (un_te H9.out.hc H9.out.hn HX.out.1)).mono ?_
                rintro e W8 ⟨x, rfl, hx, hb8⟩
                have H8 := Lib.hid (And.intro (H9.out.keep hb8) hx)
                clear hx hb8 H9
                have HC := Lib.hid (ustop_any W8 ub m i ev E H8.out.1.hu x)
                go_wp2_with fail
                refine HC.out.mono ?_
                clear HC
                rintro e W9 ⟨⟨v, rfl⟩, ev9, hu9, hc9, hb9⟩
                have HF := Lib.hid (H8.out.1.step (m' := { m with U := x, ph := 5 }) hu9 hc9 hb9 H8.out.2 H8.out.1.tV)
                clear hu9 hc9 hb9 H8
                go_wp2_with fail
                go_end0
                refine ⟨⟨_, rfl⟩, ev9, { m with U := x, ph := 5 }, [], ?_, ?_, ?_, ?_⟩
                · have := HF.out.hu
                  rw [← List.append_nil E] at this
                  exact this
                · exact HF.out.hc
                · exact HF.out.hn
                · exact ⟨.inl rfl, x, m.V, m.dl, 5, rfl, .inr rfl, HF.out.tU, HF.out.tV⟩
              · skip
                obtain ⟨z, hy, py⟩ := HPA.out.2 1 (by omega)
                have HY := Lib.hid (un_te H9.out.hc H9.out.hn hy)
                have HYC := Lib.hid (py.chg H9.out.hc HPA.out.1)
                obtain ⟨c0, c1, c2, c3, c4⟩ := HYC.out
                simp only [Nat.reduceMul] at c0 c1 c2 c3 c4
                have g4 := (BxS.of H9.out.h2).2.2.2.2
                rw [HE1.out] at g4
                clear hy py
                have HC := Lib.hid (ureply_x M V9 (fun k hk => Nat.lt_of_lt_of_le (HX.out.2.1 k hk) H9.out.hc.size) (let_chg HX.out.2.2.1 H9.out.hc HX.out.2.2.2) ub m i ev E H9.out.hu (by omega) z HY.out H9.out.tT (HA.out (by trivial)).2)
                go_wp2_with fail
                refine HC.out.mono ?_
                clear HC c0 c1 c2 c3 c4 g4 HYC
                rintro e V10 ⟨rc, a, ⟨v, rfl⟩, ev1, hu1, hc1, hb1, -⟩
                have H10 := Lib.hid (H9.out.step (m' := m) hu1 hc1 hb1 H9.out.tU H9.out.tV)
                clear hu1 hc1 hb1 H9 HY
                obtain ⟨y, hy, py⟩ := HPA.out.2 2 (by omega)
                have HY := Lib.hid (un_te H10.out.hc H10.out.hn hy)
                have HYC := Lib.hid (py.chg H10.out.hc HPA.out.1)
                obtain ⟨c0, c1, c2, c3, c4⟩ := HYC.out
                simp only [Nat.reduceMul] at c0 c1 c2 c3 c4
                have g4 := (BxS.of H10.out.h2).2.2.2.2
                rw [HE1.out] at g4
                clear hy py
                go_wp2_with (with_reducible refine stop_op (o := ⟨_, .store 25 (.tmp 141) (.tmp 138), _, _, _, _⟩) ?_)
                refine Lib.hid ?_
                refine wpList_store_mid (op := ⟨none, _, _, _, _, _⟩) rfl 25 (.tmp 141) (.tmp 138) rfl ub 15 #[.int .i8 y.k, .int .i64 y.n, .string y.s, .string y.u, .slice y.ao y.l.length y.cap] rfl rfl (H10.out.hu.there (by simp)) (infoTM' _ rfl) (by simp [Value.oneCell']) ?_
                have H11 := Lib.hid (H10.out.set (m' := { m with V := y }) (o := 15) (vs := #[.int .i8 y.k, .int .i64 y.n, .string y.s, .string y.u, .slice y.ao y.l.length y.cap].toList) (by simp) (setV m i y) H10.out.tU HY.out)
                clear c0 c1 c2 c3 c4 g4 HYC HY H10
                generalize V10.setCells ub 15 #[.int .i8 y.k, .int .i64 y.n, .string y.s, .string y.u, .slice y.ao y.l.length y.cap].toList = V11 at *
                have d3 := H11.out.hu.cell (i := 3) (v := .int .i64 m.dl) rfl
                have f3 := H11.out.hu.frozen (i := 3) (v := .int .i64 m.dl) rfl
                have d0 := H11.out.hu.cell (i := 0) (v := .int .i8 m.ph) rfl
                have f0 := H11.out.hu.frozen (i := 0) (v := .int .i8 m.ph) rfl
                have HF1 := Lib.hid (H11.out.set (m' := { m with V := y, dl := dl }) (o := 3) (vs := [.int .i64 dl]) (by simp) rfl H11.out.tU H11.out.tV)
                change Hid (TdG w (V11.setCell ⟨ub, 3, none⟩ (.int .i64 dl)) M ub { m with V := y, dl := dl } i ev ev1 (E ++ [sendE rc a]) q2) at HF1
                have HF := Lib.hid (HF1.out.set (m' := { m with V := y, dl := dl, ph := 2 }) (o := 0) (vs := [.int .i8 2]) (by simp) rfl HF1.out.tU HF1.out.tV)
                change Hid (TdG w ((V11.setCell ⟨ub, 3, none⟩ (.int .i64 dl)).setCell ⟨ub, 0, none⟩ (.int .i8 2)) M ub { m with V := y, dl := dl, ph := 2 } i ev ev1 (E ++ [sendE rc a]) q2) at HF
                clear HF1 H11
                go_wp2_with fail
                go_end0
                refine ⟨⟨_, rfl⟩, ev1, { m with V := y, dl := dl, ph := 2 }, [sendE rc a], ?_, ?_, ?_, ?_⟩
                · have := HF.out.hu
                  first | exact this | (rw [← List.append_nil E] at this; exact this)
                · exact HF.out.hc
                · exact HF.out.hn
                · exact ⟨.inr ⟨(HA.out (by trivial)).1, rc, a, rfl⟩, m.U, y, dl, 2, rfl, .inl rfl, HF.out.tU, HF.out.tV⟩
          · skip
            have hl0 : 3 ≤ i.got.l.length := Nat.le_of_eq (isB_len hk).symm
            obtain ⟨b2, off, e1, hpb, hpa⟩ := HX.out.1.parts (by omega)
            have HPA := Lib.hid (And.intro (show ¬ UnB ub ev b2 from fun h => hpb (.inr h)) hpa)
            have HE1 := Lib.hid e1
            have hl1 : (1 : Int) < (i.got.l.length : Int) := by omega
            clear e1 hpb hpa hk
            have hl2 : (2 : Int) < (i.got.l.length : Int) := by omega
            obtain ⟨y, hy, py⟩ := HPA.out.2 2 (by omega)
            have HY := Lib.hid (un_te H2.out.hc H2.out.hn hy)
            have HYC := Lib.hid (py.chg H2.out.hc HPA.out.1)
            obtain ⟨c0, c1, c2, c3, c4⟩ := HYC.out
            simp only [Nat.reduceMul] at c0 c1 c2 c3 c4
            have g4 := (BxS.of H2.out.h2).2.2.2.2
            rw [HE1.out] at g4
            clear hy py
            go_wp2_with (with_reducible refine stop_op (o := ⟨_, .store 25 (.tmp 101) (.tmp 98), _, _, _, _⟩) ?_)
            refine Lib.hid ?_
            refine wpList_store_mid (op := ⟨none, _, _, _, _, _⟩) rfl 25 (.tmp 101) (.tmp 98) rfl ub 15 #[.int .i8 y.k, .int .i64 y.n, .string y.s, .string y.u, .slice y.ao y.l.length y.cap] rfl rfl (H2.out.hu.there (by simp)) (infoTM' _ rfl) (by simp [Value.oneCell']) ?_
            have H3 := Lib.hid (H2.out.set (m' := { m with V := y }) (o := 15) (vs := #[.int .i8 y.k, .int .i64 y.n, .string y.s, .string y.u, .slice y.ao y.l.length y.cap].toList) (by simp) (setV m i y) H2.out.tU HY.out)
            clear c0 c1 c2 c3 c4 g4 HYC HY H2
            generalize V2.setCells ub 15 #[.int .i8 y.k, .int .i64 y.n, .string y.s, .string y.u, .slice y.ao y.l.length y.cap].toList = V3 at *
            obtain ⟨x, hx, py⟩ := HPA.out.2 1 (by omega)
            have HX1 := Lib.hid (un_te H3.out.hc H3.out.hn hx)
            have HYC := Lib.hid (py.chg H3.out.hc HPA.out.1)
            obtain ⟨c0, c1, c2, c3, c4⟩ := HYC.out
            simp only [Nat.reduceMul] at c0 c1 c2 c3 c4
            have g4 := (BxS.of H3.out.h2).2.2.2.2
            rw [HE1.out] at g4
            clear hx py
            have HC := Lib.hid (ustop_x V3 ub { m with V := y } i ev E H3.out.hu x)
            go_wp2_with fail
            refine HC.out.mono ?_
            clear HC c0 c1 c2 c3 c4 g4 HYC
            rintro e W9 ⟨⟨v, rfl⟩, ev9, hu9, hc9, hb9⟩
            have HF := Lib.hid (H3.out.step (m' := { m with V := y, U := x, ph := 5 }) hu9 hc9 hb9 HX1.out H3.out.tV)
            clear hu9 hc9 hb9 H3
            go_wp2_with fail
            go_end0
            refine ⟨⟨_, rfl⟩, ev9, { m with V := y, U := x, ph := 5 }, [], ?_, ?_, ?_, ?_⟩
            · have := HF.out.hu
              first | exact this | (rw [← List.append_nil E] at this; exact this)
            · exact HF.out.hc
            · exact HF.out.hn
            · exact ⟨.inl rfl, x, y, m.dl, 5, rfl, .inr rfl, HF.out.tU, HF.out.tV⟩
        · skip
          have hl0 : 4 ≤ i.got.l.length := Nat.le_of_eq (isB_len hk).symm
          obtain ⟨b2, off, e1, hpb, hpa⟩ := HX.out.1.parts (by omega)
          have HPA := Lib.hid (And.intro (show ¬ UnB ub ev b2 from fun h => hpb (.inr h)) hpa)
          have HE1 := Lib.hid e1
          have hl1 : (1 : Int) < (i.got.l.length : Int) := by omega
          clear e1 hpb hpa hk
          have hl2 : (2 : Int) < (i.got.l.length : Int) := by omega
          have hl3 : (3 : Int) < (i.got.l.length : Int) := by omega
          obtain ⟨z, hy, py⟩ := HPA.out.2 2 (by omega)
          have HY := Lib.hid (un_te H1b.out.hc H1b.out.hn hy)
          have HYC := Lib.hid (py.chg H1b.out.hc HPA.out.1)
          obtain ⟨c0, c1, c2, c3, c4⟩ := HYC.out
          simp only [Nat.reduceMul] at c0 c1 c2 c3 c4
          have g4 := (BxS.of H1b.out.h2).2.2.2.2
          rw [HE1.out] at g4
          clear hy py
          have HC := Lib.hid (ureply_x M V1 (fun k hk => Nat.lt_of_lt_of_le (HX.out.2.1 k hk) H1b.out.hc.size) (let_chg HX.out.2.2.1 H1b.out.hc HX.out.2.2.2) ub m i ev E H1b.out.hu (by omega) z HY.out H1b.out.tT (HA.out (by trivial)).2)
          go_wp2_with fail
          refine HC.out.mono ?_
          clear HC c0 c1 c2 c3 c4 g4 HYC
          rintro e V10 ⟨rc, a, ⟨v, rfl⟩, ev1, hu1, hc1, hb1, -⟩
          have H10 := Lib.hid (H1b.out.step (m' := m) hu1 hc1 hb1 H1b.out.tU H1b.out.tV)
          clear hu1 hc1 hb1 H1b HY
          obtain ⟨y, hy, py⟩ := HPA.out.2 3 (by omega)
          have HY := Lib.hid (un_te H10.out.hc H10.out.hn hy)
          have HYC := Lib.hid (py.chg H10.out.hc HPA.out.1)
          obtain ⟨c0, c1, c2, c3, c4⟩ := HYC.out
          simp only [Nat.reduceMul] at c0 c1 c2 c3 c4
          have g4 := (BxS.of H10.out.h2).2.2.2.2
          rw [HE1.out] at g4
          clear hy py
          go_wp2_with (with_reducible refine stop_op (o := ⟨_, .store 25 (.tmp 81) (.tmp 78), _, _, _, _⟩) ?_)
          refine Lib.hid ?_
          refine wpList_store_mid (op := ⟨none, _, _, _, _, _⟩) rfl 25 (.tmp 81) (.tmp 78) rfl ub 15 #[.int .i8 y.k, .int .i64 y.n, .string y.s, .string y.u, .slice y.ao y.l.length y.cap] rfl rfl (H10.out.hu.there (by simp)) (infoTM' _ rfl) (by simp [Value.oneCell']) ?_
          have H11 := Lib.hid (H10.out.set (m' := { m with V := y }) (o := 15) (vs := #[.int .i8 y.k, .int .i64 y.n, .string y.s, .string y.u, .slice y.ao y.l.length y.cap].toList) (by simp) (setV m i y) H10.out.tU HY.out)
          clear c0 c1 c2 c3 c4 g4 HYC HY H10
          generalize V10.setCells ub 15 #[.int .i8 y.k, .int .i64 y.n, .string y.s, .string y.u, .slice y.ao y.l.length y.cap].toList = V11 at *
          obtain ⟨x, hx, py⟩ := HPA.out.2 1 (by omega)
          have HX1 := Lib.hid (un_te H11.out.hc H11.out.hn hx)
          have HYC := Lib.hid (py.chg H11.out.hc HPA.out.1)
          obtain ⟨c0, c1, c2, c3, c4⟩ := HYC.out
          simp only [Nat.reduceMul] at c0 c1 c2 c3 c4
          have g4 := (BxS.of H11.out.h2).2.2.2.2
          rw [HE1.out] at g4
          clear hx py
          have HC := Lib.hid (ustop_x V11 ub { m with V := y } i ev1 (E ++ [sendE rc a]) H11.out.hu x)
          go_wp2_with fail
          refine HC.out.mono ?_
          clear HC c0 c1 c2 c3 c4 g4 HYC
          rintro e W9 ⟨⟨v, rfl⟩, ev9, hu9, hc9, hb9⟩
          have HF := Lib.hid (H11.out.step (m' := { m with V := y, U := x, ph := 5 }) hu9 hc9 hb9 HX1.out H11.out.tV)
          clear hu9 hc9 hb9 H11
          go_wp2_with fail
          go_end0
          refine ⟨⟨_, rfl⟩, ev9, { m with V := y, U := x, ph := 5 }, [sendE rc a], ?_, ?_, ?_, ?_⟩
          · have := HF.out.hu
            first | exact this | (rw [← List.append_nil E] at this; exact this)
          · exact HF.out.hc
          · exact HF.out.hn
          · exact ⟨.inr ⟨(HA.out (by trivial)).1, rc, a, rfl⟩, x, y, m.dl, 5, rfl, .inr rfl, HF.out.tU, HF.out.tV⟩
end Go.Proofs.YthpmdeofdlcccaaGreatDoor
