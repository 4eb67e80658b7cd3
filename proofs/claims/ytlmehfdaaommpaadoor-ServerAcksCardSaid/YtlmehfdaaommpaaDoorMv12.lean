/- the law ServerAcks: the walk. Conditions: what is handed over reads; the letters stand. -/
import Derived.Test.YtlmehfdaaommpaaDoorMv10
import Derived.Test.YtlmehfdaaommpaaDoorMv11
import Derived.Test.YtlmehfdaaommpaaDoorTz
import Derived.Test.YtlmehfdaaommpaaDoorMv6
namespace Go.Proofs.YtlmehfdaaommpaaDoor
open Go.ChangeShapes Go.WideShapes Go.ChangeAt Go.RowKit
set_option linter.unusedVariables false
set_option linter.unusedSimpArgs false
set_option maxRecDepth 100000
/-- what stands at the head of the law's loop -/
structure AkI (W w : World) (q mb : Nat) (c : Ch) (EA : List TE) (pid : Int) (m : Mc) (ao : Option Addr) (n cap : Nat) (ML : List It) (ac : Nat) : Prop where
  hb : Below W.heap.size W w
  hq : W.heap.size < q
  hF : w.heap[q]? = some (.cells (frL m).toArray 42 (0, 0))
  hm : McOk (Mq q mb) w m c EA
  hmq : MqOk q W.heap.size w ao n cap mb ML
  hqm : q ≠ mb
  hml : mb < w.heap.size
  hpid : m.pid = pid
  hac : ac = if 2 ≤ m.ph then 1 else 0
  hbx : w.heap[W.heap.size]? = some (.cells #[.int .i8 c.id.k, .int .i64 c.id.n, .string c.id.s, .string c.id.u, .slice c.id.ao c.id.l.length c.id.cap, .int .i8 c.ki, .int .i8 c.re, .int .i64 c.sh, .string c.m, .string c.f, .slice c.ao c.an c.ac, .slice c.so c.sn c.sc] 28 (0, 0))
  hbm : 0 < cap → mb ≠ W.heap.size
section
variable {W w w' : World} {q mb mb' : Nat} {c : Ch} {EA : List TE} {pid : Int} {m m' : Mc} {ao ao' : Option Addr} {n n' cap cap' : Nat} {ML ML' : List It} {ac ac' : Nat}
theorem AkI.keep (h : AkI W w q mb c EA pid m ao n cap ML ac) (hb : Below w.heap.size w w') : AkI W w' q mb c EA pid m ao n cap ML ac :=
  ⟨h.hb.trans (hb.mono h.hb.size), h.hq, keep_heap h.hF hb, h.hm.keep hb, h.hmq.keep hb h.hqm, h.hqm, Nat.lt_of_lt_of_le h.hml hb.size, h.hpid, h.hac, keep_heap h.hbx hb, h.hbm⟩
theorem AkI.app (h : AkI W w q mb c EA pid m ao n cap ML ac) (hc : Chg (fun k => k = mb) w w') (hmq : MqOk q W.heap.size w' ao' n' cap' mb' ML') (hqm : q ≠ mb') (hml : mb' < w'.heap.size) (hmm : (mb' = mb ∧ cap' = cap) ∨ w.heap.size ≤ mb') (h0 : cap = 0 → Below w.heap.size w w') : AkI W w' q mb' c EA pid m ao' n' cap' ML' ac := by
  have hB := h.hmq.hmb
  have hlx := heap_lt h.hbx
  refine ⟨h.hb.trans (hc.below h.hb.size fun k hk => by have hk : k = mb := hk; omega), h.hq, hc.heap h.hF h.hqm, h.hm.chg hc (fun k hk _ => .inr hk) (fun k hk hl => ?_), hmq, hqm, hml, h.hpid, h.hac, ?_, fun hc' => ?_⟩
  · rcases (show k = q ∨ k = mb' from hk) with hk | hk
    · exact .inl hk
    · rcases hmm with e | e
      · exact .inr (hk.trans e.1)
      · omega
  · rcases Nat.eq_zero_or_pos cap with hz | hz
    · exact keep_heap h.hbx (h0 hz)
    · exact hc.heap h.hbx (fun e => h.hbm hz (show W.heap.size = mb from e).symm)
  · rcases hmm with e | e
    · rw [e.1]
      exact h.hbm (e.2 ▸ hc')
    · omega
theorem AkI.lt (h : AkI W w q mb c EA pid m ao n cap ML ac) : ∀ k, Mq q mb k → k < w.heap.size := fun k hk => by
  rcases (show k = q ∨ k = mb from hk) with hk | hk
  · rw [hk]
    exact heap_lt h.hF
  · rw [hk]
    exact h.hml
theorem AkI.m0 (h : AkI W w q mb c EA pid m ao n cap ML ac) : ∀ k, Mq q mb k → k < w'.heap.size → M0 W k := fun k hk _ => by
  have h1 := h.hq
  have h2 := h.hmq.hmb
  show W.heap.size ≤ k
  rcases (show k = q ∨ k = mb from hk) with hk | hk <;> omega
theorem AkI.next (h : AkI W w q mb c EA pid m ao n cap ML ac) (hm' : McOk (Mq q mb) w m' c EA) (hmq : MqOk q W.heap.size w ao' n' cap' mb ML') (hac : ac' = if 2 ≤ m'.ph then 1 else 0) (hpid : m'.pid = m.pid) (hbm : 0 < cap' → mb ≠ W.heap.size) : AkI W (w.setRow q (frL m').toArray) q mb c EA pid m' ao' n' cap' ML' ac' := by
  have hc := chg_setRow w q (frL m').toArray
  have hq := h.hq
  exact ⟨h.hb.trans (hc.below h.hb.size fun k hk => by have hk : k = q := hk; omega), hq, setRow_heap w q _ _ 42 (0, 0) h.hF, hm'.chg hc (fun k hk _ => .inl hk) (fun k hk _ => hk), hmq.chg hc (fun k hk _ => hk) h.hqm, h.hqm, Nat.lt_of_lt_of_le h.hml hc.size, hpid.trans h.hpid, hac, hc.heap h.hbx (fun e => by have e : W.heap.size = q := e; omega), hbm⟩
end
def TuS2 (b o : Nat) (cls : Int) (x : TE) (W : World) : Prop := W.cell? ⟨b, o + 2, none⟩ = some (.int .i8 cls) ∧ W.cell? ⟨b, o + 3, none⟩ = some (.int .i8 x.k) ∧ W.cell? ⟨b, o + 4, none⟩ = some (.int .i64 x.n) ∧ W.cell? ⟨b, o + 5, none⟩ = some (.string x.s) ∧ W.cell? ⟨b, o + 6, none⟩ = some (.string x.u) ∧ W.cell? ⟨b, o + 7, none⟩ = some (.slice x.ao x.l.length x.cap)
def SaS (q : Nat) (m : Mc) (b o : Nat) (cls : Int) (x : TE) (W : World) : Prop := W.heap[q]? = some (.cells (frL m).toArray 42 (0, 0)) ∧ W.cell? ⟨b, o + 2, none⟩ = some (.int .i8 cls) ∧ W.cell? ⟨b, o + 3, none⟩ = some (.int .i8 x.k) ∧ W.cell? ⟨b, o + 4, none⟩ = some (.int .i64 x.n) ∧ W.cell? ⟨b, o + 5, none⟩ = some (.string x.s) ∧ W.cell? ⟨b, o + 6, none⟩ = some (.string x.u) ∧ W.cell? ⟨b, o + 7, none⟩ = some (.slice x.ao x.l.length x.cap)
theorem SaS.keep {q : Nat} {m : Mc} {b o : Nat} {cls : Int} {x : TE} {w w' : World} (h : SaS q m b o cls x w) (hb : Below w.heap.size w w') : SaS q m b o cls x w' := ⟨keep_heap h.1 hb, keep_cell h.2.1 hb, keep_cell h.2.2.1 hb, keep_cell h.2.2.2.1 hb, keep_cell h.2.2.2.2.1 hb, keep_cell h.2.2.2.2.2.1 hb, keep_cell h.2.2.2.2.2.2 hb⟩
theorem TnAt.keepA {w w' : World} {b o : Nat} {t : Tn} (h : TnAt w b o t) (hb : Below w.heap.size w w') : TnAt w' b o t := ⟨keep_cell h.c0 hb, keep_cell h.c1 hb, keep_cell h.c2 hb, keep_cell h.c3 hb, keep_cell h.c4 hb, keep_cell h.c5 hb, keep_cell h.c6 hb, keep_cell h.c7 hb⟩
theorem infoEFn {n : Nat} (h : n = 61) : (Tryd.prog.info? 57).map (·.size) = some n := by
  have : (Tryd.prog.info? 57).map (·.size) = some 61 := by kernel_rfl
  rw [this, h]
theorem isack_x (M : Nat → Prop) (w : World) (e : Ef) (hi : TeOk M w e.T) : Calls Tryd.prog 13 #[.agg #[.int .i8 e.T.k, .int .i64 e.T.n, .string e.T.s, .string e.T.u, .slice e.T.ao e.T.l.length e.T.cap, .bool true], .int .i64 50] w (AkPost M w e.T.t (ackB e.T.t true 50)) := isack_any M w ⟨e.T, true⟩ 50 hi (by omega)
theorem isatom_x {M : Nat → Prop} (y : TE) (w : World) (hy : TeOk M w y) : Calls Tryd.prog 14 #[.agg #[.int .i8 y.k, .int .i64 y.n, .string y.s, .string y.u, .slice y.ao y.l.length y.cap], .string ⟨#[111, 107]⟩] w (IsPost w (isAtomB y.t okS)) := isatom_any _ y.t _ okS w hy.tv.choose_spec
theorem rsame_v {M : Nat → Prop} (V : TE) (w : World) (hV : TeOk M w V) : Calls Tryd.prog 15 #[.agg #[.int .i8 V.k, .int .i64 V.n, .string V.s, .string V.u, .slice V.ao V.l.length V.cap], .agg #[.int .i8 V.k, .int .i64 V.n, .string V.s, .string V.u, .slice V.ao V.l.length V.cap]] w (IsPost w true) := by
  have h := rsame_any _ _ V.t V.t _ _ w hV.tv.choose_spec hV.tv.choose_spec
  rw [eqT_refl] at h
  exact h
def S29 (qe qy qg : Nat) (rc : Int) (y : TE) (ph : Int) (W : World) : Prop := W.cell? ⟨qe, 1, none⟩ = some (.int .i64 rc) ∧ W.cell? ⟨qy, 0, none⟩ = some (.int .i8 y.k) ∧ W.cell? ⟨qy, 1, none⟩ = some (.int .i64 y.n) ∧ W.cell? ⟨qy, 2, none⟩ = some (.string y.s) ∧ W.cell? ⟨qy, 3, none⟩ = some (.string y.u) ∧ W.cell? ⟨qy, 4, none⟩ = some (.slice y.ao y.l.length y.cap) ∧ W.cell? ⟨qg, 8, none⟩ = some (.int .i8 ph)
theorem S29.keep {qe qy qg : Nat} {rc : Int} {y : TE} {ph : Int} {W W' : World} (h : S29 qe qy qg rc y ph W) (hb : Below W.heap.size W W') : S29 qe qy qg rc y ph W' := ⟨keep_cell h.1 hb, keep_cell h.2.1 hb, keep_cell h.2.2.1 hb, keep_cell h.2.2.2.1 hb, keep_cell h.2.2.2.2.1 hb, keep_cell h.2.2.2.2.2.1 hb, keep_cell h.2.2.2.2.2.2 hb⟩
def S34 (qe qc : Nat) (s : ByteArray) (lv : Value) (W : World) : Prop := W.cell? ⟨qe, 21, none⟩ = some (.string s) ∧ W.cell? ⟨qc, 8, none⟩ = some (.string s) ∧ W.cell? ⟨qe, 23, none⟩ = some lv
theorem S34.keep {qe qc : Nat} {s : ByteArray} {lv : Value} {W W' : World} (h : S34 qe qc s lv W) (hb : Below W.heap.size W W') : S34 qe qc s lv W' := ⟨keep_cell h.1 hb, keep_cell h.2.1 hb, keep_cell h.2.2 hb⟩
def S35 (qe qc : Nat) (s : ByteArray) (g o0 o1 o2 o3 o4 qt : Nat) (V : TE) (lv : Value) (W : World) : Prop := W.cell? ⟨qe, 21, none⟩ = some (.string s) ∧ W.cell? ⟨qc, 8, none⟩ = some (.string s) ∧ W.cell? ⟨qe, 23, none⟩ = some lv ∧
  W.cell? ⟨g, o0, none⟩ = some (.int .i8 V.k) ∧ W.cell? ⟨g, o1, none⟩ = some (.int .i64 V.n) ∧ W.cell? ⟨g, o2, none⟩ = some (.string V.s) ∧ W.cell? ⟨g, o3, none⟩ = some (.string V.u) ∧ W.cell? ⟨g, o4, none⟩ = some (.slice V.ao V.l.length V.cap) ∧
  W.cell? ⟨qt, 0, none⟩ = some (.int .i8 V.k) ∧ W.cell? ⟨qt, 1, none⟩ = some (.int .i64 V.n) ∧ W.cell? ⟨qt, 2, none⟩ = some (.string V.s) ∧ W.cell? ⟨qt, 3, none⟩ = some (.string V.u) ∧ W.cell? ⟨qt, 4, none⟩ = some (.slice V.ao V.l.length V.cap)
theorem S35.keep {qe qc : Nat} {s : ByteArray} {g o0 o1 o2 o3 o4 qt : Nat} {V : TE} {lv : Value} {W W' : World} (h : S35 qe qc s g o0 o1 o2 o3 o4 qt V lv W) (hb : Below W.heap.size W W') : S35 qe qc s g o0 o1 o2 o3 o4 qt V lv W' := by
  obtain ⟨a0, a1, a2, a3, a4, a5, a6, a7, a8, a9, b0, b1, b2⟩ := h
  exact ⟨keep_cell a0 hb, keep_cell a1 hb, keep_cell a2 hb, keep_cell a3 hb, keep_cell a4 hb, keep_cell a5 hb, keep_cell a6 hb, keep_cell a7 hb, keep_cell a8 hb, keep_cell a9 hb, keep_cell b0 hb, keep_cell b1 hb, keep_cell b2 hb⟩
/-- what stands behind Step in the law's loop -/
structure AkG (W w : World) (q mb : Nat) (c : Ch) (EA : List TE) (pid : Int) (m : Mc) (ao : Option Addr) (n cap : Nat) (ML : List It) (ac : Nat) (qt qg : Nat) (i : Inn) (m' : Mc) (v1 : Value) (E1 : List Ef) : Prop where
  k : AkI W w q mb c EA pid m ao n cap ML ac
  ht : w.heap[qt]? = some (.cells (stT m).cells.toArray 25 (0, 0))
  hg : w.heap[qg]? = some (.cells (frL m').toArray 42 (0, 0))
  hm : McOk (Mq q mb) w m' c EA
  he : ∃ B, EfAt w B v1 E1 ∧ StR (Mq q mb) B w m c EA i ML m' E1
theorem MlOk.ext {M M' : Nat → Prop} {w w' : World} {v : Value} {L : List It} (h : MlOk M w v L) (hb : Below w.heap.size w w') (hM : ∀ k, M' k → k < w.heap.size → M k) : MlOk M' w' v L := by
  obtain ⟨ao, cap, e1, e2, e3, e4⟩ := h
  refine ⟨ao, cap, e1, e2, e3, fun it hit => ?_⟩
  obtain ⟨g1, b, off, g2, g3⟩ := e4 it hit
  exact ⟨g1.chg (chg_of_below hb (fun _ => False)) (fun _ h => h.elim) hM, b, off, g2, g3.keep hb⟩
theorem one_arg {c : Ch} {EA : List TE} (h : mayC c EA = true) (hn : c.an = EA.length) : 1 ≤ c.an := by
  unfold mayC at h
  rw [Bool.and_eq_true, Bool.and_eq_true] at h
  rw [hn]
  match EA, h.2.2 with
  | [x], _ => exact Nat.le_refl _
set_option maxHeartbeats 16000000 in
theorem acks_any (W : World) (hc : Cells W 0 letL) (c : Ch) (EA : List TE) (hE : TesOk (M0 W) W c.ar EA) (hm : c.m.size ≤ 9223372036854775807) (pid : Int) (hp : -9223372036854775808 ≤ pid ∧ pid ≤ 9223372036854775807) (ao0 : Option Addr) (N cap0 : Nat) (L : List Tn) (hL : TnsOk W (.slice ao0 N cap0) L) :
    Calls Tryd.prog 4 #[.agg #[.int .i8 c.id.k, .int .i64 c.id.n, .string c.id.s, .string c.id.u, .slice c.id.ao c.id.l.length c.id.cap, .int .i8 c.ki, .int .i8 c.re, .int .i64 c.sh, .string c.m, .string c.f, .slice c.ao c.an c.ac, .slice c.so c.sn c.sc], .int .i64 pid, .slice ao0 N cap0] W (IsPost W true) := by
  have HX := Lib.hid (And.intro hc (And.intro hE (And.intro hm (And.intro hp hL))))
  obtain ⟨ao1, cap1, e1, hN1, hN2, -⟩ := hL.form
  injection e1 with e1 e2 e3
  have hNl : N = L.length := e2
  have hNm : N ≤ 9223372036854775807 := by omega
  obtain ⟨aoe, cape, eE, -⟩ := hE.slice
  have eE' : (.slice c.ao c.an c.ac : Value) = .slice aoe EA.length cape := eE
  injection eE' with g1 g2 g3
  have HN := Lib.hid (And.intro hNl g2)
  clear hc hE hm hp hL e1 e2 e3 hN1 hN2 hNl eE g1 g2 g3
  have hb1 := (Below.refl W.heap.size W).alloc (Nat.le_refl _) (.cells #[.int .i8 c.id.k, .int .i64 c.id.n, .string c.id.s, .string c.id.u, .slice c.id.ao c.id.l.length c.id.cap, .int .i8 c.ki, .int .i8 c.re, .int .i64 c.sh, .string c.m, .string c.f, .slice c.ao c.an c.ac, .slice c.so c.sn c.sc] 28)
  have n1 := heap_new W (.cells #[.int .i8 c.id.k, .int .i64 c.id.n, .string c.id.s, .string c.id.u, .slice c.id.ao c.id.l.length c.id.cap, .int .i8 c.ki, .int .i8 c.re, .int .i64 c.sh, .string c.m, .string c.f, .slice c.ao c.an c.ac, .slice c.so c.sn c.sc] 28)
  have x10 : (W.alloc (.cells #[.int .i8 c.id.k, .int .i64 c.id.n, .string c.id.s, .string c.id.u, .slice c.id.ao c.id.l.length c.id.cap, .int .i8 c.ki, .int .i8 c.re, .int .i64 c.sh, .string c.m, .string c.f, .slice c.ao c.an c.ac, .slice c.so c.sn c.sc] 28)).cell? ⟨W.heap.size, 10, none⟩ = some (.slice c.ao c.an c.ac) := (cells_at n1 10 _ rfl).1
  have x11 : (W.alloc (.cells #[.int .i8 c.id.k, .int .i64 c.id.n, .string c.id.s, .string c.id.u, .slice c.id.ao c.id.l.length c.id.cap, .int .i8 c.ki, .int .i8 c.re, .int .i64 c.sh, .string c.m, .string c.f, .slice c.ao c.an c.ac, .slice c.so c.sn c.sc] 28)).cell? ⟨W.heap.size, 11, none⟩ = some (.slice c.so c.sn c.sc) := (cells_at n1 11 _ rfl).1
  have HB := Lib.hid (And.intro hb1 n1)
  clear hb1 n1
  go_enter Tryd.func4, Tryd.ntmps4
  by_cases h1 : (100 : Int) < N
  · have hd : decide ((100 : Int) < N) = true := by simpa using h1
    clear h1
    go_wp2_with fail
    refine (wakes_any (W.alloc (.cells #[.int .i8 c.id.k, .int .i64 c.id.n, .string c.id.s, .string c.id.u, .slice c.id.ao c.id.l.length c.id.cap, .int .i8 c.ki, .int .i8 c.re, .int .i64 c.sh, .string c.m, .string c.f, .slice c.ao c.an c.ac, .slice c.so c.sn c.sc] 28)) (keepCells HX.out.1 HB.out.1)).mono ?_
    rintro e WW ⟨rfl, hbW⟩
    have HBW := Lib.hid (Below.trans HB.out.1 (hbW.mono (Below.size HB.out.1)))
    clear hbW
    go_wp2_with fail
    go_ret
    exact ⟨rfl, HBW.out⟩
  · have hd : decide ((100 : Int) < N) = false := by simpa using h1
    by_cases h2 : (20 : Int) < c.an
    · have hd2 : decide ((20 : Int) < c.an) = true := by simpa using h2
      clear h2
      go_wp2_with fail
      refine (wakes_any (W.alloc (.cells #[.int .i8 c.id.k, .int .i64 c.id.n, .string c.id.s, .string c.id.u, .slice c.id.ao c.id.l.length c.id.cap, .int .i8 c.ki, .int .i8 c.re, .int .i64 c.sh, .string c.m, .string c.f, .slice c.ao c.an c.ac, .slice c.so c.sn c.sc] 28)) (keepCells HX.out.1 HB.out.1)).mono ?_
      rintro e WW ⟨rfl, hbW⟩
      have HBW := Lib.hid (Below.trans HB.out.1 (hbW.mono (Below.size HB.out.1)))
      clear hbW
      go_wp2_with fail
      go_ret
      exact ⟨rfl, HBW.out⟩
    · have hd2 : decide ((20 : Int) < c.an) = false := by simpa using h2
      clear h2
      go_wp2_with fail
      generalize W.alloc (.cells #[.int .i8 c.id.k, .int .i64 c.id.n, .string c.id.s, .string c.id.u, .slice c.id.ao c.id.l.length c.id.cap, .int .i8 c.ki, .int .i8 c.re, .int .i64 c.sh, .string c.m, .string c.f, .slice c.ao c.an c.ac, .slice c.so c.sn c.sc] 28) = w1 at *
      refine (galls_any (M0 W) w1 c.ar EA (HX.out.2.1.chg (chg_of_below HB.out.1 (fun _ => False)) (fun _ h => h.elim) (fun _ h _ => h))).mono ?_
      rintro e w2 ⟨bg, rfl, hb2⟩
      have H2 := Lib.hid (And.intro (HB.out.1.trans (hb2.mono HB.out.1.size)) (keep_heap HB.out.2 hb2))
      have y11 := keep_cell x11 hb2
      clear hb2 HB x10 x11 hd hd2
      cases bg
      · by_cases h3 : 0 < c.sn
        · have hd : decide (0 < c.sn) = true := by simpa using h3
          clear h3
          go_wp2_with fail
          refine (wakes_any w2 (keepCells HX.out.1 H2.out.1)).mono ?_
          rintro e WW ⟨rfl, hbW⟩
          have HBW := Lib.hid (Below.trans H2.out.1 (hbW.mono (Below.size H2.out.1)))
          clear hbW
          go_wp2_with fail
          go_ret
          exact ⟨rfl, HBW.out⟩
        · have hd : decide (0 < c.sn) = false := by simpa using h3
          clear h3
          go_wp2_with (with_reducible refine stop_op (o := ⟨_, .load 28 (.tmp 3), _, _, _, _⟩) ?_)
          refine Lib.hid ?_
          refine wpList_load_row (o := ⟨_, _, _, _, _, _⟩) rfl 28 (.tmp 3) rfl W.heap.size rfl 28 #[.int .i8 c.id.k, .int .i64 c.id.n, .string c.id.s, .string c.id.u, .slice c.id.ao c.id.l.length c.id.cap, .int .i8 c.ki, .int .i8 c.re, .int .i64 c.sh, .string c.m, .string c.f, .slice c.ao c.an c.ac, .slice c.so c.sn c.sc] (0, 0) _ H2.out.2 Tryd.underlying28 rfl (infoCH rfl) ?_
          have HNW := Lib.hid (new_any (fun k => k = W.heap.size) w2 (fun k hk => by rw [show k = W.heap.size from hk]; exact heap_lt H2.out.2) (keepCells HX.out.1 H2.out.1) c EA ((HX.out.2.1.keep H2.out.1).more fun k hk _ => Nat.le_of_eq (show W.heap.size = k from (show k = W.heap.size from hk).symm)) HX.out.2.2.1 pid)
          clear y11 hd
          go_wp2_with fail
          refine HNW.out.mono ?_
          clear HNW
          rintro e w3 ⟨hb3, h⟩
          have HB3 := Lib.hid (H2.out.1.trans (hb3.mono H2.out.1.size))
          have HLT := Lib.hid (Nat.lt_of_lt_of_le (heap_lt H2.out.2) hb3.size)
          have HBX := Lib.hid (keep_heap H2.out.2 hb3)
          clear hb3 H2
          rcases h with ⟨hmay, -, rb, rfl, -, hmk⟩ | ⟨-, rfl⟩
          · have HMK := Lib.hid hmk
            have HAN := Lib.hid (one_arg hmay HN.out.2)
            clear hmk hmay
            go_wp2_with (with_reducible refine stop_op (o := ⟨_, .store 42 (.tmp 7) (.tmp 47), _, _, _, _⟩) ?_)
            refine Lib.hid ?_
            refine wpList_store_new (o := ⟨none, _, _, _, _, _⟩) rfl 42 (.tmp 7) (.tmp 47) rfl (frL (mc0 pid rb)).toArray rfl rfl (infoFR rfl) rfl (all_oneCell_toArray (frL_one _)) ?_
            have hb4 := (Below.refl w3.heap.size w3).alloc (Nat.le_refl _) (.cells (frL (mc0 pid rb)).toArray 42)
            have H4 : Hid (AkI W (w3.alloc (.cells (frL (mc0 pid rb)).toArray 42)) w3.heap.size W.heap.size c EA pid (mc0 pid rb) none 0 0 [] 0) := Lib.hid ⟨HB3.out.trans (hb4.mono HB3.out.size), HLT.out, heap_new w3 _, HMK.out.chg (chg_of_below hb4 (fun _ => False)) (fun _ h => h.elim) (fun k hk hl => by
              rcases (show k = w3.heap.size ∨ k = W.heap.size from hk) with hk | hk
              · omega
              · exact hk), MqOk.start _ _ (Nat.le_refl _), by have := HLT.out; omega, by have := HLT.out; simp; omega, rfl, rfl, keep_heap HBX.out hb4, fun h => by omega⟩
            clear hb4 HMK HB3 HBX HLT
            generalize w3.alloc (.cells (frL (mc0 pid rb)).toArray 42) = w4 at *
            generalize w3.heap.size = q at *
            go_wp2_with fail
            go_loopw [9, 10, 11, 12] (fun mlv av sv iv wr => ∃ (i : Nat) (so : Bool) (m : Mc) (ao : Option Addr) (n cap mb : Nat) (ML : List It) (ac : Nat), i ≤ N ∧ mlv = .slice ao n cap ∧ av = .int .i64 ac ∧ sv = .bool so ∧ iv = .int .i64 i ∧ ac ≤ 1 ∧ n ≤ 20 * i ∧ Hid (AkI W wr q mb c EA pid m ao n cap ML ac)) (fun _ _ _ iv _ => N - (intOf iv).toNat)
            case atStart => exact ⟨0, false, mc0 pid rb, none, 0, 0, W.heap.size, [], 0, by omega, rfl, rfl, rfl, rfl, by omega, by omega, H4⟩
            case round =>
              obtain ⟨i, so, m, ao, n, cap, mb, ML, ac, hi, rfl, rfl, rfl, rfl, hac1, hnn, HI⟩ := hrel
              by_cases hlt : i < N
              · obtain ⟨t, ht⟩ : ∃ t, L[i]? = some t := ⟨L[i]'(by rw [← HN.out.1]; exact hlt), List.getElem?_eq_getElem _⟩
                obtain ⟨ao9, cap9, e9, -, -, hat⟩ := HX.out.2.2.2.2.form
                injection e9 with e9 e10 e11
                subst e9
                obtain ⟨b, off, rfl, htn⟩ := hat i t ht
                have hmm := HX.out.2.2.2.2.ml t (List.mem_of_getElem? ht)
                have hgot := HX.out.2.2.2.2.got t (List.mem_of_getElem? ht)
                obtain ⟨mo, mc, emv, -, -, -, -⟩ := hmm.form
                have HT := Lib.hid (And.intro hmm (And.intro hgot (And.intro htn emv)))
                obtain ⟨t0, t1, t2, t3, t4, t5, t6, t7⟩ := htn.keepA HI.out.hb
                change wr.cell? _ = some (.slice t.got.ao t.got.l.length t.got.cap) at t7
                rw [emv] at t0
                clear hmm hgot htn emv ht hat e10 e11
                by_cases h20 : (20 : Int) < t.ml.length
                · have hd : decide ((20 : Int) < t.ml.length) = true := by simpa using h20
                  clear h20
                  go_wp2_with fail
                  refine (wakes_any wr (keepCells HX.out.1 HI.out.hb)).mono ?_
                  rintro e WW ⟨rfl, hbW⟩
                  have HBW := Lib.hid (Below.trans HI.out.hb (hbW.mono (Below.size HI.out.hb)))
                  clear hbW
                  go_wp2_with fail
                  go_ret
                  exact ⟨rfl, HBW.out⟩
                · have hd : decide ((20 : Int) < t.ml.length) = false := by simpa using h20
                  have HG := Lib.hid (g17_any (M0 W) wr t.mv t.ml (HT.out.1.keep HI.out.hb))
                  rw [HT.out.2.2.2] at HG
                  go_wp2_with fail
                  refine HG.out.mono ?_
                  clear HG
                  rintro e w5 ⟨bg, rfl, hb5⟩
                  have HI5 := Lib.hid (HI.out.keep hb5)
                  have s0 := keep_cell t0 hb5
                  have s1 := keep_cell t1 hb5
                  have s3 := keep_cell t3 hb5
                  have s4 := keep_cell t4 hb5
                  have s5 := keep_cell t5 hb5
                  have s6 := keep_cell t6 hb5
                  have s7 := keep_cell t7 hb5
                  clear hb5 HI t0 t1 t2 t3 t4 t5 t6 t7 hd
                  cases bg
                  · have HG := Lib.hid (great_any _ t.got.t _ w5 (HT.out.2.1.keep HI5.out.hb).tv.choose_spec)
                    go_wp2_with fail
                    refine HG.out.mono ?_
                    clear HG
                    rintro e w6 ⟨rfl, hb6⟩
                    have HI6 := Lib.hid (HI5.out.keep hb6)
                    have r0 := keep_cell s0 hb6
                    have r1 := keep_cell s1 hb6
                    clear hb6 HI5 s0 s1 s3 s4 s5 s6 s7
                    generalize greatB t.got.t = bg at *
                    cases bg
                    · go_wp2_with (with_reducible refine stop_op (o := ⟨_, .call { callee := .builtin .append, args := #[.tmp 82, .tmp 87], argTypes := #[46, 46] }, _, _, _, _⟩) ?_)
                      refine Lib.hid ?_
                      refine wpList_append_mq (o := ⟨_, _, _, _, _, _⟩) rfl (.tmp 82) (.tmp 87) rfl HI6.out.hmq (heap_lt HI6.out.hF) HI6.out.hqm HI6.out.hml HI6.out.hb.size (.slice mo t.ml.length mc) t.ml (HT.out.2.2.2 ▸ (HT.out.1.chg (M' := Mq q mb) (chg_of_below HI6.out.hb (fun _ => False)) (fun _ h => h.elim) (fun k hk hl => hk.elim (fun e => by have := HI6.out.hq; show W.heap.size ≤ k; omega) (fun e => by have := HI6.out.hmq.hmb; show W.heap.size ≤ k; omega)))) (by omega) rfl rfl ?_
                      intro ao' cap' mb' w7 hc7 hmq7 hqm7 hml7 hmm7 h07
                      have HI7 := Lib.hid (HI6.out.app hc7 hmq7 hqm7 hml7 hmm7 h07)
                      clear hc7 hmq7 hqm7 hml7 hmm7 h07 HI6 r0 r1
                      have hnl : n + t.ml.length ≤ 20 * (i + 1) := by omega
                      generalize n + t.ml.length = n7 at *
                      go_wp2_with (with_reducible refine stop_op (o := ⟨_, .load 42 (.tmp 7), _, _, _, _⟩) ?_)
                      refine Lib.hid ?_
                      refine wpList_load_row (o := ⟨_, _, _, _, _, _⟩) rfl 42 (.tmp 7) rfl q rfl 42 (frL m).toArray (0, 0) _ HI7.out.hF Tryd.underlying42 rfl (infoFR rfl) ?_
                      go_wp2_with fail
                      refine (state_any w7 m).mono ?_
                      rintro e w8 ⟨rfl, hb8⟩
                      have HI8 := Lib.hid (HI7.out.keep hb8)
                      clear hb8 HI7
                      go_wp2_with (with_reducible refine stop_op (o := ⟨_, .store 25 (.tmp 13) (.tmp 92), _, _, _, _⟩) ?_)
                      refine Lib.hid ?_
                      refine wpList_store_new (o := ⟨none, _, _, _, _, _⟩) rfl 25 (.tmp 13) (.tmp 92) rfl (stT m).cells.toArray rfl rfl (infoTM' _ rfl) rfl (by simp [Value.oneCell', TE.cells, TE.lv]) ?_
                      have hb9 := (Below.refl w8.heap.size w8).alloc (Nat.le_refl _) (.cells (stT m).cells.toArray 25)
                      have HI9 := Lib.hid (And.intro (HI8.out.keep hb9) (heap_new w8 (.cells (stT m).cells.toArray 25)))
                      clear hb9 HI8
                      generalize w8.alloc (.cells (stT m).cells.toArray 25) = w9 at *
                      generalize w8.heap.size = qt at *
                      go_wp2_with fail
                      go_cut [15, 16] from 94 to 113 (fun fv ev wx => ∃ (qg : Nat) (m' : Mc) (v1 : Value) (E1 : List Ef), fv = .pointer (some ⟨qg, 0, none⟩) ∧ ev = v1 ∧ Hid (AkG W wx q mb' c EA pid m ao' n7 cap' (ML ++ t.ml) ac qt qg ⟨i, 50, ao', n7, cap', t.cls, so, t.got⟩ m' v1 E1))
                      case first =>
                        have hdr : Below w9.heap.size w9 w9.drew := (Below.refl _ _).drew
                        have hta := (HT.out.2.2.1.keepA HI9.out.1.hb).keepA hdr
                        have hS : SaS q m b (off + i * 8) t.cls t.got w9.drew := ⟨keep_heap HI9.out.1.hF hdr, hta.c2, hta.c3, hta.c4, hta.c5, hta.c6, hta.c7⟩
                        have HIA := Lib.hid (And.intro (HI9.out.1.keep hdr) (keep_heap HI9.out.2 hdr))
                        refine region_planT (SaS q m b (off + i * 8) t.cls t.got) (.take 0 (.take 1 (.take 2 (.take 3 (.take 4 (.take 5 (.take 6 (.take 7 (.take 8 (.take 9 (.take 10 (.take 11 (.take 12 (.take 13 (.take 14 (.fork 15 (.take 16 (.take 17 (.take 18 (.run 19 (.run 20 (.take 21 .done)))))) 19 (.run 15 (.take 16 (.take 17 (.take 18 (.run 20 (.take 21 .done)))))))))))))))))))))) (by kernel_rfl) (by kernel_rfl) (by kernel_rfl) hS ?_
                        generalize w9.drew = WD at *
                        clear hdr hta HI9
                        refine planT_take rfl ?_ (fun wS hSw => exec_row 42 (.tmp 7) rfl q rfl (frL m).toArray 42 (0, 0) _ hSw.1 Tryd.underlying42 rfl (infoFR rfl)) ?_
                        focus (rfl)
                        (try simp only [Act.put, List.setIfInBounds_toArray, List.set_cons_zero, List.set_cons_succ])
                        iterate 14 (first | (refine planT_skip rfl ?_ ?_; (focus (rfl)); (try simp only [Act.put, List.setIfInBounds_toArray, List.set_cons_zero, List.set_cons_succ])) | (refine planT_take (v := ?_) rfl ?_ (fun w hSw => ?_) ?_; rotate_left; (focus (rfl)); (focus (unfold SaS at hSw; (go_simp <;> with_reducible rfl))); (try simp only [Act.put, List.setIfInBounds_toArray, List.set_cons_zero, List.set_cons_succ])))
                        refine planT_fork ?_ ?_
                        · skip
                          have HS := Lib.hid (step_any (Mq q mb') WD HIA.out.1.lt (keepCells HX.out.1 HIA.out.1.hb) m c EA ⟨i, 50, ao', n7, cap', t.cls, so, t.got⟩ (ML ++ t.ml) HIA.out.1.hm (by rw [HIA.out.1.hpid]; exact HX.out.2.2.2.1) ((HT.out.2.1.keep HIA.out.1.hb).more HIA.out.1.m0) HIA.out.1.hmq.ml)
                          change Hid (Calls Tryd.prog 10 #[.agg (frL m).toArray, .agg #[.int .i64 i, .int .i64 50, .slice ao' n7 cap', .int .i8 t.cls, .bool so, .int .i8 t.got.k, .int .i64 t.got.n, .string t.got.s, .string t.got.u, .slice t.got.ao t.got.l.length t.got.cap, .int .i64 0]] WD _) at HS
                          refine planT_run rfl ?_ (fun K hK => ?_)
                          focus (rfl)
                          go_simp
                          refine HS.out.mono ?_
                          clear HS
                          rintro e w10 ⟨m', v1, E1, rfl, hb11, hef, hm', hR⟩
                          have hS1 := hS.keep hb11
                          have HIB := Lib.hid (And.intro (HIA.out.1.keep hb11) (And.intro (keep_heap HIA.out.2 hb11) (And.intro hef (And.intro hm' hR))))
                          refine hK.out _ _ (hS1) ?_
                          clear hK K
                          (try simp only [Act.put, List.setIfInBounds_toArray, List.set_cons_zero, List.set_cons_succ])
                          clear hS hb11 hef hm' hR HIA
                          iterate 3 (first | (refine planT_skip rfl ?_ ?_; (focus (rfl)); (try simp only [Act.put, List.setIfInBounds_toArray, List.set_cons_zero, List.set_cons_succ])) | (refine planT_take (v := ?_) rfl ?_ (fun w hSw => ?_) ?_; rotate_left; (focus (rfl)); (focus (unfold SaS at hSw; (go_simp <;> with_reducible rfl))); (try simp only [Act.put, List.setIfInBounds_toArray, List.set_cons_zero, List.set_cons_succ])))
                          have hb12 := (Below.refl w10.heap.size w10).alloc (Nat.le_refl _) (.cells #[.int .i8 0, .int .i64 0, .int .i64 0, .slice none 0 0, .slice none 0 0, .slice none 0 0, .slice none 0 0, .int .i64 0, .int .i8 0, .int .i64 0, .int .i64 0, .int .i64 0, .int .i64 0, .int .i8 0, .int .i64 0, .string ⟨#[]⟩, .string ⟨#[]⟩, .slice none 0 0, .int .i8 0, .int .i64 0, .string ⟨#[]⟩, .string ⟨#[]⟩, .slice none 0 0, .int .i8 0, .int .i64 0, .string ⟨#[]⟩, .string ⟨#[]⟩, .slice none 0 0, .slice none 0 0, .int .i8 0, .int .i64 0, .int .i64 0, .slice none 0 0, .slice none 0 0, .slice none 0 0] 42)
                          have hS2 := hS1.keep hb12
                          refine planT_run rfl ?_ (fun K hK => ?_)
                          focus (rfl)
                          go_simp
                          refine hK.out _ _ (hS2) ?_
                          clear hK K
                          (try simp only [Act.put, List.setIfInBounds_toArray, List.set_cons_zero, List.set_cons_succ])
                          have hb13 := (Below.refl w10.heap.size w10).alloc (Nat.le_refl _) (.cells (frL m').toArray 42)
                          have hS3 := hS1.keep hb13
                          refine planT_run rfl ?_ (fun K hK => ?_)
                          focus (rfl)
                          refine wp_store_row 42 (.tmp 15) (.tmp 111) rfl w10.heap.size (frL m').toArray rfl rfl 42 #[.int .i8 0, .int .i64 0, .int .i64 0, .slice none 0 0, .slice none 0 0, .slice none 0 0, .slice none 0 0, .int .i64 0, .int .i8 0, .int .i64 0, .int .i64 0, .int .i64 0, .int .i64 0, .int .i8 0, .int .i64 0, .string ⟨#[]⟩, .string ⟨#[]⟩, .slice none 0 0, .int .i8 0, .int .i64 0, .string ⟨#[]⟩, .string ⟨#[]⟩, .slice none 0 0, .int .i8 0, .int .i64 0, .string ⟨#[]⟩, .string ⟨#[]⟩, .slice none 0 0, .slice none 0 0, .int .i8 0, .int .i64 0, .int .i64 0, .slice none 0 0, .slice none 0 0, .slice none 0 0] (heap_new w10 _) (infoFR rfl) rfl (all_oneCell_toArray (frL_one _)) ?_
                          rw [setRow_alloc]
                          refine hK.out _ _ (hS3) ?_
                          clear hK K
                          (try simp only [Act.put, List.setIfInBounds_toArray, List.set_cons_zero, List.set_cons_succ])
                          iterate 1 (first | (refine planT_skip rfl ?_ ?_; (focus (rfl)); (try simp only [Act.put, List.setIfInBounds_toArray, List.set_cons_zero, List.set_cons_succ])) | (refine planT_take (v := ?_) rfl ?_ (fun w hSw => ?_) ?_; rotate_left; (focus (rfl)); (focus (unfold SaS at hSw; (go_simp <;> with_reducible rfl))); (try simp only [Act.put, List.setIfInBounds_toArray, List.set_cons_zero, List.set_cons_succ])))
                          refine planT_done ?_
                          have HF : Hid (AkG W (w10.alloc (.cells (frL m').toArray 42)) q mb' c EA pid m ao' n7 cap' (ML ++ t.ml) ac qt w10.heap.size ⟨i, 50, ao', n7, cap', t.cls, so, t.got⟩ m' v1 E1) := Lib.hid ⟨HIB.out.1.keep hb13, keep_heap HIB.out.2.1 hb13, heap_new w10 _, HIB.out.2.2.2.1.keep hb13, WD.heap.size, HIB.out.2.2.1.keep hb13, HIB.out.2.2.2.2.conv (fun x hx => hx.keep hb13) fun f n x hx => hx.chg (chg_of_below hb13 (fun _ => False)) fun _ h => h.elim⟩
                          clear hS1 hS2 hS3 hb12 hb13 HIB
                          go_wp2_with fail
                          go_meet
                          exact ⟨_, m', v1, E1, rfl, rfl, HF⟩
                        · skip
                          have hb12 := (Below.refl WD.heap.size WD).alloc (Nat.le_refl _) (.cells #[.int .i8 0, .int .i64 0, .int .i64 0, .slice none 0 0, .slice none 0 0, .slice none 0 0, .slice none 0 0, .int .i64 0, .int .i8 0, .int .i64 0, .int .i64 0, .int .i64 0, .int .i64 0, .int .i8 0, .int .i64 0, .string ⟨#[]⟩, .string ⟨#[]⟩, .slice none 0 0, .int .i8 0, .int .i64 0, .string ⟨#[]⟩, .string ⟨#[]⟩, .slice none 0 0, .int .i8 0, .int .i64 0, .string ⟨#[]⟩, .string ⟨#[]⟩, .slice none 0 0, .slice none 0 0, .int .i8 0, .int .i64 0, .int .i64 0, .slice none 0 0, .slice none 0 0, .slice none 0 0] 42)
                          have hS2 := hS.keep hb12
                          refine planT_run rfl ?_ (fun K hK => ?_)
                          focus (rfl)
                          go_simp
                          refine hK.out _ _ (hS2) ?_
                          clear hK K
                          (try simp only [Act.put, List.setIfInBounds_toArray, List.set_cons_zero, List.set_cons_succ])
                          have hqg := heap_new WD (.cells #[.int .i8 0, .int .i64 0, .int .i64 0, .slice none 0 0, .slice none 0 0, .slice none 0 0, .slice none 0 0, .int .i64 0, .int .i8 0, .int .i64 0, .int .i64 0, .int .i64 0, .int .i64 0, .int .i8 0, .int .i64 0, .string ⟨#[]⟩, .string ⟨#[]⟩, .slice none 0 0, .int .i8 0, .int .i64 0, .string ⟨#[]⟩, .string ⟨#[]⟩, .slice none 0 0, .int .i8 0, .int .i64 0, .string ⟨#[]⟩, .string ⟨#[]⟩, .slice none 0 0, .slice none 0 0, .int .i8 0, .int .i64 0, .int .i64 0, .slice none 0 0, .slice none 0 0, .slice none 0 0] 42)
                          have hM4 : ∀ k, (Mq q mb' k ∨ k = WD.heap.size) → k < WD.heap.size → Mq q mb' k := fun k hk hl => hk.elim id fun e => by omega
                          have hM0 : ∀ k, (Mq q mb' k ∨ k = WD.heap.size) → k < WD.heap.size → M0 W k := fun k hk hl => HIA.out.1.m0 (w' := WD) k (hM4 k hk hl) hl
                          have HS := Lib.hid (step_any (fun k => Mq q mb' k ∨ k = WD.heap.size) (WD.alloc (.cells #[.int .i8 0, .int .i64 0, .int .i64 0, .slice none 0 0, .slice none 0 0, .slice none 0 0, .slice none 0 0, .int .i64 0, .int .i8 0, .int .i64 0, .int .i64 0, .int .i64 0, .int .i64 0, .int .i8 0, .int .i64 0, .string ⟨#[]⟩, .string ⟨#[]⟩, .slice none 0 0, .int .i8 0, .int .i64 0, .string ⟨#[]⟩, .string ⟨#[]⟩, .slice none 0 0, .int .i8 0, .int .i64 0, .string ⟨#[]⟩, .string ⟨#[]⟩, .slice none 0 0, .slice none 0 0, .int .i8 0, .int .i64 0, .int .i64 0, .slice none 0 0, .slice none 0 0, .slice none 0 0] 42)) (fun k hk => hk.elim (fun h => by have := HIA.out.1.lt k h; simp; omega) fun e => by simp; omega) (keepCells HX.out.1 (HIA.out.1.hb.trans (hb12.mono HIA.out.1.hb.size))) m c EA ⟨i, 50, ao', n7, cap', t.cls, so, t.got⟩ (ML ++ t.ml) (HIA.out.1.hm.chg (chg_of_below hb12 (fun _ => False)) (fun _ h => h.elim) hM4) (by rw [HIA.out.1.hpid]; exact HX.out.2.2.2.1) ((HT.out.2.1.keep HIA.out.1.hb).chg (chg_of_below hb12 (fun _ => False)) (fun _ h => h.elim) hM0) (HIA.out.1.hmq.ml.ext hb12 hM4))
                          change Hid (Calls Tryd.prog 10 #[.agg (frL m).toArray, .agg #[.int .i64 i, .int .i64 50, .slice ao' n7 cap', .int .i8 t.cls, .bool so, .int .i8 t.got.k, .int .i64 t.got.n, .string t.got.s, .string t.got.u, .slice t.got.ao t.got.l.length t.got.cap, .int .i64 0]] (WD.alloc (.cells #[.int .i8 0, .int .i64 0, .int .i64 0, .slice none 0 0, .slice none 0 0, .slice none 0 0, .slice none 0 0, .int .i64 0, .int .i8 0, .int .i64 0, .int .i64 0, .int .i64 0, .int .i64 0, .int .i8 0, .int .i64 0, .string ⟨#[]⟩, .string ⟨#[]⟩, .slice none 0 0, .int .i8 0, .int .i64 0, .string ⟨#[]⟩, .string ⟨#[]⟩, .slice none 0 0, .int .i8 0, .int .i64 0, .string ⟨#[]⟩, .string ⟨#[]⟩, .slice none 0 0, .slice none 0 0, .int .i8 0, .int .i64 0, .int .i64 0, .slice none 0 0, .slice none 0 0, .slice none 0 0] 42)) _) at HS
                          have HBW := Lib.hid (And.intro hb12 hqg)
                          have hsz : (WD.alloc (.cells #[.int .i8 0, .int .i64 0, .int .i64 0, .slice none 0 0, .slice none 0 0, .slice none 0 0, .slice none 0 0, .int .i64 0, .int .i8 0, .int .i64 0, .int .i64 0, .int .i64 0, .int .i64 0, .int .i8 0, .int .i64 0, .string ⟨#[]⟩, .string ⟨#[]⟩, .slice none 0 0, .int .i8 0, .int .i64 0, .string ⟨#[]⟩, .string ⟨#[]⟩, .slice none 0 0, .int .i8 0, .int .i64 0, .string ⟨#[]⟩, .string ⟨#[]⟩, .slice none 0 0, .slice none 0 0, .int .i8 0, .int .i64 0, .int .i64 0, .slice none 0 0, .slice none 0 0, .slice none 0 0] 42)).heap.size = WD.heap.size + 1 := World.size_alloc _ _
                          have HSZ := Lib.hid hsz
                          clear hS hb12 hqg hM4 hM0 hsz
                          generalize WD.alloc (.cells #[.int .i8 0, .int .i64 0, .int .i64 0, .slice none 0 0, .slice none 0 0, .slice none 0 0, .slice none 0 0, .int .i64 0, .int .i8 0, .int .i64 0, .int .i64 0, .int .i64 0, .int .i64 0, .int .i8 0, .int .i64 0, .string ⟨#[]⟩, .string ⟨#[]⟩, .slice none 0 0, .int .i8 0, .int .i64 0, .string ⟨#[]⟩, .string ⟨#[]⟩, .slice none 0 0, .int .i8 0, .int .i64 0, .string ⟨#[]⟩, .string ⟨#[]⟩, .slice none 0 0, .slice none 0 0, .int .i8 0, .int .i64 0, .int .i64 0, .slice none 0 0, .slice none 0 0, .slice none 0 0] 42) = WA at *
                          refine planT_run rfl ?_ (fun K hK => ?_)
                          focus (rfl)
                          go_simp
                          refine HS.out.mono ?_
                          clear HS
                          rintro e w10 ⟨m', v1, E1, rfl, hb11, hef, hm', hR⟩
                          have hS1 := hS2.keep hb11
                          have HID := Lib.hid (And.intro (HBW.out.1.trans (hb11.mono (by have := HSZ.out; omega))) (And.intro (keep_heap HBW.out.2 hb11) (And.intro hef (And.intro hm' hR))))
                          refine hK.out _ _ (hS1) ?_
                          clear hK K
                          (try simp only [Act.put, List.setIfInBounds_toArray, List.set_cons_zero, List.set_cons_succ])
                          clear hS2 hb11 hef hm' hR HBW
                          iterate 3 (first | (refine planT_skip rfl ?_ ?_; (focus (rfl)); (try simp only [Act.put, List.setIfInBounds_toArray, List.set_cons_zero, List.set_cons_succ])) | (refine planT_take (v := ?_) rfl ?_ (fun w hSw => ?_) ?_; rotate_left; (focus (rfl)); (focus (unfold SaS at hSw; (go_simp <;> with_reducible rfl))); (try simp only [Act.put, List.setIfInBounds_toArray, List.set_cons_zero, List.set_cons_succ])))
                          have hc4 := chg_setRow w10 WD.heap.size (frL m').toArray
                          have hbA := bel_setRow HID.out.1 HID.out.1.size (Nat.le_refl _) (frL m').toArray
                          have hqb : ¬ q = WD.heap.size := by have := heap_lt HIA.out.1.hF; omega
                          have hbb : ¬ b = WD.heap.size := by have h0 : b < W.heap.size := World.block_lt_of_cell? W _ HT.out.2.2.1.c0; have := HIA.out.1.hb.size; omega
                          have hS3 : SaS q m b (off + i * 8) t.cls t.got (w10.setRow WD.heap.size (frL m').toArray) := ⟨hc4.heap hS1.1 hqb, hc4.cell hS1.2.1 hbb, hc4.cell hS1.2.2.1 hbb, hc4.cell hS1.2.2.2.1 hbb, hc4.cell hS1.2.2.2.2.1 hbb, hc4.cell hS1.2.2.2.2.2.1 hbb, hc4.cell hS1.2.2.2.2.2.2 hbb⟩
                          refine planT_run rfl ?_ (fun K hK => ?_)
                          focus (rfl)
                          refine wp_store_row 42 (.tmp 15) (.tmp 111) rfl WD.heap.size (frL m').toArray rfl rfl 42 #[.int .i8 0, .int .i64 0, .int .i64 0, .slice none 0 0, .slice none 0 0, .slice none 0 0, .slice none 0 0, .int .i64 0, .int .i8 0, .int .i64 0, .int .i64 0, .int .i64 0, .int .i64 0, .int .i8 0, .int .i64 0, .string ⟨#[]⟩, .string ⟨#[]⟩, .slice none 0 0, .int .i8 0, .int .i64 0, .string ⟨#[]⟩, .string ⟨#[]⟩, .slice none 0 0, .int .i8 0, .int .i64 0, .string ⟨#[]⟩, .string ⟨#[]⟩, .slice none 0 0, .slice none 0 0, .int .i8 0, .int .i64 0, .int .i64 0, .slice none 0 0, .slice none 0 0, .slice none 0 0] HID.out.2.1 (infoFR rfl) rfl (all_oneCell_toArray (frL_one _)) ?_
                          refine hK.out _ _ (hS3) ?_
                          clear hK K
                          (try simp only [Act.put, List.setIfInBounds_toArray, List.set_cons_zero, List.set_cons_succ])
                          iterate 1 (first | (refine planT_skip rfl ?_ ?_; (focus (rfl)); (try simp only [Act.put, List.setIfInBounds_toArray, List.set_cons_zero, List.set_cons_succ])) | (refine planT_take (v := ?_) rfl ?_ (fun w hSw => ?_) ?_; rotate_left; (focus (rfl)); (focus (unfold SaS at hSw; (go_simp <;> with_reducible rfl))); (try simp only [Act.put, List.setIfInBounds_toArray, List.set_cons_zero, List.set_cons_succ])))
                          refine planT_done ?_
                          have HF : Hid (AkG W (w10.setRow WD.heap.size (frL m').toArray) q mb' c EA pid m ao' n7 cap' (ML ++ t.ml) ac qt WD.heap.size ⟨i, 50, ao', n7, cap', t.cls, so, t.got⟩ m' v1 E1) := Lib.hid ⟨HIA.out.1.keep hbA, keep_heap HIA.out.2 hbA, setRow_heap w10 _ _ _ 42 (0, 0) HID.out.2.1, HID.out.2.2.2.1.chg hc4 (fun k hk _ => .inr hk) (fun k hk _ => .inl hk), WA.heap.size, HID.out.2.2.1.chg hc4 (fun k hk => by have hk : k = WD.heap.size := hk; have := HSZ.out; omega), HID.out.2.2.2.2.conv (fun x hx => hx.chg hc4 (fun k hk _ => .inr hk) (fun k hk _ => .inl hk)) fun f n x hx => hx.chg hc4 fun k hk => by have hk : k = WD.heap.size := hk; have := HSZ.out; omega⟩
                          clear hS1 hS3 hc4 hbA hqb hbb HID HIA
                          go_wp2_with fail
                          go_meet
                          exact ⟨_, m', v1, E1, rfl, rfl, HF⟩
                      case rest =>
                        obtain ⟨qg, m', v1, E1, rfl, rfl, HG⟩ := hcut
                        obtain ⟨B, hef, hR⟩ := HG.out.he
                        have HU := Lib.hid (acks_unit hR rfl HAN.out HG.out.k.hac)
                        obtain ⟨eo, ec, rfl, he1, he2, -⟩ := id hef
                        have hEl : E1.length ≤ 9223372036854775807 := by omega
                        have HE := Lib.hid hef
                        clear he1 he2 hef hR
                        go_wp2_with fail
                        generalize wr = wo at *
                        go_loopw [9, 10, 11, 17] (fun mlv av sv kv wr => ∃ (k : Nat) (s : Ks) (ao : Option Addr) (n cap : Nat), k ≤ E1.length ∧ mlv = .slice ao n cap ∧ av = .int .i64 (s.ac : Int) ∧ sv = .bool s.so ∧ kv = .int .i64 k ∧ n ≤ n7 ∧ s.ac ≤ k + 1 ∧ Hid (Below wc.heap.size wc wr ∧ MqOk q W.heap.size wr ao n cap mb' s.ml ∧ (0 < cap → mb' ≠ W.heap.size) ∧ ksAll (Mq q mb') wc m m' c s (E1.drop k) ∧ ksFold s (E1.drop k) = ksFold ⟨ML ++ t.ml, ac, false⟩ E1 ∧ ∀ e ∈ E1.take k, e.kd ≠ 13)) (fun _ _ _ kv _ => E1.length - (intOf kv).toNat)
                        case atStart => exact ⟨0, ⟨ML ++ t.ml, ac, false⟩, ao', n7, cap', by omega, rfl, rfl, rfl, rfl, by omega, by omega, Lib.hid ⟨Below.refl _ _, HG.out.k.hmq, HG.out.k.hbm, HU.out.1, rfl, fun e he => by simp at he⟩⟩
                        case round =>
                          obtain ⟨k, ⟨sml, sac, sso⟩, ao2, n2, cap2, hk, rfl, rfl, rfl, rfl, hn2, hsa, HK⟩ := hrel
                          have hsa : sac ≤ k + 1 := hsa
                          by_cases hkl : k < E1.length
                          · obtain ⟨e, he⟩ : ∃ e, E1[k]? = some e := ⟨E1[k], List.getElem?_eq_getElem hkl⟩
                            obtain ⟨b1, ec1, ev, hB1, hcl⟩ := (HE.out.keep HK.out.1).at he
                            injection ev with ev1 ev2 ev3
                            subst ev1 ev3
                            have hrg : wr.rangeAt b1 (k * 61) (efL e) := fun j v hj => hcl j v (by have h0 := (List.getElem?_eq_some_iff.1 hj).1; have h1 : (efL e).length = 61 := rfl; omega) hj
                            have hdc := drop_cons he
                            have h3 := HK.out.2.2.2.1
                            have h4 := HK.out.2.2.2.2.1
                            rw [hdc] at h3 h4
                            have h5 : e.kd ≠ 13 → ∀ x ∈ E1.take (k + 1), x.kd ≠ 13 := fun hne x hx => by
                              rw [List.take_add_one, he] at hx
                              rcases List.mem_append.1 hx with hx | hx
                              · exact HK.out.2.2.2.2.2 x hx
                              · simp at hx
                                rw [hx]
                                exact hne
                            have HO := Lib.hid h3.1
                            have HSS := Lib.hid (fun hne : e.kd ≠ 13 => And.intro (h3.2.resolve_left hne) (And.intro (show ksFold (ksStep ⟨sml, sac, sso⟩ e) (E1.drop (k + 1)) = ksFold ⟨ML ++ t.ml, ac, false⟩ E1 from h4) (h5 hne)))
                            clear hdc h3 h4 h5 hcl hB1 he
                            go_wp2_with (with_reducible refine stop_op (o := ⟨_, .load 57 (.tmp 121), _, _, _, _⟩) ?_)
                            refine Lib.hid ?_
                            refine wpList_load_mid (op := ⟨_, _, _, _, _, _⟩) rfl 57 (.tmp 121) rfl b1 (k * 61) rfl (efL e) _ hrg Tryd.underlying57 rfl (infoEFn rfl) ?_
                            clear hrg
                            go_wp2_with (with_reducible refine stop_op (o := ⟨_, .store 57 (.tmp 18) (.tmp 122), _, _, _, _⟩) ?_)
                            refine Lib.hid ?_
                            refine wpList_store_new (o := ⟨none, _, _, _, _, _⟩) rfl 57 (.tmp 18) (.tmp 122) rfl (efL e).toArray rfl rfl (infoEFn rfl) rfl (all_oneCell_toArray (efL_one e)) ?_
                            have hbe := (Below.refl wr.heap.size wr).alloc (Nat.le_refl _) (.cells (efL e).toArray 57)
                            have HW := Lib.hid (And.intro (HK.out.1.trans (hbe.mono HK.out.1.size)) (And.intro (HK.out.2.1.keep hbe HG.out.k.hqm) (And.intro HK.out.2.2.1 (heap_new wr (.cells (efL e).toArray 57)))))
                            clear hbe HK
                            generalize wr.alloc (.cells (efL e).toArray 57) = w12 at *
                            generalize wr.heap.size = qe at *
                            have k0 : w12.cell? ⟨qe, 0, none⟩ = some (.int .i8 e.kd) := (cells_at HW.out.2.2.2 0 _ rfl).1
                            rcases HO.out with ⟨hkd, hne⟩ | ⟨hkd, hs0, hrc, hte, hak, hat⟩ | ⟨hkd, hcm, han, hrow⟩ | ⟨hkd, hs1⟩ | hkd | hkd
                            · cases sml with
                              | nil => exact absurd rfl hne
                              | cons x r =>
                                have hst : ksStep ⟨x :: r, sac, sso⟩ e = ⟨r, sac, sso⟩ := by simp [ksStep, hkd]
                                have HSS := Lib.hid (HSS.out (by omega))
                                rw [hst] at HSS
                                rw [hkd] at k0
                                obtain ⟨off2, rfl, h1n, hnc, hmqt⟩ := HW.out.2.1.tl
                                have q2 : ((n2 : Int) == 0) = false := by simp; omega
                                have hle1 : (1 : Int) ≤ (n2 : Int) := by omega
                                have hle2 : (n2 : Int) ≤ (cap2 : Int) := by omega
                                have HQT := Lib.hid hmqt
                                clear hst hkd HO hmqt hne
                                go_wp2_with fail
                                go_roundw
                                case rel => exact ⟨k + 1, ⟨r, sac, sso⟩, (if cap2 = 1 then some ⟨mb', off2, none⟩ else some ⟨mb', off2 + 6, none⟩), n2 - 1, cap2 - 1, by omega, rfl, rfl, rfl, by go_num, by omega, Nat.le_succ_of_le hsa, Lib.hid ⟨HW.out.1, HQT.out, fun h => HW.out.2.2.1 (by omega), HSS.out.1, HSS.out.2.1, HSS.out.2.2⟩⟩
                                case measure => simp [intOf]; omega
                            · as_aux_lemma =>
                              have hst : ksStep ⟨sml, sac, sso⟩ e = ⟨sml, sac + 1, sso⟩ := by simp [ksStep, hkd]
                              have HSS := Lib.hid (HSS.out (by omega))
                              rw [hst] at HSS
                              rw [hkd] at k0
                              have hs0 : sac = 0 := hs0
                              have hwr : IntKind.i64.wrap ((sac : Int) + 1) = (sac : Int) + 1 := IntWalk.i64_in _ (by omega)
                              clear hs0
                              have k1 : w12.cell? ⟨qe, 1, none⟩ = some (.int .i64 e.rc) := (cells_at HW.out.2.2.2 1 _ rfl).1
                              rw [hrc, HG.out.k.hpid] at k1
                              have y0 : w12.cell? ⟨qe, 3, none⟩ = some (.int .i8 e.T.k) := (cells_at HW.out.2.2.2 3 _ rfl).1
                              have y1 : w12.cell? ⟨qe, 4, none⟩ = some (.int .i64 e.T.n) := (cells_at HW.out.2.2.2 4 _ rfl).1
                              have y2 : w12.cell? ⟨qe, 5, none⟩ = some (.string e.T.s) := (cells_at HW.out.2.2.2 5 _ rfl).1
                              have y3 : w12.cell? ⟨qe, 6, none⟩ = some (.string e.T.u) := (cells_at HW.out.2.2.2 6 _ rfl).1
                              have y4 : w12.cell? ⟨qe, 7, none⟩ = some (.slice e.T.ao e.T.l.length e.T.cap) := (cells_at HW.out.2.2.2 7 _ rfl).1
                              have HC := Lib.hid (isack_x (Mq q mb') w12 e (hte.keep HW.out.1))
                              rw [hak] at HC
                              have HAT := Lib.hid hat
                              clear hst hkd HO hrc hte hak hat
                              go_wp2_with fail
                              refine HC.out.mono ?_
                              clear HC
                              rintro e2 w13 ⟨hb13, y, rfl, hy, hyt⟩
                              have HW3 := Lib.hid (And.intro (HW.out.1.trans (hb13.mono HW.out.1.size)) (And.intro (HW.out.2.1.keep hb13 HG.out.k.hqm) (And.intro (keep_cell k1 hb13) hy)))
                              have HYT := Lib.hid (show isAtomB y.t okS = decide (m'.ph = 2) by rw [hyt]; exact HAT.out)
                              clear hb13 hy hyt HAT y0 y1 y2 y3 y4 k0 k1 hwr
                              go_wp2_with (with_reducible refine stop_op (o := ⟨_, .store 25 (.tmp 19) (.tmp 141), _, _, _, _⟩) ?_)
                              refine Lib.hid ?_
                              refine wpList_store_new (o := ⟨none, _, _, _, _, _⟩) rfl 25 (.tmp 19) (.tmp 141) rfl y.cells.toArray rfl rfl (infoTM' _ rfl) rfl (by simp [Value.oneCell', TE.cells, TE.lv]) ?_
                              have hb14 := (Below.refl w13.heap.size w13).alloc (Nat.le_refl _) (.cells y.cells.toArray 25)
                              have hqy := heap_new w13 (.cells y.cells.toArray 25)
                              have HW4 := Lib.hid (And.intro (HW3.out.1.trans (hb14.mono HW3.out.1.size)) (And.intro (HW3.out.2.1.keep hb14 HG.out.k.hqm) (And.intro (keep_cell HW3.out.2.2.1 hb14) (And.intro (HW3.out.2.2.2.keep hb14) hqy))))
                              clear hb14 hqy HW3
                              generalize w13.alloc (.cells y.cells.toArray 25) = w14 at *
                              generalize w13.heap.size = qy at *
                              go_wp2_with fail
                              have hdr : Below w14.heap.size w14 w14.drew := (Below.refl _ _).drew
                              obtain ⟨z0, z1, z2, z3, z4⟩ := BxS.of (keep_heap HW4.out.2.2.2.2 hdr)
                              have hgk := keep_heap (keep_heap HG.out.hg HW4.out.1) hdr
                              have hS : S29 qe qy qg pid y m'.ph w14.drew := ⟨keep_cell HW4.out.2.2.1 hdr, z0, z1, z2, z3, z4, (cells_at hgk 8 _ rfl).1⟩
                              have HB := Lib.hid (HW4.out.1.trans (hdr.mono HW4.out.1.size))
                              have HYK := Lib.hid (And.intro (HW4.out.2.2.2.1.keep hdr) (HW4.out.2.1.keep hdr HG.out.k.hqm))
                              clear z0 z1 z2 z3 z4 hgk HW4 hdr
                              by_cases hp2 : m'.ph = 2
                              · have HYB := Lib.hid (show isAtomB y.t okS = true by rw [HYT.out, hp2]; rfl)
                                rw [hp2] at hS
                                clear hp2
                                refine region_plan (S29 qe qy qg pid y 2) [(0, 0), (1, 0), (2, 0), (3, 0), (4, 0), (5, 0), (6, 0), (7, 0), (8, 0), (9, 0), (11, 0), (12, 0), (13, 0), (14, 0), (10, 1), (15, 0), (16, 0)] (by kernel_rfl) (by kernel_rfl) (by kernel_rfl) hS ?_
                                generalize w14.drew = WD at *
                                iterate 14 (first | (refine plan_skip rfl ?_ ?_; (focus (rfl)); (try simp only [Act.put, List.setIfInBounds_toArray, List.set_cons_zero, List.set_cons_succ])) | (refine plan_take (v := ?_) rfl ?_ (fun w hSw => ?_) ?_; rotate_left; (focus (rfl)); (focus (unfold S29 at hSw; (go_simp <;> with_reducible rfl))); (try simp only [Act.put, List.setIfInBounds_toArray, List.set_cons_zero, List.set_cons_succ])))
                                refine plan_run rfl ?_ (fun K hK => ?_)
                                focus (rfl)
                                go_simp
                                refine (isatom_x y WD HYK.out.1).mono ?_
                                rintro e3 W1 ⟨rfl, hb1⟩
                                have hS1 := hS.keep hb1
                                refine hK.out _ _ hS1 ?_
                                clear hK K 
                                (try simp only [Act.put, List.setIfInBounds_toArray, List.set_cons_zero, List.set_cons_succ])
                                have HWD := Lib.hid (And.intro (HB.out.trans (hb1.mono HB.out.size)) (HYK.out.2.keep hb1 HG.out.k.hqm))
                                rw [HYB.out]
                                clear hS hb1 HB HYK
                                iterate 2 (first | (refine plan_skip rfl ?_ ?_; (focus (rfl)); (try simp only [Act.put, List.setIfInBounds_toArray, List.set_cons_zero, List.set_cons_succ])) | (refine plan_take (v := ?_) rfl ?_ (fun w hSw => ?_) ?_; rotate_left; (focus (rfl)); (focus (unfold S29 at hSw; (go_simp <;> with_reducible rfl))); (try simp only [Act.put, List.setIfInBounds_toArray, List.set_cons_zero, List.set_cons_succ])))
                                refine plan_done ?_
                                clear hS1
                                skip
                                go_wp2_with fail
                                skip
                                go_roundw
                                case rel => first
                                  | exact ⟨k + 1, ⟨sml, (sac + 1), sso⟩, ao2, n2, cap2, by omega, rfl, by go_num, rfl, by go_num, by omega, Nat.succ_le_succ hsa, Lib.hid ⟨HWD.out.1, HWD.out.2, HW.out.2.2.1, HSS.out.1, HSS.out.2.1, HSS.out.2.2⟩⟩
                                  | (repeat apply Exists.intro
                                     refine ⟨?_, rfl⟩
                                     exact ⟨k + 1, ⟨sml, (sac + 1), sso⟩, ao2, n2, cap2, by omega, rfl, by go_num, rfl, by go_num, by omega, Nat.succ_le_succ hsa, Lib.hid ⟨HWD.out.1, HWD.out.2, HW.out.2.2.1, HSS.out.1, HSS.out.2.1, HSS.out.2.2⟩⟩)
                                case measure => simp [intOf]; omega
                              · have HYB := Lib.hid (show isAtomB y.t okS = false by rw [HYT.out]; exact decide_eq_false hp2)
                                have q9 : (m'.ph == 2) = false := by simp [hp2]
                                clear hp2
                                refine region_plan (S29 qe qy qg pid y m'.ph) [(0, 0), (1, 0), (2, 0), (3, 0), (4, 0), (5, 0), (6, 0), (7, 0), (8, 0), (9, 0), (11, 0), (12, 0), (13, 0), (14, 0), (10, 1), (15, 0), (16, 0)] (by kernel_rfl) (by kernel_rfl) (by kernel_rfl) hS ?_
                                generalize w14.drew = WD at *
                                iterate 14 (first | (refine plan_skip rfl ?_ ?_; (focus (rfl)); (try simp only [Act.put, List.setIfInBounds_toArray, List.set_cons_zero, List.set_cons_succ])) | (refine plan_take (v := ?_) rfl ?_ (fun w hSw => ?_) ?_; rotate_left; (focus (rfl)); (focus (unfold S29 at hSw; (go_simp <;> with_reducible rfl))); (try simp only [Act.put, List.setIfInBounds_toArray, List.set_cons_zero, List.set_cons_succ])))
                                refine plan_run rfl ?_ (fun K hK => ?_)
                                focus (rfl)
                                go_simp
                                refine (isatom_x y WD HYK.out.1).mono ?_
                                rintro e3 W1 ⟨rfl, hb1⟩
                                have hS1 := hS.keep hb1
                                refine hK.out _ _ hS1 ?_
                                clear hK K 
                                (try simp only [Act.put, List.setIfInBounds_toArray, List.set_cons_zero, List.set_cons_succ])
                                have HWD := Lib.hid (And.intro (HB.out.trans (hb1.mono HB.out.size)) (HYK.out.2.keep hb1 HG.out.k.hqm))
                                rw [HYB.out]
                                clear hS hb1 HB HYK
                                iterate 2 (first | (refine plan_skip rfl ?_ ?_; (focus (rfl)); (try simp only [Act.put, List.setIfInBounds_toArray, List.set_cons_zero, List.set_cons_succ])) | (refine plan_take (v := ?_) rfl ?_ (fun w hSw => ?_) ?_; rotate_left; (focus (rfl)); (focus (unfold S29 at hSw; (go_simp <;> with_reducible rfl))); (try simp only [Act.put, List.setIfInBounds_toArray, List.set_cons_zero, List.set_cons_succ])))
                                refine plan_done ?_
                                clear hS1
                                clear q9
                                go_wp2_with fail
                                skip
                                go_roundw
                                case rel => first
                                  | exact ⟨k + 1, ⟨sml, (sac + 1), sso⟩, ao2, n2, cap2, by omega, rfl, by go_num, rfl, by go_num, by omega, Nat.succ_le_succ hsa, Lib.hid ⟨HWD.out.1, HWD.out.2, HW.out.2.2.1, HSS.out.1, HSS.out.2.1, HSS.out.2.2⟩⟩
                                  | (repeat apply Exists.intro
                                     refine ⟨?_, rfl⟩
                                     exact ⟨k + 1, ⟨sml, (sac + 1), sso⟩, ao2, n2, cap2, by omega, rfl, by go_num, rfl, by go_num, by omega, Nat.succ_le_succ hsa, Lib.hid ⟨HWD.out.1, HWD.out.2, HW.out.2.2.1, HSS.out.1, HSS.out.2.1, HSS.out.2.2⟩⟩)
                                case measure => simp [intOf]; omega
                            · as_aux_lemma =>
                              have hst : ksStep ⟨sml, sac, sso⟩ e = ⟨sml, sac, true⟩ := by simp [ksStep, hkd]
                              have HSS := Lib.hid (HSS.out (by omega))
                              rw [hst] at HSS
                              rw [hkd] at k0
                              have k21 : w12.cell? ⟨qe, 21, none⟩ = some (.string e.C.m) := (cells_at HW.out.2.2.2 21 _ rfl).1
                              have k23 : w12.cell? ⟨qe, 23, none⟩ = some (.slice e.C.ao e.C.an e.C.ac) := (cells_at HW.out.2.2.2 23 _ rfl).1
                              rw [hcm] at k21
                              have k8 : w12.cell? ⟨W.heap.size, 8, none⟩ = some (.string c.m) := (cells_at (keep_heap HG.out.k.hbx HW.out.1) 8 _ rfl).1
                              have q3 : decide ((e.C.an : Int) < 1) = false := by simp; omega
                              have HRW := Lib.hid hrow
                              clear hst hkd HO hcm hrow han
                              cases hB : stB m
                              · have HB0 := Lib.hid hB
                                clear hB
                                go_wp2_with fail
                                have hdr : Below w12.heap.size w12 w12.drew := (Below.refl _ _).drew
                                have hS : S34 qe W.heap.size c.m (.slice e.C.ao e.C.an e.C.ac) w12.drew := ⟨keep_cell k21 hdr, keep_cell k8 hdr, keep_cell k23 hdr⟩
                                have HWD := Lib.hid (And.intro (HW.out.1.trans (hdr.mono HW.out.1.size)) (HW.out.2.1.keep hdr HG.out.k.hqm))
                                refine region_plan (S34 qe W.heap.size c.m (.slice e.C.ao e.C.an e.C.ac)) [(0, 0), (1, 0), (2, 0), (3, 0), (4, 0), (5, 0), (6, 0), (7, 0), (8, 0), (9, 0), (10, 0), (11, 0), (12, 0), (13, 0), (14, 0), (15, 0), (16, 0), (17, 0), (18, 0), (19, 0), (20, 0), (21, 1), (22, 0), (23, 0), (24, 0)] (by kernel_rfl) (by kernel_rfl) (by kernel_rfl) hS ?_
                                generalize w12.drew = WD at *
                                clear hdr k0 k21 k23 k8
                                iterate 21 (first | (refine plan_skip rfl ?_ ?_; (focus (rfl)); (try simp only [Act.put, List.setIfInBounds_toArray, List.set_cons_zero, List.set_cons_succ])) | (refine plan_take (v := ?_) rfl ?_ (fun w hSw => ?_) ?_; rotate_left; (focus (rfl)); (focus (unfold S34 at hSw; (go_simp <;> with_reducible rfl))); (try simp only [Act.put, List.setIfInBounds_toArray, List.set_cons_zero, List.set_cons_succ])))
                                (refine plan_run_skip rfl ?_ hS ?_; (focus (rfl)); (try simp only [Act.put, List.setIfInBounds_toArray, List.set_cons_zero, List.set_cons_succ]))
                                iterate 3 (first | (refine plan_skip rfl ?_ ?_; (focus (rfl)); (try simp only [Act.put, List.setIfInBounds_toArray, List.set_cons_zero, List.set_cons_succ])) | (refine plan_take (v := ?_) rfl ?_ (fun w hSw => ?_) ?_; rotate_left; (focus (rfl)); (focus (unfold S34 at hSw; (go_simp <;> with_reducible rfl))); (try simp only [Act.put, List.setIfInBounds_toArray, List.set_cons_zero, List.set_cons_succ])))
                                refine plan_done ?_
                                clear hS q3
                                go_wp2_with fail
                                rw [HB0.out]
                                go_roundw
                                case rel => first
                                  | exact ⟨k + 1, ⟨sml, sac, true⟩, ao2, n2, cap2, by omega, rfl, rfl, rfl, by go_num, by omega, Nat.le_succ_of_le hsa, Lib.hid ⟨HWD.out.1, HWD.out.2, HW.out.2.2.1, HSS.out.1, HSS.out.2.1, HSS.out.2.2⟩⟩
                                  | (repeat apply Exists.intro
                                     refine ⟨?_, rfl⟩
                                     exact ⟨k + 1, ⟨sml, sac, true⟩, ao2, n2, cap2, by omega, rfl, rfl, rfl, by go_num, by omega, Nat.le_succ_of_le hsa, Lib.hid ⟨HWD.out.1, HWD.out.2, HW.out.2.2.1, HSS.out.1, HSS.out.2.1, HSS.out.2.2⟩⟩)
                                case measure => simp [intOf]; omega
                              · have hsT : stT m = m.V := by unfold stT; rw [hB]; rfl
                                obtain ⟨g, L2, eao, ean, hl2, hrow⟩ := HRW.out hB
                                have hqt := keep_heap HG.out.ht HW.out.1
                                rw [hsT] at hqt
                                have hrw := keep_heap hrow HW.out.1
                                rw [eao, ean] at k23
                                rw [ean] at q3
                                have HB0 := Lib.hid hB
                                clear hB hsT eao ean HRW hrow
                                match L2, hl2 with
                                | [], _ =>
                                  have r0 : w12.cell? ⟨g, 0, none⟩ = some (.int .i8 m.V.k) := (cells_at hrw 0 _ rfl).1
                                  have r1 : w12.cell? ⟨g, 1, none⟩ = some (.int .i64 m.V.n) := (cells_at hrw 1 _ rfl).1
                                  have r2 : w12.cell? ⟨g, 2, none⟩ = some (.string m.V.s) := (cells_at hrw 2 _ rfl).1
                                  have r3 : w12.cell? ⟨g, 3, none⟩ = some (.string m.V.u) := (cells_at hrw 3 _ rfl).1
                                  have r4 : w12.cell? ⟨g, 4, none⟩ = some (.slice m.V.ao m.V.l.length m.V.cap) := (cells_at hrw 4 _ rfl).1
                                  obtain ⟨v0, v1, v2, v3, v4⟩ := BxS.of hqt
                                  change w12.cell? _ = some (.slice (some ⟨g, 0, none⟩) 1 e.C.ac) at k23
                                  have hwz : IntKind.i64.wrap 0 = 0 := by decide
                                  go_wp2_with fail
                                  have hdr : Below w12.heap.size w12 w12.drew := (Below.refl _ _).drew
                                  have hS : S35 qe W.heap.size c.m g 0 1 2 3 4 qt m.V (.slice (some ⟨g, 0, none⟩) 1 e.C.ac) w12.drew := ⟨keep_cell k21 hdr, keep_cell k8 hdr, keep_cell k23 hdr, keep_cell r0 hdr, keep_cell r1 hdr, keep_cell r2 hdr, keep_cell r3 hdr, keep_cell r4 hdr, keep_cell v0 hdr, keep_cell v1 hdr, keep_cell v2 hdr, keep_cell v3 hdr, keep_cell v4 hdr⟩
                                  have HWD := Lib.hid (And.intro (HW.out.1.trans (hdr.mono HW.out.1.size)) (And.intro (HW.out.2.1.keep hdr HG.out.k.hqm) (HG.out.k.hm.hV.keep (HW.out.1.trans (hdr.mono HW.out.1.size)))))
                                  refine region_plan (S35 qe W.heap.size c.m g 0 1 2 3 4 qt m.V (.slice (some ⟨g, 0, none⟩) 1 e.C.ac)) [(0, 0), (1, 0), (2, 0), (3, 0), (4, 0), (5, 0), (6, 0), (7, 0), (8, 0), (9, 0), (10, 0), (11, 0), (12, 0), (13, 0), (14, 0), (15, 0), (16, 0), (17, 0), (18, 0), (19, 0), (20, 0), (21, 1), (22, 0), (23, 0), (24, 0)] (by kernel_rfl) (by kernel_rfl) (by kernel_rfl) hS ?_
                                  generalize w12.drew = WD at *
                                  clear hdr k0 k21 k23 k8 r0 r1 r2 r3 r4 v0 v1 v2 v3 v4 hqt hrw
                                  iterate 21 (first | (refine plan_skip rfl ?_ ?_; (focus (rfl)); (try simp only [Act.put, List.setIfInBounds_toArray, List.set_cons_zero, List.set_cons_succ])) | (refine plan_take (v := ?_) rfl ?_ (fun w hSw => ?_) ?_; rotate_left; (focus (rfl)); (focus (unfold S35 at hSw; (go_simp <;> with_reducible rfl))); (try simp only [Act.put, List.setIfInBounds_toArray, List.set_cons_zero, List.set_cons_succ])))
                                  refine plan_run rfl ?_ (fun K hK => ?_)
                                  focus (rfl)
                                  go_simp
                                  refine (rsame_v m.V WD HWD.out.2.2).mono ?_
                                  rintro e3 W1 ⟨rfl, hb1⟩
                                  have hS1 := hS.keep hb1
                                  refine hK.out _ _ hS1 ?_
                                  clear hK K 
                                  (try simp only [Act.put, List.setIfInBounds_toArray, List.set_cons_zero, List.set_cons_succ])
                                  have HWE := Lib.hid (And.intro (HWD.out.1.trans (hb1.mono HWD.out.1.size)) (HWD.out.2.1.keep hb1 HG.out.k.hqm))
                                  clear hS hb1 HWD
                                  iterate 3 (first | (refine plan_skip rfl ?_ ?_; (focus (rfl)); (try simp only [Act.put, List.setIfInBounds_toArray, List.set_cons_zero, List.set_cons_succ])) | (refine plan_take (v := ?_) rfl ?_ (fun w hSw => ?_) ?_; rotate_left; (focus (rfl)); (focus (unfold S35 at hSw; (go_simp <;> with_reducible rfl))); (try simp only [Act.put, List.setIfInBounds_toArray, List.set_cons_zero, List.set_cons_succ])))
                                  refine plan_done ?_
                                  clear hS1 q3
                                  go_wp2_with fail
                                  rw [HB0.out]
                                  go_roundw
                                  case rel => first
                                    | exact ⟨k + 1, ⟨sml, sac, true⟩, ao2, n2, cap2, by omega, rfl, rfl, rfl, by go_num, by omega, Nat.le_succ_of_le hsa, Lib.hid ⟨HWE.out.1, HWE.out.2, HW.out.2.2.1, HSS.out.1, HSS.out.2.1, HSS.out.2.2⟩⟩
                                    | (repeat apply Exists.intro
                                       refine ⟨?_, rfl⟩
                                       exact ⟨k + 1, ⟨sml, sac, true⟩, ao2, n2, cap2, by omega, rfl, rfl, rfl, by go_num, by omega, Nat.le_succ_of_le hsa, Lib.hid ⟨HWE.out.1, HWE.out.2, HW.out.2.2.1, HSS.out.1, HSS.out.2.1, HSS.out.2.2⟩⟩)
                                  case measure => simp [intOf]; omega
                                | [a1], _ =>
                                  have r0 : w12.cell? ⟨g, 5, none⟩ = some (.int .i8 m.V.k) := (cells_at hrw 5 _ rfl).1
                                  have r1 : w12.cell? ⟨g, 6, none⟩ = some (.int .i64 m.V.n) := (cells_at hrw 6 _ rfl).1
                                  have r2 : w12.cell? ⟨g, 7, none⟩ = some (.string m.V.s) := (cells_at hrw 7 _ rfl).1
                                  have r3 : w12.cell? ⟨g, 8, none⟩ = some (.string m.V.u) := (cells_at hrw 8 _ rfl).1
                                  have r4 : w12.cell? ⟨g, 9, none⟩ = some (.slice m.V.ao m.V.l.length m.V.cap) := (cells_at hrw 9 _ rfl).1
                                  obtain ⟨v0, v1, v2, v3, v4⟩ := BxS.of hqt
                                  change w12.cell? _ = some (.slice (some ⟨g, 0, none⟩) 2 e.C.ac) at k23
                                  have hwz : IntKind.i64.wrap 1 = 1 := by decide
                                  go_wp2_with fail
                                  have hdr : Below w12.heap.size w12 w12.drew := (Below.refl _ _).drew
                                  have hS : S35 qe W.heap.size c.m g 5 6 7 8 9 qt m.V (.slice (some ⟨g, 0, none⟩) 2 e.C.ac) w12.drew := ⟨keep_cell k21 hdr, keep_cell k8 hdr, keep_cell k23 hdr, keep_cell r0 hdr, keep_cell r1 hdr, keep_cell r2 hdr, keep_cell r3 hdr, keep_cell r4 hdr, keep_cell v0 hdr, keep_cell v1 hdr, keep_cell v2 hdr, keep_cell v3 hdr, keep_cell v4 hdr⟩
                                  have HWD := Lib.hid (And.intro (HW.out.1.trans (hdr.mono HW.out.1.size)) (And.intro (HW.out.2.1.keep hdr HG.out.k.hqm) (HG.out.k.hm.hV.keep (HW.out.1.trans (hdr.mono HW.out.1.size)))))
                                  refine region_plan (S35 qe W.heap.size c.m g 5 6 7 8 9 qt m.V (.slice (some ⟨g, 0, none⟩) 2 e.C.ac)) [(0, 0), (1, 0), (2, 0), (3, 0), (4, 0), (5, 0), (6, 0), (7, 0), (8, 0), (9, 0), (10, 0), (11, 0), (12, 0), (13, 0), (14, 0), (15, 0), (16, 0), (17, 0), (18, 0), (19, 0), (20, 0), (21, 1), (22, 0), (23, 0), (24, 0)] (by kernel_rfl) (by kernel_rfl) (by kernel_rfl) hS ?_
                                  generalize w12.drew = WD at *
                                  clear hdr k0 k21 k23 k8 r0 r1 r2 r3 r4 v0 v1 v2 v3 v4 hqt hrw
                                  iterate 21 (first | (refine plan_skip rfl ?_ ?_; (focus (rfl)); (try simp only [Act.put, List.setIfInBounds_toArray, List.set_cons_zero, List.set_cons_succ])) | (refine plan_take (v := ?_) rfl ?_ (fun w hSw => ?_) ?_; rotate_left; (focus (rfl)); (focus (unfold S35 at hSw; (go_simp <;> with_reducible rfl))); (try simp only [Act.put, List.setIfInBounds_toArray, List.set_cons_zero, List.set_cons_succ])))
                                  refine plan_run rfl ?_ (fun K hK => ?_)
                                  focus (rfl)
                                  go_simp
                                  refine (rsame_v m.V WD HWD.out.2.2).mono ?_
                                  rintro e3 W1 ⟨rfl, hb1⟩
                                  have hS1 := hS.keep hb1
                                  refine hK.out _ _ hS1 ?_
                                  clear hK K 
                                  (try simp only [Act.put, List.setIfInBounds_toArray, List.set_cons_zero, List.set_cons_succ])
                                  have HWE := Lib.hid (And.intro (HWD.out.1.trans (hb1.mono HWD.out.1.size)) (HWD.out.2.1.keep hb1 HG.out.k.hqm))
                                  clear hS hb1 HWD
                                  iterate 3 (first | (refine plan_skip rfl ?_ ?_; (focus (rfl)); (try simp only [Act.put, List.setIfInBounds_toArray, List.set_cons_zero, List.set_cons_succ])) | (refine plan_take (v := ?_) rfl ?_ (fun w hSw => ?_) ?_; rotate_left; (focus (rfl)); (focus (unfold S35 at hSw; (go_simp <;> with_reducible rfl))); (try simp only [Act.put, List.setIfInBounds_toArray, List.set_cons_zero, List.set_cons_succ])))
                                  refine plan_done ?_
                                  clear hS1 q3
                                  go_wp2_with fail
                                  rw [HB0.out]
                                  go_roundw
                                  case rel => first
                                    | exact ⟨k + 1, ⟨sml, sac, true⟩, ao2, n2, cap2, by omega, rfl, rfl, rfl, by go_num, by omega, Nat.le_succ_of_le hsa, Lib.hid ⟨HWE.out.1, HWE.out.2, HW.out.2.2.1, HSS.out.1, HSS.out.2.1, HSS.out.2.2⟩⟩
                                    | (repeat apply Exists.intro
                                       refine ⟨?_, rfl⟩
                                       exact ⟨k + 1, ⟨sml, sac, true⟩, ao2, n2, cap2, by omega, rfl, rfl, rfl, by go_num, by omega, Nat.le_succ_of_le hsa, Lib.hid ⟨HWE.out.1, HWE.out.2, HW.out.2.2.1, HSS.out.1, HSS.out.2.1, HSS.out.2.2⟩⟩)
                                  case measure => simp [intOf]; omega
                                | [a1, a2], _ =>
                                  have r0 : w12.cell? ⟨g, 10, none⟩ = some (.int .i8 m.V.k) := (cells_at hrw 10 _ rfl).1
                                  have r1 : w12.cell? ⟨g, 11, none⟩ = some (.int .i64 m.V.n) := (cells_at hrw 11 _ rfl).1
                                  have r2 : w12.cell? ⟨g, 12, none⟩ = some (.string m.V.s) := (cells_at hrw 12 _ rfl).1
                                  have r3 : w12.cell? ⟨g, 13, none⟩ = some (.string m.V.u) := (cells_at hrw 13 _ rfl).1
                                  have r4 : w12.cell? ⟨g, 14, none⟩ = some (.slice m.V.ao m.V.l.length m.V.cap) := (cells_at hrw 14 _ rfl).1
                                  obtain ⟨v0, v1, v2, v3, v4⟩ := BxS.of hqt
                                  change w12.cell? _ = some (.slice (some ⟨g, 0, none⟩) 3 e.C.ac) at k23
                                  have hwz : IntKind.i64.wrap 2 = 2 := by decide
                                  go_wp2_with fail
                                  have hdr : Below w12.heap.size w12 w12.drew := (Below.refl _ _).drew
                                  have hS : S35 qe W.heap.size c.m g 10 11 12 13 14 qt m.V (.slice (some ⟨g, 0, none⟩) 3 e.C.ac) w12.drew := ⟨keep_cell k21 hdr, keep_cell k8 hdr, keep_cell k23 hdr, keep_cell r0 hdr, keep_cell r1 hdr, keep_cell r2 hdr, keep_cell r3 hdr, keep_cell r4 hdr, keep_cell v0 hdr, keep_cell v1 hdr, keep_cell v2 hdr, keep_cell v3 hdr, keep_cell v4 hdr⟩
                                  have HWD := Lib.hid (And.intro (HW.out.1.trans (hdr.mono HW.out.1.size)) (And.intro (HW.out.2.1.keep hdr HG.out.k.hqm) (HG.out.k.hm.hV.keep (HW.out.1.trans (hdr.mono HW.out.1.size)))))
                                  refine region_plan (S35 qe W.heap.size c.m g 10 11 12 13 14 qt m.V (.slice (some ⟨g, 0, none⟩) 3 e.C.ac)) [(0, 0), (1, 0), (2, 0), (3, 0), (4, 0), (5, 0), (6, 0), (7, 0), (8, 0), (9, 0), (10, 0), (11, 0), (12, 0), (13, 0), (14, 0), (15, 0), (16, 0), (17, 0), (18, 0), (19, 0), (20, 0), (21, 1), (22, 0), (23, 0), (24, 0)] (by kernel_rfl) (by kernel_rfl) (by kernel_rfl) hS ?_
                                  generalize w12.drew = WD at *
                                  clear hdr k0 k21 k23 k8 r0 r1 r2 r3 r4 v0 v1 v2 v3 v4 hqt hrw
                                  iterate 21 (first | (refine plan_skip rfl ?_ ?_; (focus (rfl)); (try simp only [Act.put, List.setIfInBounds_toArray, List.set_cons_zero, List.set_cons_succ])) | (refine plan_take (v := ?_) rfl ?_ (fun w hSw => ?_) ?_; rotate_left; (focus (rfl)); (focus (unfold S35 at hSw; (go_simp <;> with_reducible rfl))); (try simp only [Act.put, List.setIfInBounds_toArray, List.set_cons_zero, List.set_cons_succ])))
                                  refine plan_run rfl ?_ (fun K hK => ?_)
                                  focus (rfl)
                                  go_simp
                                  refine (rsame_v m.V WD HWD.out.2.2).mono ?_
                                  rintro e3 W1 ⟨rfl, hb1⟩
                                  have hS1 := hS.keep hb1
                                  refine hK.out _ _ hS1 ?_
                                  clear hK K 
                                  (try simp only [Act.put, List.setIfInBounds_toArray, List.set_cons_zero, List.set_cons_succ])
                                  have HWE := Lib.hid (And.intro (HWD.out.1.trans (hb1.mono HWD.out.1.size)) (HWD.out.2.1.keep hb1 HG.out.k.hqm))
                                  clear hS hb1 HWD
                                  iterate 3 (first | (refine plan_skip rfl ?_ ?_; (focus (rfl)); (try simp only [Act.put, List.setIfInBounds_toArray, List.set_cons_zero, List.set_cons_succ])) | (refine plan_take (v := ?_) rfl ?_ (fun w hSw => ?_) ?_; rotate_left; (focus (rfl)); (focus (unfold S35 at hSw; (go_simp <;> with_reducible rfl))); (try simp only [Act.put, List.setIfInBounds_toArray, List.set_cons_zero, List.set_cons_succ])))
                                  refine plan_done ?_
                                  clear hS1 q3
                                  go_wp2_with fail
                                  rw [HB0.out]
                                  go_roundw
                                  case rel => first
                                    | exact ⟨k + 1, ⟨sml, sac, true⟩, ao2, n2, cap2, by omega, rfl, rfl, rfl, by go_num, by omega, Nat.le_succ_of_le hsa, Lib.hid ⟨HWE.out.1, HWE.out.2, HW.out.2.2.1, HSS.out.1, HSS.out.2.1, HSS.out.2.2⟩⟩
                                    | (repeat apply Exists.intro
                                       refine ⟨?_, rfl⟩
                                       exact ⟨k + 1, ⟨sml, sac, true⟩, ao2, n2, cap2, by omega, rfl, rfl, rfl, by go_num, by omega, Nat.le_succ_of_le hsa, Lib.hid ⟨HWE.out.1, HWE.out.2, HW.out.2.2.1, HSS.out.1, HSS.out.2.1, HSS.out.2.2⟩⟩)
                                  case measure => simp [intOf]; omega
                            · have hs1 : sac = 1 := hs1
                              subst hs1
                              rw [hkd] at k0
                              clear hkd HO HSS
                              go_wp2_with fail
                              refine (wakes_any w12 (keepCells HX.out.1 (HG.out.k.hb.trans (HW.out.1.mono HG.out.k.hb.size)))).mono ?_
                              rintro e WW ⟨rfl, hbW⟩
                              have HBW := Lib.hid (Below.trans (HG.out.k.hb.trans (HW.out.1.mono HG.out.k.hb.size)) (hbW.mono (Below.size (HG.out.k.hb.trans (HW.out.1.mono HG.out.k.hb.size)))))
                              clear hbW
                              go_wp2_with fail
                              go_ret
                              exact ⟨rfl, HBW.out⟩
                            · have hst : ksStep ⟨sml, sac, sso⟩ e = ⟨sml, sac, sso⟩ := by simp [ksStep, hkd]
                              have HSS := Lib.hid (HSS.out (by omega))
                              rw [hst] at HSS
                              rw [hkd] at k0
                              clear hst hkd HO
                              go_wp2_with fail
                              skip
                              go_roundw
                              case rel => first
                                | exact ⟨k + 1, ⟨sml, sac, sso⟩, ao2, n2, cap2, by omega, rfl, rfl, rfl, by go_num, by omega, Nat.le_succ_of_le hsa, Lib.hid ⟨HW.out.1, HW.out.2.1, HW.out.2.2.1, HSS.out.1, HSS.out.2.1, HSS.out.2.2⟩⟩
                                | (repeat apply Exists.intro
                                   refine ⟨?_, rfl⟩
                                   exact ⟨k + 1, ⟨sml, sac, sso⟩, ao2, n2, cap2, by omega, rfl, rfl, rfl, by go_num, by omega, Nat.le_succ_of_le hsa, Lib.hid ⟨HW.out.1, HW.out.2.1, HW.out.2.2.1, HSS.out.1, HSS.out.2.1, HSS.out.2.2⟩⟩)
                              case measure => simp [intOf]; omega
                            · have hst : ksStep ⟨sml, sac, sso⟩ e = ⟨sml, sac, sso⟩ := by simp [ksStep, hkd]
                              have HSS := Lib.hid (HSS.out (by omega))
                              rw [hst] at HSS
                              rw [hkd] at k0
                              clear hst hkd HO
                              go_wp2_with fail
                              skip
                              go_roundw
                              case rel => first
                                | exact ⟨k + 1, ⟨sml, sac, sso⟩, ao2, n2, cap2, by omega, rfl, rfl, rfl, by go_num, by omega, Nat.le_succ_of_le hsa, Lib.hid ⟨HW.out.1, HW.out.2.1, HW.out.2.2.1, HSS.out.1, HSS.out.2.1, HSS.out.2.2⟩⟩
                                | (repeat apply Exists.intro
                                   refine ⟨?_, rfl⟩
                                   exact ⟨k + 1, ⟨sml, sac, sso⟩, ao2, n2, cap2, by omega, rfl, rfl, rfl, by go_num, by omega, Nat.le_succ_of_le hsa, Lib.hid ⟨HW.out.1, HW.out.2.1, HW.out.2.2.1, HSS.out.1, HSS.out.2.1, HSS.out.2.2⟩⟩)
                              case measure => simp [intOf]; omega
                          · as_aux_lemma =>
                            obtain rfl : k = E1.length := by omega
                            have hfo := HK.out.2.2.2.2.1
                            rw [List.drop_length] at hfo
                            have hfo : (⟨sml, sac, sso⟩ : Ks) = ksFold ⟨ML ++ t.ml, ac, false⟩ E1 := hfo
                            have hno := HK.out.2.2.2.2.2
                            rw [List.take_length] at hno
                            have HQ := Lib.hid (And.intro (HU.out.2.1 hno) HU.out.2.2)
                            rw [← hfo] at HQ
                            have HQ := Lib.hid (And.intro (show sac = if 2 ≤ m'.ph then 1 else 0 from HQ.out.1) HQ.out.2)
                            have hac2 : sac ≤ 1 := by
                              rw [HQ.out.1]
                              split <;> omega
                            have HJ := Lib.hid (And.intro (HG.out.k.keep HK.out.1) (And.intro (HG.out.hm.keep HK.out.1) (And.intro HK.out.2.1 (keep_heap HG.out.hg HK.out.1))))
                            have HJB := Lib.hid HK.out.2.2.1
                            have q5 : decide ((1 : Int) < (sac : Int)) = false := by simp; omega
                            clear hfo hno HU HK HG hac1
                            cases hB : stB m
                            · clear hB
                              go_wp2_with (with_reducible refine stop_op (o := ⟨_, .load 42 (.tmp 15), _, _, _, _⟩) ?_)
                              refine Lib.hid ?_
                              refine wpList_load_row (o := ⟨_, _, _, _, _, _⟩) rfl 42 (.tmp 15) rfl qg rfl 42 (frL m').toArray (0, 0) _ HJ.out.2.2.2 Tryd.underlying42 rfl (infoFR rfl) ?_
                              go_wp2_with (with_reducible refine stop_op (o := ⟨_, .store 42 (.tmp 7) (.tmp 207), _, _, _, _⟩) ?_)
                              refine Lib.hid ?_
                              refine wpList_store_row (o := ⟨none, _, _, _, _, _⟩) rfl 42 (.tmp 7) (.tmp 207) rfl q (frL m').toArray rfl rfl 42 (frL m).toArray HJ.out.1.hF (infoFR rfl) rfl (all_oneCell_toArray (frL_one _)) ?_
                              have HZ := Lib.hid (HJ.out.1.next HJ.out.2.1 HJ.out.2.2.1 HQ.out.1 HQ.out.2.1 HJB.out)
                              clear HJ
                              generalize World.setRow wr q (frL m').toArray = w13 at *
                              go_wp2_with fail
                              go_roundw
                              case rel => exact ⟨i + 1, sso, m', ao2, n2, cap2, mb', sml, sac, by omega, rfl, rfl, rfl, by go_num, hac2, by omega, HZ⟩
                              case measure => simp [intOf]; omega
                            · have hs1 : sac = 1 := by rw [HQ.out.1]; exact if_pos (HQ.out.2.2 hB)
                              subst hs1
                              clear hB
                              go_wp2_with (with_reducible refine stop_op (o := ⟨_, .load 42 (.tmp 15), _, _, _, _⟩) ?_)
                              refine Lib.hid ?_
                              refine wpList_load_row (o := ⟨_, _, _, _, _, _⟩) rfl 42 (.tmp 15) rfl qg rfl 42 (frL m').toArray (0, 0) _ HJ.out.2.2.2 Tryd.underlying42 rfl (infoFR rfl) ?_
                              go_wp2_with (with_reducible refine stop_op (o := ⟨_, .store 42 (.tmp 7) (.tmp 207), _, _, _, _⟩) ?_)
                              refine Lib.hid ?_
                              refine wpList_store_row (o := ⟨none, _, _, _, _, _⟩) rfl 42 (.tmp 7) (.tmp 207) rfl q (frL m').toArray rfl rfl 42 (frL m).toArray HJ.out.1.hF (infoFR rfl) rfl (all_oneCell_toArray (frL_one _)) ?_
                              have HZ := Lib.hid (HJ.out.1.next HJ.out.2.1 HJ.out.2.2.1 HQ.out.1 HQ.out.2.1 HJB.out)
                              clear HJ
                              generalize World.setRow wr q (frL m').toArray = w13 at *
                              go_wp2_with fail
                              go_roundw
                              case rel => exact ⟨i + 1, sso, m', ao2, n2, cap2, mb', sml, 1, by omega, rfl, rfl, rfl, by go_num, hac2, by omega, HZ⟩
                              case measure => simp [intOf]; omega
                    · skip
                      go_wp2_with fail
                      refine (wakes_any w6 (keepCells HX.out.1 HI6.out.hb)).mono ?_
                      rintro e WW ⟨rfl, hbW⟩
                      have HBW := Lib.hid (Below.trans HI6.out.hb (hbW.mono (Below.size HI6.out.hb)))
                      clear hbW
                      go_wp2_with fail
                      go_ret
                      exact ⟨rfl, HBW.out⟩
                  · skip
                    go_wp2_with fail
                    refine (wakes_any w5 (keepCells HX.out.1 HI5.out.hb)).mono ?_
                    rintro e WW ⟨rfl, hbW⟩
                    have HBW := Lib.hid (Below.trans HI5.out.hb (hbW.mono (Below.size HI5.out.hb)))
                    clear hbW
                    go_wp2_with fail
                    go_ret
                    exact ⟨rfl, HBW.out⟩
              · obtain rfl : i = N := by omega
                go_wp2_with fail
                refine (wakes_any wr (keepCells HX.out.1 HI.out.hb)).mono ?_
                rintro e WW ⟨rfl, hbW⟩
                have HBW := Lib.hid (Below.trans HI.out.hb (hbW.mono (Below.size HI.out.hb)))
                clear hbW
                go_wp2_with fail
                go_ret
                exact ⟨rfl, HBW.out⟩
          · go_wp2_with (with_reducible refine stop_op (o := ⟨_, .store 42 (.tmp 7) (.tmp 47), _, _, _, _⟩) ?_)
            refine Lib.hid ?_
            refine wpList_store_new (o := ⟨none, _, _, _, _, _⟩) rfl 42 (.tmp 7) (.tmp 47) rfl frZ.toArray rfl rfl (infoFR rfl) rfl (all_oneCell_toArray frZ_one) ?_
            have hb4 := (Below.refl w3.heap.size w3).alloc (Nat.le_refl _) (.cells frZ.toArray 42)
            have HB4 := Lib.hid (HB3.out.trans (hb4.mono HB3.out.size))
            clear hb4 HB3
            generalize w3.alloc (.cells frZ.toArray 42) = w4 at *
            go_wp2_with fail
            refine (wakes_any w4 (keepCells HX.out.1 HB4.out)).mono ?_
            rintro e WW ⟨rfl, hbW⟩
            have HBW := Lib.hid (Below.trans HB4.out (hbW.mono (Below.size HB4.out)))
            clear hbW
            go_wp2_with fail
            go_ret
            exact ⟨rfl, HBW.out⟩
      · skip
        go_wp2_with fail
        refine (wakes_any w2 (keepCells HX.out.1 H2.out.1)).mono ?_
        rintro e WW ⟨rfl, hbW⟩
        have HBW := Lib.hid (Below.trans H2.out.1 (hbW.mono (Below.size H2.out.1)))
        clear hbW
        go_wp2_with fail
        go_ret
        exact ⟨rfl, HBW.out⟩
theorem acks_row {H : Type} {enc : TypeId × Value → H} (W : World) {base : Nat} {v0 v1 v2 : Value} {d0 d1 d2 : DataW H} {p0 p1 p2 : List MemPlace}
    (hv0 : Value.okWide Tryd.prog W .any base 28 v0) (h0 : DataW.Trod enc Tryd.prog W 0 (fun _ => true) true 28 v0 d0 p0)
    (hv1 : Value.okWide Tryd.prog W .any base 3 v1) (h1 : DataW.Trod enc Tryd.prog W 0 (fun _ => true) true 3 v1 d1 p1)
    (hv2 : Value.okWide Tryd.prog W .any base 29 v2) (h2 : DataW.Trod enc Tryd.prog W 0 (fun _ => true) true 29 v2 d2 p2)
    (hL : laidMetH Tryd.prog [("pleach/atoms.letters", letD)] W) : Calls Tryd.prog 4 #[v0, v1, v2] W (IsPost W true) := by
  obtain ⟨c, EA, rfl, hE, hm⟩ := child_of hv0 h0
  obtain ⟨p, rfl⟩ := okWide_int Tryd.underlying3 hv1
  obtain ⟨f1, hf1⟩ := h1
  obtain ⟨p', e', hw⟩ := leaf_int Tryd.underlying3 hf1
  injection e' with _ e'
  subst e'
  obtain ⟨L, hLn⟩ := turns_of hv2 h2
  obtain ⟨_, _, _, rfl⟩ := okWide_slice Tryd.underlying29 hv2
  exact acks_any W (letters_of W hL) c EA hE hm p (bd hw) _ _ _ L hLn
end Go.Proofs.YtlmehfdaaommpaaDoor
