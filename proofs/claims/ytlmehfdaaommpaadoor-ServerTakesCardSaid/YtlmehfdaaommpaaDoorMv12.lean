/- the law ServerTakes: the walk. Conditions: what is handed over reads; the letters stand. -/
import Derived.Test.YtlmehfdaaommpaaDoorMv10
import Derived.Test.YtlmehfdaaommpaaDoorMv11
namespace Go.Proofs.YtlmehfdaaommpaaDoor
open Go.ChangeShapes Go.WideShapes Go.ChangeAt Go.RowKit
set_option linter.unusedVariables false
set_option linter.unusedSimpArgs false
set_option maxRecDepth 100000
/-- what stands at the head of the law's loop -/
structure TkI (W w : World) (q mb : Nat) (c : Ch) (EA : List TE) (pid : Int) (m : Mc) (ao : Option Addr) (n cap : Nat) (ML : List It) (begun : Bool) (op : Int) : Prop where
  hb : Below W.heap.size W w
  hq : W.heap.size ≤ q
  hF : w.heap[q]? = some (.cells (frL m).toArray 42 (0, 0))
  hm : McOk (Mq q mb) w m c EA
  hmq : MqOk q W.heap.size w ao n cap mb ML
  hqm : q ≠ mb
  hml : mb < w.heap.size
  hpid : m.pid = pid
  hbg : begun = decide (2 ≤ m.ph)
  hop : m.ph = 3 → op = 1
theorem TkI.keep {W w w' : World} {q mb : Nat} {c : Ch} {EA : List TE} {pid : Int} {m : Mc} {ao : Option Addr} {n cap : Nat} {ML : List It} {begun : Bool} {op : Int} (h : TkI W w q mb c EA pid m ao n cap ML begun op) (hb : Below w.heap.size w w') : TkI W w' q mb c EA pid m ao n cap ML begun op :=
  ⟨h.hb.trans (hb.mono h.hb.size), h.hq, keep_heap h.hF hb, h.hm.keep hb, h.hmq.keep hb h.hqm, h.hqm, Nat.lt_of_lt_of_le h.hml hb.size, h.hpid, h.hbg, h.hop⟩
theorem TkI.app {W w w' : World} {q mb mb' : Nat} {c : Ch} {EA : List TE} {pid : Int} {m : Mc} {ao ao' : Option Addr} {n n' cap cap' : Nat} {ML ML' : List It} {begun : Bool} {op : Int} (h : TkI W w q mb c EA pid m ao n cap ML begun op) (hc : Chg (fun k => k = mb) w w') (hmq : MqOk q W.heap.size w' ao' n' cap' mb' ML') (hqm : q ≠ mb') (hml : mb' < w'.heap.size) (hmm : mb' = mb ∨ w.heap.size ≤ mb') : TkI W w' q mb' c EA pid m ao' n' cap' ML' begun op := by
  have hB := h.hmq.hmb
  refine ⟨h.hb.trans (hc.below h.hb.size fun k hk => by have hk : k = mb := hk; omega), h.hq, hc.heap h.hF h.hqm, h.hm.chg hc (fun k hk _ => .inr hk) (fun k hk hl => ?_), hmq, hqm, hml, h.hpid, h.hbg, h.hop⟩
  rcases (show k = q ∨ k = mb' from hk) with hk | hk
  · exact .inl hk
  · rcases hmm with e | e
    · exact .inr (hk.trans e)
    · omega
def TuS (b o : Nat) (cls : Int) (x : TE) (W : World) : Prop := W.cell? ⟨b, o + 2, none⟩ = some (.int .i8 cls) ∧ W.cell? ⟨b, o + 3, none⟩ = some (.int .i8 x.k) ∧ W.cell? ⟨b, o + 4, none⟩ = some (.int .i64 x.n) ∧ W.cell? ⟨b, o + 5, none⟩ = some (.string x.s) ∧ W.cell? ⟨b, o + 6, none⟩ = some (.string x.u) ∧ W.cell? ⟨b, o + 7, none⟩ = some (.slice x.ao x.l.length x.cap)
theorem TuS.keep {b o : Nat} {cls : Int} {x : TE} {w w' : World} (h : TuS b o cls x w) (hb : Below w.heap.size w w') : TuS b o cls x w' := ⟨keep_cell h.1 hb, keep_cell h.2.1 hb, keep_cell h.2.2.1 hb, keep_cell h.2.2.2.1 hb, keep_cell h.2.2.2.2.1 hb, keep_cell h.2.2.2.2.2 hb⟩
theorem TkI.next {W w : World} {q mb : Nat} {c : Ch} {EA : List TE} {pid : Int} {m m' : Mc} {ao ao2 : Option Addr} {n cap n2 cap2 : Nat} {ML sml : List It} {begun bg : Bool} {op : Int} (h : TkI W w q mb c EA pid m ao n cap ML begun op) (hm' : McOk (Mq q mb) w m' c EA) (hmq : MqOk q W.heap.size w ao2 n2 cap2 mb sml) (hbg : bg = decide (2 ≤ m'.ph)) (hpid : m'.pid = m.pid) :
    Below W.heap.size W (w.setRow q (frL m').toArray) ∧ W.heap.size ≤ q ∧ (w.setRow q (frL m').toArray).heap[q]? = some (.cells (frL m').toArray 42 (0, 0)) ∧ McOk (Mq q mb) (w.setRow q (frL m').toArray) m' c EA ∧ MqOk q W.heap.size (w.setRow q (frL m').toArray) ao2 n2 cap2 mb sml ∧ q ≠ mb ∧ mb < (w.setRow q (frL m').toArray).heap.size ∧ m'.pid = pid ∧ bg = decide (2 ≤ m'.ph) := by
  have hc := chg_setRow w q (frL m').toArray
  have hq := h.hq
  refine ⟨h.hb.trans (hc.below h.hb.size fun k hk => by have hk : k = q := hk; omega), hq, setRow_heap w q _ _ 42 (0, 0) h.hF, hm'.chg hc (fun k hk _ => .inl hk) (fun k hk _ => hk), hmq.chg hc (fun k hk _ => hk) h.hqm, h.hqm, Nat.lt_of_lt_of_le h.hml hc.size, hpid.trans h.hpid, hbg⟩
theorem riscall_x (M : Nat → Prop) (w : World) (hM : ∀ k, M k → k < w.heap.size) (x : It) (hx : TeOk M w x.x) : Calls Tryd.prog 11 #[.agg #[.int .i8 x.x.k, .int .i64 x.x.n, .string x.x.s, .string x.x.u, .slice x.x.ao x.x.l.length x.x.cap]] w (IcPost M w x.x.t) := riscall_any M w hM x.x hx
theorem TkI.lt {W w : World} {q mb : Nat} {c : Ch} {EA : List TE} {pid : Int} {m : Mc} {ao : Option Addr} {n cap : Nat} {ML : List It} {begun : Bool} {op : Int} (h : TkI W w q mb c EA pid m ao n cap ML begun op) : ∀ k, Mq q mb k → k < w.heap.size := fun k hk => by
  rcases (show k = q ∨ k = mb from hk) with hk | hk
  · rw [hk]
    exact heap_lt h.hF
  · rw [hk]
    exact h.hml
theorem TkI.m0 {W w w' : World} {q mb : Nat} {c : Ch} {EA : List TE} {pid : Int} {m : Mc} {ao : Option Addr} {n cap : Nat} {ML : List It} {begun : Bool} {op : Int} (h : TkI W w q mb c EA pid m ao n cap ML begun op) : ∀ k, Mq q mb k → k < w'.heap.size → M0 W k := fun k hk _ => by
  have h1 := h.hq
  have h2 := h.hmq.hmb
  show W.heap.size ≤ k
  rcases (show k = q ∨ k = mb from hk) with hk | hk <;> omega
theorem TnAt.keep {w w' : World} {b o : Nat} {t : Tn} (h : TnAt w b o t) (hb : Below w.heap.size w w') : TnAt w' b o t := ⟨keep_cell h.c0 hb, keep_cell h.c1 hb, keep_cell h.c2 hb, keep_cell h.c3 hb, keep_cell h.c4 hb, keep_cell h.c5 hb, keep_cell h.c6 hb, keep_cell h.c7 hb⟩
set_option maxHeartbeats 16000000 in
theorem takes_any (W : World) (hc : Cells W 0 letL) (c : Ch) (EA : List TE) (hE : TesOk (M0 W) W c.ar EA) (hm : c.m.size ≤ 9223372036854775807) (pid : Int) (hp : -9223372036854775808 ≤ pid ∧ pid ≤ 9223372036854775807) (ao0 : Option Addr) (N cap0 : Nat) (L : List Tn) (hL : TnsOk W (.slice ao0 N cap0) L) :
    Calls Tryd.prog 3 #[.agg #[.int .i8 c.id.k, .int .i64 c.id.n, .string c.id.s, .string c.id.u, .slice c.id.ao c.id.l.length c.id.cap, .int .i8 c.ki, .int .i8 c.re, .int .i64 c.sh, .string c.m, .string c.f, .slice c.ao c.an c.ac, .slice c.so c.sn c.sc], .int .i64 pid, .slice ao0 N cap0] W (IsPost W true) := by
  have HX := Lib.hid (And.intro hc (And.intro hE (And.intro hm (And.intro hp hL))))
  obtain ⟨ao1, cap1, e1, hN1, hN2, -⟩ := hL.form
  injection e1 with e1 e2 e3
  have hNl : N = L.length := e2
  have hNm : N ≤ 9223372036854775807 := by omega
  obtain ⟨aoe, cape, eE, -⟩ := hE.slice
  have eE' : (.slice c.ao c.an c.ac : Value) = .slice aoe EA.length cape := eE
  injection eE' with g1 g2 g3
  have HN := Lib.hid (And.intro hNl g2)
  clear hc hE hm hp hL e1 e2 e3 hN1 hN2 hNl eE g1 g2 g3
  have hb1 := (Below.refl W.heap.size W).alloc (Nat.le_refl _) (.cells #[.int .i8 c.id.k, .int .i64 c.id.n, .string c.id.s, .string c.id.u, .slice c.id.ao c.id.l.length c.id.cap, .int .i8 c.ki, .int .i8 c.re, .int .i64 c.sh, .string c.m, .string c.f, .slice c.ao c.an c.ac, .slice c.so c.sn c.sc] 28)
  have n1 := heap_new W (.cells #[.int .i8 c.id.k, .int .i64 c.id.n, .string c.id.s, .string c.id.u, .slice c.id.ao c.id.l.length c.id.cap, .int .i8 c.ki, .int .i8 c.re, .int .i64 c.sh, .string c.m, .string c.f, .slice c.ao c.an c.ac, .slice c.so c.sn c.sc] 28)
  have x10 : (W.alloc (.cells #[.int .i8 c.id.k, .int .i64 c.id.n, .string c.id.s, .string c.id.u, .slice c.id.ao c.id.l.length c.id.cap, .int .i8 c.ki, .int .i8 c.re, .int .i64 c.sh, .string c.m, .string c.f, .slice c.ao c.an c.ac, .slice c.so c.sn c.sc] 28)).cell? ⟨W.heap.size, 10, none⟩ = some (.slice c.ao c.an c.ac) := (cells_at n1 10 _ rfl).1
  have x11 : (W.alloc (.cells #[.int .i8 c.id.k, .int .i64 c.id.n, .string c.id.s, .string c.id.u, .slice c.id.ao c.id.l.length c.id.cap, .int .i8 c.ki, .int .i8 c.re, .int .i64 c.sh, .string c.m, .string c.f, .slice c.ao c.an c.ac, .slice c.so c.sn c.sc] 28)).cell? ⟨W.heap.size, 11, none⟩ = some (.slice c.so c.sn c.sc) := (cells_at n1 11 _ rfl).1
  have HB := Lib.hid (And.intro hb1 n1)
  clear hb1 n1
  go_enter Tryd.func3, Tryd.ntmps3
  by_cases h1 : (100 : Int) < N
  · have hd : decide ((100 : Int) < N) = true := by simpa using h1
    clear h1
    go_wp2_with fail
    refine (wakes_any (W.alloc (.cells #[.int .i8 c.id.k, .int .i64 c.id.n, .string c.id.s, .string c.id.u, .slice c.id.ao c.id.l.length c.id.cap, .int .i8 c.ki, .int .i8 c.re, .int .i64 c.sh, .string c.m, .string c.f, .slice c.ao c.an c.ac, .slice c.so c.sn c.sc] 28)) (keepCells HX.out.1 HB.out.1)).mono ?_
    rintro e WW ⟨rfl, hbW⟩
    have HBW := Lib.hid (Below.trans HB.out.1 (hbW.mono (Below.size HB.out.1)))
    clear hbW
    go_wp2_with fail
    go_ret
    exact ⟨rfl, HBW.out⟩
  · have hd : decide ((100 : Int) < N) = false := by simpa using h1
    by_cases h2 : (20 : Int) < c.an
    · have hd2 : decide ((20 : Int) < c.an) = true := by simpa using h2
      clear h2
      go_wp2_with fail
      refine (wakes_any (W.alloc (.cells #[.int .i8 c.id.k, .int .i64 c.id.n, .string c.id.s, .string c.id.u, .slice c.id.ao c.id.l.length c.id.cap, .int .i8 c.ki, .int .i8 c.re, .int .i64 c.sh, .string c.m, .string c.f, .slice c.ao c.an c.ac, .slice c.so c.sn c.sc] 28)) (keepCells HX.out.1 HB.out.1)).mono ?_
      rintro e WW ⟨rfl, hbW⟩
      have HBW := Lib.hid (Below.trans HB.out.1 (hbW.mono (Below.size HB.out.1)))
      clear hbW
      go_wp2_with fail
      go_ret
      exact ⟨rfl, HBW.out⟩
    · have hd2 : decide ((20 : Int) < c.an) = false := by simpa using h2
      clear h2
      go_wp2_with fail
      generalize W.alloc (.cells #[.int .i8 c.id.k, .int .i64 c.id.n, .string c.id.s, .string c.id.u, .slice c.id.ao c.id.l.length c.id.cap, .int .i8 c.ki, .int .i8 c.re, .int .i64 c.sh, .string c.m, .string c.f, .slice c.ao c.an c.ac, .slice c.so c.sn c.sc] 28) = w1 at *
      refine (galls_any (M0 W) w1 c.ar EA (HX.out.2.1.chg (chg_of_below HB.out.1 (fun _ => False)) (fun _ h => h.elim) (fun _ h _ => h))).mono ?_
      rintro e w2 ⟨bg, rfl, hb2⟩
      have H2 := Lib.hid (And.intro (HB.out.1.trans (hb2.mono HB.out.1.size)) (keep_heap HB.out.2 hb2))
      have y11 := keep_cell x11 hb2
      clear hb2 HB x10 x11 hd hd2
      cases bg
      · by_cases h3 : 0 < c.sn
        · have hd : decide (0 < c.sn) = true := by simpa using h3
          clear h3
          go_wp2_with fail
          refine (wakes_any w2 (keepCells HX.out.1 H2.out.1)).mono ?_
          rintro e WW ⟨rfl, hbW⟩
          have HBW := Lib.hid (Below.trans H2.out.1 (hbW.mono (Below.size H2.out.1)))
          clear hbW
          go_wp2_with fail
          go_ret
          exact ⟨rfl, HBW.out⟩
        · have hd : decide (0 < c.sn) = false := by simpa using h3
          clear h3
          go_wp2_with (with_reducible refine stop_op (o := ⟨_, .load 28 (.tmp 3), _, _, _, _⟩) ?_)
          refine Lib.hid ?_
          refine wpList_load_row (o := ⟨_, _, _, _, _, _⟩) rfl 28 (.tmp 3) rfl W.heap.size rfl 28 #[.int .i8 c.id.k, .int .i64 c.id.n, .string c.id.s, .string c.id.u, .slice c.id.ao c.id.l.length c.id.cap, .int .i8 c.ki, .int .i8 c.re, .int .i64 c.sh, .string c.m, .string c.f, .slice c.ao c.an c.ac, .slice c.so c.sn c.sc] (0, 0) _ H2.out.2 Tryd.underlying28 rfl (infoCH rfl) ?_
          have HNW := Lib.hid (new_any (fun k => k = W.heap.size) w2 (fun k hk => by rw [show k = W.heap.size from hk]; exact heap_lt H2.out.2) (keepCells HX.out.1 H2.out.1) c EA ((HX.out.2.1.keep H2.out.1).more fun k hk _ => Nat.le_of_eq (show W.heap.size = k from (show k = W.heap.size from hk).symm)) HX.out.2.2.1 pid)
          clear y11 hd
          go_wp2_with fail
          refine HNW.out.mono ?_
          clear HNW
          rintro e w3 ⟨hb3, h⟩
          have HB3 := Lib.hid (H2.out.1.trans (hb3.mono H2.out.1.size))
          have HLT := Lib.hid (Nat.lt_of_lt_of_le (heap_lt H2.out.2) hb3.size)
          clear hb3 H2
          rcases h with ⟨-, -, rb, rfl, -, hmk⟩ | ⟨-, rfl⟩
          · have HMK := Lib.hid hmk
            clear hmk
            go_wp2_with (with_reducible refine stop_op (o := ⟨_, .store 42 (.tmp 7) (.tmp 50), _, _, _, _⟩) ?_)
            refine Lib.hid ?_
            refine wpList_store_new (o := ⟨none, _, _, _, _, _⟩) rfl 42 (.tmp 7) (.tmp 50) rfl (frL (mc0 pid rb)).toArray rfl rfl (infoFR rfl) rfl (all_oneCell_toArray (frL_one _)) ?_
            have hb4 := (Below.refl w3.heap.size w3).alloc (Nat.le_refl _) (.cells (frL (mc0 pid rb)).toArray 42)
            have H4 : Hid (TkI W (w3.alloc (.cells (frL (mc0 pid rb)).toArray 42)) w3.heap.size W.heap.size c EA pid (mc0 pid rb) none 0 0 [] false 0) := Lib.hid ⟨HB3.out.trans (hb4.mono HB3.out.size), HB3.out.size, heap_new w3 _, HMK.out.chg (chg_of_below hb4 (fun _ => False)) (fun _ h => h.elim) (fun k hk hl => by
              rcases (show k = w3.heap.size ∨ k = W.heap.size from hk) with hk | hk
              · omega
              · exact hk), MqOk.start _ _ (Nat.le_refl _), by have := HLT.out; omega, by have := HLT.out; simp; omega, rfl, rfl, fun h => absurd (show (0 : Int) = 3 from h) (by decide)⟩
            clear hb4 HMK HB3
            generalize w3.alloc (.cells (frL (mc0 pid rb)).toArray 42) = w4 at *
            generalize w3.heap.size = q at *
            go_wp2_with fail
            go_loopw [9, 10, 11, 12, 13, 14, 15] (fun mlv nv sv bv ov pv iv wr => ∃ (i : Nat) (now : Int) (some begun : Bool) (op : Int) (m : Mc) (ao : Option Addr) (n cap mb : Nat) (ML : List It), i ≤ N ∧ mlv = .slice ao n cap ∧ nv = .int .i64 now ∧ sv = .bool some ∧ bv = .bool begun ∧ ov = .bool false ∧ pv = .int .i64 op ∧ iv = .int .i64 i ∧ 0 ≤ now ∧ now ≤ 1000 * i ∧ n ≤ 20 * i ∧ Hid (TkI W wr q mb c EA pid m ao n cap ML begun op)) (fun _ _ _ _ _ _ iv _ => N - (intOf iv).toNat)
            case atStart => exact ⟨0, 0, false, false, 0, mc0 pid rb, none, 0, 0, W.heap.size, [], by omega, rfl, rfl, rfl, rfl, rfl, rfl, rfl, by omega, by omega, by omega, H4⟩
            case round =>
              obtain ⟨i, now, so, begun, op, m, ao, n, cap, mb, ML, hi, rfl, rfl, rfl, rfl, rfl, rfl, rfl, hn0, hn1, hnn, HI⟩ := hrel
              by_cases hlt : i < N
              · obtain ⟨t, ht⟩ : ∃ t, L[i]? = some t := ⟨L[i]'(by rw [← HN.out.1]; exact hlt), List.getElem?_eq_getElem _⟩
                obtain ⟨ao9, cap9, e9, -, -, hat⟩ := HX.out.2.2.2.2.form
                injection e9 with e9 e10 e11
                subst e9
                obtain ⟨b, off, rfl, htn⟩ := hat i t ht
                have hmm := HX.out.2.2.2.2.ml t (List.mem_of_getElem? ht)
                have hgot := HX.out.2.2.2.2.got t (List.mem_of_getElem? ht)
                obtain ⟨mo, mc, emv, -, -, -, -⟩ := hmm.form
                have HT := Lib.hid (And.intro hmm (And.intro hgot (And.intro htn emv)))
                obtain ⟨t0, t1, t2, t3, t4, t5, t6, t7⟩ := htn.keep HI.out.hb
                change wr.cell? _ = some (.slice t.got.ao t.got.l.length t.got.cap) at t7
                rw [emv] at t0
                clear hmm hgot htn emv ht hat e10 e11
                by_cases h20 : (20 : Int) < t.ml.length
                · have hd : decide ((20 : Int) < t.ml.length) = true := by simpa using h20
                  clear h20
                  go_wp2_with fail
                  refine (wakes_any wr (keepCells HX.out.1 HI.out.hb)).mono ?_
                  rintro e WW ⟨rfl, hbW⟩
                  have HBW := Lib.hid (Below.trans HI.out.hb (hbW.mono (Below.size HI.out.hb)))
                  clear hbW
                  go_wp2_with fail
                  go_ret
                  exact ⟨rfl, HBW.out⟩
                · have hd : decide ((20 : Int) < t.ml.length) = false := by simpa using h20
                  have HG := Lib.hid (g17_any (M0 W) wr t.mv t.ml (HT.out.1.keep HI.out.hb))
                  rw [HT.out.2.2.2] at HG
                  go_wp2_with fail
                  refine HG.out.mono ?_
                  clear HG
                  rintro e w5 ⟨bg, rfl, hb5⟩
                  have HI5 := Lib.hid (HI.out.keep hb5)
                  have s0 := keep_cell t0 hb5
                  have s1 := keep_cell t1 hb5
                  have s3 := keep_cell t3 hb5
                  have s4 := keep_cell t4 hb5
                  have s5 := keep_cell t5 hb5
                  have s6 := keep_cell t6 hb5
                  have s7 := keep_cell t7 hb5
                  clear hb5 HI t0 t1 t2 t3 t4 t5 t6 t7 hd
                  cases bg
                  · have HG := Lib.hid (great_any _ t.got.t _ w5 (HT.out.2.1.keep HI5.out.hb).tv.choose_spec)
                    go_wp2_with fail
                    refine HG.out.mono ?_
                    clear HG
                    rintro e w6 ⟨rfl, hb6⟩
                    have HI6 := Lib.hid (HI5.out.keep hb6)
                    have r0 := keep_cell s0 hb6
                    have r1 := keep_cell s1 hb6
                    clear hb6 HI5 s0 s1 s3 s4 s5 s6 s7
                    generalize greatB t.got.t = bg at *
                    cases bg
                    · go_wp2_with (with_reducible refine stop_op (o := ⟨_, .call { callee := .builtin .append, args := #[.tmp 85, .tmp 90], argTypes := #[46, 46] }, _, _, _, _⟩) ?_)
                      refine Lib.hid ?_
                      refine wpList_append_mq (o := ⟨_, _, _, _, _, _⟩) rfl (.tmp 85) (.tmp 90) rfl HI6.out.hmq (heap_lt HI6.out.hF) HI6.out.hqm HI6.out.hml HI6.out.hb.size (.slice mo t.ml.length mc) t.ml (HT.out.2.2.2 ▸ (HT.out.1.chg (M' := Mq q mb) (chg_of_below HI6.out.hb (fun _ => False)) (fun _ h => h.elim) (fun k hk hl => hk.elim (fun e => by have := HI6.out.hq; show W.heap.size ≤ k; omega) (fun e => by have := HI6.out.hmq.hmb; show W.heap.size ≤ k; omega)))) (by omega) rfl rfl ?_
                      intro ao' cap' mb' w7 hc7 hmq7 hqm7 hml7 hmm7
                      have HI7 := Lib.hid (HI6.out.app hc7 hmq7 hqm7 hml7 hmm7)
                      clear hc7 hmq7 hqm7 hml7 hmm7 HI6 r0 r1
                      have hnl : n + t.ml.length ≤ 20 * (i + 1) := by omega
                      generalize n + t.ml.length = n7 at *
                      obtain ⟨t0, t1, t2, t3, t4, t5, t6, t7⟩ := HT.out.2.2.1.keep HI7.out.hb
                      change w7.cell? _ = some (.slice t.got.ao t.got.l.length t.got.cap) at t7
                      have hwr : IntKind.i64.wrap (now + min (max t.byN 0) 1000) = now + min (max t.byN 0) 1000 := IntWalk.i64_in _ (by omega)
                      have hnow1 : 0 ≤ now + min (max t.byN 0) 1000 := by omega
                      have hnow2 : now + min (max t.byN 0) 1000 ≤ 1000 * ((i + 1 : Nat) : Int) := by omega
                      have c8 : w7.cell? ⟨q, 8, none⟩ = some (.int .i8 m.ph) := (cells_at HI7.out.hF 8 _ rfl).1
                      have HNW := Lib.hid (And.intro hnow1 hnow2)
                      clear hnow1 hnow2 t0
                      go_wp2_with fail
                      generalize now + min (max t.byN 0) 1000 = now7 at *
                      clear hwr c8 t1
                      have hdr : Below w7.heap.size w7 w7.drew := (Below.refl _ _).drew
                      have hS : TuS b (off + i * 8) t.cls t.got w7.drew := ⟨keep_cell t2 hdr, keep_cell t3 hdr, keep_cell t4 hdr, keep_cell t5 hdr, keep_cell t6 hdr, keep_cell t7 hdr⟩
                      have HI8 := Lib.hid (HI7.out.keep hdr)
                      refine region_plan (TuS b (off + i * 8) t.cls t.got) [(0, 0), (1, 0), (2, 0), (3, 0), (4, 0), (5, 0), (6, 0), (7, 0), (8, 0), (9, 0), (10, 0), (11, 0), (12, 0), (13, 0), (14, 1), (15, 1)] (by kernel_rfl) (by kernel_rfl) (by kernel_rfl) hS ?_
                      generalize w7.drew = WD at *
                      clear hdr HI7 t2 t3 t4 t5 t6 t7
                      iterate 14 (first | (refine plan_skip rfl ?_ ?_; (focus (rfl)); (try simp only [Act.put, List.setIfInBounds_toArray, List.set_cons_zero, List.set_cons_succ])) | (refine plan_take (v := ?_) rfl ?_ (fun w hSw => ?_) ?_; rotate_left; (focus (rfl)); (focus (unfold TuS at hSw; (go_simp <;> with_reducible rfl))); (try simp only [Act.put, List.setIfInBounds_toArray, List.set_cons_zero, List.set_cons_succ])))
                      have hb9 := (Below.refl WD.heap.size WD).alloc (Nat.le_refl _) (.cells #[.int .i64 0, .int .i64 0, .slice none 0 0, .int .i8 0, .bool false, .int .i8 0, .int .i64 0, .string ⟨#[]⟩, .string ⟨#[]⟩, .slice none 0 0, .int .i64 0] 52)
                      have hS9 := hS.keep hb9
                      refine plan_run rfl ?_ (fun K hK => ?_)
                      focus (rfl)
                      go_simp
                      refine hK.out _ _ (hS9) ?_
                      clear hK K
                      (try simp only [Act.put, List.setIfInBounds_toArray, List.set_cons_zero, List.set_cons_succ])
                      have hb10 := (Below.refl WD.heap.size WD).alloc (Nat.le_refl _) (.cells #[.int .i64 now7, .int .i64 50, .slice ao' n7 cap', .int .i8 t.cls, .bool so, .int .i8 t.got.k, .int .i64 t.got.n, .string t.got.s, .string t.got.u, .slice t.got.ao t.got.l.length t.got.cap, .int .i64 0] 52)
                      have hS10 := hS.keep hb10
                      refine plan_run rfl ?_ (fun K hK => ?_)
                      focus (rfl)
                      refine wp_store_row 52 (.tmp 17) (.tmp 117) rfl WD.heap.size #[.int .i64 now7, .int .i64 50, .slice ao' n7 cap', .int .i8 t.cls, .bool so, .int .i8 t.got.k, .int .i64 t.got.n, .string t.got.s, .string t.got.u, .slice t.got.ao t.got.l.length t.got.cap, .int .i64 0] rfl rfl 52 #[.int .i64 0, .int .i64 0, .slice none 0 0, .int .i8 0, .bool false, .int .i8 0, .int .i64 0, .string ⟨#[]⟩, .string ⟨#[]⟩, .slice none 0 0, .int .i64 0] (heap_new WD _) (infoIN rfl) rfl (by simp [Value.oneCell']) ?_
                      rw [setRow_alloc]
                      refine hK.out _ _ (hS10) ?_
                      clear hK K
                      (try simp only [Act.put, List.setIfInBounds_toArray, List.set_cons_zero, List.set_cons_succ])
                      refine plan_done ?_
                      have HI9 := Lib.hid (HI8.out.keep hb10)
                      have HIN := Lib.hid (heap_new WD (.cells #[.int .i64 now7, .int .i64 50, .slice ao' n7 cap', .int .i8 t.cls, .bool so, .int .i8 t.got.k, .int .i64 t.got.n, .string t.got.s, .string t.got.u, .slice t.got.ao t.got.l.length t.got.cap, .int .i64 0] 52))
                      clear hS hS9 hS10 hb9 hb10 HI8
                      generalize WD.alloc (.cells #[.int .i64 now7, .int .i64 50, .slice ao' n7 cap', .int .i8 t.cls, .bool so, .int .i8 t.got.k, .int .i64 t.got.n, .string t.got.s, .string t.got.u, .slice t.got.ao t.got.l.length t.got.cap, .int .i64 0] 52) = w9 at *
                      generalize WD.heap.size = qi at *
                      go_wp2_with (with_reducible refine stop_op (o := ⟨_, .load 42 (.tmp 7), _, _, _, _⟩) ?_)
                      refine Lib.hid ?_
                      refine wpList_load_row (o := ⟨_, _, _, _, _, _⟩) rfl 42 (.tmp 7) rfl q rfl 42 (frL m).toArray (0, 0) _ HI9.out.hF Tryd.underlying42 rfl (infoFR rfl) ?_
                      go_wp2_with (with_reducible refine stop_op (o := ⟨_, .load 52 (.tmp 17), _, _, _, _⟩) ?_)
                      refine Lib.hid ?_
                      refine wpList_load_row (o := ⟨_, _, _, _, _, _⟩) rfl 52 (.tmp 17) rfl qi rfl 52 #[.int .i64 now7, .int .i64 50, .slice ao' n7 cap', .int .i8 t.cls, .bool so, .int .i8 t.got.k, .int .i64 t.got.n, .string t.got.s, .string t.got.u, .slice t.got.ao t.got.l.length t.got.cap, .int .i64 0] (0, 0) _ HIN.out Tryd.underlying52 rfl (infoIN rfl) ?_
                      have HS := Lib.hid (step_any (Mq q mb') w9 (HI9.out.lt) (keepCells HX.out.1 HI9.out.hb) m c EA ⟨now7, 50, ao', n7, cap', t.cls, so, t.got⟩ (ML ++ t.ml) HI9.out.hm (by rw [HI9.out.hpid]; exact HX.out.2.2.2.1) ((HT.out.2.1.keep HI9.out.hb).more HI9.out.m0) HI9.out.hmq.ml)
                      change Hid (Calls Tryd.prog 10 #[.agg (frL m).toArray, .agg #[.int .i64 now7, .int .i64 50, .slice ao' n7 cap', .int .i8 t.cls, .bool so, .int .i8 t.got.k, .int .i64 t.got.n, .string t.got.s, .string t.got.u, .slice t.got.ao t.got.l.length t.got.cap, .int .i64 0]] w9 _) at HS
                      clear HIN
                      go_wp2_with fail
                      refine HS.out.mono ?_
                      clear HS
                      rintro e w10 ⟨m', v1, E1, rfl, hb11, hef, hm', hR⟩
                      have HU := Lib.hid (takes_unit hR HI9.out.hm.hph HI9.out.hop)
                      have HI10 := Lib.hid (And.intro (HI9.out.keep hb11) (And.intro hef hm'))
                      clear hb11 hef hm' hR HI9
                      go_wp2_with (with_reducible refine stop_op (o := ⟨_, .store 42 (.tmp 18) (.tmp 122), _, _, _, _⟩) ?_)
                      refine Lib.hid ?_
                      refine wpList_store_new (o := ⟨none, _, _, _, _, _⟩) rfl 42 (.tmp 18) (.tmp 122) rfl (frL m').toArray rfl rfl (infoFR rfl) rfl (all_oneCell_toArray (frL_one _)) ?_
                      have hb12 := (Below.refl w10.heap.size w10).alloc (Nat.le_refl _) (.cells (frL m').toArray 42)
                      have HI11 := Lib.hid (And.intro (HI10.out.1.keep hb12) (And.intro (HI10.out.2.1.keep hb12) (And.intro (HI10.out.2.2.keep hb12) (heap_new w10 (.cells (frL m').toArray 42)))))
                      clear hb12 HI10
                      generalize w10.alloc (.cells (frL m').toArray 42) = w11 at *
                      generalize w10.heap.size = qg at *
                      obtain ⟨eo, ec, rfl, he1, he2, -⟩ := id HI11.out.2.1
                      have hEl : E1.length ≤ 9223372036854775807 := by omega
                      clear he1 he2
                      go_wp2_with fail
                      generalize wr = wo at *
                      go_loopw [9, 11, 13, 14, 20] (fun mlv sv ov pv kv wr => ∃ (k : Nat) (s : Ts) (ao : Option Addr) (n cap : Nat), k ≤ E1.length ∧ mlv = .slice ao n cap ∧ sv = .bool s.so ∧ ov = .bool s.ov ∧ pv = .int .i64 s.op ∧ kv = .int .i64 k ∧ n ≤ n7 ∧ Hid (Below w11.heap.size w11 wr ∧ MqOk q W.heap.size wr ao n cap mb' s.ml ∧ tsAll m.ph s (E1.drop k) ∧ tsFold s (E1.drop k) = tsFold ⟨ML ++ t.ml, false, false, op⟩ E1)) (fun _ _ _ _ kv _ => E1.length - (intOf kv).toNat)
                      case atStart => exact ⟨0, ⟨ML ++ t.ml, false, false, op⟩, ao', n7, cap', by omega, rfl, rfl, rfl, rfl, rfl, by omega, Lib.hid ⟨Below.refl _ _, HI11.out.1.hmq, HU.out.1, rfl⟩⟩
                      case round =>
                        obtain ⟨k, ⟨sml, sso, sov, sop⟩, ao2, n2, cap2, hk, rfl, rfl, rfl, rfl, rfl, hn2, HK⟩ := hrel
                        by_cases hkl : k < E1.length
                        · obtain ⟨e, he⟩ : ∃ e, E1[k]? = some e := ⟨E1[k], List.getElem?_eq_getElem hkl⟩
                          obtain ⟨b1, ec1, ev, hB1, hcl⟩ := (HI11.out.2.1.keep HK.out.1).at he
                          injection ev with ev1 ev2 ev3
                          subst ev1 ev3
                          have k0 : wr.cell? ⟨b1, k * 61, none⟩ = some (.int .i8 e.kd) := hcl 0 _ (by omega) rfl
                          have k1 : wr.cell? ⟨b1, k * 61 + 1, none⟩ = some (.int .i64 e.rc) := hcl 1 _ (by omega) rfl
                          have hdc := drop_cons he
                          have h3 := HK.out.2.2.1
                          have h4 := HK.out.2.2.2
                          rw [hdc] at h3 h4
                          have HO := Lib.hid h3.1
                          have HSS := Lib.hid (And.intro h3.2 (show tsFold (tsStep ⟨sml, sso, sov, sop⟩ e) (E1.drop (k + 1)) = tsFold ⟨ML ++ t.ml, false, false, op⟩ E1 from h4))
                          clear hdc h3 h4 hcl hB1 he
                          rcases HO.out with ⟨hkd, hph, hrc, hne⟩ | hkd | ⟨hkd, hph, hop⟩ | ⟨hkd, hov, hph⟩ | hkd | hkd
                          · cases sml with
                            | nil => exact absurd rfl hne
                            | cons x r =>
                              have hst : tsStep ⟨x :: r, sso, sov, sop⟩ e = ⟨r, sso, sov, if (callP x.x.t).isSome then 1 else 0⟩ := by simp [tsStep, hkd]
                              rw [hst] at HSS
                              rw [hkd] at k0
                              rw [hrc] at k1
                              have q1 : (m.ph != 2) = false := by simp [hph]
                              obtain ⟨off2, rfl, h1n, hnc, hmqt⟩ := HK.out.2.1.tl
                              obtain ⟨off3, e3, hit⟩ := HK.out.2.1.at (i := 0) rfl
                              injection e3 with e3
                              injection e3 with e3 e4
                              subst e4
                              have hte := HK.out.2.1.te x List.mem_cons_self
                              have q2 : ((n2 : Int) == 0) = false := by simp; omega
                              have hlt0 : (0 : Int) < (n2 : Int) := by omega
                              have hle1 : (1 : Int) ≤ (n2 : Int) := by omega
                              have hle2 : (n2 : Int) ≤ (cap2 : Int) := by omega
                              obtain ⟨i0, i1, i2, i3, i4, -⟩ := hit
                              rw [show off2 + 0 * 6 = off2 by omega] at i0 i1 i2 i3 i4
                              have HC := Lib.hid (riscall_x (Mq q mb') wr (fun k hk => Nat.lt_of_lt_of_le (HI11.out.1.lt k hk) HK.out.1.size) x hte)
                              have HQT := Lib.hid (And.intro hmqt hnc)
                              clear hst hkd hrc hph HO hte hmqt hne e3 hnc
                              go_wp2_with fail
                              refine HC.out.mono ?_
                              clear HC
                              rintro e2 w12 ⟨y, p, r2, bc, rfl, -, hb12, hcall, -⟩
                              have HB12 := Lib.hid (And.intro (HK.out.1.trans (hb12.mono HK.out.1.size)) (HQT.out.1.keep hb12 HI11.out.1.hqm))
                              have HCL := Lib.hid (show (callP x.x.t).isSome = bc by rw [hcall]; cases bc <;> rfl)
                              clear hcall hb12 k0 k1 i0 i1 i2 i3 i4
                              go_wp2_with (with_reducible refine stop_op (o := ⟨_, .store 25 (.tmp 23) (.tmp 160), _, _, _, _⟩) ?_)
                              refine Lib.hid ?_
                              refine wpList_store_new (o := ⟨none, _, _, _, _, _⟩) rfl 25 (.tmp 23) (.tmp 160) rfl y.cells.toArray rfl rfl (infoTM' _ rfl) rfl (by simp [Value.oneCell', TE.cells, TE.lv]) ?_
                              have hb13 := (Below.refl w12.heap.size w12).alloc (Nat.le_refl _) (.cells y.cells.toArray 25)
                              have HB13 := Lib.hid (And.intro (HB12.out.1.trans (hb13.mono HB12.out.1.size)) (HB12.out.2.keep hb13 HI11.out.1.hqm))
                              clear hb13 HB12
                              generalize w12.alloc (.cells y.cells.toArray 25) = w13 at *
                              have hle3 : n2 ≤ cap2 := HQT.out.2
                              rw [HCL.out] at HSS
                              cases bc
                              · go_wp2_with fail
                                go_roundw
                                case rel => exact ⟨k + 1, ⟨r, sso, sov, 0⟩, (if cap2 = 1 then some ⟨mb', off2, none⟩ else some ⟨mb', off2 + 6, none⟩), n2 - 1, cap2 - 1, by omega, rfl, rfl, rfl, rfl, by go_num, by omega, Lib.hid ⟨HB13.out.1, HB13.out.2, HSS.out.1, HSS.out.2⟩⟩
                                case measure => simp [intOf]; omega
                              · go_wp2_with fail
                                go_roundw
                                case rel => exact ⟨k + 1, ⟨r, sso, sov, 1⟩, (if cap2 = 1 then some ⟨mb', off2, none⟩ else some ⟨mb', off2 + 6, none⟩), n2 - 1, cap2 - 1, by omega, rfl, rfl, rfl, rfl, by go_num, by omega, Lib.hid ⟨HB13.out.1, HB13.out.2, HSS.out.1, HSS.out.2⟩⟩
                                case measure => simp [intOf]; omega
                          · have hst : tsStep ⟨sml, sso, sov, sop⟩ e = ⟨sml, true, sov, sop⟩ := by simp [tsStep, hkd]
                            rw [hst] at HSS
                            rw [hkd] at k0
                            clear hst hkd HO
                            go_wp2_with fail
                            go_roundw
                            case rel => exact ⟨k + 1, ⟨sml, true, sov, sop⟩, ao2, n2, cap2, by omega, rfl, rfl, rfl, rfl, by go_num, by omega, Lib.hid ⟨HK.out.1, HK.out.2.1, HSS.out.1, HSS.out.2⟩⟩
                            case measure => simp [intOf]; omega
                          · have hst : tsStep ⟨sml, sso, sov, sop⟩ e = ⟨sml, sso, sov, 0⟩ := by simp [tsStep, hkd]
                            have hop : sop = 1 := hop
                            subst hop
                            have q1 : (m.ph != 3) = false := by simp [hph]
                            rw [hst] at HSS
                            rw [hkd] at k0
                            clear hst hkd HO hph
                            go_wp2_with fail
                            go_roundw
                            case rel => exact ⟨k + 1, ⟨sml, sso, sov, 0⟩, ao2, n2, cap2, by omega, rfl, rfl, rfl, rfl, by go_num, by omega, Lib.hid ⟨HK.out.1, HK.out.2.1, HSS.out.1, HSS.out.2⟩⟩
                            case measure => simp [intOf]; omega
                          · have hst : tsStep ⟨sml, sso, sov, sop⟩ e = ⟨sml, sso, true, sop⟩ := by simp [tsStep, hkd]
                            have hov : sov = false := hov
                            subst hov
                            rw [hst] at HSS
                            rw [hkd] at k0
                            have hbg := HI11.out.1.hbg
                            rcases hph with hph | hph
                            · have q1 : (m.ph != 6) = false := by simp [hph]
                              have hbt : begun = true := by rw [hbg, hph]; rfl
                              subst hbt
                              clear hst hkd HO hph hbg
                              go_wp2_with fail
                              go_roundw
                              case rel => exact ⟨k + 1, ⟨sml, sso, true, sop⟩, ao2, n2, cap2, by omega, rfl, rfl, rfl, rfl, by go_num, by omega, Lib.hid ⟨HK.out.1, HK.out.2.1, HSS.out.1, HSS.out.2⟩⟩
                              case measure => simp [intOf]; omega
                            · have q1 : (m.ph != 1) = false := by simp [hph]
                              have hbt : begun = false := by rw [hbg, hph]; rfl
                              subst hbt
                              clear hst hkd HO hph hbg
                              go_wp2_with fail
                              go_roundw
                              case rel => exact ⟨k + 1, ⟨sml, sso, true, sop⟩, ao2, n2, cap2, by omega, rfl, rfl, rfl, rfl, by go_num, by omega, Lib.hid ⟨HK.out.1, HK.out.2.1, HSS.out.1, HSS.out.2⟩⟩
                              case measure => simp [intOf]; omega
                          · have hst : tsStep ⟨sml, sso, sov, sop⟩ e = ⟨sml, sso, sov, sop⟩ := by simp [tsStep, hkd]
                            rw [hst] at HSS
                            rw [hkd] at k0
                            clear hst hkd HO
                            go_wp2_with fail
                            go_roundw
                            case rel => exact ⟨k + 1, ⟨sml, sso, sov, sop⟩, ao2, n2, cap2, by omega, rfl, rfl, rfl, rfl, by go_num, by omega, Lib.hid ⟨HK.out.1, HK.out.2.1, HSS.out.1, HSS.out.2⟩⟩
                            case measure => simp [intOf]; omega
                          · have hst : tsStep ⟨sml, sso, sov, sop⟩ e = ⟨sml, sso, sov, sop⟩ := by simp [tsStep, hkd]
                            rw [hst] at HSS
                            rw [hkd] at k0
                            clear hst hkd HO
                            go_wp2_with fail
                            go_roundw
                            case rel => exact ⟨k + 1, ⟨sml, sso, sov, sop⟩, ao2, n2, cap2, by omega, rfl, rfl, rfl, rfl, by go_num, by omega, Lib.hid ⟨HK.out.1, HK.out.2.1, HSS.out.1, HSS.out.2⟩⟩
                            case measure => simp [intOf]; omega
                        · obtain rfl : k = E1.length := by omega
                          have hfo := HK.out.2.2.2
                          rw [List.drop_length] at hfo
                          have hfo : (⟨sml, sso, sov, sop⟩ : Ts) = tsFold ⟨ML ++ t.ml, false, false, op⟩ E1 := hfo
                          have HQ := Lib.hid HU.out
                          rw [← hfo] at HQ
                          have HBG := Lib.hid HI11.out.1.hbg
                          have HJ := Lib.hid (And.intro (HI11.out.1.keep HK.out.1) (And.intro (HI11.out.2.2.1.keep HK.out.1) (And.intro HK.out.2.1 (keep_heap HI11.out.2.2.2 HK.out.1))))
                          have g8 : wr.cell? ⟨qg, 8, none⟩ = some (.int .i8 m'.ph) := (cells_at HJ.out.2.2.2 8 _ rfl).1
                          clear hfo HU HK HI11
                          cases begun
                          · by_cases hp1 : m.ph = 1
                            · obtain ⟨ph0, hph0⟩ : ∃ p, p = m.ph := ⟨_, rfl⟩
                              rw [← hph0]
                              obtain rfl : ph0 = 1 := hph0.trans hp1
                              clear hph0
                              by_cases hp2 : m'.ph = 2
                              · have HP := Lib.hid (And.intro hp1 hp2)
                                rw [hp2] at g8
                                clear hp1 hp2
                                go_wp2_with (with_reducible refine stop_op (o := ⟨_, .load 42 (.tmp 18), _, _, _, _⟩) ?_)
                                refine Lib.hid ?_
                                refine wpList_load_row (o := ⟨_, _, _, _, _, _⟩) rfl 42 (.tmp 18) rfl qg rfl 42 (frL m').toArray (0, 0) _ HJ.out.2.2.2 Tryd.underlying42 rfl (infoFR rfl) ?_
                                go_wp2_with (with_reducible refine stop_op (o := ⟨_, .store 42 (.tmp 7) (.tmp 204), _, _, _, _⟩) ?_)
                                refine Lib.hid ?_
                                refine wpList_store_row (o := ⟨none, _, _, _, _, _⟩) rfl 42 (.tmp 7) (.tmp 204) rfl q (frL m').toArray rfl rfl 42 (frL m).toArray HJ.out.1.hF (infoFR rfl) rfl (all_oneCell_toArray (frL_one _)) ?_
                                have HZ := Lib.hid (HJ.out.1.next (bg := true) HJ.out.2.1 HJ.out.2.2.1 (by rw [HP.out.2]; rfl) HQ.out.2.2.2)
                                clear HJ
                                generalize World.setRow wr q (frL m').toArray = w13 at *
                                cases sov
                                · go_wp2_with fail
                                  go_roundw
                                  case rel => exact ⟨i + 1, now7, sso, _, sop, m', ao2, n2, cap2, mb', sml, by omega, rfl, rfl, rfl, rfl, rfl, rfl, by go_num, HNW.out.1, HNW.out.2, by omega, Lib.hid ⟨HZ.out.1, HZ.out.2.1, HZ.out.2.2.1, HZ.out.2.2.2.1, HZ.out.2.2.2.2.1, HZ.out.2.2.2.2.2.1, HZ.out.2.2.2.2.2.2.1, HZ.out.2.2.2.2.2.2.2.1, HZ.out.2.2.2.2.2.2.2.2, HQ.out.2.1 rfl⟩⟩
                                  case measure => simp [intOf]; omega
                                · skip
                                  go_wp2_with fail
                                  refine (wakes_any w13 (keepCells HX.out.1 HZ.out.1)).mono ?_
                                  rintro e WW ⟨rfl, hbW⟩
                                  have HBW := Lib.hid (Below.trans HZ.out.1 (hbW.mono (Below.size HZ.out.1)))
                                  clear hbW
                                  go_wp2_with fail
                                  go_ret
                                  exact ⟨rfl, HBW.out⟩
                              · have q2 : (m'.ph == 2) = false := by simp [hp2]
                                have HP := Lib.hid (And.intro hp1 hp2)
                                clear hp1 hp2
                                go_wp2_with (with_reducible refine stop_op (o := ⟨_, .load 42 (.tmp 18), _, _, _, _⟩) ?_)
                                refine Lib.hid ?_
                                refine wpList_load_row (o := ⟨_, _, _, _, _, _⟩) rfl 42 (.tmp 18) rfl qg rfl 42 (frL m').toArray (0, 0) _ HJ.out.2.2.2 Tryd.underlying42 rfl (infoFR rfl) ?_
                                go_wp2_with (with_reducible refine stop_op (o := ⟨_, .store 42 (.tmp 7) (.tmp 204), _, _, _, _⟩) ?_)
                                refine Lib.hid ?_
                                refine wpList_store_row (o := ⟨none, _, _, _, _, _⟩) rfl 42 (.tmp 7) (.tmp 204) rfl q (frL m').toArray rfl rfl 42 (frL m).toArray HJ.out.1.hF (infoFR rfl) rfl (all_oneCell_toArray (frL_one _)) ?_
                                have HZ := Lib.hid (HJ.out.1.next (bg := false) HJ.out.2.1 HJ.out.2.2.1 (by have h := HQ.out.2.2.1; rw [← HBG.out] at h; rw [← h]; simp [HP.out.2]) HQ.out.2.2.2)
                                clear HJ
                                generalize World.setRow wr q (frL m').toArray = w13 at *
                                cases sov
                                · go_wp2_with fail
                                  go_roundw
                                  case rel => exact ⟨i + 1, now7, sso, _, sop, m', ao2, n2, cap2, mb', sml, by omega, rfl, rfl, rfl, rfl, rfl, rfl, by go_num, HNW.out.1, HNW.out.2, by omega, Lib.hid ⟨HZ.out.1, HZ.out.2.1, HZ.out.2.2.1, HZ.out.2.2.2.1, HZ.out.2.2.2.2.1, HZ.out.2.2.2.2.2.1, HZ.out.2.2.2.2.2.2.1, HZ.out.2.2.2.2.2.2.2.1, HZ.out.2.2.2.2.2.2.2.2, HQ.out.2.1 rfl⟩⟩
                                  case measure => simp [intOf]; omega
                                · skip
                                  go_wp2_with fail
                                  refine (wakes_any w13 (keepCells HX.out.1 HZ.out.1)).mono ?_
                                  rintro e WW ⟨rfl, hbW⟩
                                  have HBW := Lib.hid (Below.trans HZ.out.1 (hbW.mono (Below.size HZ.out.1)))
                                  clear hbW
                                  go_wp2_with fail
                                  go_ret
                                  exact ⟨rfl, HBW.out⟩
                            · have q1 : (m.ph == 1) = false := by simp [hp1]
                              have HP := Lib.hid hp1
                              clear hp1
                              go_wp2_with (with_reducible refine stop_op (o := ⟨_, .load 42 (.tmp 18), _, _, _, _⟩) ?_)
                              refine Lib.hid ?_
                              refine wpList_load_row (o := ⟨_, _, _, _, _, _⟩) rfl 42 (.tmp 18) rfl qg rfl 42 (frL m').toArray (0, 0) _ HJ.out.2.2.2 Tryd.underlying42 rfl (infoFR rfl) ?_
                              go_wp2_with (with_reducible refine stop_op (o := ⟨_, .store 42 (.tmp 7) (.tmp 204), _, _, _, _⟩) ?_)
                              refine Lib.hid ?_
                              refine wpList_store_row (o := ⟨none, _, _, _, _, _⟩) rfl 42 (.tmp 7) (.tmp 204) rfl q (frL m').toArray rfl rfl 42 (frL m).toArray HJ.out.1.hF (infoFR rfl) rfl (all_oneCell_toArray (frL_one _)) ?_
                              have HZ := Lib.hid (HJ.out.1.next (bg := false) HJ.out.2.1 HJ.out.2.2.1 (by have h := HQ.out.2.2.1; rw [← HBG.out] at h; rw [← h]; simp [HP.out]) HQ.out.2.2.2)
                              clear HJ
                              generalize World.setRow wr q (frL m').toArray = w13 at *
                              cases sov
                              · go_wp2_with fail
                                go_roundw
                                case rel => exact ⟨i + 1, now7, sso, _, sop, m', ao2, n2, cap2, mb', sml, by omega, rfl, rfl, rfl, rfl, rfl, rfl, by go_num, HNW.out.1, HNW.out.2, by omega, Lib.hid ⟨HZ.out.1, HZ.out.2.1, HZ.out.2.2.1, HZ.out.2.2.2.1, HZ.out.2.2.2.2.1, HZ.out.2.2.2.2.2.1, HZ.out.2.2.2.2.2.2.1, HZ.out.2.2.2.2.2.2.2.1, HZ.out.2.2.2.2.2.2.2.2, HQ.out.2.1 rfl⟩⟩
                                case measure => simp [intOf]; omega
                              · skip
                                go_wp2_with fail
                                refine (wakes_any w13 (keepCells HX.out.1 HZ.out.1)).mono ?_
                                rintro e WW ⟨rfl, hbW⟩
                                have HBW := Lib.hid (Below.trans HZ.out.1 (hbW.mono (Below.size HZ.out.1)))
                                clear hbW
                                go_wp2_with fail
                                go_ret
                                exact ⟨rfl, HBW.out⟩
                          · skip
                            go_wp2_with (with_reducible refine stop_op (o := ⟨_, .load 42 (.tmp 18), _, _, _, _⟩) ?_)
                            refine Lib.hid ?_
                            refine wpList_load_row (o := ⟨_, _, _, _, _, _⟩) rfl 42 (.tmp 18) rfl qg rfl 42 (frL m').toArray (0, 0) _ HJ.out.2.2.2 Tryd.underlying42 rfl (infoFR rfl) ?_
                            go_wp2_with (with_reducible refine stop_op (o := ⟨_, .store 42 (.tmp 7) (.tmp 204), _, _, _, _⟩) ?_)
                            refine Lib.hid ?_
                            refine wpList_store_row (o := ⟨none, _, _, _, _, _⟩) rfl 42 (.tmp 7) (.tmp 204) rfl q (frL m').toArray rfl rfl 42 (frL m).toArray HJ.out.1.hF (infoFR rfl) rfl (all_oneCell_toArray (frL_one _)) ?_
                            have HZ := Lib.hid (HJ.out.1.next (bg := true) HJ.out.2.1 HJ.out.2.2.1 (by have h := HQ.out.2.2.1; rw [← HBG.out] at h; exact h) HQ.out.2.2.2)
                            clear HJ
                            generalize World.setRow wr q (frL m').toArray = w13 at *
                            cases sov
                            · go_wp2_with fail
                              go_roundw
                              case rel => exact ⟨i + 1, now7, sso, _, sop, m', ao2, n2, cap2, mb', sml, by omega, rfl, rfl, rfl, rfl, rfl, rfl, by go_num, HNW.out.1, HNW.out.2, by omega, Lib.hid ⟨HZ.out.1, HZ.out.2.1, HZ.out.2.2.1, HZ.out.2.2.2.1, HZ.out.2.2.2.2.1, HZ.out.2.2.2.2.2.1, HZ.out.2.2.2.2.2.2.1, HZ.out.2.2.2.2.2.2.2.1, HZ.out.2.2.2.2.2.2.2.2, HQ.out.2.1 rfl⟩⟩
                              case measure => simp [intOf]; omega
                            · skip
                              go_wp2_with fail
                              refine (wakes_any w13 (keepCells HX.out.1 HZ.out.1)).mono ?_
                              rintro e WW ⟨rfl, hbW⟩
                              have HBW := Lib.hid (Below.trans HZ.out.1 (hbW.mono (Below.size HZ.out.1)))
                              clear hbW
                              go_wp2_with fail
                              go_ret
                              exact ⟨rfl, HBW.out⟩
                    · skip
                      go_wp2_with fail
                      refine (wakes_any w6 (keepCells HX.out.1 HI6.out.hb)).mono ?_
                      rintro e WW ⟨rfl, hbW⟩
                      have HBW := Lib.hid (Below.trans HI6.out.hb (hbW.mono (Below.size HI6.out.hb)))
                      clear hbW
                      go_wp2_with fail
                      go_ret
                      exact ⟨rfl, HBW.out⟩
                  · skip
                    go_wp2_with fail
                    refine (wakes_any w5 (keepCells HX.out.1 HI5.out.hb)).mono ?_
                    rintro e WW ⟨rfl, hbW⟩
                    have HBW := Lib.hid (Below.trans HI5.out.hb (hbW.mono (Below.size HI5.out.hb)))
                    clear hbW
                    go_wp2_with fail
                    go_ret
                    exact ⟨rfl, HBW.out⟩
              · obtain rfl : i = N := by omega
                go_wp2_with fail
                refine (wakes_any wr (keepCells HX.out.1 HI.out.hb)).mono ?_
                rintro e WW ⟨rfl, hbW⟩
                have HBW := Lib.hid (Below.trans HI.out.hb (hbW.mono (Below.size HI.out.hb)))
                clear hbW
                go_wp2_with fail
                go_ret
                exact ⟨rfl, HBW.out⟩
          · go_wp2_with (with_reducible refine stop_op (o := ⟨_, .store 42 (.tmp 7) (.tmp 50), _, _, _, _⟩) ?_)
            refine Lib.hid ?_
            refine wpList_store_new (o := ⟨none, _, _, _, _, _⟩) rfl 42 (.tmp 7) (.tmp 50) rfl frZ.toArray rfl rfl (infoFR rfl) rfl (all_oneCell_toArray frZ_one) ?_
            have hb4 := (Below.refl w3.heap.size w3).alloc (Nat.le_refl _) (.cells frZ.toArray 42)
            have HB4 := Lib.hid (HB3.out.trans (hb4.mono HB3.out.size))
            clear hb4 HB3
            generalize w3.alloc (.cells frZ.toArray 42) = w4 at *
            go_wp2_with fail
            refine (wakes_any w4 (keepCells HX.out.1 HB4.out)).mono ?_
            rintro e WW ⟨rfl, hbW⟩
            have HBW := Lib.hid (Below.trans HB4.out (hbW.mono (Below.size HB4.out)))
            clear hbW
            go_wp2_with fail
            go_ret
            exact ⟨rfl, HBW.out⟩
      · skip
        go_wp2_with fail
        refine (wakes_any w2 (keepCells HX.out.1 H2.out.1)).mono ?_
        rintro e WW ⟨rfl, hbW⟩
        have HBW := Lib.hid (Below.trans H2.out.1 (hbW.mono (Below.size H2.out.1)))
        clear hbW
        go_wp2_with fail
        go_ret
        exact ⟨rfl, HBW.out⟩
theorem takes_row {H : Type} {enc : TypeId × Value → H} (W : World) {base : Nat} {v0 v1 v2 : Value} {d0 d1 d2 : DataW H} {p0 p1 p2 : List MemPlace}
    (hv0 : Value.okWide Tryd.prog W .any base 28 v0) (h0 : DataW.Trod enc Tryd.prog W 0 (fun _ => true) true 28 v0 d0 p0)
    (hv1 : Value.okWide Tryd.prog W .any base 3 v1) (h1 : DataW.Trod enc Tryd.prog W 0 (fun _ => true) true 3 v1 d1 p1)
    (hv2 : Value.okWide Tryd.prog W .any base 29 v2) (h2 : DataW.Trod enc Tryd.prog W 0 (fun _ => true) true 29 v2 d2 p2)
    (hL : laidMetH Tryd.prog [("pleach/atoms.letters", letD)] W) : Calls Tryd.prog 3 #[v0, v1, v2] W (IsPost W true) := by
  obtain ⟨c, EA, rfl, hE, hm⟩ := child_of hv0 h0
  obtain ⟨p, rfl⟩ := okWide_int Tryd.underlying3 hv1
  obtain ⟨f1, hf1⟩ := h1
  obtain ⟨p', e', hw⟩ := leaf_int Tryd.underlying3 hf1
  injection e' with _ e'
  subst e'
  obtain ⟨L, hLn⟩ := turns_of hv2 h2
  obtain ⟨_, _, _, rfl⟩ := okWide_slice Tryd.underlying29 hv2
  exact takes_any W (letters_of W hL) c EA hE hm p (bd hw) _ _ _ L hLn
end Go.Proofs.YtlmehfdaaommpaaDoor
