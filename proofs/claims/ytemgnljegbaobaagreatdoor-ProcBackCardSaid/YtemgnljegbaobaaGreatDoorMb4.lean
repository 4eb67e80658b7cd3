/- proc.Check of a whole process: its mail, its name. Conditions: the process reads; its rows are not too long; the letters stand. -/
/- ProcBack's walk (printed by genrm.py). Conditions: the process and the item read and are no greater than memory; the letters stand. -/
import Derived.Test.YtemgnljegbaobaaGreatDoorRk
import Derived.Test.YtemgnljegbaobaaGreatDoorRe
import Derived.Test.YtemgnljegbaobaaGreatDoorMb3
import Derived.Test.YtemgnljegbaobaaGreatDoorRj
import Derived.Test.YtemgnljegbaobaaGreatDoorLt
namespace Go.Proofs.YtemgnljegbaobaaGreatDoor
open Go.ChangeShapes Go.WideShapes Go.ChangeAt Go.RowKit
set_option linter.unusedVariables false
set_option linter.unusedSimpArgs false
set_option maxRecDepth 100000
/-- which items' terms may not be -/
def BadP (w : World) (bad : Im → Bool) : Prop := ∀ x, ImOk w x → ∃ f t, TermV f w (.agg #[.int .i8 x.k, .int .i64 x.n, .string x.s, .string x.u, .slice x.ao x.ln x.lc]) t ∧ bad x = !(checkN t == 0)
theorem bad_ex (w : World) : ∃ bad : Im → Bool, BadP w bad := by
  have h : ∀ x : Im, ∃ b : Bool, ImOk w x → ∃ f t, TermV f w (.agg #[.int .i8 x.k, .int .i64 x.n, .string x.s, .string x.u, .slice x.ao x.ln x.lc]) t ∧ b = !(checkN t == 0) := by
    intro x
    by_cases hx : ImOk w x
    · obtain ⟨f, t, ht⟩ := hx
      exact ⟨_, fun _ => ⟨f, t, ht, rfl⟩⟩
    · exact ⟨false, fun h => absurd h hx⟩
  exact Classical.axiomOfChoice h
theorem check2_any (w W : World) (bad : Im → Bool) (hb : BadP w bad) (x : Im) (hx : ImOk w x) (hl : Cells w 0 letL) (hW : Below w.heap.size w W) : Calls Tryz.prog 29 #[.agg #[.int .i8 x.k, .int .i64 x.n, .string x.s, .string x.u, .slice x.ao x.ln x.lc, .bool x.ours]] W (IsPost W (bad x)) := by
  obtain ⟨f, t, ht, hbx⟩ := hb x hx
  have hb1 := (Below.refl W.heap.size W).alloc (Nat.le_refl _) (.cells #[.int .i8 x.k, .int .i64 x.n, .string x.s, .string x.u, .slice x.ao x.ln x.lc, .bool x.ours] 33)
  have hx1 := heap_new W (.cells #[.int .i8 x.k, .int .i64 x.n, .string x.s, .string x.u, .slice x.ao x.ln x.lc, .bool x.ours] 33)
  obtain ⟨y0, -⟩ := cells_at hx1 0 _ rfl
  obtain ⟨y1, -⟩ := cells_at hx1 1 _ rfl
  obtain ⟨y2, -⟩ := cells_at hx1 2 _ rfl
  obtain ⟨y3, -⟩ := cells_at hx1 3 _ rfl
  obtain ⟨y4, -⟩ := cells_at hx1 4 _ rfl
  have hB := hW.trans (hb1.mono hW.size)
  have HC := Lib.hid (check_any f t _ _ (keepCells hl hB) (ht.keep hB))
  have HB := Lib.hid hb1
  have HX := Lib.hid hbx
  clear hb1 hx1 ht hb hx hl hB hbx hW
  go_enter Tryz.func29, Tryz.ntmps29
  go_wp2_with fail
  refine HC.out.mono ?_
  rintro e w2 ⟨rfl, hb2⟩
  have HB2 := Lib.hid (HB.out.trans (hb2.mono HB.out.size))
  clear hb2 y0 y1 y2 y3 y4 HC
  generalize checkN t = n at *
  by_cases hn : n = 0
  · subst hn
    go_wp2_with fail
    go_ret
    exact ⟨by rw [HX.out]; rfl, HB2.out⟩
  · have h1 : (n == 0) = false := by simpa using hn
    have h2 : (n != 0) = true := by simpa using hn
    have HX2 := Lib.hid (HX.out.trans (by rw [h1]))
    clear HX
    go_wp2_with fail
    go_ret
    exact ⟨by rw [HX2.out]; rfl, HB2.out⟩
set_option maxHeartbeats 4000000 in
theorem indexM_any (w : World) (v : Value) (ps : List Im) (g : FuncId) (lb : Array Value) (p : Im → Bool) (eg : ∀ args w, (callFunc g args).run Tryz.prog w = .ok (.enter g args) w) (h : Rw w v ps.length 6 (mvs ps)) (hn : ps.length ≤ 100000)
    (hp : ∀ x ∈ ps, ∀ W, Below w.heap.size w W → Calls Tryz.prog g (#[.agg #[.int .i8 x.k, .int .i64 x.n, .string x.s, .string x.u, .slice x.ao x.ln x.lc, .bool x.ours]] ++ lb) W (IsPost W (p x))) : Calls Tryz.prog 56 #[v, .func (.func g) #[] lb] w (IntPost w (idxOf p ps)) := by
  obtain ⟨ao, c, rfl, hc1, hc2⟩ := h.slice
  have HR := Lib.hid h
  have HP := Lib.hid hp
  clear h hp
  go_enter Tryz.func56, Tryz.ntmps56
  go_wp2_with fail
  go_loopw [8] (fun iv wr => ∃ i : Nat, i ≤ ps.length ∧ iv = .int .i64 i ∧ Hid (Below w.heap.size w wr) ∧ Hid (∀ x ∈ ps.take i, p x = false)) (fun iv _ => ps.length - (intOf iv).toNat)
  case atStart => exact ⟨0, Nat.zero_le _, rfl, Lib.hid (Below.refl _ _), Lib.hid (by simp)⟩
  case round =>
    obtain ⟨i, hi, rfl, HB, HA⟩ := hrel
    by_cases hlt : i < ps.length
    · obtain ⟨x, hx⟩ : ∃ x, ps[i]? = some x := ⟨ps[i], List.getElem?_eq_getElem hlt⟩
      obtain ⟨b, off, c', e, hat⟩ := im_at (HR.out.keep HB.out) hx
      injection e with e1 e2 e3
      subst e1 e3
      obtain ⟨y0, y1, y2, y3, y4, y5⟩ := hat
      have HX := Lib.hid hx
      have HC := Lib.hid (HP.out x (List.mem_of_getElem? hx) wr HB.out)
      clear hx e2
      go_wp2_with fail
      refine HC.out.mono ?_
      rintro e w1 ⟨rfl, hb1⟩
      have HB1 := Lib.hid (HB.out.trans (hb1.mono HB.out.size))
      clear hb1 HC y0 y1 y2 y3 y4 y5
      cases hpx : p x
      · have HF := Lib.hid hpx
        clear hpx
        go_wp2_with fail
        go_roundw
        case rel =>
          refine ⟨i + 1, hlt, by go_num, HB1, Lib.hid fun y hy => ?_⟩
          rw [List.take_add_one, HX.out] at hy
          rcases List.mem_append.1 hy with hy | hy
          · exact HA.out y hy
          · simp at hy
            rw [hy]
            exact HF.out
        case measure => simp [intOf]; omega
      · have HF := Lib.hid hpx
        clear hpx
        go_wp2_with fail
        go_ret
        exact ⟨by rw [idxOf_some HX.out HF.out HA.out]; rfl, HB1.out⟩
    · have hE : i = ps.length := by omega
      have HA2 : Hid (∀ x ∈ ps, p x = false) := Lib.hid (by have := HA.out; rw [hE, List.take_length] at this; exact this)
      clear HA
      go_wp2_with fail
      go_ret
      exact ⟨by rw [idxOf_none HA2.out]; rfl, HB.out⟩
theorem containsM_any (w W : World) (bad : Im → Bool) (hb : BadP w bad) (v : Value) (ml : List Im) (h : Rw W v ml.length 6 (mvs ml)) (hn : ml.length ≤ 1000) (hi : ∀ x ∈ ml, ImOk w x) (hl : Cells w 0 letL) (hW : Below w.heap.size w W) :
    Calls Tryz.prog 28 #[v, .func (.func 29) #[] #[]] W (IsPost W (ml.any bad)) := by
  have HI := Lib.hid (indexM_any W v ml 29 #[] bad (enters_of Tryz.func29 (by kernel_rfl) rfl) h (by omega) (fun x hx W' hW' => check2_any w W' bad hb x (hi x hx) hl (hW.trans (hW'.mono hW.size))))
  obtain ⟨ao, c, rfl, hc1, hc2⟩ := h.slice
  clear h hb hi hl hW
  go_enter Tryz.func28, Tryz.ntmps28
  go_wp2_with fail
  refine HI.out.mono ?_
  rintro e w2 ⟨rfl, hb⟩
  have HB := Lib.hid hb
  have HE := Lib.hid (idxOf_any (p := bad) ml)
  clear hb HI
  generalize idxOf bad ml = ix at *
  go_wp2_with fail
  go_ret
  exact ⟨by rw [← HE.out]; rfl, HB.out⟩
/-- is a name one that may not be? -/
def badN (s : ByteArray) : Bool := if s = ⟨#[]⟩ then false else !mayS s
/-- what the check of a process comes to -/
theorem checkfull_any (w W : World) (bad : Im → Bool) (hb : BadP w bad) (p : Pv) (D : Pd) (ml : List Im) (h : PrX W p D.X) (hD : D.ok) (hxm : D.xm = mvs ml) (hnm : D.nm = ml.length) (hi : ∀ x ∈ ml, ImOk w x) (hname : p.name.size ≤ 9223372036854775807) (hl : Cells w 0 letL) (hW : Below w.heap.size w W) :
    Calls Tryz.prog 6 #[.agg p.cells] W (CheckP W p D (badN p.name) (ml.any bad)) := by
  have hml := h.ml
  simp only [Pd.X] at hml
  rw [hxm, hnm] at hml
  refine checkp_any W p D (badN p.name) (ml.any bad) h hD (fun e => by rw [badN, if_pos e]) (fun hne W' hW' => ?_) fun W' hW' => ?_
  · rw [badN, if_neg hne, Bool.not_not]
    exact may7 p.name hname W' (keepCells hl (hW.trans (hW'.mono hW.size)))
  · exact containsM_any w W' bad hb p.mv ml (hml.keep hW') (by have := hD.hm; omega) hi hl (hW.trans (hW'.mono hW.size))
/-- a process that may be -/
structure GoodP (p : Pv) (D : Pd) (bM : Bool) : Prop where
  pid : 1 ≤ p.pid
  par : 0 ≤ p.par
  lk : D.lk.length ≤ 64
  ws : D.ws.length ≤ 32
  L : D.L.length ≤ 64
  nm : badN p.name = false
  rl : risesL 0 D.lk = true
  own : p.pid ∉ D.lk
  rw : risesL 0 (D.ws.map Prod.fst) = true
  bw : (D.ws.any fun x => decide (x.2 < 1)) = false
  bm : bM = false
theorem CheckP.good {w w' : World} {p : Pv} {D : Pd} {bM : Bool} {e : Ending} (h : CheckP w p D (badN p.name) bM e w') (hg : GoodP p D bM) : e = .returned (.int .i64 0) ∧ Below w.heap.size w w' := by
  obtain ⟨own, h1, rfl, h2⟩ := h
  obtain ⟨g1, g2, g3, g4, g5, g6, g7, g8, g9, g10, g11⟩ := hg
  have ho : own = false := by
    cases own
    · rfl
    · exact absurd ((h1 ((risesL_spec D.lk 0).1 g7).2).1 rfl) g8
  refine ⟨?_, h2⟩
  unfold chkP
  rw [if_neg (by omega), if_neg (by omega), if_neg (by omega), if_neg (by omega), if_neg (by omega), if_neg (by rw [g6]; simp), if_neg (by rw [g7]; simp), if_neg (by rw [ho]; simp), if_neg (by rw [g9]; simp), if_neg (by rw [g10]; simp), if_neg (by rw [g11]; simp)]
/-- it tells 0 or 2; 0 if the process may be -/
theorem CheckP.tell {w w' : World} {p : Pv} {D : Pd} {bM : Bool} {e : Ending} (h : CheckP w p D (badN p.name) bM e w') : Below w.heap.size w w' ∧ (e = .returned (.int .i64 2) ∨ e = .returned (.int .i64 0) ∧ GoodP p D bM) := by
  obtain ⟨own, h1, rfl, h2⟩ := h
  refine ⟨h2, ?_⟩
  unfold chkP
  by_cases c1 : p.pid < 1
  · left; rw [if_pos c1]
  by_cases c2 : p.par < 0
  · left; rw [if_neg c1, if_pos c2]
  by_cases c3 : 64 < D.lk.length
  · left; rw [if_neg c1, if_neg c2, if_pos c3]
  by_cases c4 : 32 < D.ws.length
  · left; rw [if_neg c1, if_neg c2, if_neg c3, if_pos c4]
  by_cases c5 : 64 < D.L.length
  · left; rw [if_neg c1, if_neg c2, if_neg c3, if_neg c4, if_pos c5]
  rw [if_neg c1, if_neg c2, if_neg c3, if_neg c4, if_neg c5]
  by_cases c6 : badN p.name = true
  · left; rw [if_pos c6]
  rw [if_neg c6]
  by_cases c7 : (!risesL 0 D.lk) = true
  · left; rw [if_pos c7]
  rw [if_neg c7]
  by_cases c8 : own = true
  · left; rw [if_pos c8]
  rw [if_neg c8]
  by_cases c9 : (!risesL 0 (D.ws.map Prod.fst)) = true
  · left; rw [if_pos c9]
  rw [if_neg c9]
  by_cases c10 : (D.ws.any fun x => decide (x.2 < 1)) = true
  · left; rw [if_pos c10]
  rw [if_neg c10]
  by_cases c11 : bM = true
  · left; rw [if_pos c11]
  rw [if_neg c11]
  right
  have r7 : risesL 0 D.lk = true := by simpa using c7
  refine ⟨rfl, by omega, by omega, by omega, by omega, by omega, by simpa using c6, r7, fun hm => c8 ((h1 ((risesL_spec D.lk 0).1 r7).2).2 hm), by simpa using c9, by simpa using c10, by simpa using c11⟩
end Go.Proofs.YtemgnljegbaobaaGreatDoor
namespace Go.Proofs.YtemgnljegbaobaaGreatDoor
open Go.ChangeShapes Go.WideShapes Go.ChangeAt Go.RowKit
set_option linter.unusedVariables false
set_option linter.unusedSimpArgs false
set_option maxRecDepth 100000
/-- a region, and what stands behind it, apart -/
theorem region_post {P : Program} {id : Nat} {ops : Array Oper} {a : Act} {w : World} {Q : Exit → Act → World → Prop} (R : Act → Act → World → Prop) (h1 : (Code.region id ops true).wp P (fun e a' w' => match e with
    | .normal => R a a' w'
    | _ => False) a w) (h2 : ∀ a' w', R a a' w' → Q .normal a' w') : (Code.region id ops true).wp P Q a w :=
  Code.wp_mono (fun e a' w' h => by
    cases e <;> first | exact h2 _ _ h | exact h.elim) h1
def puts5 (a0 : Act) (x45 x46 x47 x48 x49 x50 x51 x52 x53 x54 x55 x56 x57 x58 x59 x60 x61 x62 x63 x64 x65 x66 x67 x68 x69 x70 x71 x72 x73 x74 x75 x76 x77 : Value) : Act := ((((((((((((((((((((((((((((((((((a0.put (some 45) x45).put (some 46) x46).put (some 47) x47).put (some 48) x48).put (some 49) x49).put (some 50) x50).put (some 51) x51).put (some 52) x52).put (some 53) x53).put (some 54) x54).put (some 55) x55).put (some 56) x56).put (some 57) x57).put (some 58) x58).put (some 59) x59).put (some 60) x60).put (some 61) x61).put (some 62) x62).put (some 63) x63).put (some 64) x64).put (some 65) x65).put (some 66) x66).put (some 67) x67).put (some 68) x68).put (some 69) x69).put (some 70) x70).put (some 71) x71).put (some 72) x72).put (some 73) x73).put (some 74) x74).put (some 75) x75).put (some 76) x76).put (some 77) x77).put (some 78) (.bool false))
def R5 (W0 : World) (a0 a' : Act) (w' : World) : Prop := ∃ x45 x46 x47 x48 x49 x50 x51 x52 x53 x54 x55 x56 x57 x58 x59 x60 x61 x62 x63 x64 x65 x66 x67 x68 x69 x70 x71 x72 x73 x74 x75 x76 x77 : Value, a' = puts5 a0 x45 x46 x47 x48 x49 x50 x51 x52 x53 x54 x55 x56 x57 x58 x59 x60 x61 x62 x63 x64 x65 x66 x67 x68 x69 x70 x71 x72 x73 x74 x75 x76 x77 ∧ Below W0.heap.size W0 w'
/-- what a link comes to -/
structure LkOk (w w' : World) (p : Pv) (D : Pd) (k : Int) (qc : Array Value) : Prop where
  k1 : 1 ≤ k
  kp : k ≠ p.pid
  ex : ∃ q D', qc = q.cells ∧ SamePv p q ∧ PrR w D w' q D' ∧ D'.nm = D.nm ∧ D'.xm = D.xm ∧ D'.ws = D.ws ∧ (((D.lk.any fun x => x == k) = true ∧ D'.lk = D.lk) ∨ ((D.lk.any fun x => x == k) = false ∧ D.lk.length < 64 ∧ D'.lk = putL D.lk k))
theorem zeroP_one : (zeroP.all fun v => v.oneCell') = true := by simp [Value.oneCell']
theorem LinkP.q {w w' : World} {p : Pv} {D : Pd} {k : Int} {e : Ending} (h : LinkP w p D k e w') :
    ∃ qc ev, e = .returned (.tuple #[.agg qc, .int .i64 ev]) ∧ qc.size = 9 ∧ (qc.all fun v => v.oneCell') = true ∧ Below w.heap.size w w' ∧ (ev = 0 → LkOk w w' p D k qc) := by
  unfold LinkP at h
  split at h
  · exact ⟨zeroP, 2, h.1, rfl, zeroP_one, h.2, fun h => by cases h⟩
  · rename_i h1
    split at h
    · rename_i h2
      obtain ⟨q, D', rfl, h3, h4, h5, h6, h7, h8⟩ := h
      exact ⟨q.cells, 0, rfl, rfl, Pv.one h4.pr, h4.hb, fun _ => ⟨by omega, fun e => h1 (.inr e), q, D', rfl, h3, h4, h5, h6, h8, .inl ⟨h2, h7⟩⟩⟩
    · rename_i h2
      split at h
      · exact ⟨zeroP, 20, h.1, rfl, zeroP_one, h.2, fun h => by cases h⟩
      · rename_i h9
        obtain ⟨q, D', rfl, h3, h4, h5, h6, h7, h8⟩ := h
        exact ⟨q.cells, 0, rfl, rfl, Pv.one h4.pr, h4.hb, fun _ => ⟨by omega, fun e => h1 (.inr e), q, D', rfl, h3, h4, h5, h6, h8, .inr ⟨Bool.eq_false_iff.2 h2, by omega, h7⟩⟩⟩
structure WtOk (w w' : World) (p : Pv) (D : Pd) (r k : Int) (qc : Array Value) : Prop where
  k1 : 1 ≤ k
  r1 : 1 ≤ r
  no : (watchOf D.ws r).2 = false
  ex : ∃ q D', qc = q.cells ∧ SamePv p q ∧ PrR w D w' q D' ∧ D'.nm = D.nm ∧ D'.xm = D.xm ∧ D'.lk = D.lk ∧ D.ws.length < 32 ∧ D'.ws = putLW D.ws (r, k)
theorem WatchP.q {w w' : World} {p : Pv} {D : Pd} {r k : Int} {e : Ending} (h : WatchP w p D r k e w') :
    ∃ qc ev, e = .returned (.tuple #[.agg qc, .int .i64 ev]) ∧ qc.size = 9 ∧ (qc.all fun v => v.oneCell') = true ∧ Below w.heap.size w w' ∧ (ev = 0 → WtOk w w' p D r k qc) := by
  unfold WatchP at h
  split at h
  · exact ⟨zeroP, 2, h.1, rfl, zeroP_one, h.2, fun h => by cases h⟩
  · rename_i h1
    split at h
    · exact ⟨zeroP, 20, h.1, rfl, zeroP_one, h.2, fun h => by cases h⟩
    · rename_i h9
      obtain ⟨q, D', rfl, h3, h4, h5, h6, h7, h8⟩ := h
      exact ⟨q.cells, 0, rfl, rfl, Pv.one h4.pr, h4.hb, fun _ => ⟨by omega, by omega, Bool.eq_false_iff.2 fun e => h1 (.inr (.inr e)), q, D', rfl, h3, h4, h5, h6, h7, by omega, h8⟩⟩
structure PutOk (w w' : World) (p : Pv) (D : Pd) (ml : List Im) (x : Im) (q : Pv) (b : Bool) : Prop where
  wt : b = true → q.wait = false
  ours : x.ours = true → b = true
  ex : ∃ D', SamePv { p with wait := q.wait } q ∧ PrR w D w' q D' ∧ D'.lk = D.lk ∧ D'.ws = D.ws ∧ D'.nm = D.nm + (if b then 1 else 0) ∧ D'.xm = if b then mvs (ml ++ [x]) else D.xm
theorem PutP.q {w w' : World} {p : Pv} {D : Pd} {ml : List Im} {x : Im} {e : Ending} (h : PutP w p D ml x e w') : ∃ q b, e = .returned (.tuple #[.agg q.cells, .bool b]) ∧ PutOk w w' p D ml x q b := by
  unfold PutP at h
  split at h
  · rename_i h1
    obtain ⟨q, D', rfl, h3, h4, h5, h6, h7, h8⟩ := h
    exact ⟨q, false, rfl, (fun e => by cases e), (fun e => by rw [h1.1] at e; cases e), D', ⟨h3.1, h3.2.1, h3.2.2.1, h3.2.2.2.1, rfl⟩, h4, h7, h8, h5, h6⟩
  · obtain ⟨q, D', rfl, h3, h4, h5, h6, h7, h8⟩ := h
    exact ⟨q, true, rfl, fun _ => h3.2.2.2.2, fun _ => rfl, D', ⟨h3.1, h3.2.1, h3.2.2.1, h3.2.2.2.1, rfl⟩, h4, h7, h8, h5, h6⟩
theorem Cp.bes {w : World} {L L' : List Fm} (h : Cp L L') (hL : ∀ f ∈ L, FrOk w True f.cs f.X) (hL' : ∀ f ∈ L', f.cs.size = 35) : Bes w L' L := by
  refine ⟨h.1.symm, fun i f f' hf hf' => ?_⟩
  obtain ⟨h1, h2⟩ := h.2 i f' f hf' hf
  obtain ⟨-, ⟨s, h3, h4⟩, -⟩ := hL f' (List.mem_of_getElem? hf')
  exact ⟨s, h3.sbr h2 (hL' f (List.mem_of_getElem? hf)), h3, h1.symm, h1 ▸ h4⟩
theorem SamePv.symm {p q : Pv} (h : SamePv p q) : SamePv q p := ⟨h.1.symm, h.2.1.symm, h.2.2.1.symm, h.2.2.2.1.symm, h.2.2.2.2.symm⟩
theorem SamePv.trans {p q r : Pv} (h : SamePv p q) (k : SamePv q r) : SamePv p r := ⟨k.1.trans h.1, k.2.1.trans h.2.1, k.2.2.1.trans h.2.2.1, k.2.2.2.1.trans h.2.2.2.1, k.2.2.2.2.trans h.2.2.2.2⟩
/-- a process beside one that was copied from it, and whose rows hold the same -/
theorem same_back (w : World) (p q : Pv) (D D' : Pd) (ml : List Im) (h : PrX w p D.X) (hk : PdOk w D ml) (hD : D.ok) (hq : PrX w q D'.X) (hc : Cp D.L D'.L) (hs : SamePv p q) (d1 : D'.nm = D.nm) (d2 : D'.xm = D.xm) (d3 : D'.lk = D.lk) (d4 : D'.ws = D.ws) :
    Calls Tryz.prog 10 #[.agg q.cells, .agg p.cells] w (IsPost w true) := by
  simp only [Pd.X] at h hq
  rw [d1, d2, d3, d4] at hq
  rw [hk.xm, hk.nm] at h hq
  exact same_any w q p D'.L D.L ml D.lk D.ws hs.symm hq h (hc.bes hk.fr (fun f hf => (hq.st.fr f hf).size)) hk.im (by have := hk.nm; have := hD.hm; omega)
theorem GoodP.link {p q : Pv} {D D' : Pd} {bM : Bool} {k : Int} (h : GoodP p D bM) (hs : SamePv p q) (hc : Cp D.L D'.L) (k1 : 1 ≤ k) (kp : k ≠ p.pid) (dw : D'.ws = D.ws)
    (dl : ((D.lk.any fun x => x == k) = true ∧ D'.lk = D.lk) ∨ ((D.lk.any fun x => x == k) = false ∧ D.lk.length < 64 ∧ D'.lk = putL D.lk k)) : GoodP q D' bM := by
  obtain ⟨g1, g2, g3, g4, g5, g6, g7, g8, g9, g10, g11⟩ := h
  obtain ⟨s1, s2, s3, s4, s5⟩ := hs
  rcases dl with ⟨h1, h2⟩ | ⟨h1, h2, h3⟩
  · exact ⟨by rw [s1]; exact g1, by rw [s2]; exact g2, by rw [h2]; exact g3, by rw [dw]; exact g4, by rw [hc.1]; exact g5, by rw [s3]; exact g6, by rw [h2]; exact g7, by rw [s1, h2]; exact g8, by rw [dw]; exact g9, by rw [dw]; exact g10, g11⟩
  · have hn : k ∉ D.lk := fun hm => by
      have : (D.lk.any fun x => x == k) = true := List.any_eq_true.2 ⟨k, hm, by simp⟩
      rw [h1] at this
      cases this
    refine ⟨by rw [s1]; exact g1, by rw [s2]; exact g2, by rw [h3, putL_length]; omega, by rw [dw]; exact g4, by rw [hc.1]; exact g5, by rw [s3]; exact g6, by rw [h3]; exact rises_putL _ 0 g7 (by omega) hn, ?_, by rw [dw]; exact g9, by rw [dw]; exact g10, g11⟩
    rw [s1, h3, mem_putL]
    rintro (e | e)
    · exact kp e.symm
    · exact g8 e
theorem GoodP.watch {p q : Pv} {D D' : Pd} {bM : Bool} {r k : Int} (h : GoodP p D bM) (hs : SamePv p q) (hc : Cp D.L D'.L) (r1 : 1 ≤ r) (k1 : 1 ≤ k) (no : (watchOf D.ws r).2 = false) (dl : D'.lk = D.lk) (hl : D.ws.length < 32) (dw : D'.ws = putLW D.ws (r, k)) : GoodP q D' bM := by
  obtain ⟨g1, g2, g3, g4, g5, g6, g7, g8, g9, g10, g11⟩ := h
  obtain ⟨s1, s2, s3, s4, s5⟩ := hs
  have hn := watchOf_none (l := D.ws) (r := r) (by rw [no]; simp)
  refine ⟨by rw [s1]; exact g1, by rw [s2]; exact g2, by rw [dl]; exact g3, by rw [dw, putLW_length]; omega, by rw [hc.1]; exact g5, by rw [s3]; exact g6, by rw [dl]; exact g7, by rw [s1, dl]; exact g8, ?_, ?_, g11⟩
  · rw [dw, fst_putLW]
    refine rises_putL _ 0 g9 (by show 0 < r; omega) fun hm => ?_
    obtain ⟨x, hx, e⟩ := List.mem_map.1 hm
    exact hn x hx e
  · rw [dw, any_putLW, g10]
    have : decide ((r, k).2 < 1) = false := decide_eq_false (by show ¬ k < 1; omega)
    rw [this]
    rfl
theorem GoodP.put {p q : Pv} {D D' : Pd} {b c : Bool} (h : GoodP p D b) (s1 : q.pid = p.pid) (s2 : q.par = p.par) (s3 : q.name = p.name) (hc : Cp D.L D'.L) (dl : D'.lk = D.lk) (dw : D'.ws = D.ws) (hb : c = false) : GoodP q D' c := by
  obtain ⟨g1, g2, g3, g4, g5, g6, g7, g8, g9, g10, g11⟩ := h
  exact ⟨by rw [s1]; exact g1, by rw [s2]; exact g2, by rw [dl]; exact g3, by rw [dw]; exact g4, by rw [hc.1]; exact g5, by rw [s3]; exact g6, by rw [dl]; exact g7, by rw [s1, dl]; exact g8, by rw [dw]; exact g9, by rw [dw]; exact g10, hb⟩
/-- what a round of region 5 reads -/
def HS5 (x : Nat) (c : Array Value) (y : Nat) (d : Array Value) (W : World) : Prop := W.heap[x]? = some (.cells c 27 (0, 0)) ∧ W.heap[y]? = some (.cells d 27 (0, 0))
theorem HS5.keep {x y : Nat} {c d : Array Value} {W W' : World} (h : HS5 x c y d W) (hb : Below W.heap.size W W') : HS5 x c y d W' := ⟨keep_heap h.1 hb, keep_heap h.2 hb⟩
abbrev fr3L : Array Value := #[.int .i8 3, zI, zI, nS, nS, nS, nS, zI, z8, zI, zI, zI, zI, z8, zI, zS, zS, nS, z8, zI, zS, zS, nS, z8, zI, zS, zS, nS, nS, z8, zI, zI, nS, nS, nS]
set_option maxHeartbeats 4000000 in
theorem check15_any (w : World) : Calls Tryz.prog 16 #[.agg #[nS, nS, nS], .agg fr3L] w (IntPost w 0) := by
  have hb1 := ((Below.refl w.heap.size w).alloc (Nat.le_refl _) (.cells #[nS, nS, nS] 55)).alloc (by simp) (.cells fr3L 65)
  have n2 := heap_new (w.alloc (.cells #[nS, nS, nS] 55)) (.cells fr3L 65)
  rw [World.size_alloc] at n2
  obtain ⟨y0, -⟩ := cells_at n2 0 _ rfl
  have HB := Lib.hid hb1
  clear hb1 n2
  go_enter Tryz.func16, Tryz.ntmps16
  go_wp2_with fail
  go_ret
  exact ⟨rfl, HB.out⟩
set_option maxHeartbeats 32000000 in
theorem back_law (W : World) (p : Pv) (D : Pd) (ml : List Im) (k r : Int) (x : Im) (h : PrX W p D.X) (hk : PdOk W D ml) (hns : p.name.size ≤ 9223372036854775807) (hx : ImOk W x) (hl : Cells W 0 letL) : Calls Tryz.prog 3 #[.agg p.cells, .int .i64 k, .int .i64 r, .agg #[.int .i8 x.k, .int .i64 x.n, .string x.s, .string x.u, .slice x.ao x.ln x.lc, .bool x.ours]] W (IsPost W true) := by
  obtain ⟨bad, hbad⟩ := bad_ex W
  have hb1 := ((Below.refl W.heap.size W).alloc (Nat.le_refl _) (.cells p.cells 27)).alloc (by simp) (.cells #[.int .i8 x.k, .int .i64 x.n, .string x.s, .string x.u, .slice x.ao x.ln x.lc, .bool x.ours] 33)
  have n1 := heap_old (heap_new W (.cells p.cells 27)) (.cells #[.int .i8 x.k, .int .i64 x.n, .string x.s, .string x.u, .slice x.ao x.ln x.lc, .bool x.ours] 33)
  have n2 := heap_new (W.alloc (.cells p.cells 27)) (.cells #[.int .i8 x.k, .int .i64 x.n, .string x.s, .string x.u, .slice x.ao x.ln x.lc, .bool x.ours] 33)
  rw [World.size_alloc] at n2
  have HB1 := Lib.hid hb1
  have HX := Lib.hid n1
  have HY := Lib.hid n2
  have HP := Lib.hid (show ∀ w, Below W.heap.size W w → PrX w p D.X from fun w hw => h.keep hw)
  have HK := Lib.hid (show ∀ w, Below W.heap.size W w → PdOk w D ml from fun w hw => hk.keep hw)
  have HI := Lib.hid hx
  have HN := Lib.hid (And.intro hns hl)
  have HBAD := Lib.hid hbad
  clear hb1 n1 n2 h hx hns hl hbad
  have HIM := Lib.hid hk.im
  clear hk
  go_enter Tryz.func3, Tryz.ntmps3
  go_wp2_with (with_reducible refine stop_op (o := ⟨_, .load 27 (.tmp 4), _, _, _, _⟩) ?_)
  generalize (W.alloc (.cells p.cells 27)).alloc (.cells #[.int .i8 x.k, .int .i64 x.n, .string x.s, .string x.u, .slice x.ao x.ln x.lc, .bool x.ours] 33) = w1 at *
  refine Lib.hid ?_
  refine wpList_load_row (o := ⟨_, _, _, _, _, _⟩) rfl 27 (.tmp 4) rfl W.heap.size rfl 27 p.cells (0, 0) _ HX.out Tryz.underlying27 rfl (infoPT rfl) ?_
  go_wp2_with fail
  refine (great19_any w1 p D ml (HP.out _ HB1.out) (HK.out _ HB1.out)).mono ?_
  rintro e w2 ⟨bb, rfl, hb2, hok⟩
  have HB2 := Lib.hid (HB1.out.trans (hb2.mono HB1.out.size))
  have HX2 := Lib.hid (keep_heap HX.out hb2)
  have HY2 := Lib.hid (keep_heap HY.out hb2)
  clear hb2 HX HY
  cases bb
  rotate_left
  · go_wp2_with fail
    refine (wakes_any _).mono ?_
    rintro e wz ⟨rfl, hbz⟩
    have HZ := Lib.hid (HB2.out.trans (hbz.mono HB2.out.size))
    clear hbz
    go_wp2_with fail
    go_ret
    exact ⟨rfl, HZ.out⟩
  have HD := Lib.hid (hok rfl).1
  have H100 := Lib.hid (hok rfl).2
  clear hok
  obtain ⟨y0, -⟩ := cells_at HY2.out 0 _ rfl
  obtain ⟨y1, -⟩ := cells_at HY2.out 1 _ rfl
  obtain ⟨y2, -⟩ := cells_at HY2.out 2 _ rfl
  obtain ⟨y3, -⟩ := cells_at HY2.out 3 _ rfl
  obtain ⟨y4, -⟩ := cells_at HY2.out 4 _ rfl
  obtain ⟨f, t, ht, hbx⟩ := HBAD.out x HI.out
  have HG := Lib.hid (rcheck_any f t _ w2 (ht.keep HB2.out))
  have HBX := Lib.hid hbx
  clear ht hbx
  go_wp2_with fail
  refine HG.out.mono ?_
  rintro e w3 ⟨rfl, hb3⟩
  have HB3 := Lib.hid (HB2.out.trans (hb3.mono HB2.out.size))
  have HX3 := Lib.hid (keep_heap HX2.out hb3)
  have HY3 := Lib.hid (keep_heap HY2.out hb3)
  rw [check_eq]
  clear hb3 HX2 HY2 HG y0 y1 y2 y3 y4
  generalize checkN t = cn at *
  by_cases hcn : cn = 0
  rotate_left
  · have hd : (cn != 0) = true := by simpa using hcn
    go_wp2_with fail
    refine (wakes_any _).mono ?_
    rintro e wz ⟨rfl, hbz⟩
    have HZ := Lib.hid (HB3.out.trans (hbz.mono HB3.out.size))
    clear hbz
    go_wp2_with fail
    go_ret
    exact ⟨rfl, HZ.out⟩
  have HBX2 := Lib.hid (show bad x = false by rw [HBX.out, hcn]; rfl)
  clear HBX
  subst hcn
  go_wp2_with (with_reducible refine stop_op (o := ⟨_, .load 27 (.tmp 4), _, _, _, _⟩) ?_)
  refine Lib.hid ?_
  refine wpList_wanted rfl fun K hK => wp_load_row 27 (.tmp 4) rfl (W.heap.size) rfl 27 (p.cells) (0, 0) _ (HX3.out) Tryz.underlying27 rfl (infoPT (rfl)) (hK _ _ ?_)
  go_wp2_with fail
  refine (checkfull_any W w3 bad HBAD.out p D ml (HP.out _ HB3.out) HD.out (HK.out _ HB3.out).xm (HK.out _ HB3.out).nm HIM.out HN.out.1 HN.out.2 HB3.out).mono ?_
  rintro e w4 hch
  obtain ⟨hb4, hch⟩ := hch.tell
  have HB4 := Lib.hid (HB3.out.trans (hb4.mono HB3.out.size))
  have HX4 := Lib.hid (keep_heap HX3.out hb4)
  have HY4 := Lib.hid (keep_heap HY3.out hb4)
  clear hb4 HX3 HY3
  rcases hch with rfl | ⟨rfl, hgood⟩
  · go_wp2_with fail
    refine (wakes_any _).mono ?_
    rintro e wz ⟨rfl, hbz⟩
    have HZ := Lib.hid (HB4.out.trans (hbz.mono HB4.out.size))
    clear hbz
    go_wp2_with fail
    go_ret
    exact ⟨rfl, HZ.out⟩
  have HGP := Lib.hid hgood
  clear hgood
  go_wp2_with (with_reducible refine stop_op (o := ⟨_, .load 27 (.tmp 4), _, _, _, _⟩) ?_)
  refine Lib.hid ?_
  refine wpList_load_row (o := ⟨_, _, _, _, _, _⟩) rfl 27 (.tmp 4) rfl (W.heap.size) rfl 27 (p.cells) (0, 0) _ (HX4.out) Tryz.underlying27 rfl (infoPT (rfl)) ?_
  go_wp2_with fail
  refine (linked_any w4 p D.lk k (HP.out _ HB4.out).lk HD.out.hl).mono ?_
  rintro e w5 ⟨rfl, hb5⟩
  obtain ⟨was, hwas⟩ : ∃ b, (D.lk.any fun x => x == k) = b := ⟨_, rfl⟩
  rw [hwas]
  have HWAS := Lib.hid hwas
  clear hwas
  have HB5 := Lib.hid (HB4.out.trans (hb5.mono HB4.out.size))
  have HX5 := Lib.hid (keep_heap HX4.out hb5)
  have HY5 := Lib.hid (keep_heap HY4.out hb5)
  clear hb5 HX4 HY4
  go_wp2_with (with_reducible refine stop_op (o := ⟨_, .load 27 (.tmp 4), _, _, _, _⟩) ?_)
  refine Lib.hid ?_
  refine wpList_load_row (o := ⟨_, _, _, _, _, _⟩) rfl 27 (.tmp 4) rfl (W.heap.size) rfl 27 (p.cells) (0, 0) _ (HX5.out) Tryz.underlying27 rfl (infoPT (rfl)) ?_
  go_wp2_with fail
  refine (link_any w5 p D k (HP.out _ HB5.out) HD.out).mono ?_
  rintro e w6 hlp
  obtain ⟨qc, ev, rfl, hqs, hq1, hb6, hev⟩ := hlp.q
  have HLK := Lib.hid hev
  have HQS := Lib.hid (And.intro hqs hq1)
  have HB6 := Lib.hid (HB5.out.trans (hb6.mono HB5.out.size))
  have HX6 := Lib.hid (keep_heap HX5.out hb6)
  have HY6 := Lib.hid (keep_heap HY5.out hb6)
  clear hb6 HX5 HY5 hlp hev hqs hq1
  go_wp2_with (with_reducible refine stop_op (o := ⟨_, .store 27 (.tmp 10) (.tmp 43), _, _, _, _⟩) ?_)
  refine Lib.hid ?_
  refine wpList_store_new (o := ⟨none, _, _, _, _, _⟩) rfl 27 (.tmp 10) (.tmp 43) rfl qc rfl rfl (infoPT HQS.out.1) (by rw [HQS.out.1]; rfl) HQS.out.2 ?_
  have hb7 := (Below.refl w6.heap.size w6).alloc (Nat.le_refl _) (.cells qc 27)
  have HQ7 := Lib.hid (heap_new w6 (.cells qc 27))
  have HB67 := Lib.hid hb7
  have HB7 := Lib.hid (HB6.out.trans (hb7.mono HB6.out.size))
  have HX7 := Lib.hid (keep_heap HX6.out hb7)
  have HY7 := Lib.hid (keep_heap HY6.out hb7)
  clear hb7 HX6 HY6
  generalize w6.alloc (.cells qc 27) = w7 at *
  go_wp2_with fail
  have hd8 := (Below.refl w7.heap.size w7).drew
  have hS : HS5 w6.heap.size qc W.heap.size p.cells w7.drew := ⟨keep_heap HQ7.out hd8, keep_heap HX7.out hd8⟩
  have HB68 := Lib.hid (HB67.out.trans (hd8.mono HB67.out.size))
  have HB8 := Lib.hid (HB7.out.trans (hd8.mono HB7.out.size))
  have HX8 := Lib.hid (keep_heap HX7.out hd8)
  have HY8 := Lib.hid (keep_heap HY7.out hd8)
  clear HX7 HY7 HB7 HQ7 HB67 hd8
  refine region_post (R5 w7.drew) ?_ ?_
  · by_cases hev : ev = 0
    · subst hev
      obtain ⟨hk1, hkp, q, D', rfl, hsm, hpr, d1, d2, d3, d4⟩ := HLK.out rfl
      have hpq : PrX w7.drew q D'.X := hpr.pr.keep HB68.out
      have hgq : GoodP q D' (ml.any bad) := HGP.out.link hsm hpr.cp hk1 hkp d3 d4
      have hdq : D'.ok := HD.out.of hpr.cp (by rw [d1]; exact HD.out.hm) (by have := HGP.out.lk; rcases d4 with ⟨-, h⟩ | ⟨-, h2, h⟩; rw [h]; omega; rw [h, putL_length]; omega) (by rw [d3]; exact HD.out.hw)
      have hnq : q.name.size ≤ 9223372036854775807 := by rw [hsm.2.2.1]; exact HN.out.1
      have HQ := Lib.hid (And.intro hpq (And.intro hgq (And.intro hdq (And.intro hsm (And.intro hpr.cp hnq)))))
      have HDD := Lib.hid (And.intro d1 (And.intro d2 (And.intro d3 d4)))
      have HBL := Lib.hid (And.intro HB8.out (Below.refl w7.drew.heap.size w7.drew))
      clear hpq hgq hdq hnq hsm hpr d1 d2 d3 d4 hk1 hkp HLK HQS
      cases was
      · have hput : D'.lk = putL D.lk k ∧ k ∉ D.lk := by
          rcases HDD.out.2.2.2 with ⟨h, -⟩ | ⟨h1, h2, h3⟩
          · rw [HWAS.out] at h; cases h
          · exact ⟨h3, fun hm => by have := (List.any_eq_true (p := fun x => x == k)).2 ⟨k, hm, by simp⟩; rw [h1] at this; cases this⟩
        have HPUT := Lib.hid hput
        clear hput
        refine region_plan (HS5 w6.heap.size q.cells W.heap.size p.cells) [(0, 0), (1, 0), (2, 0), (3, 0), (4, 1), (5, 0), (6, 0), (7, 0), (8, 0), (9, 1), (10, 0), (11, 0), (12, 0), (13, 0), (14, 0), (15, 0), (16, 0), (17, 0), (19, 0), (18, 1), (20, 1), (21, 0), (22, 0), (23, 0), (24, 0), (25, 0), (26, 0), (27, 0), (28, 0), (29, 1), (30, 0), (31, 0), (32, 0), (33, 0)] (by kernel_rfl) (by kernel_rfl) (by kernel_rfl) hS ?_
        generalize w7.drew = w8 at *
        iterate 3 (first | (refine plan_skip rfl ?_ ?_; (focus (rfl)); (try simp only [Act.put, List.setIfInBounds_toArray, List.set_cons_zero, List.set_cons_succ])) | (refine plan_take (v := ?_) rfl ?_ (fun w hSw => ?_) ?_; rotate_left; (focus (rfl)); (focus (unfold HS5 at hSw; (go_simp <;> with_reducible rfl))); (try simp only [Act.put, List.setIfInBounds_toArray, List.set_cons_zero, List.set_cons_succ])))
        refine plan_take rfl ?_ (fun wS hSw => exec_load_row 27 (.tmp 10) rfl w6.heap.size rfl q.cells 27 (0, 0) _ hSw.1 Tryz.underlying27 rfl (infoPT rfl)) ?_
        focus (rfl)
        (try simp only [Act.put, List.setIfInBounds_toArray, List.set_cons_zero, List.set_cons_succ])
        refine plan_run rfl ?_ (fun K hK => ?_)
        focus (rfl)
        go_simp
        refine (checkfull_any W w8 bad HBAD.out q D' ml HQ.out.1 HQ.out.2.2.1 (HDD.out.2.1.trans (HK.out _ HBL.out.1).xm) (HDD.out.1.trans (HK.out _ HBL.out.1).nm) HIM.out HQ.out.2.2.2.2.2 HN.out.2 HBL.out.1).mono ?_
        rintro e w9 hch
        obtain ⟨rfl, hb9⟩ := hch.good HQ.out.2.1
        have hS4 := hS.keep hb9
        have HB9 := Lib.hid (And.intro (HBL.out.1.trans (hb9.mono HBL.out.1.size)) (HBL.out.2.trans (hb9.mono HBL.out.2.size)))
        refine hK.out _ _ hS4 ?_
        clear hK K 
        (try simp only [Act.put, List.setIfInBounds_toArray, List.set_cons_zero, List.set_cons_succ])
        clear hS hb9 hch
        iterate 2 (first | (refine plan_skip rfl ?_ ?_; (focus (rfl)); (try simp only [Act.put, List.setIfInBounds_toArray, List.set_cons_zero, List.set_cons_succ])) | (refine plan_take (v := ?_) rfl ?_ (fun w hSw => ?_) ?_; rotate_left; (focus (rfl)); (focus (unfold HS5 at hSw; (go_simp <;> with_reducible rfl))); (try simp only [Act.put, List.setIfInBounds_toArray, List.set_cons_zero, List.set_cons_succ])))
        refine plan_take rfl ?_ (fun wS hSw => exec_load_row 27 (.tmp 10) rfl w6.heap.size rfl q.cells 27 (0, 0) _ hSw.1 Tryz.underlying27 rfl (infoPT rfl)) ?_
        focus (rfl)
        (try simp only [Act.put, List.setIfInBounds_toArray, List.set_cons_zero, List.set_cons_succ])
        iterate 1 (first | (refine plan_skip rfl ?_ ?_; (focus (rfl)); (try simp only [Act.put, List.setIfInBounds_toArray, List.set_cons_zero, List.set_cons_succ])) | (refine plan_take (v := ?_) rfl ?_ (fun w hSw => ?_) ?_; rotate_left; (focus (rfl)); (focus (unfold HS5 at hSw; (go_simp <;> with_reducible rfl))); (try simp only [Act.put, List.setIfInBounds_toArray, List.set_cons_zero, List.set_cons_succ])))
        refine plan_run rfl ?_ (fun K hK => ?_)
        focus (rfl)
        go_simp
        refine (linked_any w9 q D'.lk k (HQ.out.1.keep HB9.out.2).lk HQ.out.2.2.1.hl).mono ?_
        rintro e w10 ⟨rfl, hb10⟩
        have hS9 := hS4.keep hb10
        have HB10 := Lib.hid (And.intro (HB9.out.1.trans (hb10.mono HB9.out.1.size)) (HB9.out.2.trans (hb10.mono HB9.out.2.size)))
        refine hK.out _ _ hS9 ?_
        clear hK K 
        (try simp only [Act.put, List.setIfInBounds_toArray, List.set_cons_zero, List.set_cons_succ])
        clear hS4 hb10
        have hany : (D'.lk.any fun x => x == k) = true := by
          rcases HDD.out.2.2.2 with ⟨h, e⟩ | ⟨-, -, e⟩
          · rw [e]; exact h
          · rw [e]; exact any_putL _ _
        rw [hany]
        clear hany
        iterate 6 (first | (refine plan_skip rfl ?_ ?_; (focus (rfl)); (try simp only [Act.put, List.setIfInBounds_toArray, List.set_cons_zero, List.set_cons_succ])) | (refine plan_take (v := ?_) rfl ?_ (fun w hSw => ?_) ?_; rotate_left; (focus (rfl)); (focus (unfold HS5 at hSw; (go_simp <;> with_reducible rfl))); (try simp only [Act.put, List.setIfInBounds_toArray, List.set_cons_zero, List.set_cons_succ])))
        refine plan_take rfl ?_ (fun wS hSw => exec_load_row 27 (.tmp 10) rfl w6.heap.size rfl q.cells 27 (0, 0) _ hSw.1 Tryz.underlying27 rfl (infoPT rfl)) ?_
        focus (rfl)
        (try simp only [Act.put, List.setIfInBounds_toArray, List.set_cons_zero, List.set_cons_succ])
        iterate 1 (first | (refine plan_skip rfl ?_ ?_; (focus (rfl)); (try simp only [Act.put, List.setIfInBounds_toArray, List.set_cons_zero, List.set_cons_succ])) | (refine plan_take (v := ?_) rfl ?_ (fun w hSw => ?_) ?_; rotate_left; (focus (rfl)); (focus (unfold HS5 at hSw; (go_simp <;> with_reducible rfl))); (try simp only [Act.put, List.setIfInBounds_toArray, List.set_cons_zero, List.set_cons_succ])))
        refine plan_take rfl ?_ (fun wS hSw => exec_load_row 27 (.tmp 4) rfl W.heap.size rfl p.cells 27 (0, 0) _ hSw.2 Tryz.underlying27 rfl (infoPT rfl)) ?_
        focus (rfl)
        (try simp only [Act.put, List.setIfInBounds_toArray, List.set_cons_zero, List.set_cons_succ])
        refine plan_run rfl ?_ (fun K hK => ?_)
        focus (rfl)
        go_simp
        refine (cut_any w10 q D' k (HQ.out.1.keep HB10.out.2) HQ.out.2.2.1).mono ?_
        rintro e w11 ⟨q2, D2, rfl, c1, c2, c3, c4, c5, c6⟩
        have hS18 := hS9.keep c2.hb
        have HB11 := Lib.hid (And.intro (HB10.out.1.trans (c2.hb.mono HB10.out.1.size)) (HB10.out.2.trans (c2.hb.mono HB10.out.2.size)))
        refine hK.out _ _ hS18 ?_
        clear hK K 
        (try simp only [Act.put, List.setIfInBounds_toArray, List.set_cons_zero, List.set_cons_succ])
        have HS := Lib.hid (same_back w11 p q2 D D2 ml (HP.out _ HB11.out.1) (HK.out _ HB11.out.1) HD.out c2.pr (HQ.out.2.2.2.2.1.trans c2.cp) (HQ.out.2.2.2.1.trans c1) (c3.trans HDD.out.1) (c4.trans HDD.out.2.1) (by rw [c5, HPUT.out.1]; exact filter_putL _ HPUT.out.2) (c6.trans HDD.out.2.2.1))
        clear hS9 c1 c2 c3 c4 c5 c6
        refine plan_run rfl ?_ (fun K hK => ?_)
        focus (rfl)
        go_simp
        refine (HS.out).mono ?_
        rintro e w12 ⟨rfl, hb12⟩
        have hS20 := hS18.keep hb12
        have HB12 := Lib.hid (And.intro (HB11.out.1.trans (hb12.mono HB11.out.1.size)) (HB11.out.2.trans (hb12.mono HB11.out.2.size)))
        refine hK.out _ _ hS20 ?_
        clear hK K 
        (try simp only [Act.put, List.setIfInBounds_toArray, List.set_cons_zero, List.set_cons_succ])
        clear hS18 hb12 HS
        iterate 8 (first | (refine plan_skip rfl ?_ ?_; (focus (rfl)); (try simp only [Act.put, List.setIfInBounds_toArray, List.set_cons_zero, List.set_cons_succ])) | (refine plan_take (v := ?_) rfl ?_ (fun w hSw => ?_) ?_; rotate_left; (focus (rfl)); (focus (unfold HS5 at hSw; (go_simp <;> with_reducible rfl))); (try simp only [Act.put, List.setIfInBounds_toArray, List.set_cons_zero, List.set_cons_succ])))
        (refine plan_run_skip rfl ?_ hS20 ?_; (focus (rfl)); (try simp only [Act.put, List.setIfInBounds_toArray, List.set_cons_zero, List.set_cons_succ]))
        iterate 4 (first | (refine plan_skip rfl ?_ ?_; (focus (rfl)); (try simp only [Act.put, List.setIfInBounds_toArray, List.set_cons_zero, List.set_cons_succ])) | (refine plan_take (v := ?_) rfl ?_ (fun w hSw => ?_) ?_; rotate_left; (focus (rfl)); (focus (unfold HS5 at hSw; (go_simp <;> with_reducible rfl))); (try simp only [Act.put, List.setIfInBounds_toArray, List.set_cons_zero, List.set_cons_succ])))
        refine plan_done ?_
        unfold R5
        (repeat apply Exists.intro)
        refine ⟨?_, HB12.out.2⟩
        simp only [puts5, Act.put, List.setIfInBounds_toArray, List.set_cons_zero, List.set_cons_succ]
        rfl
      · have hput : D'.lk = D.lk := by
          rcases HDD.out.2.2.2 with ⟨-, h⟩ | ⟨h1, h2, h3⟩
          · exact h
          · rw [HWAS.out] at h1; cases h1
        have HPUT := Lib.hid hput
        clear hput
        refine region_plan (HS5 w6.heap.size q.cells W.heap.size p.cells) [(0, 0), (1, 0), (2, 0), (3, 0), (4, 1), (5, 0), (6, 0), (7, 0), (8, 0), (9, 1), (10, 0), (11, 0), (12, 0), (13, 0), (14, 0), (15, 0), (16, 0), (17, 0), (19, 0), (18, 1), (20, 1), (21, 0), (22, 0), (23, 0), (24, 0), (25, 0), (26, 0), (27, 0), (28, 0), (29, 1), (30, 0), (31, 0), (32, 0), (33, 0)] (by kernel_rfl) (by kernel_rfl) (by kernel_rfl) hS ?_
        generalize w7.drew = w8 at *
        iterate 3 (first | (refine plan_skip rfl ?_ ?_; (focus (rfl)); (try simp only [Act.put, List.setIfInBounds_toArray, List.set_cons_zero, List.set_cons_succ])) | (refine plan_take (v := ?_) rfl ?_ (fun w hSw => ?_) ?_; rotate_left; (focus (rfl)); (focus (unfold HS5 at hSw; (go_simp <;> with_reducible rfl))); (try simp only [Act.put, List.setIfInBounds_toArray, List.set_cons_zero, List.set_cons_succ])))
        refine plan_take rfl ?_ (fun wS hSw => exec_load_row 27 (.tmp 10) rfl w6.heap.size rfl q.cells 27 (0, 0) _ hSw.1 Tryz.underlying27 rfl (infoPT rfl)) ?_
        focus (rfl)
        (try simp only [Act.put, List.setIfInBounds_toArray, List.set_cons_zero, List.set_cons_succ])
        refine plan_run rfl ?_ (fun K hK => ?_)
        focus (rfl)
        go_simp
        refine (checkfull_any W w8 bad HBAD.out q D' ml HQ.out.1 HQ.out.2.2.1 (HDD.out.2.1.trans (HK.out _ HBL.out.1).xm) (HDD.out.1.trans (HK.out _ HBL.out.1).nm) HIM.out HQ.out.2.2.2.2.2 HN.out.2 HBL.out.1).mono ?_
        rintro e w9 hch
        obtain ⟨rfl, hb9⟩ := hch.good HQ.out.2.1
        have hS4 := hS.keep hb9
        have HB9 := Lib.hid (And.intro (HBL.out.1.trans (hb9.mono HBL.out.1.size)) (HBL.out.2.trans (hb9.mono HBL.out.2.size)))
        refine hK.out _ _ hS4 ?_
        clear hK K 
        (try simp only [Act.put, List.setIfInBounds_toArray, List.set_cons_zero, List.set_cons_succ])
        clear hS hb9 hch
        iterate 2 (first | (refine plan_skip rfl ?_ ?_; (focus (rfl)); (try simp only [Act.put, List.setIfInBounds_toArray, List.set_cons_zero, List.set_cons_succ])) | (refine plan_take (v := ?_) rfl ?_ (fun w hSw => ?_) ?_; rotate_left; (focus (rfl)); (focus (unfold HS5 at hSw; (go_simp <;> with_reducible rfl))); (try simp only [Act.put, List.setIfInBounds_toArray, List.set_cons_zero, List.set_cons_succ])))
        refine plan_take rfl ?_ (fun wS hSw => exec_load_row 27 (.tmp 10) rfl w6.heap.size rfl q.cells 27 (0, 0) _ hSw.1 Tryz.underlying27 rfl (infoPT rfl)) ?_
        focus (rfl)
        (try simp only [Act.put, List.setIfInBounds_toArray, List.set_cons_zero, List.set_cons_succ])
        iterate 1 (first | (refine plan_skip rfl ?_ ?_; (focus (rfl)); (try simp only [Act.put, List.setIfInBounds_toArray, List.set_cons_zero, List.set_cons_succ])) | (refine plan_take (v := ?_) rfl ?_ (fun w hSw => ?_) ?_; rotate_left; (focus (rfl)); (focus (unfold HS5 at hSw; (go_simp <;> with_reducible rfl))); (try simp only [Act.put, List.setIfInBounds_toArray, List.set_cons_zero, List.set_cons_succ])))
        refine plan_run rfl ?_ (fun K hK => ?_)
        focus (rfl)
        go_simp
        refine (linked_any w9 q D'.lk k (HQ.out.1.keep HB9.out.2).lk HQ.out.2.2.1.hl).mono ?_
        rintro e w10 ⟨rfl, hb10⟩
        have hS9 := hS4.keep hb10
        have HB10 := Lib.hid (And.intro (HB9.out.1.trans (hb10.mono HB9.out.1.size)) (HB9.out.2.trans (hb10.mono HB9.out.2.size)))
        refine hK.out _ _ hS9 ?_
        clear hK K 
        (try simp only [Act.put, List.setIfInBounds_toArray, List.set_cons_zero, List.set_cons_succ])
        clear hS4 hb10
        have hany : (D'.lk.any fun x => x == k) = true := by
          rcases HDD.out.2.2.2 with ⟨h, e⟩ | ⟨-, -, e⟩
          · rw [e]; exact h
          · rw [e]; exact any_putL _ _
        rw [hany]
        clear hany
        iterate 9 (first | (refine plan_skip rfl ?_ ?_; (focus (rfl)); (try simp only [Act.put, List.setIfInBounds_toArray, List.set_cons_zero, List.set_cons_succ])) | (refine plan_take (v := ?_) rfl ?_ (fun w hSw => ?_) ?_; rotate_left; (focus (rfl)); (focus (unfold HS5 at hSw; (go_simp <;> with_reducible rfl))); (try simp only [Act.put, List.setIfInBounds_toArray, List.set_cons_zero, List.set_cons_succ])))
        (refine plan_run_skip rfl ?_ hS9 ?_; (focus (rfl)); (try simp only [Act.put, List.setIfInBounds_toArray, List.set_cons_zero, List.set_cons_succ]))
        (refine plan_run_skip rfl ?_ hS9 ?_; (focus (rfl)); (try simp only [Act.put, List.setIfInBounds_toArray, List.set_cons_zero, List.set_cons_succ]))
        iterate 6 (first | (refine plan_skip rfl ?_ ?_; (focus (rfl)); (try simp only [Act.put, List.setIfInBounds_toArray, List.set_cons_zero, List.set_cons_succ])) | (refine plan_take (v := ?_) rfl ?_ (fun w hSw => ?_) ?_; rotate_left; (focus (rfl)); (focus (unfold HS5 at hSw; (go_simp <;> with_reducible rfl))); (try simp only [Act.put, List.setIfInBounds_toArray, List.set_cons_zero, List.set_cons_succ])))
        refine plan_take rfl ?_ (fun wS hSw => exec_load_row 27 (.tmp 10) rfl w6.heap.size rfl q.cells 27 (0, 0) _ hSw.1 Tryz.underlying27 rfl (infoPT rfl)) ?_
        focus (rfl)
        (try simp only [Act.put, List.setIfInBounds_toArray, List.set_cons_zero, List.set_cons_succ])
        refine plan_take rfl ?_ (fun wS hSw => exec_load_row 27 (.tmp 4) rfl W.heap.size rfl p.cells 27 (0, 0) _ hSw.2 Tryz.underlying27 rfl (infoPT rfl)) ?_
        focus (rfl)
        (try simp only [Act.put, List.setIfInBounds_toArray, List.set_cons_zero, List.set_cons_succ])
        have HS := Lib.hid (same_back w10 p q D D' ml (HP.out _ HB10.out.1) (HK.out _ HB10.out.1) HD.out (HQ.out.1.keep HB10.out.2) HQ.out.2.2.2.2.1 HQ.out.2.2.2.1 HDD.out.1 HDD.out.2.1 HPUT.out HDD.out.2.2.1)
        refine plan_run rfl ?_ (fun K hK => ?_)
        focus (rfl)
        go_simp
        refine (HS.out).mono ?_
        rintro e w12 ⟨rfl, hb12⟩
        have hS29 := hS9.keep hb12
        have HB12 := Lib.hid (And.intro (HB10.out.1.trans (hb12.mono HB10.out.1.size)) (HB10.out.2.trans (hb12.mono HB10.out.2.size)))
        refine hK.out _ _ hS29 ?_
        clear hK K 
        (try simp only [Act.put, List.setIfInBounds_toArray, List.set_cons_zero, List.set_cons_succ])
        clear hS9 hb12 HS
        iterate 4 (first | (refine plan_skip rfl ?_ ?_; (focus (rfl)); (try simp only [Act.put, List.setIfInBounds_toArray, List.set_cons_zero, List.set_cons_succ])) | (refine plan_take (v := ?_) rfl ?_ (fun w hSw => ?_) ?_; rotate_left; (focus (rfl)); (focus (unfold HS5 at hSw; (go_simp <;> with_reducible rfl))); (try simp only [Act.put, List.setIfInBounds_toArray, List.set_cons_zero, List.set_cons_succ])))
        refine plan_done ?_
        unfold R5
        (repeat apply Exists.intro)
        refine ⟨?_, HB12.out.2⟩
        simp only [puts5, Act.put, List.setIfInBounds_toArray, List.set_cons_zero, List.set_cons_succ]
        rfl
    · have hd : (ev == 0) = false := by simpa using hev
      refine region_plan (HS5 w6.heap.size qc W.heap.size p.cells) [(0, 0), (1, 0), (2, 0), (3, 0), (4, 1), (5, 0), (6, 0), (7, 0), (8, 0), (9, 1), (10, 0), (11, 0), (12, 0), (13, 0), (14, 0), (15, 0), (16, 0), (17, 0), (19, 0), (18, 1), (20, 1), (21, 0), (22, 0), (23, 0), (24, 0), (25, 0), (26, 0), (27, 0), (28, 0), (29, 1), (30, 0), (31, 0), (32, 0), (33, 0)] (by kernel_rfl) (by kernel_rfl) (by kernel_rfl) hS ?_
      generalize w7.drew = w8 at *
      iterate 4 (first | (refine plan_skip rfl ?_ ?_; (focus (rfl)); (try simp only [Act.put, List.setIfInBounds_toArray, List.set_cons_zero, List.set_cons_succ])) | (refine plan_take (v := ?_) rfl ?_ (fun w hSw => ?_) ?_; rotate_left; (focus (rfl)); (focus (unfold HS5 at hSw; (go_simp <;> with_reducible rfl))); (try simp only [Act.put, List.setIfInBounds_toArray, List.set_cons_zero, List.set_cons_succ])))
      (refine plan_run_skip rfl ?_ hS ?_; (focus (rfl)); (try simp only [Act.put, List.setIfInBounds_toArray, List.set_cons_zero, List.set_cons_succ]))
      iterate 4 (first | (refine plan_skip rfl ?_ ?_; (focus (rfl)); (try simp only [Act.put, List.setIfInBounds_toArray, List.set_cons_zero, List.set_cons_succ])) | (refine plan_take (v := ?_) rfl ?_ (fun w hSw => ?_) ?_; rotate_left; (focus (rfl)); (focus (unfold HS5 at hSw; (go_simp <;> with_reducible rfl))); (try simp only [Act.put, List.setIfInBounds_toArray, List.set_cons_zero, List.set_cons_succ])))
      (refine plan_run_skip rfl ?_ hS ?_; (focus (rfl)); (try simp only [Act.put, List.setIfInBounds_toArray, List.set_cons_zero, List.set_cons_succ]))
      iterate 9 (first | (refine plan_skip rfl ?_ ?_; (focus (rfl)); (try simp only [Act.put, List.setIfInBounds_toArray, List.set_cons_zero, List.set_cons_succ])) | (refine plan_take (v := ?_) rfl ?_ (fun w hSw => ?_) ?_; rotate_left; (focus (rfl)); (focus (unfold HS5 at hSw; (go_simp <;> with_reducible rfl))); (try simp only [Act.put, List.setIfInBounds_toArray, List.set_cons_zero, List.set_cons_succ])))
      (refine plan_run_skip rfl ?_ hS ?_; (focus (rfl)); (try simp only [Act.put, List.setIfInBounds_toArray, List.set_cons_zero, List.set_cons_succ]))
      (refine plan_run_skip rfl ?_ hS ?_; (focus (rfl)); (try simp only [Act.put, List.setIfInBounds_toArray, List.set_cons_zero, List.set_cons_succ]))
      iterate 8 (first | (refine plan_skip rfl ?_ ?_; (focus (rfl)); (try simp only [Act.put, List.setIfInBounds_toArray, List.set_cons_zero, List.set_cons_succ])) | (refine plan_take (v := ?_) rfl ?_ (fun w hSw => ?_) ?_; rotate_left; (focus (rfl)); (focus (unfold HS5 at hSw; (go_simp <;> with_reducible rfl))); (try simp only [Act.put, List.setIfInBounds_toArray, List.set_cons_zero, List.set_cons_succ])))
      (refine plan_run_skip rfl ?_ hS ?_; (focus (rfl)); (try simp only [Act.put, List.setIfInBounds_toArray, List.set_cons_zero, List.set_cons_succ]))
      iterate 4 (first | (refine plan_skip rfl ?_ ?_; (focus (rfl)); (try simp only [Act.put, List.setIfInBounds_toArray, List.set_cons_zero, List.set_cons_succ])) | (refine plan_take (v := ?_) rfl ?_ (fun w hSw => ?_) ?_; rotate_left; (focus (rfl)); (focus (unfold HS5 at hSw; (go_simp <;> with_reducible rfl))); (try simp only [Act.put, List.setIfInBounds_toArray, List.set_cons_zero, List.set_cons_succ])))
      refine plan_done ?_
      unfold R5
      (repeat apply Exists.intro)
      refine ⟨?_, Below.refl _ _⟩
      simp only [puts5, Act.put, List.setIfInBounds_toArray, List.set_cons_zero, List.set_cons_succ]
      rfl
  · rintro a' w9 ⟨x45, x46, x47, x48, x49, x50, x51, x52, x53, x54, x55, x56, x57, x58, x59, x60, x61, x62, x63, x64, x65, x66, x67, x68, x69, x70, x71, x72, x73, x74, x75, x76, x77, rfl, hb9⟩
    simp only [puts5, Act.put, List.setIfInBounds_toArray, List.set_cons_zero, List.set_cons_succ]
    have HB9 := Lib.hid (HB8.out.trans (hb9.mono HB8.out.size))
    have HX9 := Lib.hid (keep_heap HX8.out hb9)
    have HY9 := Lib.hid (keep_heap HY8.out hb9)
    have HNM := Lib.hid (HK.out _ HB9.out).nm
    clear hb9 HX8 HY8 HLK HQS HWAS HB68 HB6 HB5 HB4 HB3 HB2 HB1 HB8
    generalize w7.drew = w8 at *
    go_wp2_with (with_reducible refine stop_op (o := ⟨_, .load 27 (.tmp 4), _, _, _, _⟩) ?_)
    refine Lib.hid ?_
    refine wpList_load_row (o := ⟨_, _, _, _, _, _⟩) rfl 27 (.tmp 4) rfl (W.heap.size) rfl 27 (p.cells) (0, 0) _ (HX9.out) Tryz.underlying27 rfl (infoPT (rfl)) ?_
    go_wp2_with fail
    refine (watching_any w9 p D.ws r (HP.out _ HB9.out).wt HD.out.hw).mono ?_
    rintro e w10 ⟨rfl, hb10⟩
    obtain ⟨th, hth⟩ : ∃ b, (watchOf D.ws r).2 = b := ⟨_, rfl⟩
    obtain ⟨wh, hwh⟩ : ∃ b, (watchOf D.ws r).1 = b := ⟨_, rfl⟩
    rw [hth, hwh]
    have HTH := Lib.hid hth
    have HB10 := Lib.hid (HB9.out.trans (hb10.mono HB9.out.size))
    have HX10 := Lib.hid (keep_heap HX9.out hb10)
    have HY10 := Lib.hid (keep_heap HY9.out hb10)
    clear hth hwh hb10 HX9 HY9
    go_wp2_with (with_reducible refine stop_op (o := ⟨_, .load 27 (.tmp 4), _, _, _, _⟩) ?_)
    refine Lib.hid ?_
    refine wpList_load_row (o := ⟨_, _, _, _, _, _⟩) rfl 27 (.tmp 4) rfl (W.heap.size) rfl 27 (p.cells) (0, 0) _ (HX10.out) Tryz.underlying27 rfl (infoPT (rfl)) ?_
    go_wp2_with fail
    refine (watch_any w10 p D r k (HP.out _ HB10.out) HD.out).mono ?_
    rintro e w11 hlp
    obtain ⟨qc, ev, rfl, hqs, hq1, hb11, hev⟩ := hlp.q
    have HWK := Lib.hid hev
    have HQS := Lib.hid (And.intro hqs hq1)
    have HB11 := Lib.hid (HB10.out.trans (hb11.mono HB10.out.size))
    have HX11 := Lib.hid (keep_heap HX10.out hb11)
    have HY11 := Lib.hid (keep_heap HY10.out hb11)
    clear hb11 HX10 HY10 hlp hev hqs hq1
    go_wp2_with (with_reducible refine stop_op (o := ⟨_, .store 27 (.tmp 14) (.tmp 90), _, _, _, _⟩) ?_)
    refine Lib.hid ?_
    refine wpList_store_new (o := ⟨none, _, _, _, _, _⟩) rfl 27 (.tmp 14) (.tmp 90) rfl qc rfl rfl (infoPT (HQS.out.1)) (by rw [HQS.out.1]; rfl) (HQS.out.2) ?_
    have hbn := (Below.refl w11.heap.size w11).alloc (Nat.le_refl _) (.cells qc 27)
    have HQ12 := Lib.hid (heap_new w11 (.cells qc 27))
    have HL12 := Lib.hid hbn
    generalize w11.alloc (.cells qc 27) = w12 at *
    clear hbn
    have HB12 := Lib.hid (HB11.out.trans (HL12.out.mono HB11.out.size))
    have HX8 := Lib.hid (keep_heap HX11.out HL12.out)
    have HY8 := Lib.hid (keep_heap HY11.out HL12.out)
    clear HX11 HY11
    by_cases hev : ev = 0
    · subst hev
      obtain ⟨hk1, hr1, hno, q, D', rfl, hsm, hpr, d1, d2, d3, d4, d5⟩ := HWK.out rfl
      have hpq : PrX w12 q D'.X := hpr.pr.keep HL12.out
      have hgq : GoodP q D' (ml.any bad) := HGP.out.watch hsm hpr.cp hr1 hk1 hno d3 d4 d5
      have hdq : D'.ok := HD.out.of hpr.cp (by rw [d1]; exact HD.out.hm) (by rw [d3]; exact HD.out.hl) (by rw [d5, putLW_length]; omega)
      have hnq : q.name.size ≤ 9223372036854775807 := by rw [hsm.2.2.1]; exact HN.out.1
      have hthf : th = false := HTH.out.symm.trans hno
      subst hthf
      have HQ := Lib.hid (And.intro hpq (And.intro hgq (And.intro hdq (And.intro hsm (And.intro hpr.cp hnq)))))
      have HDD := Lib.hid (And.intro d1 (And.intro d2 (And.intro d3 (And.intro d5 (watchOf_none (l := D.ws) (r := r) (by rw [hno]; simp))))))
      clear hpq hgq hdq hnq hsm hpr d1 d2 d3 d4 d5 hk1 hr1 hno HWK HQS HTH
      go_wp2_with (with_reducible refine stop_op (o := ⟨_, .load 27 (.tmp 14), _, _, _, _⟩) ?_)
      refine Lib.hid ?_
      refine wpList_load_row (o := ⟨_, _, _, _, _, _⟩) rfl 27 (.tmp 14) rfl (w11.heap.size) rfl 27 (q.cells) (0, 0) _ (HQ12.out) Tryz.underlying27 rfl (infoPT (rfl)) ?_
      go_wp2_with fail
      refine (leave_any w12 q D' r HQ.out.1 HQ.out.2.2.1).mono ?_
      rintro e w13 hlv
      obtain ⟨i, g1, g2, g3⟩ := erase_putLW (k := k) (r := r) (l := D.ws) HDD.out.2.2.2.2
      unfold LeaveP at hlv
      rw [HDD.out.2.2.2.1, g1, if_neg (by omega), Int.toNat_natCast, g3] at hlv
      obtain ⟨o, D2, rfl, c1, c2, c3, c4, c5, c6⟩ := hlv
      have HO := Lib.hid (And.intro c1 (And.intro c2 (And.intro c3 (And.intro c4 (And.intro c5 c6)))))
      have HB13 := Lib.hid (HB12.out.trans (c2.hb.mono HB12.out.size))
      have HL13 := Lib.hid c2.hb
      clear c1 c2 c3 c4 c5 c6 g1 g2 g3
      go_wp2_with (with_reducible refine stop_op (o := ⟨_, .store 27 (.tmp 16) (.tmp 98), _, _, _, _⟩) ?_)
      refine Lib.hid ?_
      refine wpList_store_new (o := ⟨none, _, _, _, _, _⟩) rfl 27 (.tmp 16) (.tmp 98) rfl o.cells rfl rfl (infoPT ((rfl : o.cells.size = 9))) (by rw [(rfl : o.cells.size = 9)]; rfl) (Pv.one HO.out.2.1.pr) ?_
      have hbn := (Below.refl w13.heap.size w13).alloc (Nat.le_refl _) (.cells o.cells 27)
      have HO14 := Lib.hid (heap_new w13 (.cells o.cells 27))
      have HL14 := Lib.hid hbn
      generalize w13.alloc (.cells o.cells 27) = w14 at *
      clear hbn
      have HB14 := Lib.hid (HB13.out.trans (HL14.out.mono HB13.out.size))
      have HQ14 := Lib.hid (And.intro (keep_heap (keep_heap HQ12.out HL13.out) HL14.out) ((HQ.out.1.keep HL13.out).keep HL14.out))
      go_wp2_with (with_reducible refine stop_op (o := ⟨_, .load 27 (.tmp 14), _, _, _, _⟩) ?_)
      refine Lib.hid ?_
      refine wpList_load_row (o := ⟨_, _, _, _, _, _⟩) rfl 27 (.tmp 14) rfl (w11.heap.size) rfl 27 (q.cells) (0, 0) _ (HQ14.out.1) Tryz.underlying27 rfl (infoPT (rfl)) ?_
      go_wp2_with fail
      refine (watching_any w14 q D'.ws r HQ14.out.2.wt HQ.out.2.2.1.hw).mono ?_
      rintro e w15 ⟨rfl, hb15⟩
      rw [HDD.out.2.2.2.1, watchOf_put HDD.out.2.2.2.2]
      have HB15 := Lib.hid (HB14.out.trans (hb15.mono HB14.out.size))
      have HL15 := Lib.hid hb15
      clear hb15
      go_wp2_with (with_reducible refine stop_op (o := ⟨_, .load 27 (.tmp 14), _, _, _, _⟩) ?_)
      refine Lib.hid ?_
      refine wpList_wanted rfl fun K hK => wp_load_row 27 (.tmp 14) rfl (w11.heap.size) rfl 27 (q.cells) (0, 0) _ ((keep_heap HQ14.out.1 HL15.out)) Tryz.underlying27 rfl (infoPT (rfl)) (hK _ _ ?_)
      go_wp2_with fail
      refine (checkfull_any W w15 bad HBAD.out q D' ml (HQ14.out.2.keep HL15.out) HQ.out.2.2.1 (HDD.out.2.1.trans (HK.out _ HB15.out).xm) (HDD.out.1.trans (HK.out _ HB15.out).nm) HIM.out HQ.out.2.2.2.2.2 HN.out.2 HB15.out).mono ?_
      rintro e w16 hch
      obtain ⟨rfl, hb16⟩ := hch.good HQ.out.2.1
      have HB16 := Lib.hid (HB15.out.trans (hb16.mono HB15.out.size))
      have HL16 := Lib.hid (HL15.out.trans (hb16.mono HL15.out.size))
      have HL816 := Lib.hid (HL13.out.trans ((HL14.out.trans (HL16.out.mono HL14.out.size)).mono HL13.out.size))
      clear hb16 hch
      go_wp2_with (with_reducible refine stop_op (o := ⟨_, .load 27 (.tmp 16), _, _, _, _⟩) ?_)
      refine Lib.hid ?_
      refine wpList_wanted rfl fun K hK => wp_load_row 27 (.tmp 16) rfl (w13.heap.size) rfl 27 (o.cells) (0, 0) _ ((keep_heap HO14.out HL16.out)) Tryz.underlying27 rfl (infoPT (rfl)) (hK _ _ ?_)
      go_wp2_with (with_reducible refine stop_op (o := ⟨_, .load 27 (.tmp 4), _, _, _, _⟩) ?_)
      refine Lib.hid ?_
      refine wpList_wanted rfl fun K hK => wp_load_row 27 (.tmp 4) rfl (W.heap.size) rfl 27 (p.cells) (0, 0) _ ((keep_heap HX8.out HL816.out)) Tryz.underlying27 rfl (infoPT (rfl)) (hK _ _ ?_)
      have HS := Lib.hid (same_back w16 p o D D2 ml (HP.out _ HB16.out) (HK.out _ HB16.out) HD.out ((HO.out.2.1.pr.keep HL14.out).keep HL16.out) (HQ.out.2.2.2.2.1.trans HO.out.2.1.cp) (HQ.out.2.2.2.1.trans HO.out.1) (HO.out.2.2.1.trans HDD.out.1) (HO.out.2.2.2.1.trans HDD.out.2.1) (HO.out.2.2.2.2.1.trans HDD.out.2.2.1) HO.out.2.2.2.2.2)
      go_wp2_with fail
      refine HS.out.mono ?_
      rintro e w17 ⟨rfl, hb17⟩
      have HB17 := Lib.hid (HB16.out.trans (hb17.mono HB16.out.size))
      have HL17 := Lib.hid (HL816.out.trans (hb17.mono HL816.out.size))
      clear hb17 HS HO HQ HDD HO14 HQ14 HQ12 HL13 HL14 HL15 HL16 HL816
      have hkk : (k != k) = false := by simp
      have HBC := Lib.hid (HB17.out)
      have HXC := Lib.hid (keep_heap HX8.out ((HL17.out)))
      have HYC := Lib.hid (keep_heap HY8.out ((HL17.out)))
      clear HX8 HY8
      go_wp2_with (with_reducible refine stop_op (o := ⟨_, .load 27 (.tmp 4), _, _, _, _⟩) ?_)
      refine Lib.hid ?_
      refine wpList_load_row (o := ⟨_, _, _, _, _, _⟩) rfl 27 (.tmp 4) rfl (W.heap.size) rfl 27 (p.cells) (0, 0) _ (HXC.out) Tryz.underlying27 rfl (infoPT (rfl)) ?_
      go_wp2_with (with_reducible refine stop_op (o := ⟨_, .load 33 (.tmp 7), _, _, _, _⟩) ?_)
      refine Lib.hid ?_
      refine wpList_load_row (o := ⟨_, _, _, _, _, _⟩) rfl 33 (.tmp 7) rfl (W.heap.size + 1) rfl 33 #[.int .i8 x.k, .int .i64 x.n, .string x.s, .string x.u, .slice x.ao x.ln x.lc, .bool x.ours] (0, 0) _ HYC.out Tryz.underlying33 rfl (infoIM rfl) ?_
      go_wp2_with fail
      refine (put_any w17 p D ml x (HP.out _ HBC.out) HD.out (HK.out _ HBC.out).xm (HK.out _ HBC.out).nm).mono ?_
      rintro e wp hput
      obtain ⟨q, b, rfl, hwt, hours, D', hsm, hpr, d1, d2, d3, d4⟩ := hput.q
      have HWT := Lib.hid (And.intro hwt hours)
      have HSM := Lib.hid hsm
      have HPR := Lib.hid hpr
      have HDE := Lib.hid (And.intro d1 (And.intro d2 (And.intro d3 d4)))
      have HBP := Lib.hid (HBC.out.trans (hpr.hb.mono HBC.out.size))
      have HXP := Lib.hid (keep_heap HXC.out hpr.hb)
      have HYP := Lib.hid (keep_heap HYC.out hpr.hb)
      clear hput hwt hours hsm hpr d1 d2 d3 d4 HXC HYC
      go_wp2_with (with_reducible refine stop_op (o := ⟨_, .store 27 (.tmp 20) (.tmp 135), _, _, _, _⟩) ?_)
      refine Lib.hid ?_
      refine wpList_store_new (o := ⟨none, _, _, _, _, _⟩) rfl 27 (.tmp 20) (.tmp 135) rfl q.cells rfl rfl (infoPT ((rfl : q.cells.size = 9))) (by rw [(rfl : q.cells.size = 9)]; rfl) (Pv.one HPR.out.pr) ?_
      have hbn := (Below.refl wp.heap.size wp).alloc (Nat.le_refl _) (.cells q.cells 27)
      have HQQ := Lib.hid (heap_new wp (.cells q.cells 27))
      have HBQ := Lib.hid hbn
      generalize wp.alloc (.cells q.cells 27) = wq at *
      clear hbn
      go_wp2_with (with_reducible refine stop_op (o := ⟨_, .load 27 (.tmp 20), _, _, _, _⟩) ?_)
      refine Lib.hid ?_
      refine wpList_load_row (o := ⟨_, _, _, _, _, _⟩) rfl 27 (.tmp 20) rfl (wp.heap.size) rfl 27 (q.cells) (0, 0) _ (HQQ.out) Tryz.underlying27 rfl (infoPT (rfl)) ?_
      have hok : D'.ok := HD.out.of HPR.out.cp (by rw [HDE.out.2.2.1]; have := HGP.out.ws; have h1 := HK.out _ HBC.out; have h2 := HD.out.hm; have h3 := H100.out; split <;> omega) (by rw [HDE.out.1]; exact HD.out.hl) (by rw [HDE.out.2.1]; exact HD.out.hw)
      have hxm : ∃ ml', D'.xm = mvs ml' ∧ D'.nm = ml'.length ∧ (∀ y ∈ ml', ImOk W y) ∧ (ml'.any bad) = false := by
        have h1 := HK.out _ HBC.out
        have hb0 := HGP.out.bm
        cases b
        · exact ⟨ml, by rw [HDE.out.2.2.2]; exact h1.xm, by rw [HDE.out.2.2.1]; exact h1.nm, HIM.out, hb0⟩
        · refine ⟨ml ++ [x], by rw [HDE.out.2.2.2]; rfl, by rw [HDE.out.2.2.1, h1.nm]; simp, fun y hy => ?_, ?_⟩
          · rcases List.mem_append.1 hy with hy | hy
            · exact HIM.out y hy
            · rw [List.mem_singleton.1 hy]
              exact HI.out
          · rw [List.any_append, hb0]
            simp [HBX2.out]
      obtain ⟨ml', m1, m2, m3, m4⟩ := hxm
      have hgq : GoodP q D' (ml'.any bad) := HGP.out.put HSM.out.1 HSM.out.2.1 HSM.out.2.2.1 HPR.out.cp HDE.out.1 HDE.out.2.1 m4
      have HBW := Lib.hid (HBP.out.trans (HBQ.out.mono HBP.out.size))
      have HCK := Lib.hid (checkfull_any W wq bad HBAD.out q D' ml' (HPR.out.pr.keep HBQ.out) hok m1 m2 m3 (by rw [HSM.out.2.2.1]; exact HN.out.1) HN.out.2 HBW.out)
      have HGQ := Lib.hid hgq
      clear hok m1 m2 m3 m4 hgq
      go_wp2_with fail
      refine HCK.out.mono ?_
      rintro e wr hch
      obtain ⟨rfl, hbr⟩ := hch.good HGQ.out
      have HBR := Lib.hid (HBW.out.trans (hbr.mono HBW.out.size))
      have hq3 := keep_heap HQQ.out hbr
      have hx3 := keep_heap (keep_heap HXP.out HBQ.out) hbr
      have hy3 := keep_heap (keep_heap HYP.out HBQ.out) hbr
      obtain ⟨po, pcc, ep, -, -⟩ := (HP.out _ HBR.out).ml.slice
      obtain ⟨qo, qcc, eq, -, -⟩ := HPR.out.pr.ml.slice
      have z3 : wr.cell? ⟨wp.heap.size, 3, none⟩ = some (.slice qo D'.nm qcc) := ((cells_at hq3 3 q.mv rfl).1).trans (congrArg some eq)
      have z6 : wr.cell? ⟨wp.heap.size, 6, none⟩ = some (.bool q.wait) := (cells_at hq3 6 (.bool q.wait) rfl).1
      have v3 : wr.cell? ⟨W.heap.size, 3, none⟩ = some (.slice po D.nm pcc) := ((cells_at hx3 3 p.mv rfl).1).trans (congrArg some ep)
      obtain ⟨y5, -⟩ := cells_at hy3 5 _ rfl
      have HF := Lib.hid (And.intro HWT.out HDE.out.2.2.1)
      clear hch hbr hq3 hx3 hy3 ep eq HCK HGQ HBW HBP HXP HYP HQQ HBQ HPR HSM HWT HDE
      cases b
      · have hnm : D'.nm = D.nm := HF.out.2
        have ho : x.ours = false := by
          cases h : x.ours
          · rfl
          · cases HF.out.1.2 h
        rw [hnm] at z3
        rw [ho] at y5
        clear hnm ho
        go_wp2_with fail
        refine (check15_any wr).mono ?_
        rintro e ws ⟨rfl, hbs⟩
        have HBS := Lib.hid (HBR.out.trans (hbs.mono HBR.out.size))
        clear hbs z3 z6 v3 y5
        go_wp2_with fail
        refine (wakes_any _).mono ?_
        rintro e wz ⟨rfl, hbz⟩
        have HZ := Lib.hid (HBS.out.trans (hbz.mono HBS.out.size))
        clear hbz
        go_wp2_with fail
        go_ret
        exact ⟨rfl, HZ.out⟩
      · have hnm : D'.nm = D.nm + 1 := HF.out.2
        have hwt : q.wait = false := HF.out.1.1 rfl
        rw [hnm] at z3
        rw [hwt] at z6
        have hdn : (((D.nm + 1 : Nat) : Int) != (D.nm : Int)) = true := by simp; omega
        have hwr : IntKind.i64.wrap ((D.nm : Int) + 1) = ((D.nm + 1 : Nat) : Int) := by have := HD.out.hm; rw [IntKind.wrap_i64]; omega
        clear hnm hwt
        obtain ⟨ou, hou⟩ : ∃ b, x.ours = b := ⟨_, rfl⟩
        rw [hou] at y5
        clear hou
        cases ou
        · skip
          go_wp2_with fail
          refine (check15_any wr).mono ?_
          rintro e ws ⟨rfl, hbs⟩
          have HBS := Lib.hid (HBR.out.trans (hbs.mono HBR.out.size))
          clear hbs z3 z6 v3 y5
          go_wp2_with fail
          refine (wakes_any _).mono ?_
          rintro e wz ⟨rfl, hbz⟩
          have HZ := Lib.hid (HBS.out.trans (hbz.mono HBS.out.size))
          clear hbz
          go_wp2_with fail
          go_ret
          exact ⟨rfl, HZ.out⟩
        · skip
          go_wp2_with fail
          refine (check15_any wr).mono ?_
          rintro e ws ⟨rfl, hbs⟩
          have HBS := Lib.hid (HBR.out.trans (hbs.mono HBR.out.size))
          clear hbs z3 z6 v3 y5
          go_wp2_with fail
          refine (wakes_any _).mono ?_
          rintro e wz ⟨rfl, hbz⟩
          have HZ := Lib.hid (HBS.out.trans (hbz.mono HBS.out.size))
          clear hbz
          go_wp2_with fail
          go_ret
          exact ⟨rfl, HZ.out⟩
    · have hd : (ev == 0) = false := by simpa using hev
      clear HWK HQS HQ12 hev
      have HBC := Lib.hid (HB12.out)
      have HXC := Lib.hid (keep_heap HX8.out (((Below.refl _ _))))
      have HYC := Lib.hid (keep_heap HY8.out (((Below.refl _ _))))
      clear HX8 HY8
      go_wp2_with (with_reducible refine stop_op (o := ⟨_, .load 27 (.tmp 4), _, _, _, _⟩) ?_)
      refine Lib.hid ?_
      refine wpList_load_row (o := ⟨_, _, _, _, _, _⟩) rfl 27 (.tmp 4) rfl (W.heap.size) rfl 27 (p.cells) (0, 0) _ (HXC.out) Tryz.underlying27 rfl (infoPT (rfl)) ?_
      go_wp2_with (with_reducible refine stop_op (o := ⟨_, .load 33 (.tmp 7), _, _, _, _⟩) ?_)
      refine Lib.hid ?_
      refine wpList_load_row (o := ⟨_, _, _, _, _, _⟩) rfl 33 (.tmp 7) rfl (W.heap.size + 1) rfl 33 #[.int .i8 x.k, .int .i64 x.n, .string x.s, .string x.u, .slice x.ao x.ln x.lc, .bool x.ours] (0, 0) _ HYC.out Tryz.underlying33 rfl (infoIM rfl) ?_
      go_wp2_with fail
      refine (put_any w12 p D ml x (HP.out _ HBC.out) HD.out (HK.out _ HBC.out).xm (HK.out _ HBC.out).nm).mono ?_
      rintro e wp hput
      obtain ⟨q, b, rfl, hwt, hours, D', hsm, hpr, d1, d2, d3, d4⟩ := hput.q
      have HWT := Lib.hid (And.intro hwt hours)
      have HSM := Lib.hid hsm
      have HPR := Lib.hid hpr
      have HDE := Lib.hid (And.intro d1 (And.intro d2 (And.intro d3 d4)))
      have HBP := Lib.hid (HBC.out.trans (hpr.hb.mono HBC.out.size))
      have HXP := Lib.hid (keep_heap HXC.out hpr.hb)
      have HYP := Lib.hid (keep_heap HYC.out hpr.hb)
      clear hput hwt hours hsm hpr d1 d2 d3 d4 HXC HYC
      go_wp2_with (with_reducible refine stop_op (o := ⟨_, .store 27 (.tmp 20) (.tmp 135), _, _, _, _⟩) ?_)
      refine Lib.hid ?_
      refine wpList_store_new (o := ⟨none, _, _, _, _, _⟩) rfl 27 (.tmp 20) (.tmp 135) rfl q.cells rfl rfl (infoPT ((rfl : q.cells.size = 9))) (by rw [(rfl : q.cells.size = 9)]; rfl) (Pv.one HPR.out.pr) ?_
      have hbn := (Below.refl wp.heap.size wp).alloc (Nat.le_refl _) (.cells q.cells 27)
      have HQQ := Lib.hid (heap_new wp (.cells q.cells 27))
      have HBQ := Lib.hid hbn
      generalize wp.alloc (.cells q.cells 27) = wq at *
      clear hbn
      go_wp2_with (with_reducible refine stop_op (o := ⟨_, .load 27 (.tmp 20), _, _, _, _⟩) ?_)
      refine Lib.hid ?_
      refine wpList_load_row (o := ⟨_, _, _, _, _, _⟩) rfl 27 (.tmp 20) rfl (wp.heap.size) rfl 27 (q.cells) (0, 0) _ (HQQ.out) Tryz.underlying27 rfl (infoPT (rfl)) ?_
      have hok : D'.ok := HD.out.of HPR.out.cp (by rw [HDE.out.2.2.1]; have := HGP.out.ws; have h1 := HK.out _ HBC.out; have h2 := HD.out.hm; have h3 := H100.out; split <;> omega) (by rw [HDE.out.1]; exact HD.out.hl) (by rw [HDE.out.2.1]; exact HD.out.hw)
      have hxm : ∃ ml', D'.xm = mvs ml' ∧ D'.nm = ml'.length ∧ (∀ y ∈ ml', ImOk W y) ∧ (ml'.any bad) = false := by
        have h1 := HK.out _ HBC.out
        have hb0 := HGP.out.bm
        cases b
        · exact ⟨ml, by rw [HDE.out.2.2.2]; exact h1.xm, by rw [HDE.out.2.2.1]; exact h1.nm, HIM.out, hb0⟩
        · refine ⟨ml ++ [x], by rw [HDE.out.2.2.2]; rfl, by rw [HDE.out.2.2.1, h1.nm]; simp, fun y hy => ?_, ?_⟩
          · rcases List.mem_append.1 hy with hy | hy
            · exact HIM.out y hy
            · rw [List.mem_singleton.1 hy]
              exact HI.out
          · rw [List.any_append, hb0]
            simp [HBX2.out]
      obtain ⟨ml', m1, m2, m3, m4⟩ := hxm
      have hgq : GoodP q D' (ml'.any bad) := HGP.out.put HSM.out.1 HSM.out.2.1 HSM.out.2.2.1 HPR.out.cp HDE.out.1 HDE.out.2.1 m4
      have HBW := Lib.hid (HBP.out.trans (HBQ.out.mono HBP.out.size))
      have HCK := Lib.hid (checkfull_any W wq bad HBAD.out q D' ml' (HPR.out.pr.keep HBQ.out) hok m1 m2 m3 (by rw [HSM.out.2.2.1]; exact HN.out.1) HN.out.2 HBW.out)
      have HGQ := Lib.hid hgq
      clear hok m1 m2 m3 m4 hgq
      go_wp2_with fail
      refine HCK.out.mono ?_
      rintro e wr hch
      obtain ⟨rfl, hbr⟩ := hch.good HGQ.out
      have HBR := Lib.hid (HBW.out.trans (hbr.mono HBW.out.size))
      have hq3 := keep_heap HQQ.out hbr
      have hx3 := keep_heap (keep_heap HXP.out HBQ.out) hbr
      have hy3 := keep_heap (keep_heap HYP.out HBQ.out) hbr
      obtain ⟨po, pcc, ep, -, -⟩ := (HP.out _ HBR.out).ml.slice
      obtain ⟨qo, qcc, eq, -, -⟩ := HPR.out.pr.ml.slice
      have z3 : wr.cell? ⟨wp.heap.size, 3, none⟩ = some (.slice qo D'.nm qcc) := ((cells_at hq3 3 q.mv rfl).1).trans (congrArg some eq)
      have z6 : wr.cell? ⟨wp.heap.size, 6, none⟩ = some (.bool q.wait) := (cells_at hq3 6 (.bool q.wait) rfl).1
      have v3 : wr.cell? ⟨W.heap.size, 3, none⟩ = some (.slice po D.nm pcc) := ((cells_at hx3 3 p.mv rfl).1).trans (congrArg some ep)
      obtain ⟨y5, -⟩ := cells_at hy3 5 _ rfl
      have HF := Lib.hid (And.intro HWT.out HDE.out.2.2.1)
      clear hch hbr hq3 hx3 hy3 ep eq HCK HGQ HBW HBP HXP HYP HQQ HBQ HPR HSM HWT HDE
      cases b
      · have hnm : D'.nm = D.nm := HF.out.2
        have ho : x.ours = false := by
          cases h : x.ours
          · rfl
          · cases HF.out.1.2 h
        rw [hnm] at z3
        rw [ho] at y5
        clear hnm ho
        go_wp2_with fail
        refine (check15_any wr).mono ?_
        rintro e ws ⟨rfl, hbs⟩
        have HBS := Lib.hid (HBR.out.trans (hbs.mono HBR.out.size))
        clear hbs z3 z6 v3 y5
        go_wp2_with fail
        refine (wakes_any _).mono ?_
        rintro e wz ⟨rfl, hbz⟩
        have HZ := Lib.hid (HBS.out.trans (hbz.mono HBS.out.size))
        clear hbz
        go_wp2_with fail
        go_ret
        exact ⟨rfl, HZ.out⟩
      · have hnm : D'.nm = D.nm + 1 := HF.out.2
        have hwt : q.wait = false := HF.out.1.1 rfl
        rw [hnm] at z3
        rw [hwt] at z6
        have hdn : (((D.nm + 1 : Nat) : Int) != (D.nm : Int)) = true := by simp; omega
        have hwr : IntKind.i64.wrap ((D.nm : Int) + 1) = ((D.nm + 1 : Nat) : Int) := by have := HD.out.hm; rw [IntKind.wrap_i64]; omega
        clear hnm hwt
        obtain ⟨ou, hou⟩ : ∃ b, x.ours = b := ⟨_, rfl⟩
        rw [hou] at y5
        clear hou
        cases ou
        · skip
          go_wp2_with fail
          refine (check15_any wr).mono ?_
          rintro e ws ⟨rfl, hbs⟩
          have HBS := Lib.hid (HBR.out.trans (hbs.mono HBR.out.size))
          clear hbs z3 z6 v3 y5
          go_wp2_with fail
          refine (wakes_any _).mono ?_
          rintro e wz ⟨rfl, hbz⟩
          have HZ := Lib.hid (HBS.out.trans (hbz.mono HBS.out.size))
          clear hbz
          go_wp2_with fail
          go_ret
          exact ⟨rfl, HZ.out⟩
        · skip
          go_wp2_with fail
          refine (check15_any wr).mono ?_
          rintro e ws ⟨rfl, hbs⟩
          have HBS := Lib.hid (HBR.out.trans (hbs.mono HBR.out.size))
          clear hbs z3 z6 v3 y5
          go_wp2_with fail
          refine (wakes_any _).mono ?_
          rintro e wz ⟨rfl, hbz⟩
          have HZ := Lib.hid (HBS.out.trans (hbz.mono HBS.out.size))
          clear hbz
          go_wp2_with fail
          go_ret
          exact ⟨rfl, HZ.out⟩
theorem back_row {H : Type} {enc : TypeId × Value → H} (W : World) {base : Nat} {v0 v1 v2 v3 : Value} {d0 d1 d2 d3 : DataW H} {p0 p1 p2 p3 : List MemPlace} (hv0 : Value.okWide Tryz.prog W .any base 27 v0) (h0 : DataW.Trod enc Tryz.prog W 0 (fun _ => true) true 27 v0 d0 p0) (hz0 : Sz Tryz.prog 27 d0)
    (hv1 : Value.okWide Tryz.prog W .any base 3 v1) (h1 : DataW.Trod enc Tryz.prog W 0 (fun _ => true) true 3 v1 d1 p1) (hv2 : Value.okWide Tryz.prog W .any base 3 v2) (h2 : DataW.Trod enc Tryz.prog W 0 (fun _ => true) true 3 v2 d2 p2)
    (hv3 : Value.okWide Tryz.prog W .any base 33 v3) (h3 : DataW.Trod enc Tryz.prog W 0 (fun _ => true) true 33 v3 d3 p3) (hL : laidMetH Tryz.prog [("pleach/atoms.letters", letD)] W) : Calls Tryz.prog 3 #[v0, v1, v2, v3] W (IsPost W true) := by
  obtain ⟨p, D, ml, rfl, q1, q2, q4⟩ := proc_of hv0 h0 hz0
  obtain ⟨k, rfl⟩ := okWide_int Tryz.underlying3 hv1
  obtain ⟨r, rfl⟩ := okWide_int Tryz.underlying3 hv2
  obtain ⟨x, rfl, q3⟩ := item_of hv3 h3
  exact back_law W p D ml k r x q1 q2 q4 q3 (letters_of W hL)
end Go.Proofs.YtemgnljegbaobaaGreatDoor
