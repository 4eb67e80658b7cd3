import Derived.Test.YthpmdeofdlcccaaGreatDoorAa
import Derived.Lib.LaidU8
import Derived.LaidMore
import Derived.ShutString
import Derived.Test.YthpmdeofdlcccaaGreatDoorMs18
import Derived.Test.YthpmdeofdlcccaaGreatDoorMs16
import Derived.Test.YthpmdeofdlcccaaGreatDoorMs19
import Derived.Test.YthpmdeofdlcccaaGreatDoorMs10
namespace Go.Proofs.YthpmdeofdlcccaaGreatDoor
open Go.ChangeShapes Go.WideShapes Go.ChangeAt Go.RowKit
open Go.ChangeMaps (open_string shut_string)
set_option linter.unusedVariables false
set_option linter.unusedSimpArgs false
set_option maxRecDepth 100000
def letD : DataW Unit := .agg (letL.map fun r => .agg ([r.1, r.2].map fun z => .lit (.int .u8 z)))
theorem letters_of (W : World) (h : laidMetH Tryz.prog [("pleach/atoms.letters", letD)] W) : Cells W 0 letL := by
 rw [MakeChecks.laidMetH_plain _ _ _ (by kernel_rfl)] at h
 obtain ⟨g, t, cs, fuel, p, hg, hty, hvar, hd⟩ := Lib.laidMet.reads h (List.mem_singleton.2 rfl)
 obtain rfl := Option.some.inj ((show Tryz.prog.globalNamed "pleach/atoms.letters" = some 0 by kernel_rfl).symm.trans hg)
 obtain rfl := Option.some.inj ((show (Tryz.prog.globals[0]?).map (·.type) = some 112 by kernel_rfl).symm.trans hty)
 have c2 : Tryz.prog.cellsOf 111 = 2 := by kernel_rfl
 have c1 : Tryz.prog.cellsOf 5 = 1 := by kernel_rfl
 intro j r hj
 have hi : j < 4 := by
   have := (List.getElem?_eq_some_iff.1 hj).1
   simpa [letL] using this
 obtain ⟨fuel', d, q, hdi, he⟩ := Lib.array_elem Tryz.underlying112 hd j hi
 simp only [List.getElem?_map, hj, Option.map_some, Option.some.injEq] at hdi
 subst hdi
 rw [c2] at he
 have hcs := Lib.cells_of_tab Tryz.underlying111 Tryz.underlying5 c1 c2 he
 have e0 := congrArg (·[0]?) hcs
 have e1 := congrArg (·[1]?) hcs
 simp only [List.getElem?_take, List.getElem?_drop] at e0 e1
 constructor
 · have := World.var?_cell hg hvar (j * 2)
   rw [show 0 + j * 2 = j * 2 from by omega, this, ← Array.getElem?_toList]
   simpa using e0
 · have := World.var?_cell hg hvar (j * 2 + 1)
   rw [show 0 + j * 2 + 1 = j * 2 + 1 from by omega, this, ← Array.getElem?_toList]
   simpa using e1
abbrev M00 : Nat → Prop := fun _ => False
abbrev BxT := Nat × Array Value × TypeId
def Bxs (W : World) (L : List BxT) : Prop := ∀ b ∈ L, W.heap[b.1]? = some (.cells b.2.1 b.2.2 (0, 0))
theorem Bxs.keep {W W' : World} {L : List BxT} (h : Bxs W L) (hb : Below W.heap.size W W') : Bxs W' L := fun b hbL => keep_heap (h b hbL) hb
theorem Bxs.cons {W : World} {L : List BxT} (h : Bxs W L) {p : Nat} {cs : Array Value} {t : TypeId} (hp : W.heap[p]? = some (.cells cs t (0, 0))) : Bxs W ((p, cs, t) :: L) := fun b hb => by
 rcases List.mem_cons.1 hb with rfl | hb
 · exact hp
 · exact h b hb
def SyB (w W : World) (L : List BxT) : Prop := Below w.heap.size w W ∧ Bxs W L
theorem SyB.keep {w W W' : World} {L : List BxT} (h : SyB w W L) (hb : Below W.heap.size W W') : SyB w W' L := ⟨h.1.trans (hb.mono h.1.size), h.2.keep hb⟩
theorem SyB.cons {w W : World} {L : List BxT} (h : SyB w W L) {p : Nat} {cs : Array Value} {t : TypeId} (hp : W.heap[p]? = some (.cells cs t (0, 0))) : SyB w W ((p, cs, t) :: L) := ⟨h.1, h.2.cons hp⟩
theorem nfC_one (k pid dl : Int) (ro : Option Addr) (rn rc : Nat) : ∀ v ∈ nfC k pid dl ro rn rc, v.oneCell' = true := by
 intro v hv
 simp only [nfC, nfM, List.cons_append, List.nil_append, List.mem_cons, List.not_mem_nil, or_false] at hv
 rcases hv with rfl | rfl | rfl | rfl | rfl | rfl | rfl | rfl | rfl | rfl | rfl | rfl | rfl | rfl | rfl | rfl | rfl | rfl | rfl | rfl | rfl | rfl | rfl | rfl | rfl | rfl | rfl | rfl | rfl | rfl | rfl | rfl | rfl | rfl | rfl <;> rfl
def NwK (W : World) (c : Ch) (g : Prop) (pid k p dl en : Int) (ao : Option Addr) (an ac : Nat) : Prop :=
 (g ∧ k = 2 ∧ p = pid ∧ dl = -2 ∧ en = 0 ∧ ∃ rb, ao = some ⟨rb, 0, none⟩ ∧ an = 1 ∧ ac = 1 ∧ W.heap[rb]? = some (.cells (rcL c).toArray 64 (0, 0))) ∨ (¬ g ∧ k = 0 ∧ p = 0 ∧ dl = 0 ∧ en = 2 ∧ ao = none ∧ an = 0 ∧ ac = 0)
theorem NwK.keep {W W' : World} {c : Ch} {g : Prop} {pid k p dl en : Int} {ao : Option Addr} {an ac : Nat} (h : NwK W c g pid k p dl en ao an ac) (hb : Below W.heap.size W W') : NwK W' c g pid k p dl en ao an ac := by
 rcases h with ⟨h1, h2, h3, h4, h5, rb, h6, h7, h8, h9⟩ | h
 · exact .inl ⟨h1, h2, h3, h4, h5, rb, h6, h7, h8, keep_heap h9 hb⟩
 · exact .inr h
def NwU (w : World) (c : Ch) (g : Prop) (pid : Int) (e : Ending) (w' : World) : Prop := Below w.heap.size w w' ∧ ∃ (k p dl en : Int) (ao : Option Addr) (an ac : Nat), e = .returned (.tuple #[.agg (nfC k p dl ao an ac).toArray, .int .i64 en]) ∧ NwK w' c g pid k p dl en ao an ac
theorem NwP.toU {w w' : World} {c : Ch} {EA : List TE} {pid : Int} {e : Ending} (h : NwP M00 w c EA pid e w') : NwU w c (mayC c EA = true ∧ 0 ≤ pid) pid e w' := by
 obtain ⟨hb, ⟨h1, h2, rb, rfl, h3, h4⟩ | ⟨h1, rfl⟩⟩ := h
 · exact ⟨hb, 2, pid, -2, 0, some ⟨rb, 0, none⟩, 1, 1, rfl, .inl ⟨⟨h1, h2⟩, rfl, rfl, rfl, rfl, rb, rfl, rfl, rfl, h4.hr⟩⟩
 · refine ⟨hb, 0, 0, 0, 2, none, 0, 0, rfl, .inr ⟨fun hg => ?_, rfl, rfl, rfl, rfl, rfl, rfl, rfl⟩⟩
   rcases h1 with h1 | h1
   · rw [hg.1] at h1
     cases h1
   · have := hg.2
     omega
theorem nwk_same {W : World} {c : Ch} {g : Prop} {EA : List TE} {pid k p dl en k' p' dl' en' : Int} {ao ao' : Option Addr} {an ac an' ac' : Nat} (h : NwK W c g pid k p dl en ao an ac) (h' : NwK W c g pid k' p' dl' en' ao' an' ac')
   (hid : TeOk M00 W c.id) (hE : TesOk M00 W c.ar EA) (hl : EA.length ≤ 100000) (hs : c.sn = 0) : k = k' ∧ p = p' ∧ dl = dl' ∧ en = en' ∧ ∀ W', Below W.heap.size W W' → Calls Tryz.prog 64 #[.slice ao an ac, .slice ao' an' ac'] W' (IsPost W' true) := by
 rcases h with ⟨h1, rfl, rfl, rfl, rfl, rb, rfl, rfl, rfl, h9⟩ | ⟨h1, rfl, rfl, rfl, rfl, rfl, rfl, rfl⟩
 · rcases h' with ⟨-, rfl, rfl, rfl, rfl, rb', rfl, rfl, rfl, h9'⟩ | ⟨h1', -⟩
   · refine ⟨rfl, rfl, rfl, rfl, fun W' hW => ?_⟩
     have e : (rcL c).toArray = #[.int .i8 c.id.k, .int .i64 c.id.n, .string c.id.s, .string c.id.u, .slice c.id.ao c.id.l.length c.id.cap, .int .i8 c.ki, .int .i8 c.re, .int .i64 c.sh, .string c.m, .string c.f, .slice c.ao c.an c.ac, .slice c.so 0 c.sc, .int .i64 0] := by
       unfold rcL
       rw [hs]
     rw [e] at h9 h9'
     exact recs_one M00 W' rb rb' c EA (keep_heap h9 hW) (keep_heap h9' hW) (hid.keep hW) (hE.keep hW) hl
   · exact absurd h1 h1'
 · rcases h' with ⟨h1', -⟩ | ⟨-, rfl, rfl, rfl, rfl, rfl, rfl, rfl⟩
   · exact absurd h1' h1
   · exact ⟨rfl, rfl, rfl, rfl, fun W' hW => recs_nil W'⟩
theorem nextR_det {L : List It} {pid k k' : Int} {f m f' m' : TE} (h : NextR L pid k f m) (h' : NextR L pid k' f' m') : k' = k ∧ f'.t = f.t ∧ m'.t = m.t := by
 cases L with
 | nil =>
   obtain ⟨rfl, rfl, rfl⟩ := h
   obtain ⟨rfl, rfl, rfl⟩ := h'
   exact ⟨rfl, rfl, rfl⟩
 | cons i L =>
   rcases h with ⟨h1, rfl, rfl, h4⟩ | ⟨h1, p, r, q, h2, rfl, h3, h4⟩ | ⟨h1, h2, h3, rfl, rfl, h4⟩ | ⟨h1, h2, h3, rfl, rfl, rfl⟩
   · rcases h' with ⟨-, rfl, rfl, g4⟩ | ⟨g1, -⟩ | ⟨g1, -⟩ | ⟨g1, -⟩
     · rw [h4] at g4
       injection g4 with g4
       exact ⟨rfl, rfl, g4.symm⟩
     · rw [h1] at g1; cases g1
     · rw [h1] at g1; cases g1
     · rw [h1] at g1; cases g1
   · rcases h' with ⟨g1, -⟩ | ⟨-, p', r', q', g2, rfl, g3, g4⟩ | ⟨-, g2, -⟩ | ⟨-, g2, -⟩
     · rw [h1] at g1; cases g1
     · rw [h2] at g2
       injection g2 with g2
       injection g2 with e1 e2
       injection e2 with e2 e3
       subst e1 e2 e3
       exact ⟨rfl, g3.trans h3.symm, g4.trans h4.symm⟩
     · rw [h2] at g2; cases g2
     · rw [h2] at g2; cases g2
   · rcases h' with ⟨g1, -⟩ | ⟨-, p', r', q', g2, -⟩ | ⟨-, -, -, rfl, rfl, g4⟩ | ⟨-, -, g3, -⟩
     · rw [h1] at g1; cases g1
     · rw [h2] at g2; cases g2
     · rw [h4] at g4
       injection g4 with g4
       exact ⟨rfl, rfl, g4.symm⟩
     · rw [h3] at g3; cases g3
   · rcases h' with ⟨g1, -⟩ | ⟨-, p', r', q', g2, -⟩ | ⟨-, -, g3, -⟩ | ⟨-, -, -, rfl, rfl, rfl⟩
     · rw [h1] at g1; cases g1
     · rw [h2] at g2; cases g2
     · rw [h3] at g3; cases g3
     · exact ⟨rfl, rfl, rfl⟩
theorem same_te {w : World} {y z : TE} (hy : TeOk M00 w y) (hz : TeOk M00 w z) (h : z.t = y.t) : Calls Tryz.prog 15 #[.agg #[.int .i8 y.k, .int .i64 y.n, .string y.s, .string y.u, .slice y.ao y.l.length y.cap], .agg #[.int .i8 z.k, .int .i64 z.n, .string z.s, .string z.u, .slice z.ao z.l.length z.cap]] w (IsPost w true) := by
 obtain ⟨F, htv⟩ := hy.tv
 obtain ⟨G, htz⟩ := hz.tv
 have h2 := rsame_any F G _ _ _ _ w htv htz
 rw [h, eqT_refl] at h2
 exact h2
def RcA (W : World) (ao : Option Addr) (an ac : Nat) (ao' : Option Addr) (an' ac' : Nat) : Prop := ∀ W', Below W.heap.size W W' → Calls Tryz.prog 64 #[.slice ao an ac, .slice ao' an' ac'] W' (IsPost W' true)
theorem RcA.keep {W W1 : World} {ao : Option Addr} {an ac : Nat} {ao' : Option Addr} {an' ac' : Nat} (h : RcA W ao an ac ao' an' ac') (hb : Below W.heap.size W W1) : RcA W1 ao an ac ao' an' ac' := fun W' hW => h W' (hb.trans (hW.mono hb.size))
theorem two_rows (w : World) (A B : Array Value) : ((w.alloc (.cells zT 25)).alloc (.cells zT 25)).heap[w.heap.size]? = some (.cells zT 25 (0, 0)) ∧ (((w.alloc (.cells zT 25)).alloc (.cells zT 25)).setRow w.heap.size A).heap[w.heap.size + 1]? = some (.cells zT 25 (0, 0)) ∧
   Below w.heap.size w ((((w.alloc (.cells zT 25)).alloc (.cells zT 25)).setRow w.heap.size A).setRow (w.heap.size + 1) B) ∧ ((((w.alloc (.cells zT 25)).alloc (.cells zT 25)).setRow w.heap.size A).setRow (w.heap.size + 1) B).heap[w.heap.size]? = some (.cells A 25 (0, 0)) ∧
   ((((w.alloc (.cells zT 25)).alloc (.cells zT 25)).setRow w.heap.size A).setRow (w.heap.size + 1) B).heap[w.heap.size + 1]? = some (.cells B 25 (0, 0)) := by
 obtain ⟨b1, b2, hb⟩ := two_boxesx w (.cells zT 25) (.cells zT 25)
 have h1 := setRow_heap _ w.heap.size zT A 25 (0, 0) b1
 have hc1 := chg_setRow ((w.alloc (.cells zT 25)).alloc (.cells zT 25)) w.heap.size A
 have h2 := hc1.heap b2 (show ¬ w.heap.size + 1 = w.heap.size by omega)
 have hb1 := bel_setRow hb hb.size (Nat.le_refl _) A
 have h3 := setRow_heap _ (w.heap.size + 1) zT B 25 (0, 0) h2
 have hc2 := chg_setRow (((w.alloc (.cells zT 25)).alloc (.cells zT 25)).setRow w.heap.size A) (w.heap.size + 1) B
 have h4 := hc2.heap h1 (show ¬ w.heap.size = w.heap.size + 1 by omega)
 exact ⟨b1, h2, bel_setRow hb1 hb1.size (Nat.le_succ _) B, h4, h3⟩
theorem st_ok {w : World} {a : Fa} {m : Mm} {RL : List Rc} (h : FrOkA M00 w a m RL) : TeOk M00 w (st2T a m) := by
 unfold st2T
 split
 · exact h.V
 · exact numT_ok _ _ _ _ (by decide) (by decide)
theorem its_at {M : Nat → Prop} {W : World} {lo : Option Addr} {lc : Nat} {ML : List It} (h : ItsOk M W (.slice lo ML.length lc) ML) {i : Nat} {it : It} (hi : ML[i]? = some it) : ∃ b off, lo = some ⟨b, off, none⟩ ∧ ItAt W b (off + i * 6) it ∧ TeOk M W it.x := by
 obtain ⟨ao, cap, e, -, -, -, h4⟩ := h.form
 injection e with e _ _
 subst e
 obtain ⟨b, off, e2, h5, -⟩ := h4 i it hi
 exact ⟨b, off, e2, h5, h.te it (List.mem_of_getElem? hi)⟩
theorem its_cap {M : Nat → Prop} {W : World} {lo : Option Addr} {lc : Nat} {ML : List It} (h : ItsOk M W (.slice lo ML.length lc) ML) : ML.length ≤ lc ∧ lc ≤ 9223372036854775807 := by
 obtain ⟨ao, cap, e, h2, h3, -, -⟩ := h.form
 injection e with _ _ e
 subst e
 exact ⟨h2, h3⟩
def SyQ (p11 p13 p15 p17 p20 p23 q : Nat) (A B : Array Value) (st f1 m1 f2 m2 x : TE) (W : World) : Prop :=
 W.heap[p11]? = some (.cells A 39 (0, 0)) ∧ W.heap[p13]? = some (.cells B 39 (0, 0)) ∧ W.heap[p15]? = some (.cells #[.int .i8 st.k, .int .i64 st.n, .string st.s, .string st.u, .slice st.ao st.l.length st.cap] 25 (0, 0)) ∧ W.heap[p17]? = some (.cells #[.int .i8 st.k, .int .i64 st.n, .string st.s, .string st.u, .slice st.ao st.l.length st.cap] 25 (0, 0)) ∧ W.heap[p20]? = some (.cells #[.int .i8 f1.k, .int .i64 f1.n, .string f1.s, .string f1.u, .slice f1.ao f1.l.length f1.cap] 25 (0, 0)) ∧ W.heap[p20 + 1]? = some (.cells #[.int .i8 m1.k, .int .i64 m1.n, .string m1.s, .string m1.u, .slice m1.ao m1.l.length m1.cap] 25 (0, 0)) ∧ W.heap[p23]? = some (.cells #[.int .i8 f2.k, .int .i64 f2.n, .string f2.s, .string f2.u, .slice f2.ao f2.l.length f2.cap] 25 (0, 0)) ∧ W.heap[p23 + 1]? = some (.cells #[.int .i8 m2.k, .int .i64 m2.n, .string m2.s, .string m2.u, .slice m2.ao m2.l.length m2.cap] 25 (0, 0)) ∧ W.heap[q]? = some (.cells #[.int .i8 x.k, .int .i64 x.n, .string x.s, .string x.u, .slice x.ao x.l.length x.cap] 25 (0, 0))
theorem SyQ.keep {p11 p13 p15 p17 p20 p23 q : Nat} {A B : Array Value} {st f1 m1 f2 m2 x : TE} {W W' : World} (h : SyQ p11 p13 p15 p17 p20 p23 q A B st f1 m1 f2 m2 x W) (hb : Below W.heap.size W W') : SyQ p11 p13 p15 p17 p20 p23 q A B st f1 m1 f2 m2 x W' :=
 ⟨keep_heap h.1 hb, keep_heap h.2.1 hb, keep_heap h.2.2.1 hb, keep_heap h.2.2.2.1 hb, keep_heap h.2.2.2.2.1 hb, keep_heap h.2.2.2.2.2.1 hb, keep_heap h.2.2.2.2.2.2.1 hb, keep_heap h.2.2.2.2.2.2.2.1 hb, keep_heap h.2.2.2.2.2.2.2.2 hb⟩
set_option maxHeartbeats 32000000 in
theorem says_any (w : World) (hc : Cells w 0 letL) (c : Ch) (EA : List TE) (hid : TeOk M00 w c.id) (hE : TesOk M00 w c.ar EA) (hm : c.m.size ≤ 9223372036854775807) (a : Fa) (m : Mm) (RL : List Rc) (hf : FrOkA M00 w a m RL) (lo : Option Addr) (lc : Nat) (ML : List It) (hml : ItsOk M00 w (.slice lo ML.length lc) ML) (pid : Int) (hp : -9223372036854775808 ≤ pid ∧ pid ≤ 9223372036854775807) (x : TE) (hx : TeOk M00 w x) :
   Calls Tryz.prog 3 #[.agg #[.int .i8 c.id.k, .int .i64 c.id.n, .string c.id.s, .string c.id.u, .slice c.id.ao c.id.l.length c.id.cap, .int .i8 c.ki, .int .i8 c.re, .int .i64 c.sh, .string c.m, .string c.f, .slice c.ao c.an c.ac, .slice c.so c.sn c.sc], .agg (flL a m).toArray, .slice lo ML.length lc, .int .i64 pid, .agg #[.int .i8 x.k, .int .i64 x.n, .string x.s, .string x.u, .slice x.ao x.l.length x.cap]] w (IsPost w true) := by
 have hb1 := (Below.refl w.heap.size w).alloc (Nat.le_refl _) (.cells #[.int .i8 c.id.k, .int .i64 c.id.n, .string c.id.s, .string c.id.u, .slice c.id.ao c.id.l.length c.id.cap, .int .i8 c.ki, .int .i8 c.re, .int .i64 c.sh, .string c.m, .string c.f, .slice c.ao c.an c.ac, .slice c.so c.sn c.sc] 28)
 have hb2 := hb1.alloc (by simp) (.cells (flL a m).toArray 39)
 have hb3 := hb2.alloc (by simp; omega) (.cells #[.int .i8 x.k, .int .i64 x.n, .string x.s, .string x.u, .slice x.ao x.l.length x.cap] 25)
 have z0 := heap_old (heap_old (heap_new w (.cells #[.int .i8 c.id.k, .int .i64 c.id.n, .string c.id.s, .string c.id.u, .slice c.id.ao c.id.l.length c.id.cap, .int .i8 c.ki, .int .i8 c.re, .int .i64 c.sh, .string c.m, .string c.f, .slice c.ao c.an c.ac, .slice c.so c.sn c.sc] 28)) (.cells (flL a m).toArray 39)) (.cells #[.int .i8 x.k, .int .i64 x.n, .string x.s, .string x.u, .slice x.ao x.l.length x.cap] 25)
 have z1 := heap_old (heap_new (w.alloc (.cells #[.int .i8 c.id.k, .int .i64 c.id.n, .string c.id.s, .string c.id.u, .slice c.id.ao c.id.l.length c.id.cap, .int .i8 c.ki, .int .i8 c.re, .int .i64 c.sh, .string c.m, .string c.f, .slice c.ao c.an c.ac, .slice c.so c.sn c.sc] 28)) (.cells (flL a m).toArray 39)) (.cells #[.int .i8 x.k, .int .i64 x.n, .string x.s, .string x.u, .slice x.ao x.l.length x.cap] 25)
 have z2 := heap_new ((w.alloc (.cells #[.int .i8 c.id.k, .int .i64 c.id.n, .string c.id.s, .string c.id.u, .slice c.id.ao c.id.l.length c.id.cap, .int .i8 c.ki, .int .i8 c.re, .int .i64 c.sh, .string c.m, .string c.f, .slice c.ao c.an c.ac, .slice c.so c.sn c.sc] 28)).alloc (.cells (flL a m).toArray 39)) (.cells #[.int .i8 x.k, .int .i64 x.n, .string x.s, .string x.u, .slice x.ao x.l.length x.cap] 25)
 simp only [World.size_alloc] at z1 z2
 have H1 : Hid (SyB w (((w.alloc (.cells #[.int .i8 c.id.k, .int .i64 c.id.n, .string c.id.s, .string c.id.u, .slice c.id.ao c.id.l.length c.id.cap, .int .i8 c.ki, .int .i8 c.re, .int .i64 c.sh, .string c.m, .string c.f, .slice c.ao c.an c.ac, .slice c.so c.sn c.sc] 28)).alloc (.cells (flL a m).toArray 39)).alloc (.cells #[.int .i8 x.k, .int .i64 x.n, .string x.s, .string x.u, .slice x.ao x.l.length x.cap] 25)) [(w.heap.size + 2, #[.int .i8 x.k, .int .i64 x.n, .string x.s, .string x.u, .slice x.ao x.l.length x.cap], 25), (w.heap.size + 1, (flL a m).toArray, 39), (w.heap.size, #[.int .i8 c.id.k, .int .i64 c.id.n, .string c.id.s, .string c.id.u, .slice c.id.ao c.id.l.length c.id.cap, .int .i8 c.ki, .int .i8 c.re, .int .i64 c.sh, .string c.m, .string c.f, .slice c.ao c.an c.ac, .slice c.so c.sn c.sc], 28)]) := Lib.hid ⟨hb3, ((show Bxs _ [] from fun b hb => by cases hb).cons z0 |>.cons z1 |>.cons z2)⟩
 have HX := Lib.hid (And.intro hc (And.intro hid (And.intro hE (And.intro hm (And.intro hf (And.intro hml (And.intro hp hx)))))))
 have han : c.an = EA.length := by
   obtain ⟨ao0, cap0, e0, -⟩ := hE.slice
   have e1 : (.slice c.ao c.an c.ac : Value) = .slice ao0 EA.length cap0 := e0
   injection e1 with _ e2 _
 have HAN := Lib.hid han
 clear hb1 hb2 hb3 z0 z1 z2 hc hid hE hm hf hml hp hx han
 go_enter Tryz.func3, Tryz.ntmps3
 go_wp2_with (with_reducible refine stop_op (o := ⟨_, .load 39 (.tmp 6), _, _, _, _⟩) ?_)
 refine Lib.hid ?_
 generalize ((w.alloc (.cells #[.int .i8 c.id.k, .int .i64 c.id.n, .string c.id.s, .string c.id.u, .slice c.id.ao c.id.l.length c.id.cap, .int .i8 c.ki, .int .i8 c.re, .int .i64 c.sh, .string c.m, .string c.f, .slice c.ao c.an c.ac, .slice c.so c.sn c.sc] 28)).alloc (.cells (flL a m).toArray 39)).alloc (.cells #[.int .i8 x.k, .int .i64 x.n, .string x.s, .string x.u, .slice x.ao x.l.length x.cap] 25) = w1 at *
 refine wpList_load_row (o := ⟨_, _, _, _, _, _⟩) rfl 39 (.tmp 6) rfl (w.heap.size + 1) rfl 39 (flL a m).toArray (0, 0) _ (H1.out.2 (w.heap.size + 1, (flL a m).toArray, 39) (.tail _ (.head _))) Tryz.underlying39 rfl (infoFR rfl) ?_
 obtain ⟨x0, x1, x2, x3, x4⟩ := BxS.of (x := x) (H1.out.2 (w.heap.size + 2, #[.int .i8 x.k, .int .i64 x.n, .string x.s, .string x.u, .slice x.ao x.l.length x.cap], 25) (.head _))
 go_wp2_with fail
 clear x0 x1 x2 x3 x4
 refine (g24_any M00 w1 a m RL ⟨0, 0, ⟨lo, ML.length, lc⟩, 0, false, x, 0⟩ ML (HX.out.2.2.2.2.1.keep H1.out.1) (HX.out.2.2.2.2.2.1.keep H1.out.1) (HX.out.2.2.2.2.2.2.2.keep H1.out.1)).mono ?_
 rintro e w2 ⟨b, rfl, hb2, -⟩
 have H2 := Lib.hid (H1.out.keep hb2)
 clear hb2 H1
 cases b
 rotate_left
 · skip
   go_wp2_with fail
   refine (wakes_any w2 (keepCells HX.out.1 H2.out.1)).mono ?_
   rintro e WW ⟨rfl, hbW⟩
   have HBW := Lib.hid (H2.out.1.trans (hbW.mono H2.out.1.size))
   clear hbW H2
   go_wp2_with fail
   go_ret
   exact ⟨rfl, HBW.out⟩
 have hcb := H2.out.2 (w.heap.size, #[.int .i8 c.id.k, .int .i64 c.id.n, .string c.id.s, .string c.id.u, .slice c.id.ao c.id.l.length c.id.cap, .int .i8 c.ki, .int .i8 c.re, .int .i64 c.sh, .string c.m, .string c.f, .slice c.ao c.an c.ac, .slice c.so c.sn c.sc], 28) (.tail _ (.tail _ (.head _)))
 have i0 : w2.cell? ⟨w.heap.size, 0, none⟩ = some (.int .i8 c.id.k) := (cells_at hcb 0 _ rfl).1
 have i1 : w2.cell? ⟨w.heap.size, 1, none⟩ = some (.int .i64 c.id.n) := (cells_at hcb 1 _ rfl).1
 have i2 : w2.cell? ⟨w.heap.size, 2, none⟩ = some (.string c.id.s) := (cells_at hcb 2 _ rfl).1
 have i3 : w2.cell? ⟨w.heap.size, 3, none⟩ = some (.string c.id.u) := (cells_at hcb 3 _ rfl).1
 have i4 : w2.cell? ⟨w.heap.size, 4, none⟩ = some (.slice c.id.ao c.id.l.length c.id.cap) := (cells_at hcb 4 _ rfl).1
 clear hcb
 have HG : Hid (Calls Tryz.prog 5 #[.agg #[.int .i8 c.id.k, .int .i64 c.id.n, .string c.id.s, .string c.id.u, .slice c.id.ao c.id.l.length c.id.cap]] w2 (SomeB w2)) := Lib.hid (great_x w2 c.id (HX.out.2.1.keep H2.out.1))
 go_wp2_with fail
 refine HG.out.mono ?_
 clear HG i0 i1 i2 i3 i4
 rintro e w3 ⟨b, rfl, hb3⟩
 have H3 := Lib.hid (H2.out.keep hb3)
 clear hb3 H2
 cases b
 rotate_left
 · skip
   go_wp2_with fail
   refine (wakes_any w3 (keepCells HX.out.1 H3.out.1)).mono ?_
   rintro e WW ⟨rfl, hbW⟩
   have HBW := Lib.hid (H3.out.1.trans (hbW.mono H3.out.1.size))
   clear hbW H3
   go_wp2_with fail
   go_ret
   exact ⟨rfl, HBW.out⟩
 have hcb := H3.out.2 (w.heap.size, #[.int .i8 c.id.k, .int .i64 c.id.n, .string c.id.s, .string c.id.u, .slice c.id.ao c.id.l.length c.id.cap, .int .i8 c.ki, .int .i8 c.re, .int .i64 c.sh, .string c.m, .string c.f, .slice c.ao c.an c.ac, .slice c.so c.sn c.sc], 28) (.tail _ (.tail _ (.head _)))
 have j10 : w3.cell? ⟨w.heap.size, 10, none⟩ = some (.slice c.ao c.an c.ac) := (cells_at hcb 10 _ rfl).1
 clear hcb
 by_cases h20 : 20 < (c.an : Int)
 · have hd : decide (20 < (c.an : Int)) = true := by simp [h20]
   clear h20
   go_wp2_with fail
   refine (wakes_any w3 (keepCells HX.out.1 H3.out.1)).mono ?_
   rintro e WW ⟨rfl, hbW⟩
   have HBW := Lib.hid (H3.out.1.trans (hbW.mono H3.out.1.size))
   clear hbW H3
   go_wp2_with fail
   go_ret
   exact ⟨rfl, HBW.out⟩
 have hd : decide (20 < (c.an : Int)) = false := by simp [h20]
 have HAL := Lib.hid (show EA.length ≤ 100000 by have := HAN.out; omega)
 have HG := Lib.hid (galls_any M00 w3 c.ar EA (HX.out.2.2.1.keep H3.out.1))
 change Hid (Calls Tryz.prog 6 #[.slice c.ao c.an c.ac] w3 (SomeB w3)) at HG
 clear h20
 go_wp2_with fail
 refine HG.out.mono ?_
 clear HG j10 hd
 rintro e w4 ⟨b, rfl, hb4⟩
 have H4 := Lib.hid (H3.out.keep hb4)
 clear hb4 H3
 cases b
 rotate_left
 · skip
   go_wp2_with fail
   refine (wakes_any w4 (keepCells HX.out.1 H4.out.1)).mono ?_
   rintro e WW ⟨rfl, hbW⟩
   have HBW := Lib.hid (H4.out.1.trans (hbW.mono H4.out.1.size))
   clear hbW H4
   go_wp2_with fail
   go_ret
   exact ⟨rfl, HBW.out⟩
 have hcb := H4.out.2 (w.heap.size, #[.int .i8 c.id.k, .int .i64 c.id.n, .string c.id.s, .string c.id.u, .slice c.id.ao c.id.l.length c.id.cap, .int .i8 c.ki, .int .i8 c.re, .int .i64 c.sh, .string c.m, .string c.f, .slice c.ao c.an c.ac, .slice c.so c.sn c.sc], 28) (.tail _ (.tail _ (.head _)))
 have j11 : w4.cell? ⟨w.heap.size, 11, none⟩ = some (.slice c.so c.sn c.sc) := (cells_at hcb 11 _ rfl).1
 clear hcb
 by_cases hs0 : c.sn = 0
 rotate_left
 · have hd : decide (0 < (c.sn : Int)) = true := by simp; omega
   have hd2 : 0 < c.sn := by omega
   clear hs0
   go_wp2_with fail
   refine (wakes_any w4 (keepCells HX.out.1 H4.out.1)).mono ?_
   rintro e WW ⟨rfl, hbW⟩
   have HBW := Lib.hid (H4.out.1.trans (hbW.mono H4.out.1.size))
   clear hbW H4
   go_wp2_with fail
   go_ret
   exact ⟨rfl, HBW.out⟩
 have HSN := Lib.hid hs0
 rw [hs0] at j11
 clear hs0
 have hP5 : ((w.heap.size, #[.int .i8 c.id.k, .int .i64 c.id.n, .string c.id.s, .string c.id.u, .slice c.id.ao c.id.l.length c.id.cap, .int .i8 c.ki, .int .i8 c.re, .int .i64 c.sh, .string c.m, .string c.f, .slice c.ao c.an c.ac, .slice c.so c.sn c.sc], 28) : BxT) ∈ [((w.heap.size + 2, #[.int .i8 x.k, .int .i64 x.n, .string x.s, .string x.u, .slice x.ao x.l.length x.cap], 25) : BxT), (w.heap.size + 1, (flL a m).toArray, 39), (w.heap.size, #[.int .i8 c.id.k, .int .i64 c.id.n, .string c.id.s, .string c.id.u, .slice c.id.ao c.id.l.length c.id.cap, .int .i8 c.ki, .int .i8 c.re, .int .i64 c.sh, .string c.m, .string c.f, .slice c.ao c.an c.ac, .slice c.so c.sn c.sc], 28)] := .tail _ (.tail _ (.head _))
 go_wp2_with (with_reducible refine stop_op (o := ⟨_, .load 28 (.tmp 5), _, _, _, _⟩) ?_)
 refine Lib.hid ?_
 refine wpList_load_row (o := ⟨_, _, _, _, _, _⟩) rfl 28 (.tmp 5) rfl w.heap.size rfl 28 #[.int .i8 c.id.k, .int .i64 c.id.n, .string c.id.s, .string c.id.u, .slice c.id.ao c.id.l.length c.id.cap, .int .i8 c.ki, .int .i8 c.re, .int .i64 c.sh, .string c.m, .string c.f, .slice c.ao c.an c.ac, .slice c.so c.sn c.sc] (0, 0) _ (H4.out.2 (w.heap.size, #[.int .i8 c.id.k, .int .i64 c.id.n, .string c.id.s, .string c.id.u, .slice c.id.ao c.id.l.length c.id.cap, .int .i8 c.ki, .int .i8 c.re, .int .i64 c.sh, .string c.m, .string c.f, .slice c.ao c.an c.ac, .slice c.so c.sn c.sc], 28) (.tail _ (.tail _ (.head _)))) Tryz.underlying28 rfl (infoCH rfl) ?_
 clear j11 hP5
 go_wp2_with fail
 refine (new_any M00 w4 (fun _ h => h.elim) (keepCells HX.out.1 H4.out.1) c EA (HX.out.2.2.1.keep H4.out.1) HX.out.2.2.2.1 pid).mono ?_
 rintro e w5 hnew
 obtain ⟨hb5, k, p, dl, en, ao, an, ac, rfl, hnk⟩ := hnew.toU
 have H5 := Lib.hid (H4.out.keep hb5)
 have HN5 := Lib.hid hnk
 clear hb5 hnk hnew H4
 go_wp2_with (with_reducible refine stop_op (o := ⟨_, .store 39 (.tmp 11) (.tmp 62), _, _, _, _⟩) ?_)
 refine Lib.hid ?_
 refine wpList_store_new (o := ⟨none, _, _, _, _, _⟩) rfl 39 (.tmp 11) (.tmp 62) rfl (nfC k p dl ao an ac).toArray rfl rfl (infoFR rfl) rfl (all_oneCell_toArray (nfC_one _ _ _ _ _ _)) ?_
 have hbs := (Below.refl w5.heap.size w5).alloc (Nat.le_refl _) (.cells (nfC k p dl ao an ac).toArray 39)
 have hns := heap_new w5 (.cells (nfC k p dl ao an ac).toArray 39)
 have H6 := Lib.hid ((H5.out.keep hbs).cons hns)
 have HN6 := Lib.hid (HN5.out.keep hbs)
 clear hbs hns H5 HN5
 generalize w5.alloc (.cells (nfC k p dl ao an ac).toArray 39) = w6 at *
 generalize w5.heap.size = p11 at *
 go_wp2_with (with_reducible refine stop_op (o := ⟨_, .load 28 (.tmp 5), _, _, _, _⟩) ?_)
 refine Lib.hid ?_
 refine wpList_load_row (o := ⟨_, _, _, _, _, _⟩) rfl 28 (.tmp 5) rfl w.heap.size rfl 28 #[.int .i8 c.id.k, .int .i64 c.id.n, .string c.id.s, .string c.id.u, .slice c.id.ao c.id.l.length c.id.cap, .int .i8 c.ki, .int .i8 c.re, .int .i64 c.sh, .string c.m, .string c.f, .slice c.ao c.an c.ac, .slice c.so c.sn c.sc] (0, 0) _ (H6.out.2 (w.heap.size, #[.int .i8 c.id.k, .int .i64 c.id.n, .string c.id.s, .string c.id.u, .slice c.id.ao c.id.l.length c.id.cap, .int .i8 c.ki, .int .i8 c.re, .int .i64 c.sh, .string c.m, .string c.f, .slice c.ao c.an c.ac, .slice c.so c.sn c.sc], 28) (.tail _ (.tail _ (.tail _ (.head _))))) Tryz.underlying28 rfl (infoCH rfl) ?_
 go_wp2_with fail
 refine (rnew_any M00 w6 (fun _ h => h.elim) c EA (HX.out.2.2.1.keep H6.out.1) HX.out.2.2.2.1 pid).mono ?_
 rintro e w7 hnew
 obtain ⟨hb7, k', p', dl', en', ao', an', ac', rfl, hnk⟩ := hnew.toU
 have H7 := Lib.hid (H6.out.keep hb7)
 have hns := nwk_same (EA := EA) (HN6.out.keep hb7) hnk (HX.out.2.1.keep H7.out.1) (HX.out.2.2.1.keep H7.out.1) HAL.out HSN.out
 obtain ⟨rfl, rfl, rfl, rfl, hrec⟩ := hns
 have HRC := Lib.hid (show RcA w7 ao an ac ao' an' ac' from hrec)
 clear hb7 hnk hnew H6 HN6 hrec
 go_wp2_with (with_reducible refine stop_op (o := ⟨_, .store 39 (.tmp 13) (.tmp 68), _, _, _, _⟩) ?_)
 refine Lib.hid ?_
 refine wpList_store_new (o := ⟨none, _, _, _, _, _⟩) rfl 39 (.tmp 13) (.tmp 68) rfl (nfC k p dl ao' an' ac').toArray rfl rfl (infoFR rfl) rfl (all_oneCell_toArray (nfC_one _ _ _ _ _ _)) ?_
 have hbs := (Below.refl w7.heap.size w7).alloc (Nat.le_refl _) (.cells (nfC k p dl ao' an' ac').toArray 39)
 have hns := heap_new w7 (.cells (nfC k p dl ao' an' ac').toArray 39)
 have HRC8 := Lib.hid (HRC.out.keep hbs)
 have H8 := Lib.hid ((H7.out.keep hbs).cons hns)
 clear hbs hns H7 HRC
 generalize w7.alloc (.cells (nfC k p dl ao' an' ac').toArray 39) = w8 at *
 generalize w7.heap.size = p13 at *
 go_wp2_with (with_reducible refine stop_op (o := ⟨_, .load 39 (.tmp 6), _, _, _, _⟩) ?_)
 refine Lib.hid ?_
 refine wpList_load_row (o := ⟨_, _, _, _, _, _⟩) rfl 39 (.tmp 6) rfl (w.heap.size + 1) rfl 39 (flL a m).toArray (0, 0) _ (H8.out.2 (w.heap.size + 1, (flL a m).toArray, 39) (.tail _ (.tail _ (.tail _ (.head _))))) Tryz.underlying39 rfl (infoFR rfl) ?_
 go_wp2_with fail
 refine (state2_any w8 a m).mono ?_
 have HST := Lib.hid (st_ok HX.out.2.2.2.2.1)
 generalize hst : st2T a m = st at *
 generalize hsb : st2B a m = sb at *
 have HSE := Lib.hid (And.intro hst hsb)
 clear hst hsb
 rintro e w9 ⟨he, hb9⟩
 rw [HSE.out.1, HSE.out.2] at he
 subst he
 have H9 := Lib.hid (H8.out.keep hb9)
 have HRC9 := Lib.hid (HRC8.out.keep hb9)
 clear hb9 H8 HRC8
 simp only [TE.cells, TE.lv]
 go_wp2_with (with_reducible refine stop_op (o := ⟨_, .store 25 (.tmp 15) (.tmp 73), _, _, _, _⟩) ?_)
 refine Lib.hid ?_
 refine wpList_store_new (o := ⟨none, _, _, _, _, _⟩) rfl 25 (.tmp 15) (.tmp 73) rfl #[.int .i8 st.k, .int .i64 st.n, .string st.s, .string st.u, .slice st.ao st.l.length st.cap] rfl rfl (infoTM' _ rfl) rfl (by simp [Value.oneCell']) ?_
 have hbs := (Below.refl w9.heap.size w9).alloc (Nat.le_refl _) (.cells #[.int .i8 st.k, .int .i64 st.n, .string st.s, .string st.u, .slice st.ao st.l.length st.cap] 25)
 have hns := heap_new w9 (.cells #[.int .i8 st.k, .int .i64 st.n, .string st.s, .string st.u, .slice st.ao st.l.length st.cap] 25)
 have H10 := Lib.hid ((H9.out.keep hbs).cons hns)
 have HRC10 := Lib.hid (HRC9.out.keep hbs)
 clear hbs hns H9 HRC9
 generalize w9.alloc (.cells #[.int .i8 st.k, .int .i64 st.n, .string st.s, .string st.u, .slice st.ao st.l.length st.cap] 25) = w10 at *
 generalize w9.heap.size = p15 at *
 go_wp2_with (with_reducible refine stop_op (o := ⟨_, .load 39 (.tmp 6), _, _, _, _⟩) ?_)
 refine Lib.hid ?_
 refine wpList_load_row (o := ⟨_, _, _, _, _, _⟩) rfl 39 (.tmp 6) rfl (w.heap.size + 1) rfl 39 (flL a m).toArray (0, 0) _ (H10.out.2 (w.heap.size + 1, (flL a m).toArray, 39) ((.tail _ (.tail _ (.tail _ (.tail _ (.head _))))))) Tryz.underlying39 rfl (infoFR rfl) ?_
 go_wp2_with fail
 refine (rstate_any w10 a m).mono ?_
 rintro e w11 ⟨he, hb11⟩
 rw [HSE.out.1, HSE.out.2] at he
 subst he
 have H11 := Lib.hid (H10.out.keep hb11)
 have HRC11 := Lib.hid (HRC10.out.keep hb11)
 clear hb11 H10 HRC10
 simp only [TE.cells, TE.lv]
 go_wp2_with (with_reducible refine stop_op (o := ⟨_, .store 25 (.tmp 17) (.tmp 78), _, _, _, _⟩) ?_)
 refine Lib.hid ?_
 refine wpList_store_new (o := ⟨none, _, _, _, _, _⟩) rfl 25 (.tmp 17) (.tmp 78) rfl #[.int .i8 st.k, .int .i64 st.n, .string st.s, .string st.u, .slice st.ao st.l.length st.cap] rfl rfl (infoTM' _ rfl) rfl (by simp [Value.oneCell']) ?_
 have hbs := (Below.refl w11.heap.size w11).alloc (Nat.le_refl _) (.cells #[.int .i8 st.k, .int .i64 st.n, .string st.s, .string st.u, .slice st.ao st.l.length st.cap] 25)
 have hns := heap_new w11 (.cells #[.int .i8 st.k, .int .i64 st.n, .string st.s, .string st.u, .slice st.ao st.l.length st.cap] 25)
 have H12 := Lib.hid ((H11.out.keep hbs).cons hns)
 have HRC12 := Lib.hid (HRC11.out.keep hbs)
 clear hbs hns H11 HRC11
 generalize w11.alloc (.cells #[.int .i8 st.k, .int .i64 st.n, .string st.s, .string st.u, .slice st.ao st.l.length st.cap] 25) = w12 at *
 generalize w11.heap.size = p17 at *
 go_wp2_with fail
 refine (next_any M00 w12 (fun _ h => h.elim) (keepCells HX.out.1 H12.out.1) _ ML pid (HX.out.2.2.2.2.2.1.keep H12.out.1).ml HX.out.2.2.2.2.2.2.1).mono ?_
 rintro e w13 ⟨kk, f1, m1, rfl, hn1, hf1, hm1, hb13⟩
 have H13 := Lib.hid (H12.out.keep hb13)
 have HRC13 := Lib.hid (HRC12.out.keep hb13)
 have HN1 := Lib.hid (And.intro hn1 (And.intro hf1 hm1))
 clear hb13 H12 HRC12 hn1 hf1 hm1
 simp only [TE.cells, TE.lv]
 go_wp2_with (with_reducible refine stop_op (o := ⟨_, .store 25 (.tmp 20) (.tmp 85), _, _, _, _⟩) ?_)
 refine Lib.hid ?_
 have h2r := two_rows w13 #[.int .i8 f1.k, .int .i64 f1.n, .string f1.s, .string f1.u, .slice f1.ao f1.l.length f1.cap] #[.int .i8 m1.k, .int .i64 m1.n, .string m1.s, .string m1.u, .slice m1.ao m1.l.length m1.cap]
 refine wpList_store_row (o := ⟨none, _, _, _, _, _⟩) rfl 25 (.tmp 20) (.tmp 85) rfl w13.heap.size #[.int .i8 f1.k, .int .i64 f1.n, .string f1.s, .string f1.u, .slice f1.ao f1.l.length f1.cap] rfl rfl 25 zT h2r.1 (infoTM' _ rfl) rfl (by simp [Value.oneCell']) ?_
 go_wp2_with (with_reducible refine stop_op (o := ⟨_, .store 25 (.tmp 21) (.tmp 86), _, _, _, _⟩) ?_)
 refine Lib.hid ?_
 refine wpList_store_row (o := ⟨none, _, _, _, _, _⟩) rfl 25 (.tmp 21) (.tmp 86) rfl (w13.heap.size + 1) #[.int .i8 m1.k, .int .i64 m1.n, .string m1.s, .string m1.u, .slice m1.ao m1.l.length m1.cap] rfl rfl 25 zT h2r.2.1 (infoTM' _ rfl) rfl (by simp [Value.oneCell']) ?_
 have hbs := h2r.2.2.1
 have hns := h2r.2.2.2
 clear h2r
 generalize (((w13.alloc (.cells zT 25)).alloc (.cells zT 25)).setRow w13.heap.size #[.int .i8 f1.k, .int .i64 f1.n, .string f1.s, .string f1.u, .slice f1.ao f1.l.length f1.cap]).setRow (w13.heap.size + 1) #[.int .i8 m1.k, .int .i64 m1.n, .string m1.s, .string m1.u, .slice m1.ao m1.l.length m1.cap] = w14 at *
 have H14 := Lib.hid (((H13.out.keep hbs).cons hns.1).cons hns.2)
 have HRC14 := Lib.hid (HRC13.out.keep hbs)
 have HN14 := Lib.hid (And.intro HN1.out.1 (And.intro (HN1.out.2.1.keep hbs) (HN1.out.2.2.keep hbs)))
 clear hbs hns H13 HRC13 HN1
 generalize w13.heap.size = p20 at *
 go_wp2_with fail
 refine (rnext_any M00 w14 (fun _ h => h.elim) _ ML pid (HX.out.2.2.2.2.2.1.keep H14.out.1).ml HX.out.2.2.2.2.2.2.1).mono ?_
 rintro e w15 ⟨kk2, f2, m2, rfl, hn2, hf2, hm2, hb15⟩
 obtain ⟨rfl, hft, hmt⟩ := nextR_det HN14.out.1 hn2
 have H15 := Lib.hid (H14.out.keep hb15)
 have HRC15 := Lib.hid (HRC14.out.keep hb15)
 have HN15 := Lib.hid (And.intro (And.intro (HN14.out.2.1.keep hb15) hf2) (And.intro (And.intro (HN14.out.2.2.keep hb15) hm2) (And.intro hft hmt)))
 clear hb15 H14 HRC14 HN14 hn2 hf2 hm2 hft hmt
 simp only [TE.cells, TE.lv]
 go_wp2_with (with_reducible refine stop_op (o := ⟨_, .store 25 (.tmp 23) (.tmp 92), _, _, _, _⟩) ?_)
 refine Lib.hid ?_
 have h2r := two_rows w15 #[.int .i8 f2.k, .int .i64 f2.n, .string f2.s, .string f2.u, .slice f2.ao f2.l.length f2.cap] #[.int .i8 m2.k, .int .i64 m2.n, .string m2.s, .string m2.u, .slice m2.ao m2.l.length m2.cap]
 refine wpList_store_row (o := ⟨none, _, _, _, _, _⟩) rfl 25 (.tmp 23) (.tmp 92) rfl w15.heap.size #[.int .i8 f2.k, .int .i64 f2.n, .string f2.s, .string f2.u, .slice f2.ao f2.l.length f2.cap] rfl rfl 25 zT h2r.1 (infoTM' _ rfl) rfl (by simp [Value.oneCell']) ?_
 go_wp2_with (with_reducible refine stop_op (o := ⟨_, .store 25 (.tmp 24) (.tmp 93), _, _, _, _⟩) ?_)
 refine Lib.hid ?_
 refine wpList_store_row (o := ⟨none, _, _, _, _, _⟩) rfl 25 (.tmp 24) (.tmp 93) rfl (w15.heap.size + 1) #[.int .i8 m2.k, .int .i64 m2.n, .string m2.s, .string m2.u, .slice m2.ao m2.l.length m2.cap] rfl rfl 25 zT h2r.2.1 (infoTM' _ rfl) rfl (by simp [Value.oneCell']) ?_
 have hbs := h2r.2.2.1
 have hns := h2r.2.2.2
 clear h2r
 generalize (((w15.alloc (.cells zT 25)).alloc (.cells zT 25)).setRow w15.heap.size #[.int .i8 f2.k, .int .i64 f2.n, .string f2.s, .string f2.u, .slice f2.ao f2.l.length f2.cap]).setRow (w15.heap.size + 1) #[.int .i8 m2.k, .int .i64 m2.n, .string m2.s, .string m2.u, .slice m2.ao m2.l.length m2.cap] = w16 at *
 have H16 := Lib.hid (((H15.out.keep hbs).cons hns.1).cons hns.2)
 have HRC16 := Lib.hid (HRC15.out.keep hbs)
 have HN16 := Lib.hid (And.intro (And.intro (HN15.out.1.1.keep hbs) (HN15.out.1.2.keep hbs)) (And.intro (And.intro (HN15.out.2.1.1.keep hbs) (HN15.out.2.1.2.keep hbs)) HN15.out.2.2))
 clear hbs hns H15 HRC15 HN15
 generalize w15.heap.size = p23 at *
 go_wp2_with fail
 have hdr : Below w16.heap.size w16 w16.drew := (Below.refl _ _).drew
 have H17 := Lib.hid (H16.out.keep hdr)
 have HRC17 := Lib.hid (HRC16.out.keep hdr)
 have HT17 := Lib.hid (And.intro (And.intro (HN16.out.1.1.keep hdr) (HN16.out.1.2.keep hdr)) (And.intro (And.intro (HN16.out.2.1.1.keep hdr) (HN16.out.2.1.2.keep hdr)) HN16.out.2.2))
 have hS : SyQ p11 p13 p15 p17 p20 p23 (w.heap.size + 2) (nfC k p dl ao an ac).toArray (nfC k p dl ao' an' ac').toArray st f1 m1 f2 m2 x w16.drew := ⟨(H17.out.2 (p11, (nfC k p dl ao an ac).toArray, 39) (.tail _ (.tail _ (.tail _ (.tail _ (.tail _ (.tail _ (.tail _ (.head _))))))))), (H17.out.2 (p13, (nfC k p dl ao' an' ac').toArray, 39) (.tail _ (.tail _ (.tail _ (.tail _ (.tail _ (.tail _ (.head _)))))))), (H17.out.2 (p15, #[.int .i8 st.k, .int .i64 st.n, .string st.s, .string st.u, .slice st.ao st.l.length st.cap], 25) (.tail _ (.tail _ (.tail _ (.tail _ (.tail _ (.head _))))))), (H17.out.2 (p17, #[.int .i8 st.k, .int .i64 st.n, .string st.s, .string st.u, .slice st.ao st.l.length st.cap], 25) (.tail _ (.tail _ (.tail _ (.tail _ (.head _)))))), (H17.out.2 (p20, #[.int .i8 f1.k, .int .i64 f1.n, .string f1.s, .string f1.u, .slice f1.ao f1.l.length f1.cap], 25) (.tail _ (.tail _ (.tail _ (.head _))))), (H17.out.2 (p20 + 1, #[.int .i8 m1.k, .int .i64 m1.n, .string m1.s, .string m1.u, .slice m1.ao m1.l.length m1.cap], 25) (.tail _ (.tail _ (.head _)))), (H17.out.2 (p23, #[.int .i8 f2.k, .int .i64 f2.n, .string f2.s, .string f2.u, .slice f2.ao f2.l.length f2.cap], 25) (.tail _ (.head _))), (H17.out.2 (p23 + 1, #[.int .i8 m2.k, .int .i64 m2.n, .string m2.s, .string m2.u, .slice m2.ao m2.l.length m2.cap], 25) (.head _)), (H17.out.2 (w.heap.size + 2, #[.int .i8 x.k, .int .i64 x.n, .string x.s, .string x.u, .slice x.ao x.l.length x.cap], 25) (.tail _ (.tail _ (.tail _ (.tail _ (.tail _ (.tail _ (.tail _ (.tail _ (.head _))))))))))⟩
 clear hdr H16 HRC16 HN16
 refine region_plan (SyQ p11 p13 p15 p17 p20 p23 (w.heap.size + 2) (nfC k p dl ao an ac).toArray (nfC k p dl ao' an' ac').toArray st f1 m1 f2 m2 x) [(0, 0), (1, 0), (2, 1), (3, 0), (4, 0), (5, 0), (6, 0), (7, 0), (8, 0), (9, 0), (10, 0), (11, 0), (12, 1), (13, 0), (14, 0), (15, 0), (16, 0), (17, 0), (18, 0), (19, 0), (20, 0), (21, 0), (22, 0), (23, 0), (24, 0), (25, 0), (26, 0), (27, 0), (28, 1), (29, 0), (30, 0), (31, 0), (32, 0), (33, 0), (34, 1), (35, 0), (36, 0), (37, 0), (38, 0), (39, 0), (41, 0), (42, 0), (40, 1), (43, 1), (44, 1), (45, 0), (46, 0)] (by kernel_rfl) (by kernel_rfl) (by kernel_rfl) hS ?_
 generalize w16.drew = WD at *
 refine plan_take rfl ?_ (fun wS hSw => exec_row 39 (.tmp 11) rfl p11 rfl (nfC k p dl ao an ac).toArray 39 (0, 0) _ hSw.1 Tryz.underlying39 rfl (infoFR rfl)) ?_
 focus (rfl)
 (try simp only [Act.put, List.setIfInBounds_toArray, List.set_cons_zero, List.set_cons_succ])
 refine plan_take rfl ?_ (fun wS hSw => exec_row 39 (.tmp 13) rfl p13 rfl (nfC k p dl ao' an' ac').toArray 39 (0, 0) _ hSw.2.1 Tryz.underlying39 rfl (infoFR rfl)) ?_
 focus (rfl)
 (try simp only [Act.put, List.setIfInBounds_toArray, List.set_cons_zero, List.set_cons_succ])
 refine plan_run rfl ?_ (fun K hK => ?_)
 focus (rfl)
 go_simp
 refine (sameframe19_nf WD k p dl ao ao' an ac an' ac' HRC17.out).mono ?_
 rintro e W1 ⟨rfl, hb1⟩
 have hS1 := hS.keep hb1
 have HB1 := Lib.hid hb1
 refine hK.out _ _ hS1 ?_
 clear hK K 
 (try simp only [Act.put, List.setIfInBounds_toArray, List.set_cons_zero, List.set_cons_succ])
 clear hS hb1
 iterate 7 (first | (refine plan_skip rfl ?_ ?_; (focus (rfl)); (try simp only [Act.put, List.setIfInBounds_toArray, List.set_cons_zero, List.set_cons_succ])) | (refine plan_take (v := ?_) rfl ?_ (fun w hSw => ?_) ?_; rotate_left; (focus (rfl)); (focus (unfold SyQ at hSw; (go_simp <;> with_reducible rfl))); (try simp only [Act.put, List.setIfInBounds_toArray, List.set_cons_zero, List.set_cons_succ])))
 refine plan_take rfl ?_ (fun wS hSw => exec_row 25 (.tmp 15) rfl p15 rfl #[.int .i8 st.k, .int .i64 st.n, .string st.s, .string st.u, .slice st.ao st.l.length st.cap] 25 (0, 0) _ hSw.2.2.1 Tryz.underlying25 rfl (infoTM' _ rfl)) ?_
 focus (rfl)
 (try simp only [Act.put, List.setIfInBounds_toArray, List.set_cons_zero, List.set_cons_succ])
 refine plan_take rfl ?_ (fun wS hSw => exec_row 25 (.tmp 17) rfl p17 rfl #[.int .i8 st.k, .int .i64 st.n, .string st.s, .string st.u, .slice st.ao st.l.length st.cap] 25 (0, 0) _ hSw.2.2.2.1 Tryz.underlying25 rfl (infoTM' _ rfl)) ?_
 focus (rfl)
 (try simp only [Act.put, List.setIfInBounds_toArray, List.set_cons_zero, List.set_cons_succ])
 refine plan_run rfl ?_ (fun K hK => ?_)
 focus (rfl)
 go_simp
 refine (same_te ((HST.out.keep H17.out.1).keep HB1.out) ((HST.out.keep H17.out.1).keep HB1.out) rfl).mono ?_
 rintro e W2 ⟨rfl, hb2⟩
 have hS2 := hS1.keep hb2
 have HB2 := Lib.hid (HB1.out.trans (hb2.mono HB1.out.size))
 refine hK.out _ _ hS2 ?_
 clear hK K 
 (try simp only [Act.put, List.setIfInBounds_toArray, List.set_cons_zero, List.set_cons_succ])
 clear hS1 hb2 HB1
 iterate 13 (first | (refine plan_skip rfl ?_ ?_; (focus (rfl)); (try simp only [Act.put, List.setIfInBounds_toArray, List.set_cons_zero, List.set_cons_succ])) | (refine plan_take (v := ?_) rfl ?_ (fun w hSw => ?_) ?_; rotate_left; (focus (rfl)); (focus (unfold SyQ at hSw; (go_simp <;> with_reducible rfl))); (try simp only [Act.put, List.setIfInBounds_toArray, List.set_cons_zero, List.set_cons_succ])))
 refine plan_take rfl ?_ (fun wS hSw => exec_row 25 (.tmp 20) rfl p20 rfl #[.int .i8 f1.k, .int .i64 f1.n, .string f1.s, .string f1.u, .slice f1.ao f1.l.length f1.cap] 25 (0, 0) _ hSw.2.2.2.2.1 Tryz.underlying25 rfl (infoTM' _ rfl)) ?_
 focus (rfl)
 (try simp only [Act.put, List.setIfInBounds_toArray, List.set_cons_zero, List.set_cons_succ])
 refine plan_take rfl ?_ (fun wS hSw => exec_row 25 (.tmp 23) rfl p23 rfl #[.int .i8 f2.k, .int .i64 f2.n, .string f2.s, .string f2.u, .slice f2.ao f2.l.length f2.cap] 25 (0, 0) _ hSw.2.2.2.2.2.2.1 Tryz.underlying25 rfl (infoTM' _ rfl)) ?_
 focus (rfl)
 (try simp only [Act.put, List.setIfInBounds_toArray, List.set_cons_zero, List.set_cons_succ])
 refine plan_run rfl ?_ (fun K hK => ?_)
 focus (rfl)
 go_simp
 refine (same_te (HT17.out.1.1.keep HB2.out) (HT17.out.1.2.keep HB2.out) HT17.out.2.2.1).mono ?_
 rintro e W3 ⟨rfl, hb3⟩
 have hS3 := hS2.keep hb3
 have HB3 := Lib.hid (HB2.out.trans (hb3.mono HB2.out.size))
 refine hK.out _ _ hS3 ?_
 clear hK K 
 (try simp only [Act.put, List.setIfInBounds_toArray, List.set_cons_zero, List.set_cons_succ])
 clear hS2 hb3 HB2
 iterate 3 (first | (refine plan_skip rfl ?_ ?_; (focus (rfl)); (try simp only [Act.put, List.setIfInBounds_toArray, List.set_cons_zero, List.set_cons_succ])) | (refine plan_take (v := ?_) rfl ?_ (fun w hSw => ?_) ?_; rotate_left; (focus (rfl)); (focus (unfold SyQ at hSw; (go_simp <;> with_reducible rfl))); (try simp only [Act.put, List.setIfInBounds_toArray, List.set_cons_zero, List.set_cons_succ])))
 refine plan_take rfl ?_ (fun wS hSw => exec_row 25 (.tmp 21) rfl (p20 + 1) rfl #[.int .i8 m1.k, .int .i64 m1.n, .string m1.s, .string m1.u, .slice m1.ao m1.l.length m1.cap] 25 (0, 0) _ hSw.2.2.2.2.2.1 Tryz.underlying25 rfl (infoTM' _ rfl)) ?_
 focus (rfl)
 (try simp only [Act.put, List.setIfInBounds_toArray, List.set_cons_zero, List.set_cons_succ])
 refine plan_take rfl ?_ (fun wS hSw => exec_row 25 (.tmp 24) rfl (p23 + 1) rfl #[.int .i8 m2.k, .int .i64 m2.n, .string m2.s, .string m2.u, .slice m2.ao m2.l.length m2.cap] 25 (0, 0) _ hSw.2.2.2.2.2.2.2.1 Tryz.underlying25 rfl (infoTM' _ rfl)) ?_
 focus (rfl)
 (try simp only [Act.put, List.setIfInBounds_toArray, List.set_cons_zero, List.set_cons_succ])
 refine plan_run rfl ?_ (fun K hK => ?_)
 focus (rfl)
 go_simp
 refine (same_te (HT17.out.2.1.1.keep HB3.out) (HT17.out.2.1.2.keep HB3.out) HT17.out.2.2.2).mono ?_
 rintro e W4 ⟨rfl, hb4⟩
 have hS4 := hS3.keep hb4
 have HB4 := Lib.hid (HB3.out.trans (hb4.mono HB3.out.size))
 refine hK.out _ _ hS4 ?_
 clear hK K 
 (try simp only [Act.put, List.setIfInBounds_toArray, List.set_cons_zero, List.set_cons_succ])
 clear hS3 hb4 HB3
 iterate 4 (first | (refine plan_skip rfl ?_ ?_; (focus (rfl)); (try simp only [Act.put, List.setIfInBounds_toArray, List.set_cons_zero, List.set_cons_succ])) | (refine plan_take (v := ?_) rfl ?_ (fun w hSw => ?_) ?_; rotate_left; (focus (rfl)); (focus (unfold SyQ at hSw; (go_simp <;> with_reducible rfl))); (try simp only [Act.put, List.setIfInBounds_toArray, List.set_cons_zero, List.set_cons_succ])))
 refine plan_take rfl ?_ (fun wS hSw => exec_row 25 (.tmp 9) rfl (w.heap.size + 2) rfl #[.int .i8 x.k, .int .i64 x.n, .string x.s, .string x.u, .slice x.ao x.l.length x.cap] 25 (0, 0) _ hSw.2.2.2.2.2.2.2.2 Tryz.underlying25 rfl (infoTM' _ rfl)) ?_
 focus (rfl)
 (try simp only [Act.put, List.setIfInBounds_toArray, List.set_cons_zero, List.set_cons_succ])
 iterate 1 (first | (refine plan_skip rfl ?_ ?_; (focus (rfl)); (try simp only [Act.put, List.setIfInBounds_toArray, List.set_cons_zero, List.set_cons_succ])) | (refine plan_take (v := ?_) rfl ?_ (fun w hSw => ?_) ?_; rotate_left; (focus (rfl)); (focus (unfold SyQ at hSw; (go_simp <;> with_reducible rfl))); (try simp only [Act.put, List.setIfInBounds_toArray, List.set_cons_zero, List.set_cons_succ])))
 refine plan_take rfl ?_ (fun wS hSw => exec_row 25 (.tmp 9) rfl (w.heap.size + 2) rfl #[.int .i8 x.k, .int .i64 x.n, .string x.s, .string x.u, .slice x.ao x.l.length x.cap] 25 (0, 0) _ hSw.2.2.2.2.2.2.2.2 Tryz.underlying25 rfl (infoTM' _ rfl)) ?_
 focus (rfl)
 (try simp only [Act.put, List.setIfInBounds_toArray, List.set_cons_zero, List.set_cons_succ])
 have HBW4 := Lib.hid (H17.out.1.trans (HB4.out.mono H17.out.1.size))
 have HA : Hid (Calls Tryz.prog 16 #[.int .i64 pid, .agg #[.int .i8 x.k, .int .i64 x.n, .string x.s, .string x.u, .slice x.ao x.l.length x.cap]] W4 (TePost M00 W4 (ackV (sureN pid) x.t))) := Lib.hid (ack_any M00 W4 (fun _ h => h.elim) (keepCells HX.out.1 HBW4.out) pid x (HX.out.2.2.2.2.2.2.2.keep HBW4.out))
 refine plan_run rfl ?_ (fun K hK => ?_)
 focus (rfl)
 go_simp
 refine (HA.out).mono ?_
 rintro e W5 ⟨ya, rfl, hya, hyo, hb5⟩
 have hS5 := hS4.keep hb5
 have HB5 := Lib.hid (HB4.out.trans (hb5.mono HB4.out.size))
 refine hK.out _ _ hS5 ?_
 clear hK K 
 (try simp only [Act.put, List.setIfInBounds_toArray, List.set_cons_zero, List.set_cons_succ])
 have HYA := Lib.hid (And.intro hya hyo)
 clear hS4 hb5 HB4 HA hya hyo HBW4
 have HBW5 := Lib.hid (H17.out.1.trans (HB5.out.mono H17.out.1.size))
 have HA : Hid (Calls Tryz.prog 17 #[.int .i64 pid, .agg #[.int .i8 x.k, .int .i64 x.n, .string x.s, .string x.u, .slice x.ao x.l.length x.cap]] W5 (TePost M00 W5 (ackV (sureN pid) x.t))) := Lib.hid (rack_any M00 W5 (fun _ h => h.elim) pid x (HX.out.2.2.2.2.2.2.2.keep HBW5.out))
 refine plan_run rfl ?_ (fun K hK => ?_)
 focus (rfl)
 go_simp
 refine (HA.out).mono ?_
 rintro e W6 ⟨yr, rfl, hyr, hyo, hb6⟩
 have hS6 := hS5.keep hb6
 have HB6 := Lib.hid (HB5.out.trans (hb6.mono HB5.out.size))
 refine hK.out _ _ hS6 ?_
 clear hK K 
 (try simp only [Act.put, List.setIfInBounds_toArray, List.set_cons_zero, List.set_cons_succ])
 have HYR := Lib.hid (And.intro (HYA.out.2.keep hb6) (And.intro hyo (hyr.trans HYA.out.1.symm)))
 clear hS5 hb6 HB5 HA hyr hyo HBW5 HYA
 refine plan_run rfl ?_ (fun K hK => ?_)
 focus (rfl)
 go_simp
 refine (same_te HYR.out.1 HYR.out.2.1 HYR.out.2.2).mono ?_
 rintro e W7 ⟨rfl, hb7⟩
 have hS7 := hS6.keep hb7
 have HB7 := Lib.hid (HB6.out.trans (hb7.mono HB6.out.size))
 refine hK.out _ _ hS7 ?_
 clear hK K 
 (try simp only [Act.put, List.setIfInBounds_toArray, List.set_cons_zero, List.set_cons_succ])
 clear hS6 hb7 HB6 HYR
 iterate 2 (first | (refine plan_skip rfl ?_ ?_; (focus (rfl)); (try simp only [Act.put, List.setIfInBounds_toArray, List.set_cons_zero, List.set_cons_succ])) | (refine plan_take (v := ?_) rfl ?_ (fun w hSw => ?_) ?_; rotate_left; (focus (rfl)); (focus (unfold SyQ at hSw; (go_simp <;> with_reducible rfl))); (try simp only [Act.put, List.setIfInBounds_toArray, List.set_cons_zero, List.set_cons_succ])))
 refine plan_done ?_
 have H18 := Lib.hid (H17.out.keep HB7.out)
 clear hS7 HB7 H17 HRC17 HT17 HST HSE
 go_wp2_with fail
 have HCP := Lib.hid (its_cap HX.out.2.2.2.2.2.1)
 have HB0 := Lib.hid H18.out.1
 clear H18
 go_loopw [25] (fun iv wr => ∃ i : Nat, i ≤ ML.length ∧ iv = .int .i64 i ∧ Hid (Below w.heap.size w wr)) (fun iv _ => ML.length - (intOf iv).toNat)
 case atStart => exact ⟨0, by omega, rfl, HB0⟩
 case round =>
   clear HB0
   obtain ⟨i, hi, rfl, HI⟩ := hrel
   have hc1 := HCP.out.1
   have hc2 := HCP.out.2
   by_cases hlt : i < ML.length
   · obtain ⟨it, hit⟩ : ∃ it, ML[i]? = some it := ⟨ML[i], List.getElem?_eq_getElem hlt⟩
     obtain ⟨b, off, hlo, hia, hix⟩ := its_at HX.out.2.2.2.2.2.1 hit
     have HIA := Lib.hid (And.intro hia hix)
     subst hlo
     obtain ⟨c0, c1, c2, c3, c4, c5⟩ := hia.keep HI.out
     have HK : Hid (Calls Tryz.prog 18 #[.agg #[.int .i8 it.x.k, .int .i64 it.x.n, .string it.x.s, .string it.x.u, .slice it.x.ao it.x.l.length it.x.cap, .bool it.o], .int .i64 pid] wr (AkPost M00 wr it.x.t (ackB it.x.t it.o pid))) := Lib.hid (isack_any M00 wr it pid (hix.keep HI.out) HX.out.2.2.2.2.2.2.1)
     clear hia hix hit
     generalize hab : ackB it.x.t it.o pid = ab at *
     have HAB := Lib.hid hab
     clear hab
     go_wp2_with fail
     refine HK.out.mono ?_
     clear HK
     rintro e v1 ⟨hb1, y, rfl, hyo, hyt⟩
     have H1 := Lib.hid (And.intro (HI.out.trans (hb1.mono HI.out.size)) (And.intro hyo hyt))
     clear hb1 hyo hyt HI c0 c1 c2 c3 c4 c5
     simp only [TE.cells, TE.lv]
     go_wp2_with (with_reducible refine stop_op (o := ⟨_, .store 25 (.tmp 26) (.tmp 154), _, _, _, _⟩) ?_)
     refine Lib.hid ?_
     refine wpList_store_new (o := ⟨none, _, _, _, _, _⟩) rfl 25 (.tmp 26) (.tmp 154) rfl #[.int .i8 y.k, .int .i64 y.n, .string y.s, .string y.u, .slice y.ao y.l.length y.cap] rfl rfl (infoTM' _ rfl) rfl (by simp [Value.oneCell']) ?_
     have hbs := (Below.refl v1.heap.size v1).alloc (Nat.le_refl _) (.cells #[.int .i8 y.k, .int .i64 y.n, .string y.s, .string y.u, .slice y.ao y.l.length y.cap] 25)
     have hns := heap_new v1 (.cells #[.int .i8 y.k, .int .i64 y.n, .string y.s, .string y.u, .slice y.ao y.l.length y.cap] 25)
     have H2 := Lib.hid (And.intro (H1.out.1.trans (hbs.mono H1.out.1.size)) (And.intro (H1.out.2.1.keep hbs) (And.intro H1.out.2.2 hns)))
     clear hbs hns H1
     generalize v1.alloc (.cells #[.int .i8 y.k, .int .i64 y.n, .string y.s, .string y.u, .slice y.ao y.l.length y.cap] 25) = v2 at *
     generalize v1.heap.size = p26 at *
     obtain ⟨c0, c1, c2, c3, c4, c5⟩ := HIA.out.1.keep H2.out.1
     have HK : Hid (Calls Tryz.prog 19 #[.agg #[.int .i8 it.x.k, .int .i64 it.x.n, .string it.x.s, .string it.x.u, .slice it.x.ao it.x.l.length it.x.cap, .bool it.o], .int .i64 pid] v2 (AkPost M00 v2 it.x.t (ackB it.x.t it.o pid))) := Lib.hid (risack_any M00 v2 it pid (HIA.out.2.keep H2.out.1) HX.out.2.2.2.2.2.2.1)
     rw [HAB.out] at HK
     go_wp2_with fail
     refine HK.out.mono ?_
     clear HK
     rintro e v3 ⟨hb3, z, rfl, hzo, hzt⟩
     have H3 := Lib.hid (And.intro (H2.out.1.trans (hb3.mono H2.out.1.size)) (And.intro (H2.out.2.1.keep hb3) (And.intro (keep_heap H2.out.2.2.2 hb3) (And.intro hzo (hzt.trans H2.out.2.2.1.symm)))))
     clear hb3 hzo hzt H2 c0 c1 c2 c3 c4 c5
     simp only [TE.cells, TE.lv]
     go_wp2_with (with_reducible refine stop_op (o := ⟨_, .store 25 (.tmp 28) (.tmp 163), _, _, _, _⟩) ?_)
     refine Lib.hid ?_
     refine wpList_store_new (o := ⟨none, _, _, _, _, _⟩) rfl 25 (.tmp 28) (.tmp 163) rfl #[.int .i8 z.k, .int .i64 z.n, .string z.s, .string z.u, .slice z.ao z.l.length z.cap] rfl rfl (infoTM' _ rfl) rfl (by simp [Value.oneCell']) ?_
     have hbs := (Below.refl v3.heap.size v3).alloc (Nat.le_refl _) (.cells #[.int .i8 z.k, .int .i64 z.n, .string z.s, .string z.u, .slice z.ao z.l.length z.cap] 25)
     have hns := heap_new v3 (.cells #[.int .i8 z.k, .int .i64 z.n, .string z.s, .string z.u, .slice z.ao z.l.length z.cap] 25)
     have H4 := Lib.hid (And.intro (H3.out.1.trans (hbs.mono H3.out.1.size)) (same_te (H3.out.2.1.keep hbs) (H3.out.2.2.2.1.keep hbs) H3.out.2.2.2.2))
     obtain ⟨d0, d1, d2, d3, d4⟩ := BxS.of (x := y) (keep_heap H3.out.2.2.1 hbs)
     obtain ⟨e0, e1, e2, e3, e4⟩ := BxS.of (x := z) hns
     clear hbs hns H3
     generalize v3.alloc (.cells #[.int .i8 z.k, .int .i64 z.n, .string z.s, .string z.u, .slice z.ao z.l.length z.cap] 25) = v4 at *
     generalize v3.heap.size = p28 at *
     go_wp2_with fail
     refine H4.out.2.mono ?_
     rintro e v5 ⟨rfl, hb5⟩
     have H5 := Lib.hid (H4.out.1.trans (hb5.mono H4.out.1.size))
     clear hb5 H4 d0 d1 d2 d3 d4 e0 e1 e2 e3 e4
     cases ab
     · go_wp2_with fail
       go_roundw
       case rel =>
         repeat apply Exists.intro
         refine ⟨?_, rfl⟩
         exact ⟨i + 1, by omega, by go_num, H5⟩
       case measure => simp [intOf]; omega
     · go_wp2_with fail
       go_roundw
       case rel =>
         repeat apply Exists.intro
         refine ⟨?_, rfl⟩
         exact ⟨i + 1, by omega, by go_num, H5⟩
       case measure => simp [intOf]; omega
   · have H5 : Hid (SyB w wr []) := Lib.hid ⟨HI.out, fun b hb => by cases hb⟩
     clear HI
     go_wp2_with fail
     refine (wakes_any wr (keepCells HX.out.1 H5.out.1)).mono ?_
     rintro e WW ⟨rfl, hbW⟩
     have HBW := Lib.hid (H5.out.1.trans (hbW.mono H5.out.1.size))
     clear hbW H5
     go_wp2_with fail
     go_ret
     exact ⟨rfl, HBW.out⟩
theorem child_of2 {H : Type} {enc : TypeId × Value → H} {W : World} {base : Nat} {v0 : Value} {d0 : DataW H} {p0 : List MemPlace} (hv0 : Value.okWide Tryz.prog W .any base 28 v0) (h0 : DataW.Trod enc Tryz.prog W 0 (fun _ => true) true 28 v0 d0 p0) :
   ∃ (c : Ch) (EA : List TE), v0 = .agg c.cells.toArray ∧ TesOk (M0 W) W c.ar EA ∧ c.m.size ≤ 9223372036854775807 ∧ TeOk (M0 W) W c.id := by
 obtain ⟨cs, rfl, hsz⟩ := okWide_struct Tryz.underlying28 hv0
 obtain ⟨fuel, hf⟩ := h0
 obtain ⟨h1, hj⟩ := flat_trod 4 28 chL _ _ _ flat_CH hf
 obtain ⟨u0, n0, y0, c0, -, r0⟩ := hj 0 _ rfl
 obtain ⟨u1, n1, y1, c1, -, r1⟩ := hj 1 _ rfl
 obtain ⟨u2, n2, y2, c2, -, r2⟩ := hj 2 _ rfl
 obtain ⟨u3, n3, y3, c3, -, r3⟩ := hj 3 _ rfl
 obtain ⟨u4, n4, y4, c4, -, r4⟩ := hj 4 _ rfl
 obtain ⟨u5, n5, y5, c5, -, r5⟩ := hj 5 _ rfl
 obtain ⟨u6, n6, y6, c6, -, r6⟩ := hj 6 _ rfl
 obtain ⟨u7, n7, y7, c7, -, r7⟩ := hj 7 _ rfl
 obtain ⟨u8, n8, y8, c8, -, r8⟩ := hj 8 _ rfl
 obtain ⟨u9, n9, y9, c9, -, r9⟩ := hj 9 _ rfl
 obtain ⟨u10, n10, y10, c10, -, r10⟩ := hj 10 _ rfl
 obtain ⟨u11, n11, y11, c11, -, r11⟩ := hj 11 _ rfl
 obtain ⟨a0, rfl, w0⟩ := leaf_int Tryz.underlying22 r0
 obtain ⟨a1, rfl, w1⟩ := leaf_int Tryz.underlying3 r1
 obtain ⟨a2, rfl, w2⟩ := leaf_str Tryz.underlying9 r2
 obtain ⟨a3, rfl, w3⟩ := leaf_str Tryz.underlying9 r3
 obtain ⟨l, hl⟩ := row_of_trod r4
 obtain ⟨x, e0, e1, e2, e3, e4, hx⟩ := te_of ⟨i8_bd w0, bd w1, w2, w3⟩ hl
 obtain ⟨a5, rfl, w5⟩ := leaf_int Tryz.underlying22 r5
 obtain ⟨a6, rfl, w6⟩ := leaf_int Tryz.underlying22 r6
 obtain ⟨a7, rfl, w7⟩ := leaf_int Tryz.underlying3 r7
 obtain ⟨a8, rfl, w8⟩ := leaf_str Tryz.underlying9 r8
 obtain ⟨a9, rfl, w9⟩ := leaf_str Tryz.underlying9 r9
 obtain ⟨E, hE⟩ := tes_of r10
 obtain ⟨ao, ac, e10, -⟩ := hE.slice
 obtain ⟨so, sn, sc, rfl⟩ := leaf_slice Tryz.underlying26 r11
 subst e0 e1 e2 e3 e4 e10
 refine ⟨⟨x, a5, a6, a7, a8, a9, ao, E.length, ac, so, sn, sc⟩, E, ?_, hE, w8, hx⟩
 obtain ⟨cs⟩ := cs
 simp only [Value.cells] at h1 c0 c1 c2 c3 c4 c5 c6 c7 c8 c9 c10 c11
 match cs, h1, c0, c1, c2, c3, c4, c5, c6, c7, c8, c9, c10, c11 with
 | [e0, e1, e2, e3, e4, e5, e6, e7, e8, e9, e10, e11], _, c0, c1, c2, c3, c4, c5, c6, c7, c8, c9, c10, c11 =>
   simp at c0 c1 c2 c3 c4 c5 c6 c7 c8 c9 c10 c11
   subst c0 c1 c2 c3 c4 c5 c6 c7 c8 c9 c10 c11
   rfl
theorem says_row {H : Type} {enc : TypeId × Value → H} (W : World) {base : Nat} {v0 v1 v2 v3 v4 : Value} {d0 d1 d2 d3 d4 : DataW H} {p0 p1 p2 p3 p4 : List MemPlace}
   (hv0 : Value.okWide Tryz.prog W .any base 28 v0) (h0 : DataW.Trod enc Tryz.prog W 0 (fun _ => true) true 28 v0 d0 p0)
   (hv1 : Value.okWide Tryz.prog W .any base 39 v1) (h1 : DataW.Trod enc Tryz.prog W 0 (fun _ => true) true 39 v1 d1 p1)
   (hv2 : Value.okWide Tryz.prog W .any base 40 v2) (h2 : DataW.Trod enc Tryz.prog W 0 (fun _ => true) true 40 v2 d2 p2)
   (hv3 : Value.okWide Tryz.prog W .any base 3 v3) (h3 : DataW.Trod enc Tryz.prog W 0 (fun _ => true) true 3 v3 d3 p3)
   (hv4 : Value.okWide Tryz.prog W .any base 25 v4) (h4 : DataW.Trod enc Tryz.prog W 0 (fun _ => true) true 25 v4 d4 p4)
   (hL : laidMetH Tryz.prog [("pleach/atoms.letters", letD)] W) : Calls Tryz.prog 3 #[v0, v1, v2, v3, v4] W (IsPost W true) := by
 obtain ⟨c, EA, rfl, hE, hm, hid⟩ := child_of2 hv0 h0
 obtain ⟨a, m, RL, rfl, hf⟩ := frame_of hv1 h1
 obtain ⟨_, _, _, rfl⟩ := okWide_slice Tryz.underlying40 hv2
 obtain ⟨f2, hf2⟩ := h2
 obtain ⟨ML, hml⟩ := its_of hf2
 obtain ⟨lo, lc, e2, -⟩ := hml.form
 rw [e2] at hml ⊢
 obtain ⟨p, rfl⟩ := okWide_int Tryz.underlying3 hv3
 obtain ⟨f3, hf3⟩ := h3
 obtain ⟨p', e', hw⟩ := leaf_int Tryz.underlying3 hf3
 injection e' with _ e'
 subst e'
 obtain ⟨f4, t, htv⟩ := term_of_trod hv4 h4
 obtain ⟨k, n, s, u, l, ao, cap, rfl, rfl, hfd, -, -, hrow⟩ := htv.mk'
 obtain ⟨x, rfl, rfl, rfl, rfl, e5, hx⟩ := te_of hfd hrow
 have hxx : (Value.slice ao l.length cap) = .slice x.ao x.l.length x.cap := e5.symm
 rw [hxx]
 exact says_any W (letters_of W hL) c EA (hid.more fun _ h => h.elim) (hE.more fun _ h => h.elim) hm a m RL (hf.chg (Chg.refl (fun _ => False) W) (fun _ h => h.elim) (fun _ h => h.elim)) lo lc ML (hml.chg (Chg.refl (fun _ => False) W) (fun _ h => h.elim) (fun _ h => h.elim)) _ (bd hw) x (hx.more fun _ h => h.elim)
end Go.Proofs.YthpmdeofdlcccaaGreatDoor
