/- spec.words: the names of restarts and strategies. No conditions. -/
/- the writer of specs. Conditions: what is handed over reads; the letters stand; the writer's box is not the letters'. -/
import Derived.Test.YtepfmanbllegiaaDoorMt17
namespace Go.Proofs.YtepfmanbllegiaaDoor
open Go.ChangeShapes Go.WideShapes Go.ChangeAt Go.RowKit
open Go.Maps (Keyed)
set_option linter.unusedVariables false
set_option linter.unusedSimpArgs false
set_option maxRecDepth 100000
theorem wpList_insert_own {H : Type} {P : Program} (w : World) {ops : Array Oper} {rest : List Oper} {o : Oper} {a : Act} {Q : Exit → Act → World → Prop}
    (hg : o.guard = none) (m x v : Operand) (t : TypeId) (hop : o.op = Op.insert t m x v)
    (k e : TypeId) (K : Keyed P k) (ht : P.underlying t = some (.map k e)) (R : Value → Option (DataW H × List MemPlace)) (b n : Nat) (D : DataW H)
    (hm : a.eval m = .map (some b)) (hown : w.ownsMap P k R b n D) (hn : n < maxLen) (key val : Value) (kl : Lit) (hx : a.eval x = key) (hv : a.eval v = val) (hkey : keyOf P k key = some kl)
    (d : DataW H) (ps : List MemPlace) (hval : R val = some (d, ps))
    (hK : ∀ w', w'.ownsMap P k R b (n + 1) (D.put kl d) → w.grownBy w' (some b) → wpList P ops Q rest (a.put o.dst undef) w') :
    wpList P ops Q (o :: rest) a w := by
  refine wpList_plain hg fun K' hK' => ?_
  obtain ⟨w', hrun, r1, r2⟩ := hown.update K ht hn hkey hval
  unfold Oper.wp
  simp [execOp, hop, hm, hx, hv, hrun, Result.andThen]
  exact hK' _ _ (hK w' r1 r2)
theorem kS : Keyed Tryd.prog 9 := Go.Maps.string_keyed Tryd.underlying9
theorem zLS (w : World) : (zeroValue 122).run Tryd.prog w = .ok (.slice none 0 0) w := by kernel_rfl
def slV (b n : Nat) : Value := .slice (some ⟨b, 0, none⟩) n n
/-- how a row of names reads: by where it lies, and its length -/
def RWd : Value → Option (DataW Unit × List MemPlace)
  | .slice none 0 0 => some (.lit (.int .i64 0), [])
  | .slice (some ⟨b, 0, none⟩) n m => if n = m ∧ n < 8 then some (.lit (.int .i64 ((b * 8 + n + 1 : Nat) : Int)), []) else none
  | _ => none
theorem RWd_sl (b n : Nat) (h : n < 8) : RWd (slV b n) = some (.lit (.int .i64 ((b * 8 + n + 1 : Nat) : Int)), []) := by
  unfold RWd slV; simp [h]
theorem RWd_inv {b n : Nat} (h : n < 8) {v : Value} {ps : List MemPlace} (hv : RWd v = some (.lit (.int .i64 ((b * 8 + n + 1 : Nat) : Int)), ps)) : v = slV b n := by
  unfold RWd at hv
  split at hv
  · simp at hv; omega
  · split at hv
    · rename_i b' n' m' h1
      obtain ⟨rfl, h2⟩ := h1
      simp at hv
      have e1 : b' = b := by omega
      have e2 : n' = n := by omega
      subst e1; subst e2
      rfl
    · cases hv
  · cases hv
def resK : Lit := .string [114, 101, 115, 116, 97, 114, 116]
def strK : Lit := .string [115, 116, 114, 97, 116, 101, 103, 121]
theorem res_ne : resK ≠ strK := by intro h; unfold resK strK at h; injection h with h; cases h
theorem res_key : WideAt.IsKeyLit resK := trivial
theorem str_key : WideAt.IsKeyLit strK := trivial
def Looks (W : World) (mb : Nat) (k : ByteArray) (v : Value) : Prop := (Instr.lookup 123 (.map (some mb)) (.string k) false).run Tryd.prog W = .ok v W
def WoP (w : World) (e : Ending) (w' : World) : Prop := Below w.heap.size w w' ∧ ∃ mb r1 r2, e = .returned (.map (some mb)) ∧ Looks w' mb ⟨#[114, 101, 115, 116, 97, 114, 116]⟩ (slV r1 3) ∧ Looks w' mb ⟨#[115, 116, 114, 97, 116, 101, 103, 121]⟩ (slV r2 4) ∧ w.heap.size ≤ r1 ∧ (∃ c0 c1 c2, w'.heap[r1]? = some (.cells #[.string c0, .string c1, .string c2] 9 (0, 0)) ∧ c0.size ≤ 20 ∧ c1.size ≤ 20 ∧ c2.size ≤ 20) ∧ w.heap.size ≤ r2 ∧
  (∃ c0 c1 c2 c3, w'.heap[r2]? = some (.cells #[.string c0, .string c1, .string c2, .string c3] 9 (0, 0)) ∧ c0.size ≤ 20 ∧ c1.size ≤ 20 ∧ c2.size ≤ 20 ∧ c3.size ≤ 20)
set_option maxHeartbeats 8000000 in
theorem words_any (w : World) : Calls Tryd.prog 56 #[] w (WoP w) := by
  have hmm := @run_makeMap Tryd.prog
  go_enter Tryd.func56, Tryd.ntmps56
  go_wp2_with (with_reducible refine stop_op (o := ⟨none, .insert 123 (.tmp 1) _ (.tmp 2), _, _, _, _⟩) ?_)
  refine Lib.hid ?_
  clear hmm
  have hm0 := World.ownsMap_made w Tryd.prog 9 RWd
  have hb0 := (Below.refl w.heap.size w).alloc (Nat.le_refl _) (.map #[] 0)
  have hb1 := hb0.alloc (by simp) (.cells #[.string ⟨#[112, 101, 114, 109, 97, 110, 101, 110, 116]⟩, .string ⟨#[116, 114, 97, 110, 115, 105, 101, 110, 116]⟩, .string ⟨#[116, 101, 109, 112, 111, 114, 97, 114, 121]⟩] 9)
  have hm1 := hm0.alloc (.cells #[.string ⟨#[112, 101, 114, 109, 97, 110, 101, 110, 116]⟩, .string ⟨#[116, 114, 97, 110, 115, 105, 101, 110, 116]⟩, .string ⟨#[116, 101, 109, 112, 111, 114, 97, 114, 121]⟩] 9)
  have hn1 := heap_new (w.alloc (.map #[] 0)) (.cells #[.string ⟨#[112, 101, 114, 109, 97, 110, 101, 110, 116]⟩, .string ⟨#[116, 114, 97, 110, 115, 105, 101, 110, 116]⟩, .string ⟨#[116, 101, 109, 112, 111, 114, 97, 114, 121]⟩] 9)
  have hs1 : ((w.alloc (.map #[] 0)).alloc (.cells #[.string ⟨#[112, 101, 114, 109, 97, 110, 101, 110, 116]⟩, .string ⟨#[116, 114, 97, 110, 115, 105, 101, 110, 116]⟩, .string ⟨#[116, 101, 109, 112, 111, 114, 97, 114, 121]⟩] 9)).heap.size = w.heap.size + 2 := by simp
  rw [World.size_alloc] at hn1
  have H1 := Lib.hid (And.intro hm1 (And.intro hb1 (And.intro hn1 hs1)))
  clear hm0 hb0 hb1 hm1 hn1 hs1
  generalize (w.alloc (.map #[] 0)).alloc (.cells #[.string ⟨#[112, 101, 114, 109, 97, 110, 101, 110, 116]⟩, .string ⟨#[116, 114, 97, 110, 115, 105, 101, 110, 116]⟩, .string ⟨#[116, 101, 109, 112, 111, 114, 97, 114, 121]⟩] 9) = w1 at *
  refine wpList_insert_own _ rfl (.tmp 1) _ (.tmp 2) 123 rfl 9 122 kS Tryd.underlying123 _ w.heap.size 0 _ rfl H1.out.1 (by unfold maxLen; omega) (.string ⟨#[114, 101, 115, 116, 97, 114, 116]⟩) (slV (w.heap.size + 1) 3) resK rfl rfl (by kernel_rfl) _ [] (RWd_sl _ _ (by omega)) ?_
  intro w2 hown2 hg2
  have hb2 : Below w.heap.size w w2 := ⟨hg2.os.trans H1.out.2.1.os, hg2.tape.trans H1.out.2.1.tape, hg2.output.trans H1.out.2.1.output, Nat.le_trans H1.out.2.1.size hg2.size, fun k hk => (hg2.block k (Nat.lt_of_lt_of_le hk H1.out.2.1.size) (fun e => by injection e with e; omega)).trans (H1.out.2.1.block k hk)⟩
  have hr2 : w2.heap[w.heap.size + 1]? = some (.cells #[.string ⟨#[112, 101, 114, 109, 97, 110, 101, 110, 116]⟩, .string ⟨#[116, 114, 97, 110, 115, 105, 101, 110, 116]⟩, .string ⟨#[116, 101, 109, 112, 111, 114, 97, 114, 121]⟩] 9) := by
    rw [hg2.block _ (by rw [H1.out.2.2.2]; omega) (fun e => by injection e with e; omega)]
    exact H1.out.2.2.1
  have hz2 : w.heap.size + 2 ≤ w2.heap.size := by
    have := hg2.size
    rw [H1.out.2.2.2] at this
    exact this
  have H2 := Lib.hid (And.intro hown2 (And.intro hb2 (And.intro hr2 hz2)))
  clear hown2 hb2 hr2 hz2 hg2 H1
  go_wp2_with (with_reducible refine stop_op (o := ⟨none, .insert 123 (.tmp 1) _ (.tmp 3), _, _, _, _⟩) ?_)
  refine Lib.hid ?_
  have hm2 := H2.out.1.alloc (.cells #[.string ⟨#[111, 110, 101, 95, 102, 111, 114, 95, 111, 110, 101]⟩, .string ⟨#[111, 110, 101, 95, 102, 111, 114, 95, 97, 108, 108]⟩, .string ⟨#[114, 101, 115, 116, 95, 102, 111, 114, 95, 111, 110, 101]⟩, .string ⟨#[115, 105, 109, 112, 108, 101, 95, 111, 110, 101, 95, 102, 111, 114, 95, 111, 110, 101]⟩] 9)
  have hb3 := H2.out.2.1.alloc (by have := H2.out.2.2.2; omega) (.cells #[.string ⟨#[111, 110, 101, 95, 102, 111, 114, 95, 111, 110, 101]⟩, .string ⟨#[111, 110, 101, 95, 102, 111, 114, 95, 97, 108, 108]⟩, .string ⟨#[114, 101, 115, 116, 95, 102, 111, 114, 95, 111, 110, 101]⟩, .string ⟨#[115, 105, 109, 112, 108, 101, 95, 111, 110, 101, 95, 102, 111, 114, 95, 111, 110, 101]⟩] 9)
  have hr3 := (heap_alloc_old w2 (.cells #[.string ⟨#[111, 110, 101, 95, 102, 111, 114, 95, 111, 110, 101]⟩, .string ⟨#[111, 110, 101, 95, 102, 111, 114, 95, 97, 108, 108]⟩, .string ⟨#[114, 101, 115, 116, 95, 102, 111, 114, 95, 111, 110, 101]⟩, .string ⟨#[115, 105, 109, 112, 108, 101, 95, 111, 110, 101, 95, 102, 111, 114, 95, 111, 110, 101]⟩] 9) (show w.heap.size + 1 < w2.heap.size by have := H2.out.2.2.2; omega)).trans H2.out.2.2.1
  have hn3 := heap_new w2 (.cells #[.string ⟨#[111, 110, 101, 95, 102, 111, 114, 95, 111, 110, 101]⟩, .string ⟨#[111, 110, 101, 95, 102, 111, 114, 95, 97, 108, 108]⟩, .string ⟨#[114, 101, 115, 116, 95, 102, 111, 114, 95, 111, 110, 101]⟩, .string ⟨#[115, 105, 109, 112, 108, 101, 95, 111, 110, 101, 95, 102, 111, 114, 95, 111, 110, 101]⟩] 9)
  have hs3 : (w2.alloc (.cells #[.string ⟨#[111, 110, 101, 95, 102, 111, 114, 95, 111, 110, 101]⟩, .string ⟨#[111, 110, 101, 95, 102, 111, 114, 95, 97, 108, 108]⟩, .string ⟨#[114, 101, 115, 116, 95, 102, 111, 114, 95, 111, 110, 101]⟩, .string ⟨#[115, 105, 109, 112, 108, 101, 95, 111, 110, 101, 95, 102, 111, 114, 95, 111, 110, 101]⟩] 9)).heap.size = w2.heap.size + 1 := by simp
  have H3 := Lib.hid (And.intro hm2 (And.intro hb3 (And.intro hr3 (And.intro hn3 (And.intro hs3 H2.out.2.2.2)))))
  clear hm2 hb3 hr3 hn3 hs3 H2
  generalize hX : w2.heap.size = X at *
  generalize w2.alloc (.cells #[.string ⟨#[111, 110, 101, 95, 102, 111, 114, 95, 111, 110, 101]⟩, .string ⟨#[111, 110, 101, 95, 102, 111, 114, 95, 97, 108, 108]⟩, .string ⟨#[114, 101, 115, 116, 95, 102, 111, 114, 95, 111, 110, 101]⟩, .string ⟨#[115, 105, 109, 112, 108, 101, 95, 111, 110, 101, 95, 102, 111, 114, 95, 111, 110, 101]⟩] 9) = w3 at *
  refine wpList_insert_own _ rfl (.tmp 1) _ (.tmp 3) 123 rfl 9 122 kS Tryd.underlying123 _ w.heap.size (0 + 1) _ rfl H3.out.1 (by unfold maxLen; omega) (.string ⟨#[115, 116, 114, 97, 116, 101, 103, 121]⟩) (slV X 4) strK rfl rfl (by kernel_rfl) _ [] (RWd_sl _ _ (by omega)) ?_
  intro w4 hown4 hg4
  have hb4 : Below w.heap.size w w4 := ⟨hg4.os.trans H3.out.2.1.os, hg4.tape.trans H3.out.2.1.tape, hg4.output.trans H3.out.2.1.output, Nat.le_trans H3.out.2.1.size hg4.size, fun k hk => (hg4.block k (Nat.lt_of_lt_of_le hk H3.out.2.1.size) (fun e => by injection e with e; omega)).trans (H3.out.2.1.block k hk)⟩
  have hX2 := H3.out.2.2.2.2.2
  have hr4 : w4.heap[w.heap.size + 1]? = some (.cells #[.string ⟨#[112, 101, 114, 109, 97, 110, 101, 110, 116]⟩, .string ⟨#[116, 114, 97, 110, 115, 105, 101, 110, 116]⟩, .string ⟨#[116, 101, 109, 112, 111, 114, 97, 114, 121]⟩] 9) := by
    rw [hg4.block _ (by rw [H3.out.2.2.2.2.1]; omega) (fun e => by injection e with e; omega)]
    exact H3.out.2.2.1
  have hn4 : w4.heap[X]? = some (.cells #[.string ⟨#[111, 110, 101, 95, 102, 111, 114, 95, 111, 110, 101]⟩, .string ⟨#[111, 110, 101, 95, 102, 111, 114, 95, 97, 108, 108]⟩, .string ⟨#[114, 101, 115, 116, 95, 102, 111, 114, 95, 111, 110, 101]⟩, .string ⟨#[115, 105, 109, 112, 108, 101, 95, 111, 110, 101, 95, 102, 111, 114, 95, 111, 110, 101]⟩] 9) := by
    rw [hg4.block _ (by rw [H3.out.2.2.2.2.1]; omega) (fun e => by injection e with e; omega)]
    exact H3.out.2.2.2.1
  have H4 := Lib.hid (And.intro hown4 (And.intro hb4 (And.intro hr4 (And.intro hn4 hX2))))
  clear hown4 hb4 hr4 hn4 hg4 H3 hX2
  go_wp2_with fail
  go_ret
  refine ⟨H4.out.2.1, w.heap.size, w.heap.size + 1, X, rfl, ?_, ?_, by omega, ⟨_, _, _, H4.out.2.2.1, by decide, by decide, by decide⟩, by have := H4.out.2.2.2.2; omega, ⟨_, _, _, _, H4.out.2.2.2.1, by decide, by decide, by decide, by decide⟩⟩
  · obtain ⟨v, ps, hrun, hv⟩ := H4.out.1.lookup kS Tryd.underlying123 (zLS w4) (zd := .lit (.int .i64 0)) (zp := []) rfl (key := .string ⟨#[114, 101, 115, 116, 97, 114, 116]⟩) (kl := resK) (by kernel_rfl)
    rw [Go.Maps.atKey_put_other res_ne, Go.Maps.atKey_put_same Go.Maps.isMap_empty res_key] at hv
    rw [RWd_inv (by omega) hv] at hrun
    exact hrun
  · obtain ⟨v, ps, hrun, hv⟩ := H4.out.1.lookup kS Tryd.underlying123 (zLS w4) (zd := .lit (.int .i64 0)) (zp := []) rfl (key := .string ⟨#[115, 116, 114, 97, 116, 101, 103, 121]⟩) (kl := strK) (by kernel_rfl)
    rw [Go.Maps.atKey_put_same (Go.Maps.isMap_empty.put _ _) str_key] at hv
    rw [RWd_inv (by omega) hv] at hrun
    exact hrun
end Go.Proofs.YtepfmanbllegiaaDoor
namespace Go.Proofs.YtepfmanbllegiaaDoor
open Go.ChangeShapes Go.WideShapes Go.ChangeAt Go.RowKit
set_option linter.unusedVariables false
set_option linter.unusedSimpArgs false
set_option maxRecDepth 100000
theorem spatom_x (w : World) (s : ByteArray) : Calls Tryd.prog 59 #[.string s] w fun e w' => e = .returned (.agg #[.int .i8 1, .int .i64 0, .string s, .string ⟨#[]⟩, .slice none 0 0]) ∧ Below w.heap.size w w' := by
  have hb1 := (Below.refl w.heap.size w).alloc (Nat.le_refl _) (.cells #[.int .i8 1, .int .i64 0, .string s, .string ⟨#[]⟩, .slice none 0 0] 27)
  have hx1 := heap_new w (.cells #[.int .i8 1, .int .i64 0, .string s, .string ⟨#[]⟩, .slice none 0 0] 27)
  have HB := Lib.hid (And.intro hb1 hx1)
  clear hb1 hx1
  go_enter Tryd.func59, Tryd.ntmps59
  go_wp2_with fail
  exact ret_cell HB.out.2 rfl Tryd.underlying27 rfl (infoTM' _ rfl) rfl ⟨rfl, HB.out.1⟩
theorem chg_put {S : Nat → Prop} {w w' : World} (h : Chg S w w') (cs : Array Value) : Chg S w (w'.setRow w.heap.size cs) :=
  ⟨h.os, h.tape, h.output, by simpa using h.size, fun k hk hs => (setRow_other _ _ _ _ (by omega)).trans (h.block k hk hs)⟩
/-- what a writer's call comes to -/
def WtP (M : Nat → Prop) (w : World) (q : Nat) (e : Ending) (w' : World) : Prop :=
  ∃ (x : TE) (b' : Bool), e = .returned (.agg #[.int .i8 x.k, .int .i64 x.n, .string x.s, .string x.u, .slice x.ao x.l.length x.cap]) ∧ TeOk M w' x ∧ w'.heap[q]? = some (.cells #[.bool b'] 93 (0, 0)) ∧ Chg (fun k => k = q) w w'
def WmP (M : Nat → Prop) (w : World) (e : Ending) (w' : World) : Prop := Below w.heap.size w w' ∧ ∃ (x : TE) (en : Int), e = .returned (.tuple #[.agg x.cells.toArray, .int .i64 en]) ∧ TeOk M w' x
theorem wtup_any (M : Nat → Prop) (w : World) (hM : ∀ k, M k → k < w.heap.size) (hc : Cells w 0 letL) (q : Nat) (b : Bool) (hq : w.heap[q]? = some (.cells #[.bool b] 93 (0, 0))) (g : Nat) (L : List TE) (n : Nat) (hn : n = L.length) (hl : L.length ≤ 50) (h : RowAt w g L) (hg : ¬ M g) (hgl : g < w.heap.size) (hqM : M q) (hE : ∀ x ∈ L, TeOk M w x) :
    Calls Tryd.prog 60 #[.pointer (some ⟨q, 0, none⟩), .slice (some ⟨g, 0, none⟩) n n] w (WtP M w q) := by
  subst hn
  have hql := heap_lt hq
  have hb1 := (Below.refl w.heap.size w).alloc (Nat.le_refl _) (.cells zT 27)
  have hx1 := heap_new w (.cells zT 27)
  have h1 := h.keep hb1
  have hs1 : (w.alloc (.cells zT 27)).heap.size = w.heap.size + 1 := by simp
  have hT := tup_any (fun k => M k ∨ k = w.heap.size) _ (fun k hk => by rcases hk with hk | hk; have := hM k hk; omega; omega) (keepCells hc hb1) _ _ (h1.tes (M := fun k => M k ∨ k = w.heap.size) (by rintro (hk | hk); exact hg hk; omega) (fun x hx => (hE x hx).chg (chg_of_below hb1 (fun _ => False)) (fun _ h => h.elim) (fun k hk hl => by rcases hk with hk | hk; exact hk; omega)) (by omega)) (fun c => .inl (by simp)) (by omega)
  have HT : Hid (Calls Tryd.prog 46 #[.slice (some ⟨g, 0, none⟩) L.length L.length] (w.alloc (.cells zT 27)) (WmP (fun k => M k ∨ k = w.heap.size) (w.alloc (.cells zT 27)))) := Lib.hid (hT.mono (by
    rintro e w2 ⟨hb2, hcase⟩
    rcases hcase with ⟨-, x, rfl, -, hxo⟩ | ⟨-, rfl⟩
    · exact ⟨hb2, x, 0, rfl, hxo⟩
    · exact ⟨hb2, numT 0 0, _, rfl, numT_ok _ _ _ _ (by decide) (by decide)⟩))
  have HB := Lib.hid (And.intro hb1 (And.intro (keep_heap hq hb1) (And.intro hx1 hql)))
  clear hb1 hx1 h1 hT hc h hE hM hg hgl hq hql hs1
  go_enter Tryd.func60, Tryd.ntmps60
  go_wp2_with fail
  generalize w.alloc (.cells zT 27) = w1 at *
  refine HT.out.mono ?_
  rintro e w2 ⟨hb2, x, en, rfl, hx⟩
  have HB2 := Lib.hid (And.intro (HB.out.1.trans (hb2.mono HB.out.1.size)) (And.intro (keep_heap HB.out.2.1 hb2) (And.intro (keep_heap HB.out.2.2.1 hb2) HB.out.2.2.2)))
  have HX := Lib.hid hx
  clear hb2 HT HB hx
  simp only [TE.cells]
  go_wp2_with (with_reducible refine stop_op (o := ⟨_, .store 27 (.tmp 5) (.tmp 10), _, _, _, _⟩) ?_)
  refine Lib.hid ?_
  refine wpList_store_new (o := ⟨none, _, _, _, _, _⟩) rfl 27 (.tmp 5) (.tmp 10) rfl #[.int .i8 x.k, .int .i64 x.n, .string x.s, .string x.u, .slice x.ao x.l.length x.cap] rfl rfl (infoTM' _ rfl) rfl (by simp [Value.oneCell']) ?_
  have hb3 := (Below.refl w2.heap.size w2).alloc (Nat.le_refl _) (.cells #[.int .i8 x.k, .int .i64 x.n, .string x.s, .string x.u, .slice x.ao x.l.length x.cap] 27)
  have HB3 := Lib.hid (And.intro (HB2.out.1.trans (hb3.mono HB2.out.1.size)) (And.intro (keep_heap HB2.out.2.1 hb3) (And.intro (keep_heap HB2.out.2.2.1 hb3) HB2.out.2.2.2)))
  have HX3 := Lib.hid (HX.out.keep hb3)
  have HN3 := Lib.hid (And.intro (heap_new w2 (.cells #[.int .i8 x.k, .int .i64 x.n, .string x.s, .string x.u, .slice x.ao x.l.length x.cap] 27)) HB2.out.1.size)
  clear hb3 HB2 HX
  generalize w2.alloc (.cells #[.int .i8 x.k, .int .i64 x.n, .string x.s, .string x.u, .slice x.ao x.l.length x.cap] 27) = w3 at *
  generalize w2.heap.size = p at *
  have yb := (cells_at HB3.out.2.1 0 _ rfl).1
  have yf := (cells_at HB3.out.2.1 0 _ rfl).2
  obtain ⟨y0, y1, y2, y3, y4⟩ := BxS.of (x := x) HN3.out.1
  have hpq : ¬ p = q := by have := HN3.out.2; have := HB3.out.2.2.2; omega
  cases b
  · skip
    go_wp2_with (with_reducible refine stop_op (o := ⟨_, .store 27 (.tmp 4) (.tmp 23), _, _, _, _⟩) ?_)
    refine Lib.hid ?_
    have hc4 := chg_set (w := w3) (p := ⟨q, 0, none⟩) (.bool (en != 0))
    have HB4 := Lib.hid (And.intro (set_at (i := 0) HB3.out.2.1 (.bool (en != 0))) (And.intro (hc4.heap HB3.out.2.2.1 (by have := HB3.out.2.2.2; show ¬ _ = q; omega)) (And.intro ((chg_of_below HB3.out.1 (fun k => k = q)).trans hc4) (HX3.out.chg (M' := fun k => M k ∨ k = w.heap.size) hc4 (fun k e _ => .inl (by rw [show k = q from e]; exact hqM)) (fun k hk _ => hk)))))
    have HQ := Lib.hid HB3.out.2.2.2
    clear HB3 HX3 HN3 y0 y1 y2 y3 y4 yb yf hpq
    generalize w3.setCell ⟨q, 0, none⟩ (.bool (en != 0)) = w4 at *
    refine wpList_store_row (o := ⟨none, _, _, _, _, _⟩) rfl 27 (.tmp 4) (.tmp 23) rfl w.heap.size #[.int .i8 x.k, .int .i64 x.n, .string x.s, .string x.u, .slice x.ao x.l.length x.cap] rfl rfl 27 zT HB4.out.2.1 (infoTM' _ rfl) rfl (by simp [Value.oneCell']) ?_
    have hc5 := chg_setRow w4 w.heap.size #[.int .i8 x.k, .int .i64 x.n, .string x.s, .string x.u, .slice x.ao x.l.length x.cap]
    have HZ := Lib.hid (And.intro (setRow_heap w4 w.heap.size zT #[.int .i8 x.k, .int .i64 x.n, .string x.s, .string x.u, .slice x.ao x.l.length x.cap] 27 (0, 0) HB4.out.2.1) (And.intro (hc5.heap HB4.out.1 (by have := HQ.out; show ¬ _ = w.heap.size; omega)) (And.intro (chg_put HB4.out.2.2.1 #[.int .i8 x.k, .int .i64 x.n, .string x.s, .string x.u, .slice x.ao x.l.length x.cap]) (HB4.out.2.2.2.chg (M' := M) hc5 (fun k e _ => .inr e) (fun k hk _ => .inl hk)))))
    generalize w4.setRow w.heap.size #[.int .i8 x.k, .int .i64 x.n, .string x.s, .string x.u, .slice x.ao x.l.length x.cap] = w5 at *
    clear hc5 hc4 HB4
    go_wp2_with fail
    exact ret_cell HZ.out.1 rfl Tryd.underlying27 rfl (infoTM' _ rfl) rfl ⟨x, _, rfl, HZ.out.2.2.2, HZ.out.2.1, HZ.out.2.2.1⟩
  · skip
    go_wp2_with (with_reducible refine stop_op (o := ⟨_, .store 27 (.tmp 4) (.tmp 23), _, _, _, _⟩) ?_)
    refine Lib.hid ?_
    have hc4 := chg_set (w := w3) (p := ⟨q, 0, none⟩) (.bool true)
    have HB4 := Lib.hid (And.intro (set_at (i := 0) HB3.out.2.1 (.bool true)) (And.intro (hc4.heap HB3.out.2.2.1 (by have := HB3.out.2.2.2; show ¬ _ = q; omega)) (And.intro ((chg_of_below HB3.out.1 (fun k => k = q)).trans hc4) (HX3.out.chg (M' := fun k => M k ∨ k = w.heap.size) hc4 (fun k e _ => .inl (by rw [show k = q from e]; exact hqM)) (fun k hk _ => hk)))))
    have HQ := Lib.hid HB3.out.2.2.2
    clear HB3 HX3 HN3 y0 y1 y2 y3 y4 yb yf hpq
    generalize w3.setCell ⟨q, 0, none⟩ (.bool true) = w4 at *
    refine wpList_store_row (o := ⟨none, _, _, _, _, _⟩) rfl 27 (.tmp 4) (.tmp 23) rfl w.heap.size #[.int .i8 x.k, .int .i64 x.n, .string x.s, .string x.u, .slice x.ao x.l.length x.cap] rfl rfl 27 zT HB4.out.2.1 (infoTM' _ rfl) rfl (by simp [Value.oneCell']) ?_
    have hc5 := chg_setRow w4 w.heap.size #[.int .i8 x.k, .int .i64 x.n, .string x.s, .string x.u, .slice x.ao x.l.length x.cap]
    have HZ := Lib.hid (And.intro (setRow_heap w4 w.heap.size zT #[.int .i8 x.k, .int .i64 x.n, .string x.s, .string x.u, .slice x.ao x.l.length x.cap] 27 (0, 0) HB4.out.2.1) (And.intro (hc5.heap HB4.out.1 (by have := HQ.out; show ¬ _ = w.heap.size; omega)) (And.intro (chg_put HB4.out.2.2.1 #[.int .i8 x.k, .int .i64 x.n, .string x.s, .string x.u, .slice x.ao x.l.length x.cap]) (HB4.out.2.2.2.chg (M' := M) hc5 (fun k e _ => .inr e) (fun k hk _ => .inl hk)))))
    generalize w4.setRow w.heap.size #[.int .i8 x.k, .int .i64 x.n, .string x.s, .string x.u, .slice x.ao x.l.length x.cap] = w5 at *
    clear hc5 hc4 HB4
    go_wp2_with fail
    exact ret_cell HZ.out.1 rfl Tryd.underlying27 rfl (infoTM' _ rfl) rfl ⟨x, _, rfl, HZ.out.2.2.2, HZ.out.2.1, HZ.out.2.2.1⟩
theorem wlist_nil (M : Nat → Prop) (w : World) (hM : ∀ k, M k → k < w.heap.size) (hc : Cells w 0 letL) (q : Nat) (b : Bool) (hq : w.heap[q]? = some (.cells #[.bool b] 93 (0, 0))) (hqM : M q) :
    Calls Tryd.prog 61 #[.pointer (some ⟨q, 0, none⟩), .slice none 0 0] w (WtP M w q) := by
  have hql := heap_lt hq
  have hb1 := (Below.refl w.heap.size w).alloc (Nat.le_refl _) (.cells zT 27)
  have hx1 := heap_new w (.cells zT 27)
  have hs1 : (w.alloc (.cells zT 27)).heap.size = w.heap.size + 1 := by simp
  have hT := fromlist_any (fun _ => False) 0 [] none 0 (w.alloc (.cells zT 27)) (fun _ h => h.elim) (keepCells hc hb1) ⟨none, 0, rfl, by simp, by omega, fun i t ht => by simp at ht⟩ (fun _ => rfl) (by trivial) (by decide)
  have HT : Hid (Calls Tryd.prog 48 #[.slice none 0 0] (w.alloc (.cells zT 27)) (WmP (fun k => M k ∨ k = w.heap.size) (w.alloc (.cells zT 27)))) := Lib.hid (hT.mono (by
    rintro e w2 ⟨hb2, te, G, rfl, -, hf, hr⟩
    exact ⟨hb2, te, 0, rfl, hf, G, hr.chg (Chg.refl (fun _ => False) w2) (fun _ _ _ h => h) (fun k hk _ => by
      rcases hk with hk | hk
      · exact hk.elim
      · rintro (hm | hm)
        · have := hM k hm; omega
        · omega) (Nat.le_refl _)⟩))
  have HB := Lib.hid (And.intro hb1 (And.intro (keep_heap hq hb1) (And.intro hx1 hql)))
  clear hb1 hx1 hT hc hM hql hs1 hq
  go_enter Tryd.func61, Tryd.ntmps61
  go_wp2_with fail
  generalize w.alloc (.cells zT 27) = w1 at *
  refine HT.out.mono ?_
  rintro e w2 ⟨hb2, x, en, rfl, hx⟩
  have HB2 := Lib.hid (And.intro (HB.out.1.trans (hb2.mono HB.out.1.size)) (And.intro (keep_heap HB.out.2.1 hb2) (And.intro (keep_heap HB.out.2.2.1 hb2) HB.out.2.2.2)))
  have HX := Lib.hid hx
  clear hb2 HT HB hx
  simp only [TE.cells]
  go_wp2_with (with_reducible refine stop_op (o := ⟨_, .store 27 (.tmp 5) (.tmp 10), _, _, _, _⟩) ?_)
  refine Lib.hid ?_
  refine wpList_store_new (o := ⟨none, _, _, _, _, _⟩) rfl 27 (.tmp 5) (.tmp 10) rfl #[.int .i8 x.k, .int .i64 x.n, .string x.s, .string x.u, .slice x.ao x.l.length x.cap] rfl rfl (infoTM' _ rfl) rfl (by simp [Value.oneCell']) ?_
  have hb3 := (Below.refl w2.heap.size w2).alloc (Nat.le_refl _) (.cells #[.int .i8 x.k, .int .i64 x.n, .string x.s, .string x.u, .slice x.ao x.l.length x.cap] 27)
  have HB3 := Lib.hid (And.intro (HB2.out.1.trans (hb3.mono HB2.out.1.size)) (And.intro (keep_heap HB2.out.2.1 hb3) (And.intro (keep_heap HB2.out.2.2.1 hb3) HB2.out.2.2.2)))
  have HX3 := Lib.hid (HX.out.keep hb3)
  have HN3 := Lib.hid (And.intro (heap_new w2 (.cells #[.int .i8 x.k, .int .i64 x.n, .string x.s, .string x.u, .slice x.ao x.l.length x.cap] 27)) HB2.out.1.size)
  clear hb3 HB2 HX
  generalize w2.alloc (.cells #[.int .i8 x.k, .int .i64 x.n, .string x.s, .string x.u, .slice x.ao x.l.length x.cap] 27) = w3 at *
  generalize w2.heap.size = p at *
  have yb := (cells_at HB3.out.2.1 0 _ rfl).1
  have yf := (cells_at HB3.out.2.1 0 _ rfl).2
  obtain ⟨y0, y1, y2, y3, y4⟩ := BxS.of (x := x) HN3.out.1
  have hpq : ¬ p = q := by have := HN3.out.2; have := HB3.out.2.2.2; omega
  cases b
  · skip
    go_wp2_with (with_reducible refine stop_op (o := ⟨_, .store 27 (.tmp 4) (.tmp 23), _, _, _, _⟩) ?_)
    refine Lib.hid ?_
    have hc4 := chg_set (w := w3) (p := ⟨q, 0, none⟩) (.bool (en != 0))
    have HB4 := Lib.hid (And.intro (set_at (i := 0) HB3.out.2.1 (.bool (en != 0))) (And.intro (hc4.heap HB3.out.2.2.1 (by have := HB3.out.2.2.2; show ¬ _ = q; omega)) (And.intro ((chg_of_below HB3.out.1 (fun k => k = q)).trans hc4) (HX3.out.chg (M' := fun k => M k ∨ k = w.heap.size) hc4 (fun k e _ => .inl (by rw [show k = q from e]; exact hqM)) (fun k hk _ => hk)))))
    have HQ := Lib.hid HB3.out.2.2.2
    clear HB3 HX3 HN3 y0 y1 y2 y3 y4 yb yf hpq
    generalize w3.setCell ⟨q, 0, none⟩ (.bool (en != 0)) = w4 at *
    refine wpList_store_row (o := ⟨none, _, _, _, _, _⟩) rfl 27 (.tmp 4) (.tmp 23) rfl w.heap.size #[.int .i8 x.k, .int .i64 x.n, .string x.s, .string x.u, .slice x.ao x.l.length x.cap] rfl rfl 27 zT HB4.out.2.1 (infoTM' _ rfl) rfl (by simp [Value.oneCell']) ?_
    have hc5 := chg_setRow w4 w.heap.size #[.int .i8 x.k, .int .i64 x.n, .string x.s, .string x.u, .slice x.ao x.l.length x.cap]
    have HZ := Lib.hid (And.intro (setRow_heap w4 w.heap.size zT #[.int .i8 x.k, .int .i64 x.n, .string x.s, .string x.u, .slice x.ao x.l.length x.cap] 27 (0, 0) HB4.out.2.1) (And.intro (hc5.heap HB4.out.1 (by have := HQ.out; show ¬ _ = w.heap.size; omega)) (And.intro (chg_put HB4.out.2.2.1 #[.int .i8 x.k, .int .i64 x.n, .string x.s, .string x.u, .slice x.ao x.l.length x.cap]) (HB4.out.2.2.2.chg (M' := M) hc5 (fun k e _ => .inr e) (fun k hk _ => .inl hk)))))
    generalize w4.setRow w.heap.size #[.int .i8 x.k, .int .i64 x.n, .string x.s, .string x.u, .slice x.ao x.l.length x.cap] = w5 at *
    clear hc5 hc4 HB4
    go_wp2_with fail
    exact ret_cell HZ.out.1 rfl Tryd.underlying27 rfl (infoTM' _ rfl) rfl ⟨x, _, rfl, HZ.out.2.2.2, HZ.out.2.1, HZ.out.2.2.1⟩
  · skip
    go_wp2_with (with_reducible refine stop_op (o := ⟨_, .store 27 (.tmp 4) (.tmp 23), _, _, _, _⟩) ?_)
    refine Lib.hid ?_
    have hc4 := chg_set (w := w3) (p := ⟨q, 0, none⟩) (.bool true)
    have HB4 := Lib.hid (And.intro (set_at (i := 0) HB3.out.2.1 (.bool true)) (And.intro (hc4.heap HB3.out.2.2.1 (by have := HB3.out.2.2.2; show ¬ _ = q; omega)) (And.intro ((chg_of_below HB3.out.1 (fun k => k = q)).trans hc4) (HX3.out.chg (M' := fun k => M k ∨ k = w.heap.size) hc4 (fun k e _ => .inl (by rw [show k = q from e]; exact hqM)) (fun k hk _ => hk)))))
    have HQ := Lib.hid HB3.out.2.2.2
    clear HB3 HX3 HN3 y0 y1 y2 y3 y4 yb yf hpq
    generalize w3.setCell ⟨q, 0, none⟩ (.bool true) = w4 at *
    refine wpList_store_row (o := ⟨none, _, _, _, _, _⟩) rfl 27 (.tmp 4) (.tmp 23) rfl w.heap.size #[.int .i8 x.k, .int .i64 x.n, .string x.s, .string x.u, .slice x.ao x.l.length x.cap] rfl rfl 27 zT HB4.out.2.1 (infoTM' _ rfl) rfl (by simp [Value.oneCell']) ?_
    have hc5 := chg_setRow w4 w.heap.size #[.int .i8 x.k, .int .i64 x.n, .string x.s, .string x.u, .slice x.ao x.l.length x.cap]
    have HZ := Lib.hid (And.intro (setRow_heap w4 w.heap.size zT #[.int .i8 x.k, .int .i64 x.n, .string x.s, .string x.u, .slice x.ao x.l.length x.cap] 27 (0, 0) HB4.out.2.1) (And.intro (hc5.heap HB4.out.1 (by have := HQ.out; show ¬ _ = w.heap.size; omega)) (And.intro (chg_put HB4.out.2.2.1 #[.int .i8 x.k, .int .i64 x.n, .string x.s, .string x.u, .slice x.ao x.l.length x.cap]) (HB4.out.2.2.2.chg (M' := M) hc5 (fun k e _ => .inr e) (fun k hk _ => .inl hk)))))
    generalize w4.setRow w.heap.size #[.int .i8 x.k, .int .i64 x.n, .string x.s, .string x.u, .slice x.ao x.l.length x.cap] = w5 at *
    clear hc5 hc4 HB4
    go_wp2_with fail
    exact ret_cell HZ.out.1 rfl Tryd.underlying27 rfl (infoTM' _ rfl) rfl ⟨x, _, rfl, HZ.out.2.2.2, HZ.out.2.1, HZ.out.2.2.1⟩
end Go.Proofs.YtepfmanbllegiaaDoor
