/- frame.stack of any row of frames. Conditions: the frames read, their rows are not too long; at most 10000 frames. -/
import Derived.Test.YtemgnljegbaobaaGreatDoorNb
import Derived.Deep.MidRow
namespace Go.Proofs.YtemgnljegbaobaaGreatDoor
open Go.ChangeShapes Go.WideShapes Go.ChangeAt Go.RowKit
set_option linter.unusedVariables false
set_option linter.unusedSimpArgs false
set_option maxRecDepth 100000
/-- a frame: its cells, what its rows hold -/
structure Fm where
  cs : Array Value
  X : Fx
def frs (L : List Fm) : List Value := L.flatMap (fun f => f.cs.toList)
theorem frs_len : ∀ {L : List Fm}, (∀ f ∈ L, f.cs.size = 35) → (frs L).length = L.length * 35
  | [], _ => rfl
  | f :: L, h => by
    have h1 := h f List.mem_cons_self
    have h2 := frs_len (L := L) fun g hg => h g (List.mem_cons_of_mem _ hg)
    have e : frs (f :: L) = f.cs.toList ++ frs L := by simp [frs]
    rw [e, List.length_append, h2, List.length_cons]
    simp [h1]
    omega
theorem frs_snoc (L : List Fm) (f : Fm) : frs (L ++ [f]) = frs L ++ f.cs.toList := by simp [frs]
theorem frs_at : ∀ {L : List Fm} {i j : Nat} {f : Fm}, (∀ f ∈ L, f.cs.size = 35) → L[i]? = some f → j < 35 → (frs L)[i * 35 + j]? = f.cs[j]?
  | [], _, _, _, _, h, _ => by simp at h
  | g :: L, 0, j, f, hs, h, hj => by
    simp at h
    subst h
    have h1 := hs g List.mem_cons_self
    have e : frs (g :: L) = g.cs.toList ++ frs L := by simp [frs]
    rw [e, List.getElem?_append_left (by simp; omega)]
    simp
  | g :: L, i + 1, j, f, hs, h, hj => by
    have h1 := hs g List.mem_cons_self
    have e : frs (g :: L) = g.cs.toList ++ frs L := by simp [frs]
    rw [e, List.getElem?_append_right (by simp; omega)]
    rw [← frs_at (L := L) (fun g hg => hs g (List.mem_cons_of_mem _ hg)) (by simpa using h) hj]
    congr 1
    simp [h1]
    omega
/-- a slice of frames -/
structure St (w : World) (v : Value) (L : List Fm) : Prop where
  row : Rw w v L.length 35 (frs L)
  fr : ∀ f ∈ L, FrX w f.cs f.X
theorem St.keep {w w' : World} {v : Value} {L : List Fm} (h : St w v L) (hb : Below w.heap.size w w') : St w' v L := ⟨h.row.keep hb, fun f hf => (h.fr f hf).keep hb⟩
theorem St.chg {S : Nat → Prop} {w w' : World} {v : Value} {L : List Fm} (h : St w v L) (hc : Chg S w w') (hv : ∀ k, v.ownBlock = some k → S k → lenS v = 0) (hs : ∀ k, S k → ∀ f ∈ L, FrN k f.cs) : St w' v L :=
  ⟨h.row.chg hc hv, fun f hf => (h.fr f hf).chg hc fun k hk => hs k hk f hf⟩
theorem St.range {w : World} {v : Value} {L : List Fm} (h : St w v L) {i : Nat} {f : Fm} (hi : L[i]? = some f) :
    ∃ b off c, v = .slice (some ⟨b, off, none⟩) L.length c ∧ w.rangeAt b (off + i * 35) f.cs.toList ∧ f.cs.size = 35 ∧ FrX w f.cs f.X := by
  have hlt := (List.getElem?_eq_some_iff.1 hi).1
  have hm := List.mem_of_getElem? hi
  obtain ⟨ao, c, rfl, -, -⟩ := h.row.slice
  obtain ⟨-, b, off, rfl, hc⟩ := h.row.at (by omega)
  have hz := (h.fr f hm).size
  refine ⟨b, off, c, rfl, fun j v hj => ?_, hz, h.fr f hm⟩
  have hj35 : j < 35 := by have := (List.getElem?_eq_some_iff.1 hj).1; simpa [hz] using this
  have := hc (i * 35 + j) v ((frs_at (fun f hf => (h.fr f hf).size) hi hj35).trans (by simpa using hj))
  rw [Nat.add_assoc]
  exact this
/-- copies of frames -/
def Cp (L L' : List Fm) : Prop := L'.length = L.length ∧ ∀ (i : Nat) (f f' : Fm), L[i]? = some f → L'[i]? = some f' → f'.X = f.X ∧ SBR f.cs f'.cs
theorem Cp.refl (L : List Fm) : Cp L L := ⟨rfl, fun i f f' h h' => by obtain rfl := Option.some.inj (h.symm.trans h'); exact ⟨rfl, fun _ _ _ _ _ _ _ _ => rfl⟩⟩
theorem Cp.trans {A B C : List Fm} (h : Cp A B) (k : Cp B C) : Cp A C := by
  refine ⟨k.1.trans h.1, fun i f f' hf hf' => ?_⟩
  have hl : i < B.length := by have := (List.getElem?_eq_some_iff.1 hf).1; rw [h.1]; exact this
  obtain ⟨h1, h2⟩ := h.2 i f B[i] hf (List.getElem?_eq_getElem hl)
  obtain ⟨k1, k2⟩ := k.2 i B[i] f' (List.getElem?_eq_getElem hl) hf'
  exact ⟨k1.trans h1, h2.trans k2⟩
theorem Cp.snoc {A B : List Fm} {f f' : Fm} (h : Cp A B) (hX : f'.X = f.X) (hs : SBR f.cs f'.cs) : Cp (A ++ [f]) (B ++ [f']) := by
  refine ⟨by simp [h.1], fun i x y hx hy => ?_⟩
  rcases Nat.lt_or_ge i A.length with hi | hi
  · rw [List.getElem?_append_left hi] at hx
    rw [List.getElem?_append_left (by rw [h.1]; exact hi)] at hy
    exact h.2 i x y hx hy
  · rw [List.getElem?_append_right hi] at hx
    rw [List.getElem?_append_right (by rw [h.1]; exact hi), h.1] at hy
    cases hk : i - A.length with
    | zero =>
      rw [hk] at hx hy
      simp at hx hy
      subst hx hy
      exact ⟨hX, hs⟩
    | succ k => rw [hk] at hx; simp at hx
theorem Cp.ok {A B : List Fm} (h : Cp A B) (hA : ∀ f ∈ A, f.X.ok) : ∀ f ∈ B, f.X.ok := by
  intro f hf
  obtain ⟨i, hi⟩ := List.getElem?_of_mem hf
  have hl : i < A.length := by have := (List.getElem?_eq_some_iff.1 hi).1; rw [← h.1]; exact this
  rw [(h.2 i A[i] f (List.getElem?_eq_getElem hl) hi).1]
  exact hA _ (List.getElem_mem hl)
/-- cells stored one behind the other -/
def setMany : Array Value → Nat → List Value → Array Value
  | cur, _, [] => cur
  | cur, o, v :: r => setMany (cur.setIfInBounds o v) (o + 1) r
theorem setCells_heap {g : Nat} {e : TypeId} : ∀ (vs : List Value) (o : Nat) (w : World) (cur : Array Value), w.heap[g]? = some (.cells cur e (0, 0)) → (w.setCells g o vs).heap[g]? = some (.cells (setMany cur o vs) e (0, 0))
  | [], _, _, _, h => h
  | v :: r, o, w, cur, h => setCells_heap r (o + 1) _ _ (set_at h v)
theorem setMany_list : ∀ (vs : List Value) (o : Nat) (cur : Array Value), o + vs.length ≤ cur.size → (setMany cur o vs).toList = cur.toList.take o ++ vs ++ cur.toList.drop (o + vs.length)
  | [], o, cur, h => by simp [setMany]
  | v :: r, o, cur, h => by
    rw [List.length_cons] at h
    rw [setMany, setMany_list r (o + 1) _ (by simp; omega)]
    have hl : o < cur.toList.length := by simp; omega
    simp only [Array.toList_setIfInBounds, List.length_cons]
    rw [List.take_set, List.drop_set, if_pos (by omega)]
    have e : (List.take (o + 1) cur.toList).set o v = List.take o cur.toList ++ [v] := by
      rw [List.take_add_one, List.getElem?_eq_getElem hl]
      simp only [Option.toList_some]
      have hlen : (List.take o cur.toList).length = o := by rw [List.length_take]; omega
      rw [List.set_append, if_neg (by omega), hlen, Nat.sub_self]
      rfl
    rw [e, show o + (r.length + 1) = o + 1 + r.length by omega]
    have h0 : ¬ o + 1 + r.length < o := by omega
    simp [h0]
theorem setMany_size : ∀ (vs : List Value) (o : Nat) (cur : Array Value), (setMany cur o vs).size = cur.size
  | [], _, _ => rfl
  | v :: r, o, cur => by rw [setMany, setMany_size r]; simp
theorem chg_setCells (g : Nat) : ∀ (vs : List Value) (o : Nat) (w : World), Chg (fun k => k = g) w (w.setCells g o vs)
  | [], _, w => Chg.refl _ w
  | v :: r, o, w => (chg_set (w := w) (p := ⟨g, o, none⟩) v).trans (chg_setCells g r (o + 1) _)
theorem made_any (w : World) (n : Nat) (hn : n ≤ 100000) : ∃ zs : Array Value, zs.size = n * 35 ∧ (Instr.makeSlice 22 (.int .i64 n) (.int .i64 n)).run Tryz.prog w = .ok (.slice (some ⟨w.heap.size, 0, none⟩) n n) (w.alloc (.cells zs 65)) := by
  obtain ⟨i, z, h1, h2, h3, h4, h5⟩ := info_of (P := Tryz.prog) (e := 65) 35 (by kernel_rfl)
  have hle : (i.bytes : Int) * (n : Int) ≤ 281474976710656 := by
    have : i.bytes * n ≤ 1000 * 100000 := Nat.mul_le_mul h4 hn
    have h6 : ((i.bytes * n : Nat) : Int) ≤ ((1000 * 100000 : Nat) : Int) := Int.ofNat_le.2 this
    rw [Int.natCast_mul] at h6
    omega
  have h := run_make (P := Tryz.prog) w 22 65 i z Tryz.underlying22 h1 h2 .i64 .i64 n n (by omega) (by omega) hle (by omega)
  refine ⟨madeCells z.cells (n * 35), by rw [size_madeCells], ?_⟩
  rw [h, h3]
  simp
def StackP (w : World) (L : List Fm) (e : Ending) (w' : World) : Prop :=
  ∃ v' L', e = .returned v' ∧ w'.ownsRow w.heap.size 65 35 v' L.length (frs L') ∧ Cp L L' ∧ (∀ f ∈ L', FrX w' f.cs f.X ∧ ∀ k, k < w.heap.size ∨ v'.ownBlock = some k → FrN k f.cs) ∧ Below w.heap.size w w'
/-- how far a stack is copied -/
structure Cpd (w wr : World) (L : List Fm) (g i : Nat) (done : List Fm) (cur : Array Value) : Prop where
  hb : Below w.heap.size w wr
  len : done.length = i
  le : i ≤ L.length
  cp : Cp (L.take i) done
  heap : wr.heap[g]? = some (.cells cur 65 (0, 0))
  size : cur.size = L.length * 35
  pre : cur.toList.take (i * 35) = frs done
  fr : ∀ f ∈ done, FrX wr f.cs f.X ∧ ∀ k, k ≤ g → FrN k f.cs
theorem Cpd.step {w wr w1 : World} {L done : List Fm} {g i : Nat} {cur cs' : Array Value} {f : Fm} (h : Cpd w wr L g i done cur) (hg : w.heap.size ≤ g) (hi : L[i]? = some f) (hb : Below wr.heap.size wr w1)
    (hF : FrX w1 cs' f.X) (hs : SBR f.cs cs') (hn : ∀ k, k ≤ g → FrN k cs') :
    w1.there g (i * 35) cs'.size ∧ Cpd w (w1.setCells g (i * 35) cs'.toList) L g (i + 1) (done ++ [⟨cs', f.X⟩]) (setMany cur (i * 35) cs'.toList) := by
  have hlt := (List.getElem?_eq_some_iff.1 hi).1
  have hz := hF.size
  have hh := keep_heap h.heap hb
  have hbig : i * 35 + 35 ≤ L.length * 35 := by omega
  refine ⟨fun j hj => ?_, ?_⟩
  · have h7 := cells_at hh (i * 35 + j) (cur[i * 35 + j]'(by rw [h.size]; omega)) (by simp)
    exact ⟨by rw [h7.1]; rfl, h7.2⟩
  · have hc := chg_setCells g cs'.toList (i * 35) w1
    have hfl : done.length = i := h.len
    have hlen : (frs done).length = i * 35 := by rw [← h.pre, List.length_take]; simp [h.size]; omega
    refine ⟨h.hb.trans ((hb.mono h.hb.size).trans (hc.below (Nat.le_trans h.hb.size hb.size) (fun k e => by have e : k = g := e; omega))), by simp [h.len], hlt, ?_, setCells_heap _ _ _ _ hh, by rw [setMany_size, h.size], ?_, ?_⟩
    · have e : L.take (i + 1) = L.take i ++ [f] := by rw [List.take_add_one, hi]; rfl
      rw [e]
      exact h.cp.snoc rfl hs
    · rw [setMany_list _ _ _ (by simp [hz, h.size]; omega), h.pre, frs_snoc]
      rw [List.take_left' (by simp [hlen, hz]; omega)]
    · intro x hx
      rcases List.mem_append.1 hx with hx | hx
      · obtain ⟨h1, h2⟩ := h.fr x hx
        exact ⟨(h1.keep hb).chg hc (fun k e => by have e : k = g := e; rw [e]; exact h2 g (Nat.le_refl _)), h2⟩
      · obtain rfl := List.mem_singleton.1 hx
        exact ⟨hF.chg hc (fun k e => by have e : k = g := e; rw [e]; exact hn g (Nat.le_refl _)), hn⟩
set_option maxHeartbeats 8000000 in
theorem stack_any (w : World) (v : Value) (L : List Fm) (h : St w v L) (hn : L.length ≤ 10000) (hX : ∀ f ∈ L, f.X.ok) : Calls Tryz.prog 101 #[v] w (StackP w L) := by
  obtain ⟨ao, c, rfl, hc1, hc2⟩ := h.row.slice
  obtain ⟨zs, hz, hm⟩ := made_any w L.length (by omega)
  have hb := (Below.refl w.heap.size w).alloc (Nat.le_refl _) (.cells zs 65)
  have hi0 : Cpd w (w.alloc (.cells zs 65)) L w.heap.size 0 [] zs := ⟨hb, rfl, Nat.zero_le _, ⟨by simp, fun i f f' h => by simp at h⟩, heap_new _ _, hz, by simp [frs], fun f hf => by cases hf⟩
  have H0 := Lib.hid hi0
  have HL := Lib.hid h
  have HX := Lib.hid hX
  clear h hX hi0 hb hz
  go_enter Tryz.func101, Tryz.ntmps101
  go_wp2_with fail
  generalize hW0 : w.alloc (.cells zs 65) = W0 at *
  clear hW0 hm
  go_loopw [10] (fun iv wr => ∃ i : Nat, iv = .int .i64 i ∧ i ≤ L.length ∧ Hid (∃ done cur, Cpd w wr L w.heap.size i done cur)) (fun iv _ => L.length - (intOf iv).toNat)
  case atStart => exact ⟨0, rfl, Nat.zero_le _, Lib.hid ⟨[], zs, H0.out⟩⟩
  case round =>
    obtain ⟨i, rfl, hi, HI⟩ := hrel
    by_cases hlt : i < L.length
    · obtain ⟨done, cur, HC⟩ : ∃ done cur, Hid (Cpd w wr L w.heap.size i done cur) := by
        obtain ⟨d, c, h⟩ := HI.out
        exact ⟨d, c, Lib.hid h⟩
      obtain ⟨f, hf⟩ : ∃ f, L[i]? = some f := ⟨L[i], List.getElem?_eq_getElem hlt⟩
      obtain ⟨b, off, c', he, hr, hsz, hfr⟩ := (HL.out.keep HC.out.hb).range hf
      injection he with e1 e2 e3
      subst e1 e3
      clear HI e2
      have HR := Lib.hid (And.intro hr (And.intro hsz hfr))
      have HF := Lib.hid hf
      clear hr hsz hfr hf
      go_wp2_with (with_reducible refine stop_op (o := ⟨_, .load 65 (.tmp 17), _, _, _, _⟩) ?_)
      refine Lib.hid ?_
      refine wpList_load_mid (op := ⟨_, _, _, _, _, _⟩) rfl 65 (.tmp 17) rfl b (off + i * 35) rfl f.cs.toList _ HR.out.1 Tryz.underlying65 rfl ((infoFR HR.out.2.1).trans (by simp)) ?_
      rw [show f.cs.toList.toArray = f.cs from rfl]
      have HO := Lib.hid (own_any wr f.cs f.X HR.out.2.2 (HX.out f (List.mem_of_getElem? HF.out)))
      go_wp2_with fail
      refine HO.out.mono ?_
      rintro e w1 ⟨cs', rfl, q1, q2, q3, q4⟩
      obtain ⟨hth, hst⟩ := HC.out.step (Nat.le_refl _) HF.out q3 q1 q2 (fun k hk => q4 k (Nat.lt_of_le_of_lt hk (heap_lt HC.out.heap)))
      have HT := Lib.hid (And.intro hth (And.intro q1 hst))
      clear q1 q2 q3 q4 hth hst HO HR HC HF
      go_wp2_with (with_reducible refine stop_op (o := ⟨_, .store 65 (.tmp 20) (.tmp 19), _, _, _, _⟩) ?_)
      refine Lib.hid ?_
      refine wpList_store_mid (op := ⟨none, _, _, _, _, _⟩) rfl 65 (.tmp 20) (.tmp 19) rfl w.heap.size (i * 35) cs' rfl rfl HT.out.1 (infoFR HT.out.2.1.size) HT.out.2.1.one ?_
      have HT2 := Lib.hid HT.out.2.2
      generalize w1.setCells w.heap.size (i * 35) cs'.toList = w2 at *
      clear HT
      go_wp2_with fail
      go_roundw
      case rel => exact ⟨i + 1, by go_num, by omega, Lib.hid ⟨_, _, HT2.out⟩⟩
      case measure => simp [intOf]; omega
    · obtain rfl : i = L.length := by omega
      have hlt' : ¬ ((L.length : Int) < (L.length : Int)) := by omega
      go_wp2_with fail
      go_ret
      obtain ⟨done, cur, HC⟩ := HI.out
      have hfl : ∀ f ∈ done, f.cs.size = 35 := fun f hf => (HC.fr f hf).1.size
      refine ⟨_, done, rfl, ⟨by rw [frs_len hfl, HC.len], .inr ⟨w.heap.size, _, cur, rfl, Nat.le_refl _, HC.heap, Nat.le_refl _, by unfold maxLen; omega, HC.size, HC.pre⟩⟩, ?_, fun f hf => ⟨(HC.fr f hf).1, fun k hk => ?_⟩, HC.hb⟩
      · have := HC.cp
        rwa [List.take_length] at this
      · refine (HC.fr f hf).2 k ?_
        rcases hk with hk | hk
        · omega
        · have : w.heap.size = k := by simpa [Value.ownBlock] using hk
          omega
end Go.Proofs.YtemgnljegbaobaaGreatDoor
