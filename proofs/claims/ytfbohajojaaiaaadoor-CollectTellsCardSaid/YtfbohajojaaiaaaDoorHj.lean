/- collect: Reached. Conditions: the table of letters reads as laid; what comes reads. -/
import Derived.Test.YtfbohajojaaiaaaDoorHi
import Derived.Sort.LoopGhostIn
namespace Go.Proofs.YtfbohajojaaiaaaDoor
open Go.ChangeShapes Go.WideShapes Go.ChangeAt Go.RowKit Go.Shelf
set_option linter.unusedVariables false
set_option maxRecDepth 100000
attribute [local go_sem] Oper.semAt_some
abbrev nS : Value := .slice none 0 0
theorem reached_nil (w : World) (ao : Option Addr) (n cap : Nat) : Calls Tryd.prog 11 #[.pointer none, .slice ao n cap] w fun e w' => e = .returned (.tuple #[nS, .int .i64 1]) ∧ Below w.heap.size w w' := by
  go_enter Tryd.func11, Tryd.ntmps11
  go_wp2_with fail
  go_ret2
  exact ⟨rfl, (Below.refl _ _).alloc (Nat.le_refl _) _⟩
def outL (n : Nat) (s : List Int) : List Int := (((List.range n).map Int.ofNat).filter (fun i => decide (i ∈ s)))
def ReachP (w : World) (C : List HC) (L : List Wd) (e : Ending) (w' : World) : Prop :=
  Below w.heap.size w w' ∧ (((L.any fun x => !mayW C.length x) = true ∧ e = .returned (.tuple #[nS, .int .i64 2])) ∨
    ((L.any fun x => !mayW C.length x) = false ∧ ∃ s v, (∀ x, x ∈ s ↔ Rch C L x) ∧ e = .returned (.tuple #[v, .int .i64 0]) ∧ w'.ownsRow w.heap.size 3 1 v (outL C.length s).length (intsV (outL C.length s))))
theorem own_pop {w : World} {base e : Nat} {ao : Option Addr} {n cap : Nat} {xs : List Value} {x : Value} (h : w.ownsRow base e 1 (.slice ao (n + 1) cap) (n + 1) (xs ++ [x])) : w.ownsRow base e 1 (.slice ao n cap) n xs := by
  obtain ⟨h1, ⟨h2, h3⟩ | ⟨g, cap', cur, hv, hg, hh, h3, h4, h5, h6⟩⟩ := h
  · omega
  · injection hv with e1 e2 e3
    subst e1 e3
    have hx : xs.length = n := by simpa using h1
    refine ⟨by omega, .inr ⟨g, cap, cur, rfl, hg, hh, by omega, h4, h5, ?_⟩⟩
    have a1 : (cur.toList.take (n + 1)).take n = cur.toList.take n := by rw [List.take_take, Nat.min_eq_left (by omega)]
    have a2 : (xs ++ [x]).take n = xs := by rw [← hx]; simp
    simp only [Nat.mul_one] at h6 ⊢
    rw [← a1, h6, a2]
theorem bad_path (w : World) (f base p : Nat) (v : Value) (C : List HC) (ao : Option Addr) (cap : Nat) (L : List Wd) (hH : Hp w base p v C) (hL : Cells w 0 letL) (hr : WRow w ao L) (ho : ∀ x ∈ L, WOk f w x) (hn : L.length ≤ 1099511627776) (hbad : (L.any fun x => !mayW C.length x) = true) :
    Calls Tryd.prog 11 #[.pointer (some ⟨p, 0, none⟩), .slice ao L.length cap] w (ReachP w C L) := by
  have hb := (Below.refl w.heap.size w).alloc (Nat.le_refl _) (.cells #[.pointer (some ⟨p, 0, none⟩)] 25)
  have hc := contains_any _ f base p w.heap.size v C ao cap L ⟨hH.keep hb, keep_letters hL hb, hr.keep hb, fun x hx => (ho x hx).keep hb, (cells_at (heap_new w (.cells #[.pointer (some ⟨p, 0, none⟩)] 25)) 0 _ rfl).1⟩ hn
  rw [hbad] at hc
  have HC := Lib.hid hc
  have HB := Lib.hid hb
  have HE := Lib.hid hbad
  clear hH hL hr ho hb hc hbad
  go_enter Tryd.func11, Tryd.ntmps11
  go_wp2_with fail
  refine HC.out.mono ?_
  rintro e w2 ⟨rfl, hb2⟩
  have HB2 := Lib.hid (HB.out.trans (hb2.mono HB.out.size))
  clear hb2
  go_wp2_with fail
  go_ret2
  exact ⟨HB2.out, .inl ⟨HE.out, rfl⟩⟩
theorem may_bd {n : Nat} {x : Wd} (h : mayW n x = true) (hn : n ≤ 1048576) : -9223372036854775808 ≤ x.a ∧ x.a ≤ 9223372036854775807 := by
  unfold mayW at h
  split at h
  · simp only [Bool.and_eq_true, decide_eq_true_eq] at h
    omega
  · simp only [Bool.and_eq_true, decide_eq_true_eq] at h
    omega
/-- a loop over an iterator; the frame of a round is the frame of the loop, turned by mk -/
theorem rf_frame {F : Fence} {n : Nat} {P : Program} {α : Type} {g : Operand} {ps : Array Tmp} {assign body : Code} {Q : Exit → Act → World → Prop} {T : Array Value} {w : World}
    (hro : F.round = none) (h1 : 1 ≤ n) {gf : Nat} {lb : Array Value} (hg : ({ tmps := T, defers := [] } : Act).eval g = .func (.func gf) #[] lb) (hFg : F.fn gf) (eg : ∀ args w, (callFunc gf args).run P w = .ok (.enter gf args) w)
    {encs : α → Array Value} (hps : ∀ x, (encs x).size = ps.size) (mk : Array Value → α → Array Value)
    (B : Nat) (hB : w.heap.size = B) (I : List α → World → Prop) (S : List α → Prop) (N : Nat)
    (hI : Firm B I) (hIb : ∀ pre W W', I pre W → Below W.heap.size W W' → I pre W') (h0 : I [] w)
    (hassign : ∀ (l : Nat) (pre : List α) (x : α) (W : World) (K : Act → World → Prop), I pre W → pre.length < N → (∀ a1 w1, a1 = { tmps := mk T x, defers := [] } ∧ I pre w1 → KeepsFrom B W w1 → K a1 w1) →
      assign.wpIn (F.inRound l) (n - 1 - 1) P (Exit.then K (fun _ _ _ => False)) { tmps := (ps.zip (encs x)).foldl (fun t (p, v) => t.setIfInBounds p v) T, defers := [] } W)
    (hbody : ∀ (l : Nat) (pre : List α) (x : α) (W : World), I pre W → pre.length < N → body.wpIn (F.inRound l) (n - 1 - 1) P (RfPost B I (fun _ _ _ => False) (pre ++ [x]) W) { tmps := mk T x, defers := [] } W)
    (hiter : ∀ (l : Nat) (J Jx : List α → World → Prop) (T : World → Prop), (∀ pre W, J pre W → I pre W) → (∀ pre A B', J pre A → Below A.heap.size A B' → J pre B') → (∀ pre A, J pre A → T A) →
      (∀ pre x W1, J pre W1 → pre.length < N → YieldAt F (n - 1 - 1) P l (encs x) W1 fun e W' => (e = .returned (.bool true) ∧ J (pre ++ [x]) W') ∨ (e = .returned (.bool false) ∧ Jx (pre ++ [x]) W')) →
      ∀ W, J [] W → CallsIn F (n - 1) P gf (#[.func (.yield l) #[] #[]] ++ lb) W fun e W' => (∃ v, e = .returned v) ∧ ((∃ xs, (S xs ∧ J xs W') ∧ T W') ∨ (∃ pre, True ∧ Jx pre W')))
    (hdone : ∀ (D : Nat) (xs : List α) (W : World), B ≤ D → S xs → I xs W → W.heap[D]? = some (.deferred (some [])) → Q .normal { tmps := T, defers := [{ target := .collected D, args := #[] }] } W) :
    (Code.rangeFunc g ps assign body).wpIn F n P Q { tmps := T, defers := [] } w := by
  subst hB
  refine rf_law (α := α) (encs := encs) hro h1 hg hFg eg hps I (fun _ _ _ => False) (fun xs W => S xs ∧ I xs W) (fun _ => True) N (fun pre x a W => a = { tmps := mk T x, defers := [] } ∧ I pre W) hI (fun W o h => hIb _ _ _ h ((Below.refl _ _).alloc (Nat.le_refl _) _)) (fun _ _ _ _ _ _ _ _ _ h => h) (fun s W l o o' h1 h2 h3 h4 => ⟨h4.1, hI s W l o o' h1 h2 h3 h4.2⟩)
    (fun pre x a W l o o' h1 h2 h3 h4 => ⟨h4.1, hI pre W l o o' h1 h2 h3 h4.2⟩) h0 hassign ?_ ?_ ?_ ?_
  · rintro l pre x a1 W ⟨rfl, h⟩ hl
    exact hbody l pre x W h hl
  · intro l J Jx T' h1 h2 h3 h4 W _ h0
    refine (hiter l J Jx T' h1 (fun pre A B' hj hb => h2 pre A B' hj (keeps_chg (chg_of_below hb (fun _ => False)) (fun _ h => h.elim)) (hIb _ _ _ (h1 _ _ hj) hb)) (fun pre A hj => h3 pre A A hj (keeps_chg (chg_of_below (Below.refl _ _) (fun _ => False)) (fun _ h => h.elim))) h4 W h0).mono ?_
    rintro e W' ⟨hv, (⟨xs, ⟨h1', h2'⟩, h3'⟩ | ⟨pre, hp, hx⟩)⟩
    · exact ⟨hv, .inl ⟨xs, ⟨h1', h1 _ _ h2'⟩, h3'⟩⟩
    · exact ⟨hv, .inr ⟨pre, trivial, hx⟩⟩
  · rintro D xs W hD ⟨h1, h2⟩ h3
    exact hdone D xs W hD h1 h2 h3
  · exact fun D c pre W _ _ h _ => h.elim
def outP {C : List HC} (s : List Int) (pre : List (YC C)) : List Int := (pre.map fun x => ((x.1.val : Nat) : Int)).filter (fun i => decide (i ∈ s))
/-- what stands while it goes over cells -/
structure OutI (w : World) (p : Nat) (C : List HC) (s : List Int) (m mb q : Nat) (pre : List (YC C)) (W : World) : Prop where
  ho : ∃ ov, W.heap[q]? = some (.cells #[ov] 31 (0, 0)) ∧ W.ownsRow (q + 3) 3 1 ov (outP s pre).length (intsV (outP s pre))
  hh : W.heap[q + 1]? = some (.cells #[.pointer (some ⟨p, 0, none⟩)] 25 (0, 0))
  hn : W.heap[q + 2]? = some (.cells #[.int .i64 C.length] 3 (0, 0))
  hm : W.heap[m]? = some (.cells #[.map (some mb)] 42 (0, 0))
  hmap : W.ownsMap Tryd.prog 3 (plainElem (H := Unit) Tryd.prog 4) mb s.length (setM s)
  hb : Below w.heap.size w W
theorem OutI.keep {w : World} {p : Nat} {C : List HC} {s : List Int} {m mb q : Nat} {pre : List (YC C)} {W W' : World} (h : OutI w p C s m mb q pre W) (hb : Below W.heap.size W W') : OutI w p C s m mb q pre W' := by
  obtain ⟨⟨ov, h1, h2⟩, h3, h4, h5, h6, h7⟩ := h
  exact ⟨⟨ov, keep_heap h1 hb, own_keep h2 hb⟩, keep_heap h3 hb, keep_heap h4 hb, keep_heap h5 hb, map_chg h6 (chg_of_below hb (fun _ => False)) (fun h => h), h7.trans (hb.mono h7.size)⟩
theorem OutI.firm {w : World} {p : Nat} {C : List HC} {s : List Int} {m mb q : Nat} (hm : m < q) (hmb : mb < q) (hw : w.heap.size ≤ q) : Firm (q + 3) (OutI w p C s m mb q) := by
  rintro pre W l o o' hl ho hc ⟨⟨ov, h1, h2⟩, h3, h4, h5, h6, h7⟩
  have c := chg_put W l o'
  refine ⟨⟨ov, c.heap h1 (by omega), own_chg h2 c (fun k hk e => ?_)⟩, c.heap h3 (by omega), c.heap h4 (by omega), c.heap h5 (by omega), map_chg h6 c (fun e => by have e : mb = l := e; omega), h7.trans (c.below h7.size (fun k h => by omega))⟩
  subst e
  obtain ⟨cur, hcur⟩ := own_type h2 k hk
  rw [ho] at hcur
  cases hcur
  cases hc
theorem outP_snoc {C : List HC} (s : List Int) (pre : List (YC C)) (x : YC C) : outP s (pre ++ [x]) = outP s pre ++ (if ((x.1.val : Nat) : Int) ∈ s then [((x.1.val : Nat) : Int)] else []) := by
  rw [outP, List.map_append, List.filter_append]
  by_cases h : ((x.1.val : Nat) : Int) ∈ s <;> simp [outP, h]
theorem outP_len {C : List HC} (s : List Int) (pre : List (YC C)) : (outP s pre).length ≤ pre.length := by
  rw [outP]
  exact Nat.le_trans (List.length_filter_le _ _) (by simp)
theorem outP_all {C : List HC} (s : List Int) (xs : List (YC C)) (h : xs.map (·.1.val) = List.range C.length) : outP s xs = outL C.length s := by
  rw [outP, outL, ← h, List.map_map]
  rfl
/-- what stands while there is something to do -/
def LoopR (w1 : World) (m mb t : Nat) (C : List HC) (L : List Wd) (g : Nat) (wr : World) : Prop :=
  ∃ tv s td, See wr w1.heap.size m mb t tv s td ∧ RI C L s td ∧ Below w1.heap.size w1 wr ∧ g = 2 * (C.length - s.length) + td.length
set_option maxHeartbeats 8000000 in
theorem reached_any (w : World) (f base p : Nat) (v : Value) (C : List HC) (ao : Option Addr) (cap : Nat) (L : List Wd) (hH : Hp w base p v C) (hL : Cells w 0 letL) (hr : WRow w ao L) (ho : ∀ x ∈ L, WOk f w x) (hn : L.length ≤ 1099511627776) :
    Calls Tryd.prog 11 #[.pointer (some ⟨p, 0, none⟩), .slice ao L.length cap] w (ReachP w C L) := by
  cases hbad : (L.any fun x => !mayW C.length x)
  case true => exact bad_path w f base p v C ao cap L hH hL hr ho hn hbad
  have hmay : ∀ x ∈ L, mayW C.length x = true := fun x hx => by
    rw [List.any_eq_false] at hbad
    have := hbad x hx
    simpa using this
  have hb := (Below.refl w.heap.size w).alloc (Nat.le_refl _) (.cells #[.pointer (some ⟨p, 0, none⟩)] 25)
  have hbox := heap_new w (.cells #[.pointer (some ⟨p, 0, none⟩)] 25)
  have hc := contains_any _ f base p w.heap.size v C ao cap L ⟨hH.keep hb, keep_letters hL hb, hr.keep hb, fun x hx => (ho x hx).keep hb, (cells_at hbox 0 _ rfl).1⟩ hn
  rw [hbad] at hc
  have hC := hH.2.2.2.1
  have HG := Lib.hid hH.2.2.2
  have HC := Lib.hid hc
  have HB := Lib.hid hb
  have HE := Lib.hid hbad
  have HM := Lib.hid hmay
  have HH := Lib.hid hH
  have HR := Lib.hid hr
  have HO := Lib.hid ho
  have HX := Lib.hid hbox
  have hmm := @run_makeMap Tryd.prog
  clear hH hr ho hb hc hbad hmay hbox
  refine (callsIn_wide (n := 9)).1 ?_
  refine callsIn_of_wp_marks Tryd.func11 rfl trivial ?_ rfl
  simp only [Tryd.ntmps11, List.size_toArray, List.length_cons, List.length_nil, Nat.reduceAdd, Nat.reduceSub, Array.replicate_succ, Array.replicate_zero, List.push_toArray, List.append_toArray, List.nil_append, List.cons_append]
  gi_wp2
  refine ⟨trivial, (callsIn_wide.2 HC.out).mono ?_⟩
  rintro e w1 ⟨rfl, hb1⟩
  have HB1 := Lib.hid (HB.out.trans (hb1.mono HB.out.size))
  have HX1 := Lib.hid (keep_heap HX.out hb1)
  clear hb1 HC HX
  gi_wp2
  have hS0 : See (((w1.alloc (.map #[] 0)).alloc (.cells #[.map (some w1.heap.size)] 42)).alloc (.cells #[nS] 31)) w1.heap.size (w1.heap.size + 1) w1.heap.size (w1.heap.size + 1 + 1) nS [] [] := by
    have z1 := heap_new (w1.alloc (.map #[] 0)) (.cells #[.map (some w1.heap.size)] 42)
    have z2 := heap_new ((w1.alloc (.map #[] 0)).alloc (.cells #[.map (some w1.heap.size)] 42)) (.cells #[nS] 31)
    simp only [World.size_alloc] at z1 z2
    have hm := World.ownsMap_made w1 Tryd.prog 3 (plainElem (H := Unit) Tryd.prog 4)
    exact ⟨heap_old z1 _, (hm.alloc _).alloc _, z2, World.ownsRow_nil _ _ _ _⟩
  have hB0 : Below w1.heap.size w1 (((w1.alloc (.map #[] 0)).alloc (.cells #[.map (some w1.heap.size)] 42)).alloc (.cells #[nS] 31)) := (((Below.refl _ w1).alloc (Nat.le_refl _) _).alloc (by simp) _).alloc (by simp; omega) _
  have hs0 : (((w1.alloc (.map #[] 0)).alloc (.cells #[.map (some w1.heap.size)] 42)).alloc (.cells #[nS] 31)).heap.size = w1.heap.size + 3 := by simp
  generalize (((w1.alloc (.map #[] 0)).alloc (.cells #[.map (some w1.heap.size)] 42)).alloc (.cells #[nS] 31)) = W3 at *
  have hww1 := HB1.out.size
  refine ⟨trivial, (callsIn_wide.2 (see_any W3 w1.heap.size _ _ _ nS [] [] L ao cap hS0 ((HR.out.keep HB1.out).keep hB0) (fun x hx => (HO.out x hx).1) ?_ hn (by simp) (by simp) (by omega))).mono ?_⟩
  · rintro hne ad rfl
    cases L with
    | nil => exact absurd rfl hne
    | cons x L =>
      obtain ⟨b, off, e, hbl, -⟩ := HR.out 0 x rfl
      injection e with e
      subst e
      exact ⟨by show b ≠ _; omega, by show b ≠ _; omega, (fun h => by cases h)⟩
  rintro e w2 ⟨⟨rv, rfl⟩, tv2, hS2, hc2, -⟩
  have hB2 : Below w1.heap.size w1 w2 := hB0.trans (hc2.below (by omega) (fun k h => by
    rcases h with h | h | h
    · omega
    · omega
    · cases h))
  have hLR : LoopR w1 (w1.heap.size + 1) w1.heap.size (w1.heap.size + 1 + 1) C L (2 * (C.length - (seeL [] [] L).1.length) + (seeL [] [] L).2.length) w2 := ⟨tv2, _, _, hS2, RI.start HM.out, hB2, rfl⟩
  clear hS0 hB0 hs0 hS2 hc2 hB2 hmm
  gi_wp2
  gi_loopg [] (2 * (C.length - (seeL [] [] L).1.length) + (seeL [] [] L).2.length) (fun g wr => Hid (LoopR w1 (w1.heap.size + 1) w1.heap.size (w1.heap.size + 1 + 1) C L g wr))
  case atStart => exact Lib.hid hLR
  case round =>
    clear hLR
    obtain ⟨tv, s, td, hS, hRI, hbw, hg⟩ := hrel.out
    clear hrel
    have hcl : s.length ≤ C.length := len_of_nodup hRI.nd hRI.lt
    have htl : td.length ≤ C.length := len_of_nodup hRI.td (fun x hx => hRI.lt x (hRI.sub x hx))
    obtain ⟨t0, t0f⟩ := cells_at hS.ht 0 _ rfl
    have htlt := heap_lt hS.ht
    obtain ⟨tvo, tvc, rfl⟩ := own_slice hS.hown
    have hbx := (HB1.out.trans (hbw.mono HB1.out.size))
    have x0 := (cells_at (keep_heap HX1.out hbw) 0 _ rfl).1
    have hxl := heap_lt (keep_heap HX1.out hbw)
    rcases List.eq_nil_or_concat td with rfl | ⟨td', k, rfl⟩
    · have HS := Lib.hid hS
      have HRI := Lib.hid hRI
      have HBW := Lib.hid hbx
      have HBW1 := Lib.hid hbw
      clear hS hRI hbx hbw hg
      simp only [List.length_nil] at *
      gi_wp2
      have hlen0 : (wr.alloc (.cells #[nS] 31)).heap.size = wr.heap.size + 1 := by simp
      have hba := (Below.refl wr.heap.size wr).alloc (Nat.le_refl _) (.cells #[nS] 31)
      refine ⟨trivial, (callsIn_wide.2 (cells_any _ base p v C ((HH.out.keep HBW.out).keep hba))).mono ?_⟩
      clear hba
      rintro e w2 ⟨rfl, rfl⟩
      have hmlt := heap_lt HS.out.hm
      have hmblt : w1.heap.size < wr.heap.size := by omega
      have hww := HBW.out.size
      have hI0 : OutI w p C s (w1.heap.size + 1) w1.heap.size wr.heap.size [] (((wr.alloc (.cells #[nS] 31)).alloc (.cells #[.pointer (some ⟨p, 0, none⟩)] 25)).alloc (.cells #[.int .i64 C.length] 3)) := by
        have z0 := heap_new wr (.cells #[nS] 31)
        have z1 := heap_new (wr.alloc (.cells #[nS] 31)) (.cells #[.pointer (some ⟨p, 0, none⟩)] 25)
        have z2 := heap_new ((wr.alloc (.cells #[nS] 31)).alloc (.cells #[.pointer (some ⟨p, 0, none⟩)] 25)) (.cells #[.int .i64 C.length] 3)
        simp only [World.size_alloc] at z1 z2
        have hb := HBW.out.alloc HBW.out.size (.cells #[nS] 31)
        have hb2 := hb.alloc hb.size (.cells #[.pointer (some ⟨p, 0, none⟩)] 25)
        exact ⟨⟨_, heap_old (heap_old z0 _) _, World.ownsRow_nil _ _ _ _⟩, heap_old z1 _, z2, heap_old (heap_old (heap_old HS.out.hm _) _) _, ((HS.out.hmap.alloc _).alloc _).alloc _, hb2.alloc hb2.size _⟩
      have hsz : (((wr.alloc (.cells #[nS] 31)).alloc (.cells #[.pointer (some ⟨p, 0, none⟩)] 25)).alloc (.cells #[.int .i64 C.length] 3)).heap.size = wr.heap.size + 3 := by simp
      simp only [World.size_alloc]
      have hC' : C.length ≤ 1048576 := hC
      generalize (((wr.alloc (.cells #[nS] 31)).alloc (.cells #[.pointer (some ⟨p, 0, none⟩)] 25)).alloc (.cells #[.int .i64 C.length] 3)) = W3 at *
      clear hlen0
      gi_wp2
      refine rf_frame (α := YC C) (encs := encC) rfl (by omega) (gf := 34) (lb := #[.pointer (some ⟨wr.heap.size + 2, 0, none⟩), .pointer (some ⟨wr.heap.size + 1, 0, none⟩)]) rfl trivial (enters_of Tryd.func34 (by kernel_rfl) rfl) (fun _ => rfl)
        (fun T x => ((T.setIfInBounds 52 (.int .i64 (x.1.val : Nat))).setIfInBounds 53 x.2).setIfInBounds 13 (.int .i64 (x.1.val : Nat))) (wr.heap.size + 3) hsz (OutI w p C s (w1.heap.size + 1) w1.heap.size wr.heap.size) (fun xs => xs.map (·.1.val) = List.range C.length) C.length
        (OutI.firm hmlt hmblt hww) (fun _ _ _ h hb => h.keep hb) hI0 ?assign ?body ?iter ?done
      case assign =>
        rintro l pre x W K hI hlen hK
        simp only [encC]
        gi_wp2
        exact hK _ _ ⟨rfl, hI⟩ (keeps_chg (chg_of_below (Below.refl _ _) (fun _ => False)) (fun _ h => h.elim))
      case body =>
        obtain ⟨i0, hi, hz0, hz1, hz2⟩ := info_parts infoLI
        rintro l pre x W hI hlen
        obtain ⟨xi, xv⟩ := x
        obtain ⟨xi, hxi⟩ := xi
        simp only [List.setIfInBounds_toArray, List.set_cons_zero, List.set_cons_succ]
        have hlook := look_set hI.hmap (xi : Nat) (by omega) (by omega)
        obtain ⟨m0, m0f⟩ := cells_at hI.hm 0 _ rfl
        have hml := heap_lt hI.hm
        by_cases hin : ((xi : Nat) : Int) ∈ s
        · rw [decide_eq_true hin] at hlook
          have hsn := outP_snoc s pre (⟨xi, hxi⟩, xv)
          rw [if_pos hin] at hsn
          obtain ⟨ov, o1, o2⟩ := hI.ho
          obtain ⟨o0, o0f⟩ := cells_at o1 0 _ rfl
          have hol := heap_lt o1
          have hnl := heap_lt hI.hn
          have HI := Lib.hid hI
          have HSN := Lib.hid hsn
          have HNEW := Lib.hid (one_new W (.int .i64 (xi : Nat)) 3)
          have ho2 := Lib.hid (o2.alloc (.cells #[.int .i64 (xi : Nat)] 3))
          have hpl := outP_len s pre
          have ho1 := Lib.hid o1
          clear hI hin hsn o1 o2
          gi_wp2_with (with_reducible refine stop_opIn (o := ⟨_, .call { callee := .builtin .append, args := _, argTypes := _ }, _, _, _, _⟩) ?_)
          refine Lib.hid ?_
          refine wpListIn_op (some l) rfl rfl (fun c e => by cases e) (op_append_own2 (.tmp 57) (.tmp 59) 31 rfl (wr.heap.size + 3) 3 i0 (.int .i64 0) 1 8 Tryd.underlying31 hi hz0 hz1 hz2 rfl (by decide) ov (outP s pre).length (intsV (outP s pre)) rfl ho2.out ⟨W.heap.size, 0, none⟩ 1 1 [.int .i64 (xi : Nat)] rfl rfl HNEW.out (by simp [Value.oneCell']) (by unfold maxLen; omega) (by omega) (by simp; omega) ?_)
          intro v' W5 hown hg _
          obtain ⟨ao', cc, rfl⟩ := own_slice hown
          have hc3 := chg_grown hg
          have hob := own_base ho2.out
          have hal := chg_alloc (fun _ => False) W (.cells #[.int .i64 (xi : Nat)] 3)
          have hca : Chg (fun k => wr.heap.size + 3 ≤ k) W W5 := (chg_alloc _ W (.cells #[.int .i64 (xi : Nat)] 3)).trans (hc3.mono (fun k _ hk => hob k hk.symm))
          have k1 := hca.heap ho1.out (by omega)
          obtain ⟨f1, f2⟩ := cells_at k1 0 _ rfl
          have hfl := heap_lt k1
          have hset := chg_set (w := W5) (p := ⟨wr.heap.size, 0, none⟩) (.slice ao' ((outP s pre).length + 1) cc)
          have HF : Hid (KeepsFrom (wr.heap.size + 3) W (W5.setCell ⟨wr.heap.size, 0, none⟩ (.slice ao' ((outP s pre).length + 1) cc)) ∧ OutI w p C s (w1.heap.size + 1) w1.heap.size wr.heap.size (pre ++ [(⟨xi, hxi⟩, xv)]) (W5.setCell ⟨wr.heap.size, 0, none⟩ (.slice ao' ((outP s pre).length + 1) cc))) := Lib.hid (by
            obtain ⟨-, g3, g4, g5, g6, g7⟩ := HI.out
            refine ⟨?_, ⟨⟨_, set_at (i := 0) k1 _, ?_⟩, hset.heap (hca.heap g3 (by omega)) (by simp), hset.heap (hca.heap g4 (by omega)) (by simp), hset.heap (hca.heap g5 (by omega)) (by simp; omega), map_chg (map_chg g6 hca (by omega)) hset (by simp; omega), (g7.trans (hca.below g7.size (fun k e => by omega))).setCell (p := ⟨wr.heap.size, 0, none⟩) (by simp; omega) _⟩⟩
            · have h0 : KeepsFrom (wr.heap.size + 3) W (W.alloc (.cells #[.int .i64 (xi : Nat)] 3)) := keeps_chg hal (fun _ h => h.elim)
              have h1' : KeepsFrom (wr.heap.size + 3) (W.alloc (.cells #[.int .i64 (xi : Nat)] 3)) W5 := ⟨hc3.size, fun k o _ ho hc => hc3.heap ho (fun e => by
                obtain ⟨cur, hcur⟩ := own_type ho2.out k e.symm
                rw [ho] at hcur
                cases hcur
                cases hc)⟩
              exact (h0.trans h1').trans (keeps_chg hset (fun k h => by simp at h; omega))
            · have := own_chg hown hset (fun k hk e => by have := own_base hown k hk; simp at e; omega)
              rw [HSN.out, List.length_append, intsV, List.map_append]
              exact this)
          clear hown hg hc3 hob hal hca k1 hset
          gi_wp2
          exact HF.out
        · rw [decide_eq_false hin] at hlook
          have hsn := outP_snoc s pre (⟨xi, hxi⟩, xv)
          rw [if_neg hin, List.append_nil] at hsn
          have HF : Hid (OutI w p C s (w1.heap.size + 1) w1.heap.size wr.heap.size (pre ++ [(⟨xi, hxi⟩, xv)]) W) := Lib.hid (by
            obtain ⟨⟨ov, h1, h2⟩, h3, h4, h5, h6, h7⟩ := hI
            exact ⟨⟨ov, h1, by rw [hsn]; exact h2⟩, h3, h4, h5, h6, h7⟩)
          clear hI hin hsn
          gi_wp2
          exact ⟨keeps_chg (chg_of_below (Below.refl _ _) (fun _ => False)) (fun _ h => h.elim), HF.out⟩
      case iter =>
        intro l J Jx T h1 h2 h3 h4 W h0
        exact cells1_in l base p v C (wr.heap.size + 2) (wr.heap.size + 1) J Jx T (fun pre W h => by
          have hI := h1 pre W h
          exact ⟨HH.out.keep hI.hb, (cells_at hI.hn 0 _ rfl).1, (cells_at hI.hh 0 _ rfl).1⟩) h2 h3 h4 W h0
      case done =>
        rintro D xs W hD hxs hI hK
        obtain ⟨⟨ov, h1, h2⟩, h3, h4, h5, h6, h7⟩ := hI
        obtain ⟨c1, c1f⟩ := cells_at h1 0 _ rfl
        obtain ⟨ao', cc, rfl⟩ := own_slice h2
        have H2 := Lib.hid h2
        have H7 := Lib.hid h7
        have hn6 := heap_lt h4
        clear h1 h2 h3 h4 h5 h6 h7
        gi_wp2
        refine ⟨by simp, .inl ⟨_, _, rfl, run_takeDeferred hK, ?_⟩⟩
        refine ⟨_, results_tmp2 rfl _ _ _, ?_⟩
        have hc := chg_put W D (.deferred none)
        refine ⟨H7.out.trans (hc.below H7.out.size (fun k e => by omega)), .inr ⟨HE.out, s, _, HRI.out.done, rfl, ?_⟩⟩
        rw [← outP_all s xs hxs]
        refine own_lower (own_chg H2.out hc (fun k hk e => ?_)) (by omega)
        obtain ⟨cur, hcur⟩ := own_type H2.out k hk
        subst e
        rw [hK] at hcur
        cases hcur
    · rw [List.concat_eq_append] at hS hRI hg t0
      obtain ⟨g, cap', e, hg1, hgs, hgc, hgm, hcell⟩ := own_facts hS.hown (by simp)
      have hlc : (td' ++ [k]).length = td'.length + 1 := by simp
      rw [hlc] at hS e
      rw [List.concat_eq_append, hlc] at htl
      injection e with e1 e2 e3
      subst e1 e3
      have t1 : wr.cell? ⟨w1.heap.size + 1 + 1, 0, none⟩ = some (.slice (some ⟨g, 0, none⟩) (td'.length + 1) tvc) := by rw [← hlc]; exact t0
      clear t0
      have hk : wr.cell? ⟨g, td'.length, none⟩ = some (.int .i64 k) := hcell _ _ (by simp [intsV])
      obtain ⟨hk1, hk2⟩ := hRI.lt k (hRI.sub k (by simp))
      have hkl : k.toNat < C.length := by omega
      obtain ⟨c, hkc⟩ : ∃ c, C[k.toNat]? = some c := ⟨C[k.toNat], List.getElem?_eq_getElem hkl⟩
      have hset := chg_set (w := wr) (p := ⟨w1.heap.size + 1 + 1, 0, none⟩) (.slice (some ⟨g, 0, none⟩) td'.length tvc)
      have hS1 : See (wr.setCell ⟨w1.heap.size + 1 + 1, 0, none⟩ (.slice (some ⟨g, 0, none⟩) td'.length tvc)) w1.heap.size (w1.heap.size + 1) w1.heap.size (w1.heap.size + 1 + 1) (.slice (some ⟨g, 0, none⟩) td'.length tvc) s td' := by
        obtain ⟨n1, n2, n3, n4⟩ := hS.ne
        refine ⟨hset.heap hS.hm (by simp), map_chg hS.hmap hset (fun e => by have e : w1.heap.size = w1.heap.size + 1 + 1 := e; omega), set_at (i := 0) hS.ht _, ?_⟩
        have ho := hS.hown
        rw [intsV, List.map_append] at ho
        simp only [List.length_append, List.length_singleton, List.map_cons, List.map_nil] at ho
        exact own_chg (own_pop ho) hset (fun j hj hs => (n4 j hj).2.1 hs)
      have hB1' : Below w1.heap.size w1 (wr.setCell ⟨w1.heap.size + 1 + 1, 0, none⟩ (.slice (some ⟨g, 0, none⟩) td'.length tvc)) := hbw.setCell (p := ⟨w1.heap.size + 1 + 1, 0, none⟩) (by simp; omega) _
      have hx1 := hset.heap (keep_heap HX1.out hbw) (by simp; omega)
      have x1 := (cells_at hx1 0 _ rfl).1
      have HS1 := Lib.hid hS1
      have HBB := Lib.hid hB1'
      have HCL := Lib.hid (cell_any (wr.setCell ⟨w1.heap.size + 1 + 1, 0, none⟩ (.slice (some ⟨g, 0, none⟩) td'.length tvc)) base p v C k (HH.out.keep (HB1.out.trans (hB1'.mono HB1.out.size))))
      have HRI := Lib.hid hRI
      have HKC := Lib.hid hkc
      have HG' := Lib.hid hg
      have hgl : g < wr.heap.size := hgs
      clear hS hRI hbw hbx hg hset hS1 hB1' hx1 hkc hcell hgs
      gi_wp2
      refine ⟨trivial, (callsIn_wide.2 HCL.out).mono ?_⟩
      rintro e w3 ⟨hb3, (⟨i', c', lo, lc, hii, hc', rfl, hown⟩ | ⟨hbad, -⟩)⟩
      · have hki : k.toNat = i' := by omega
        rw [← hki, HKC.out] at hc'
        obtain rfl := Option.some.inj hc'
        have hlw : w1.heap.size + 1 + 1 < wr.heap.size := htlt
        have hsz3 := hb3.size
        simp only [World.size_setCell] at hsz3
        have hb4 := (Below.refl w3.heap.size w3).alloc (Nat.le_refl _) (.cells #[.int .i8 c.k, .int .i64 c.sz, .slice lo c.l.length lc] 65)
        have HS4 := Lib.hid ((HS1.out.keep hb3).keep hb4)
        have HB4 := Lib.hid ((HBB.out.trans (hb3.mono HBB.out.size)).trans (hb4.mono (HBB.out.trans (hb3.mono HBB.out.size)).size))
        obtain ⟨ao', cap', e', -, -, hrw, -⟩ := own_wrow hown
        injection e' with e1 e2 e3
        subst e1 e3
        have hob := own_base hown
        have HRW := Lib.hid (hrw.keep hb4)
        have HOB := Lib.hid hob
        have hcg := HG.out.2 k.toNat c HKC.out
        have HCG := Lib.hid hcg
        have hll : c.l.length ≤ 255 := hcg.2.2.2.1
        have x2 := keep_cell (keep_cell x1 hb3) hb4
        have hnx := cells_at (heap_new w3 (.cells #[.int .i8 c.k, .int .i64 c.sz, .slice lo c.l.length lc] 65)) 2 _ rfl
        have hnx2 := hnx.1
        have hsz4 : (w3.alloc (.cells #[.int .i8 c.k, .int .i64 c.sz, .slice lo c.l.length lc] 65)).heap.size = w3.heap.size + 1 := by simp
        clear hii hc' hown hb4 hrw hob hcg hnx hki
        gi_wp2_with (with_reducible refine stop_opIn (o := ⟨_, .store 65 (.tmp 10) (.tmp 44), _, _, _, _⟩) ?_)
        refine Lib.hid ?_
        refine wpListIn_store_new (o := ⟨none, _, _, _, _, _⟩) none rfl rfl 65 (.tmp 10) (.tmp 44) rfl #[.int .i8 c.k, .int .i64 c.sz, .slice lo c.l.length lc] rfl rfl (infoCL _ rfl) rfl (by simp [Value.oneCell']) ?_
        generalize (w3.alloc (.cells #[.int .i8 c.k, .int .i64 c.sz, .slice lo c.l.length lc] 65)) = w4 at *
        gi_wp2
        refine ⟨trivial, (callsIn_wide.2 (see_any w4 w1.heap.size _ _ _ _ _ _ c.l lo lc HS4.out HRW.out (fun x hx => may_bd (HCG.out.2.2.2.2 x hx) (by omega)) ?_ (by omega) (by omega) (by omega) (by omega))).mono ?_⟩
        · rintro - ad rfl
          have := HOB.out ad.block rfl
          simp only [World.size_setCell] at this
          refine ⟨by omega, by omega, fun h => ?_⟩
          have h : some g = some ad.block := h
          injection h with h
          omega
        rintro e w5 ⟨⟨rv, rfl⟩, tv5, hS5, hc5, -⟩
        obtain ⟨hR5, hm5⟩ := RI.next HG.out HRI.out HKC.out
        have hB5 : Below w1.heap.size w1 w5 := HB4.out.trans (hc5.below (by have := HB4.out.size; omega) (fun k h => by
          rcases h with h | h | h
          · omega
          · omega
          · have h : some g = some k := h
            injection h with h
            omega))
        have HL5 := Lib.hid (show LoopR w1 (w1.heap.size + 1) w1.heap.size (w1.heap.size + 1 + 1) C L _ w5 from ⟨tv5, _, _, hS5, hR5, hB5, rfl⟩)
        have HM5 := Lib.hid hm5
        clear hS5 hc5 hR5 hB5 hm5
        gi_wp2
        gi_roundg (2 * (C.length - (seeL s td' c.l).1.length) + (seeL s td' c.l).2.length)
        case rel => exact HL5
        case measure => rw [HG'.out]; exact HM5.out
      · exact absurd ⟨hk1, hk2⟩ hbad
end Go.Proofs.YtfbohajojaaiaaaDoor
